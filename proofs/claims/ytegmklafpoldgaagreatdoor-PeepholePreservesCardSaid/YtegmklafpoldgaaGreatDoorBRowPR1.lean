import Derived.Lib.Builder
import Derived.Lib.AppendStr
import Derived.RangeFuncFrom
import Derived.RangeFuncLeaves
import Derived.TacticsIn
import Derived.Recover
import Derived.Laws.StructEq
import Derived.ChangeKeysEq
import Derived.Lib.ParseIntB
import Derived.Lib.ItoaNum
import Derived.Lib.Join
import Derived.Lib.Replace
import Derived.Lib.Split
import Derived.Lib.Strings
import Derived.Lib.SlTrimSet
import Derived.Test.YtegmklafpoldgaaGreatDoorBRowPR0
set_option linter.unusedVariables false
set_option linter.unusedSimpArgs false
set_option maxRecDepth 100000
set_option maxHeartbeats 4000000
open List (map_nil map_toArray nil_append take_left' length_take length_drop nil_sublist mem_cons_self all_cons foldl_cons map_map takeWhile_cons_of_pos takeWhile_cons_of_neg takeWhile_prefix mem_of_find?_eq_some cons_append length_singleton eq_nil_of_length_eq_zero nodup_nil not_mem_nil nodup_cons mem_append take_append_drop take_succ_cons take_zero getLast_mem all_reverse)
open Nat (zero_add lt_or_ge add_mul zero_le add_zero mod_lt le_add_right add_assoc)
open Option (getD_some)
namespace Go.GL
open Go.RowKit
section
variable{C:Ctx}{e:Env}{H:Heap}{x y:Operand}{dst:Option Nat}{ty:TypeId}{pos:String}{aft:Array Edge}{g:Option (Nat×Bool)}{K:LV->Heap->Prop}{X:List PanicEntry->Heap->Prop}
def byts(l:List UInt8):List LV:=l.map λb=>int .u8 b.toNat
theorem qhi(l:List UInt8):(byts l).length=l.length:=zLm _
theorem qmd(l m:List UInt8):byts (l++m)=byts l++byts m:=zMa
theorem qmq(l:List UInt8):∀ v∈byts l,v.cells.length=1:=by
 intro v hv;obtain⟨b,_,rfl⟩:=List.mem_map.1 hv;rfl
theorem qnu(l:List UInt8):(byts l).flatMap LV.cells=byts l:=by
 induction l with
 |nil=>rfl
 |cons b l ih=>
  have h:byts (b::l)=int .u8 b.toNat::byts l:=rfl;rw[h,List.flatMap_cons,ih]
  try rfl
def bytV(l:List UInt8):List Value:=l.map λb=>.int .u8 b.toNat
theorem qmH(l:List UInt8):∀ v∈bytV l,(∀ cs,v≠Value.agg cs)/\(∀ cs,v≠Value.tuple cs):=by
 intro v hv;obtain⟨b,_,rfl⟩:=List.mem_map.1 hv;exact And.intro (λ_ h=>by cases h) (λ_ h=>by cases h)
theorem qjS{P:Program}(l:List UInt8)(w':World):(Builtin.firstCells 1 l.length (.string ⟨l.toArray⟩)).run P w'=.ok (bytV l).toArray w':=by
 have:=Go.Lib.run_firstCells_string (P:=P) w' 1 ⟨l.toArray⟩;rw[qhL] at this;rw[this]
 try rfl
theorem qcq{w:World}{L:Live}:∀ {zs xs:List Value},RepL w L (zs.map .atom) xs->xs=zs
 |[],_,h=>by simpa only[map_nil,RepL] using h
 |z::zs,xs,h=>by
  simp only[zMc,RepL] at h;obtain⟨y,ys,rfl,h1,h2⟩:=h;simp only[Rep] at h1;rw[h1,qcq h2]
inductive BRow (el:TypeId):Value->List UInt8->Heap->Prop
 |nil:BRow el (.slice none 0 0) [] []
 |row {b:Nat} {l:List UInt8} {xs:List Value} (h0:l≠[]) (h1:l.length<=xs.length) (h2:xs.take l.length=bytV l):BRow el (.slice (some ⟨b,0,none⟩) l.length xs.length) l [(b,.cells el (xs.map .atom))]
theorem qbJ(l:List UInt8):(bytV l).length=l.length:=zLm _
theorem qiY(l m:List UInt8):bytV (l++m)=bytV l++bytV m:=zMa
theorem qgU{w:World}{L:Live}(hH:RelH C w L []){el:TypeId}{l:List UInt8}{xs:List Value}(h0:l≠[])(h1:l.length<=xs.length)(h2:xs.take l.length=bytV l)(hk:∀ v' H',BRow el v' l H'->K (.atom v') H') :
  Left C w L [] (World.push w (.cells xs.toArray el)) (.slice (some ⟨w.heap.size,0,none⟩) l.length xs.length) K:=by
 have hx:=qeo hH.wf (.cells xs.toArray el) 0
 have:=qey hH (.cells xs.toArray el) 0 [(w.heap.size,.cells el (xs.map .atom))] (λp hp=>by
  simp only[List.mem_singleton] at hp;subst hp
  exact⟨rfl,by simp[Live.upd],xs,qaE,qa0 xs⟩) (by simp)
 exact⟨.atom _,_,_,this.1,this.2,qai,hk _ _ (BRow.row h0 h1 h2)⟩
theorem qad.appB{sT xT el bytes:Nat} [ht:TSlice C.P sT el 1] [hr:TRow C.P el 1 bytes] [hx2:TStr C.P xT]{v:Value}{l m:List UInt8}
  (hx:e.ev x=.atom v) (ha:BRow el v l H) (hy:e.ev y=str m) (hroom:(l.length+m.length) * bytes<=140737488355328)
  (hk:∀ v' H',BRow el v' (l++m) H'->K (.atom v') H'):qad C ⟨dst,.call { callee:=.builtin .append,args:=#[x,y],argTypes:=#[sT,xT] },ty,pos,aft,g⟩ e H K X:=by
 have h0:∀ (cs:Array Bool) (args:Array Value),builtin .append #[sT,xT] ty cs args=(do Pure.pure (.value (<-Builtin.append_ #[sT,xT] ty args))):=λ_ _=>rfl;have hlen:∀ w':World,(Builtin.lenOf (.string ⟨m.toArray⟩)).run C.P w'=.ok m.length w':=λw'=>by simp[Builtin.lenOf,qhL]
 cases ha with
 |nil=>
  by_cases hne:m=[]
  subst hne;intro ρ w L h hH
  have hr:(Builtin.append_ #[sT,xT] ty #[.slice none 0 0,.string ⟨#[]⟩]).run C.P w=.ok (.slice none 0 0) w:=by
   obtain⟨i,hi,his⟩:=ht.size;simp[Builtin.append_,qaa ht.und,qaa hx2.und,sizeOf,typeInfo,hi,Builtin.lenOf,Builtin.firstCells,show(ByteArray.mk #[]).size=0 from rfl,show((ByteArray.mk #[]).extract 0 0).data=#[] from rfl]
  rw[qax,h0];simp only[map_toArray,zMc,map_nil,Sem.run_bind,qah h hx,qah h hy,hr,Result.andThen_ok,Sem.run_pure];exact⟨_,[],L,Fr.refl _ _ _,hH,qai,hk _ _ BRow.nil⟩;intro ρ w L h hH;have hpos:0<m.length:=List.length_pos_iff.2 hne
  obtain⟨cap',rest,r1,r2,r3⟩:=qbA (ty:=ty) (P:=C.P) (w:=w) (sT:=sT) (xT:=xT) (a:=none) (len:=0) (cap:=0) (n:=m.length) (xv:=.string ⟨m.toArray⟩) (old:=[]) (new:=bytV m) (.inl hx2.und) hlen (λw' _=>qjS m w')
   (λw' _=>by simp[Builtin.firstCells]) (by simpa using hroom) zo
  rw[qax,h0];simp only[map_toArray,zMc,map_nil,Sem.run_bind,qah h hx,qah h hy,r3,Result.andThen_ok,Sem.run_pure,nil_append,zero_add];have hcl:(bytV m++rest).length=cap':=by rw[zLa,r2,qbJ];omega
  obtain⟨lv,H',L',g1,g2,g3,g4⟩:=qgU (K:=K) (el:=el) (l:=m) (xs:=bytV m++rest) hH.drew hne (by rw[hcl];omega) (by rw[take_left' (qbJ m)]) (λv' H' h'=>hk v' H' h');rw[hcl] at g3
  exact⟨lv,H',L',g1.of_drew,g2,g3,g4⟩
 |row hne h1 h2=>
  rename_i b xs
  intro ρ w L h hH;obtain⟨hb0,hbs,hl,zs,hz1,hz2⟩:=hH.objs _ (List.mem_singleton.2 rfl);have hz:=qcq hz2;subst hz;simp only at hb0 hbs hl hz1;rw[qax,h0];simp only[map_toArray,zMc,map_nil,Sem.run_bind,qah h hx,qah h hy]
  by_cases hc:l.length+m.length<=zs.length
  have hrun:=qdC (ty:=ty) (P:=C.P) (w:=w) (sT:=sT) (xT:=xT) (s:=1) (a:=some ⟨b,0,none⟩) (len:=l.length) (cap:=zs.length) (n:=m.length) (xv:=.string ⟨m.toArray⟩) (new:=bytV m) (.inl hx2.und) hlen (λw' _=>qjS m w') hc;obtain⟨w',r1,r2,r3,r4,r5,r6,r7⟩:=qcg (P:=C.P) (b:=b) (off:=0+l.length * 1) (t:=el) (fr:=(0,0)) (bytV m) 0 w zs hz1 (by rw[qbJ];omega) (λj _ _=>by simp) (qmH m);rw[hrun];simp only[add_mk,r1,Result.andThen_ok,Sem.run_pure]
  have hx':(zs.take (0+l.length * 1+0)++bytV m++zs.drop (0+l.length * 1+0+(bytV m).length)).length=zs.length:=by
   simp only[zLa,length_take,length_drop,qbJ];omega
  have hfin:=qeP (v:=.slice (some ⟨b,0,none⟩) (l.length+m.length) zs.length) (lv:=.atom (.slice (some ⟨b,0,none⟩) (l.length+m.length) zs.length)) (K:=K) (cs':=(zs.take (0+l.length * 1+0)++bytV m++zs.drop (0+l.length * 1+0+(bytV m).length)).map .atom) hH r2 r3 r4 r5 r6 r7 (by rw[hx',zLm]) (qa0 _) qai (by
   have hb:BRow el (.slice (some ⟨b,0,none⟩) (l++m).length (zs.take (0+l.length * 1+0)++bytV m++zs.drop (0+l.length * 1+0+(bytV m).length)).length) (l++m) _:=BRow.row (b:=b) (el:=el) (by simp[hne]) (by rw[hx',zLa];exact hc) (by
    have he:0+l.length * 1+0=l.length:=by omega
    rw[he,h2,<-qiY,take_left' (qbJ _)])
   rw[hx',zLa] at hb
   exact hk _ _ hb)
  exact hfin
  have hold:∀ w':World,w'.heap=w.heap->(Builtin.firstCells 1 l.length (.slice (some ⟨b,0,none⟩) l.length zs.length)).run C.P w'=.ok (bytV l).toArray w':=λw' hw=>by
   have:=qbD (P:=C.P) (w:=w') (b:=b) (off:=0) l.length 0 #[] (bytV l) (qbJ l) (λj x' hj=>by
    have hj':zs[j]? = some x':=by
     rw[<-h2,List.getElem?_take] at hj;split at hj;exact hj;cases hj
    simp[World.cell?,hw,hz1,hj'])
   simp only[Builtin.firstCells,loadCells,Nat.mul_one,this]
   simp
  obtain⟨cap',rest,r1,r2,r3⟩:=qbA (ty:=ty) (P:=C.P) (w:=w) (sT:=sT) (xT:=xT) (a:=some ⟨b,0,none⟩) (len:=l.length) (cap:=zs.length) (n:=m.length) (xv:=.string ⟨m.toArray⟩) (old:=bytV l) (new:=bytV m) (.inl hx2.und) hlen (λw' _=>qjS m w') hold hroom zo;rw[r3];simp only[Result.andThen_ok,Sem.run_pure];have hcl:(bytV l++bytV m++rest).length=cap':=by rw[zLa,zLa,r2,qbJ,qbJ];omega
  have hH0:RelH C w L []:=hH.sub (nil_sublist _);obtain⟨lv,H',L',g1,g2,g3,g4⟩:=qgU (K:=K) (el:=el) (l:=l++m) (xs:=bytV l++bytV m++rest) hH0.drew (by simp[hne]) (by rw[hcl,zLa];omega) (by rw[<-qiY,take_left' (qbJ _)]) (λv' H' h'=>hk v' H' h');rw[hcl,zLa] at g3;exact⟨lv,H',L',g1.of_drew.wide (by simp),g2,g3,g4⟩
theorem S.appB1{sT xT el bytes:Nat} [ht:TSlice C.P sT el 1] [hr:TRow C.P el 1 bytes] [hx2:TStr C.P xT]{v:Value}{l m:List UInt8}{H1:Heap}{q:Nat×LObj}
  (hx:e.ev x=.atom v) (ha:BRow el v l H1) (hy:e.ev y=str m) (hroom:(l.length+m.length) * bytes<=140737488355328)
  (hk:∀ v' H',BRow el v' (l++m) H'->K (.atom v') (q::H')):qad C ⟨dst,.call { callee:=.builtin .append,args:=#[x,y],argTypes:=#[sT,xT] },ty,pos,aft,g⟩ e (q::H1) K X:=by
 refine qad.conseq (K:=λlv H'=>∃ v' H2,lv=.atom v'/\H'=H2++[q]/\BRow el v' (l++m) H2) (qad.frame (List.perm_append_singleton _ _).symm (qad.appB hx ha hy hroom λv' H' h=>⟨v',H',rfl,rfl,h⟩)) ?_;rintro lv H' ⟨v',H2,rfl,rfl,h⟩;exact⟨_,[q]++H2,vR _,⟨[],by simp⟩,hk _ _ h⟩
end
def qmh:Op->Bool
 |.defer _=>false
 |_=>true
theorem qlj{l n:Nat}{P:Program}{f:FuncId}{args:Array Value}{w:World}{R:Ending->World->Prop}(h:Calls P f args w R):CallsIn (Fence.wide.inRound l) n P f args w R:=(callsIn_wide (n:=n)).2 h
theorem qmK{l n:Nat}{P:Program}{row:String}{args:Array Value}{w:World}{R:Value->World->Prop}(h:Rows P row args w R):RowsIn (Fence.wide.inRound l) n P row args w R:=λc cs _=>
 let ⟨v,w',r,s⟩:=h c cs
 ⟨v,w',r,stepsIn_wide.2 s⟩
theorem qmo{l n:Nat}{P:Program}{o:Oper}{a:Act}{w:World}{next next':Act->World->Prop}{Q:Exit->Act->World->Prop}(ho:qmh o.op=true)
  (hn:∀ a w,next a w->next' a w) (h:o.wp P a w next Q):o.wpIn (Fence.wide.inRound l) n P a w next' Q:=by
 refine⟨λ_ _=>trivial,?_⟩;have hs:o.semAt (Fence.wide.inRound l).round a.eval=execOp a.eval o:=Oper.semAt_eq _ _ _ λc hc=>by rw[hc] at ho;cases ho
 rw[hs];unfold Oper.wp at h;revert h;generalize (execOp a.eval o).run P w=r;intro h
 cases r with
 |ok x w'=>
  cases x with
  |value v=>exact hn _ _ h
  |skip=>exact hn _ _ h
  |defer d=>exact hn _ _ h
  |enter f args=>
   refine⟨λhd=>(by cases hd),qlj (Calls.mono h ?_)⟩;intro e w'' he
   cases e with
   |returned v=>exact hn _ _ he
   |panicked ch=>exact he
   |outgrown=>exact he
  |row row args=>
   refine⟨λhd=>(by cases hd),qmK (Rows.mono h ?_)⟩;intro v w'' he
   exact hn _ _ he
  |_=>exact h.elim
 |halt x w'=>
  cases x <;> first|exact h|exact h.elim
theorem qfN{l n:Nat}{P:Program}{ops:Array Oper}{Q:Exit->Act->World->Prop}(hQ:¬ LetsOut Q):∀ (rest:List Oper) (a:Act) (w:World),(∀ o∈rest,qmh o.op=true)->wpList P ops Q rest a w->wpListIn (Fence.wide.inRound l) n P ops Q rest a w
 |[],_,_,_,h=>h
 |o::rest,a,w,ho,h=>by
  unfold wpList at h;unfold wpListIn;split at h
  rename_i hw
  rw[if_pos hw];rcases h with h|⟨_,h⟩;exact qmo (ho o mem_cons_self) (λa w h=>qfN hQ rest a w (λo h=>ho o (zMo _ h)) h) h;exact absurd h hQ
  rename_i hw
  rw[if_neg hw];exact⟨λ_ _=>trivial,qfN hQ rest _ _ (λo h=>ho o (zMo _ h)) h⟩
theorem qkr{l n id:Nat}{P:Program}{ops:List Oper}{Q:Exit->Act->World->Prop}{a:Act}{w:World}(hQ:¬ LetsOut Q)(ho:ops.all (λo=>qmh o.op)=true)(h:wpList P ops.toArray Q ops a w) :
  (Code.region id ops.toArray false).wpIn (Fence.wide.inRound l) n P Q a w:=wpIn_region_lit (qfN hQ ops a w (by simpa using ho) h)
end Go.GL
namespace Go.GL
open Go.RowKit
theorem qiP{C:Ctx}{w:World}{L:Live}{b:Nat}{o o':Obj}{F:Heap}(hH:RelH C w L ((b,.obj o)::F))(ho':qfA o'=true) :
  Fr (keys ((b,LObj.obj o)::F)) w L (w.putObj b o') L ((b,.obj o')::F)/\RelH C (w.putObj b o') L ((b,.obj o')::F):=by
 have h1:RelH C w L ([(b,.obj o)]++F):=hH;have hlt:b<w.heap.size:=(hH.objs _ mem_cons_self).2.1
 have h2:Left C w L [(b,.obj o)] (w.putObj b o') undef (λ_ H'=>H'=[(b,.obj o')]):=
  qhu (w':=w.putObj b o') h1.left ho' rfl rfl rfl (by simp[World.putObj]) (λc hc=>World.putObj_heap_other hc) (World.putObj_heap_same hlt) (v:=undef) (lv:=.atom undef) (λ_=>qai) rfl
 obtain⟨lv,H',L',g1,g2,g3,rfl⟩:=h2
 have hL:L'=L:=by
  funext c;obtain⟨_,_,hl,_⟩:=h1.left.objs _ mem_cons_self;obtain⟨_,_,hl',_⟩:=g2.objs _ mem_cons_self
  by_cases he:c=b
  subst he;rw[hl,hl'];rcases lt_or_ge c w.heap.size with hc|hc;exact g1.lsame c hc (by simpa using he);rw[h1.wf c hc,g2.wf c (by simpa [World.putObj] using hc)]
 subst hL;have:=h1.frame g1 g2;exact⟨this.2,this.1⟩
theorem qnl{C:Ctx}{w:World}{L:Live}{o:Obj}{F:Heap}(hH:RelH C w L F)(ho:qfA o=true) :
  ∃ L',Fr (keys F) w L (w.alloc o) L' ((w.heap.size,.obj o)::F)/\RelH C (w.alloc o) L' ((w.heap.size,.obj o)::F):=by
 have h1:RelH C w L ([]++F):=hH
 have:=qey h1.left o 0 [(w.heap.size,.obj o)] (λp hp=>by
  simp only[List.mem_singleton] at hp;subst hp
  exact⟨rfl,by simp[Live.upd],qaE,qdV qaE ho⟩) (by simp)
 have:=h1.frame this.1 this.2;exact⟨_,this.2,this.1⟩
def qdm(C:Ctx)(l n:Nat)(c:Code)(Q:Post)(e:Env)(H:Heap):Prop:=
 ∀ a w L,RelE n a e w L->RelH C w L H->∀ m,c.wpIn (Fence.wide.inRound l) m C.P (lift C n w L (keys H) Q) a w
def QOn(k:Env->Heap->Prop):Post
 |.normal,e,H=>k e H
 |_,_,_=>False
section round
variable{C:Ctx}{l n:Nat}{e:Env}{H:Heap}{k:Env->Heap->Prop}
theorem qdm.region{id:Nat}{ops:List Oper}(ho:ops.all (λo=>qmh o.op)=true)(h:LOps C n ops.toArray (qaw k (QOn k)) ops e H):qdm C l n (.region id ops.toArray false) (QOn k) e H:=λa w L hE hH m=>by
 refine qkr ?_ ho (qbF ?_ _ _ _ (h a w L hE hH));rintro⟨a',w',e',H',L',_,_,_,hq⟩;exact hq;rintro ex a' w' hq;refine qjz ?_ hq;intro x e H h;cases x <;> exact h
theorem qdm.seq{x y:Code}(h:qdm C l n x (QOn λe H=>qdm C l n y (QOn k) e H) e H):qdm C l n (.seq x y) (QOn k) e H:=λa w L hE hH m=>by
 refine wpIn_seq (wpIn_mono (h a w L hE hH m) λex a' w' hq=>?_);obtain⟨e',H',L',h1,h2,h3,h4⟩:=hq
 cases ex with
 |normal=>exact wpIn_mono (h4 a' w' L' h3 h2 m) λ_ _ _=>qdR h1
 |exit id=>exact h4.elim
 |goto id=>exact h4.elim
 |ret=>exact h4.elim
 |panic ch=>exact h4.elim
 |outgrown=>exact h4.elim
theorem qdm.block{id:Nat}{c:Code}(h:qdm C l n c (QOn k) e H):qdm C l n (.block id c) (QOn k) e H:=λa w L hE hH m=>by
 refine wpIn_block (wpIn_mono (h a w L hE hH m) λex a' w' hq=>?_);obtain⟨e',H',L',h1,h2,h3,h4⟩:=hq
 cases ex with
 |normal=>exact⟨e',H',L',h1,h2,h3,h4⟩
 |exit id=>exact h4.elim
 |goto id=>exact h4.elim
 |ret=>exact h4.elim
 |panic ch=>exact h4.elim
 |outgrown=>exact h4.elim
end round
theorem qip{F:Fence}{m:Nat}{P:Program}{l:Nat}{args:Array Value}{W:World}{R R':Ending->World->Prop}(h:YieldAt F m P l args W R)(hr:∀ e w,R e w->R' e w):YieldAt F m P l args W R':=by
 obtain⟨fn,tmps,assign,body,hy,hR⟩:=h;exact⟨fn,tmps,assign,body,hy,hR.mono hr⟩
def qfy(C:Ctx)(l:Nat)(args:List LV)(H:Heap)(K:Heap->Prop):Prop:=
 ∀ (vs:List Value) w L,RepL w L args vs->RelH C w L H->∀ m,YieldAt Fence.wide m C.P l vs.toArray w λe w'=>e=.returned (.bool true)/\qfg C w L H w' K
theorem qfy.frame{C:Ctx}{l:Nat}{args:List LV}{G H F:Heap}{K:Heap->Prop}(p:G.Perm (H++F))(h:qfy C l args H λH'=>K (H'++F)):qfy C l args G K:=λvs w L h1 h2 m=>by
 have h3:=h2.perm p;refine qip (h vs w L h1 h3.left m) ?_;rintro e w' ⟨he,hx⟩;obtain⟨H',L',g1,g2,g3⟩:=qfg.frame h3 hx;exact⟨he,H',L',g1.perm p.symm,g2,g3⟩
theorem qfy.mono{C:Ctx}{l:Nat}{args:List LV}{H:Heap}{K K':Heap->Prop}(h:qfy C l args H K)(hk:∀ H,K H->K' H):qfy C l args H K':=λvs w L h1 h2 m=>qip (h vs w L h1 h2 m) λ_ _ hx=>⟨hx.1,hx.2.mono hk⟩
def qwO(C:Ctx)(gf:FuncId)(caps:List LV)(Hc:Heap)(N:Nat)(xs:Nat->List LV):Prop:=
 ∀ (l:Nat) (J:Nat->Heap->Prop),(∀ k H,k<N->J k H->qfy C l (xs k) H (J (k+1)))->∀ H0,J 0 H0 ->
  LCalls C gf (.atom (.func (.yield l) #[] #[])::caps) (H0++Hc) (λr H'=>(∃ v,r=.ret v)/\∃ H1,H'=H1++Hc/\J N H1)
def Env.round(j:Env):List (Nat×LV)->Env
 |[]=>j
 |(d,v)::r=>Env.round (j.upd d v) r
theorem RelE.rounds{n:Nat}{w:World}{L:Live}:∀ (ps:List Nat) (lvs:List LV) (vs:List Value) (tmps:Array Value) (j:Env),RelE n { tmps,defers:=[] } j w L->RepL w L lvs vs->ps.length=lvs.length->ps.all (λp=>Nat.blt p n)=true ->
  RelE n { tmps:=(ps.zip vs).foldl (λt p=>t.setIfInBounds p.1 p.2) tmps,defers:=[] } (Env.round j (ps.zip lvs)) w L
 |[],lvs,vs,tmps,j,h,_,_,_=>by simpa [Env.round] using h
 |p::ps,[],vs,tmps,j,h,_,hl,_=>by simp at hl
 |p::ps,lv::lvs,vs,tmps,j,h,hr,hl,hp=>by
  simp only[RepL] at hr;obtain⟨y,ys,rfl,hy,hr⟩:=hr;simp only[all_cons,zBa] at hp;have:=RelE.put (dst:=some p) h (by simp only[qc4,dstB];exact hp.1) hy;simp only[List.zip_cons_cons,foldl_cons,Env.round];exact RelE.rounds ps lvs ys _ _ this hr (by simpa using hl) hp.2
def Act.flat(a:Act):Env:=⟨λi=>.atom (a.tmps.getD i undef),[]⟩
theorem Act.flat_rel{n:Nat}{a:Act}{w:World}{L:Live}(hn:a.tmps.size=n):RelE n { tmps:=a.tmps,defers:=[] } (Act.flat a) w L:=⟨hn,rfl,λ_=>qai⟩
section range
variable{C:Ctx}{n:Nat}{e:Env}{H:Heap}{Q:Post}
theorem qag.rangeFunc{g:Operand}{ps:List Nat}{assign body:Code}{gf:FuncId} [TEnter C.P gf]{caps:Array Value}(hg:e.ev g=.atom (.func (.func gf) #[] caps))(N:Nat)(xs:Nat->List LV)(H0 Hc:Heap)(hp:H.Perm (H0++Hc))
  (hiter:qwO C gf (caps.toList.map .atom) Hc N xs) (hps:∀ k,k<N->ps.length=(xs k).length) (hpn:ps.all (λp=>Nat.blt p n)=true)
  (J:Nat->Heap->Prop) (h0:J 0 H0)
  (round:∀ k H,k<N->J k H->∀ j:Env,j.ds=[]->(∀ i v,e.s i=.atom v->j.s i=.atom v)->∀ (l D:Nat) (o oD:LObj),qdm C l n assign (QOn λe1 H1=>e1.ds=[]/\∃ H1',H1=(l,o)::(D,oD)::H1'/\(∀ o':LObj,qdm C l n body (QOn λ_ H2=>∃ H2',HSub ((l,o')::(D,oD)::H2') H2/\J (k+1) H2') e1 ((l,o')::(D,oD)::H1'))) (Env.round j (ps.zip (xs k))) ((l,o)::(D,oD)::H))
  (done:∀ D H',J N H'->Q .normal ⟨e.s,{ target:=.collected D,args:=#[] }::e.ds⟩ ((D,.obj (.deferred (some [])))::(H'++Hc))) :
  qag C n (.rangeFunc g ps.toArray assign body) Q e H:=λa w L hE hH=>by
 refine wpIn_wide (n:=1) |>.1 (wpIn_rangeFunc λfn _=>?_)
 have hgv:a.eval g=.func (.func gf) #[] caps:=by
  have:=hE.ev g;rw[hg] at this;simpa only[Rep] using this
 obtain⟨rec,hrec⟩:∃ rec:LoopState->Option Code->Loop,rec=λst pe=>{ state:=st,pending:=pe,fn,tmps:=a.tmps,params:=ps.toArray,assign,body,defers:=w.heap.size }:=⟨_,rfl⟩;obtain⟨L1,f1,r1⟩:=qnl (o:=.deferred (some [])) (hH.perm hp) rfl;obtain⟨L2,f2,r2⟩:=qnl (o:=.loop (rec .ready none)) r1 rfl;have hsz:(w.alloc (.deferred (some []))).heap.size=w.heap.size+1:=World.size_alloc ..;rw[hsz] at f2 r2;have hrec0:rec .ready none={ state:=.ready,pending:=none,fn,tmps:=a.tmps,params:=ps.toArray,assign,body,defers:=w.heap.size }:=by rw[hrec]
 refine⟨w.heap.size+1,[{ target:=.collected w.heap.size,args:=#[] }],(w.alloc (.deferred (some []))).alloc (.loop (rec .ready none)),{ target:=.fn (.func gf) caps,args:=#[.func (.yield (w.heap.size+1)) #[] #[]] },(w.alloc (.deferred (some []))).alloc (.loop (rec .ready none)),gf,
  #[.func (.yield (w.heap.size+1)) #[] #[]]++caps,(w.alloc (.deferred (some []))).alloc (.loop (rec .ready none)),?_,?_,λ_ _=>trivial,?_,λ_=>zNr _,callsIn_wide.2 ?_⟩
 rw[hrec0];exact run_enterLoop_outer _ _ _ _ _;simp only[resolve,hgv];simp[go_sem];simp only[invoke];exact qfr _ _;obtain⟨l,hl⟩:∃ l,l=w.heap.size+1:=⟨_,rfl⟩;obtain⟨D,hD⟩:∃ D,D=w.heap.size:=⟨_,rfl⟩;rw[<-hl,<-hD] at f2 r2 ⊢;rw[<-hD] at r1 f1;have hc:=hiter l (λk H=>∃ H1,H=(l,.obj (.loop (rec .ready none)))::(D,.obj (.deferred (some [])))::H1/\J k H1) ?_ ((l,.obj (.loop (rec .ready none)))::(D,.obj (.deferred (some [])))::H0) ⟨H0,rfl,h0⟩
 ·have h1:=hc (.func (.yield l) #[] #[]::caps.toList) _ L2 (by simp only[RepL,Rep];exact⟨_,_,rfl,rfl,qa0 _⟩) r2
  have e1:(Value.func (.yield l) #[] #[]::caps.toList).toArray=#[.func (.yield l) #[] #[]]++caps:=by
   apply Array.ext'
   simp
  rw[e1] at h1;refine Calls.mono h1 ?_;rintro ex w' hx
  cases ex with
  |returned v=>
   obtain⟨lv,H',L',g1,g2,g3,_,H1,rfl,H1',rfl,hJ⟩:=hx;have g2':RelH C w' L' ((l,.obj (.loop (rec .ready none)))::((D,.obj (.deferred (some [])))::(H1'++Hc))):=g2;obtain⟨_,_,_,hlo,_⟩:=g2'.objs _ mem_cons_self;have hlo':w'.heap[l]? = some (.loop (rec .ready none)):=hlo;have hpe:(rec .ready none).pending=none:=by rw[hrec]
   have hend:=(run_endLoop (P:=C.P) hlo' (by rw[hrec];simp)).trans (congrArg (λp=>Result.ok p _) hpe);have ht:=qiP (o':=.loop { rec .ready none with state:=.exhausted }) g2' rfl;refine⟨none,_,hend,?_⟩;have hs:HSub ((D,LObj.obj (.deferred (some [])))::(H1'++Hc)) ((l,.obj (.loop { rec .ready none with state:=.exhausted }))::((D,.obj (.deferred (some [])))::(H1'++Hc))):=zhD zhr;refine⟨⟨e.s,{ target:=.collected D,args:=#[] }::e.ds⟩,(D,.obj (.deferred (some [])))::(H1'++Hc),L',?_,ht.2.weak hs,⟨?_,?_,?_⟩,done D H1' hJ⟩;exact Fr.perm hp.symm ((f1.trans (f2.trans (g1.trans ht.1))).weak hs);exact hE.size;show _::a.defers=_;rw[hE.ds]
   exact λi=>(hE.vals i).mono (f1.ext.trans (f2.ext.trans (g1.ext.trans ht.1.ext))) _ _
  |panicked ch=>
   obtain⟨H',L',g1,g2,⟨v,hv⟩,_⟩:=hx
   cases hv
  |outgrown=>exact hx.elim
 rintro k H hk ⟨H1,rfl,hJ⟩ vs w1 Lw hvs hr m;obtain⟨_,_,_,hlo,_⟩:=hr.objs _ mem_cons_self;have hlo':w1.heap[l]? = some (.loop (rec .ready none)):=hlo;have hlen:=hvs.length;have hpk:=hps k hk;have hy:=run_yield (P:=C.P) (args:=vs.toArray) hlo' (by rw[hrec];simp;omega);rw[hrec] at hy;refine⟨fn,_,assign,body,hy,roundIn_of_wpIn trivial ?_⟩;have htm:RelE n { tmps:=a.tmps,defers:=[] } (Act.flat a) w1 Lw:=Act.flat_rel hE.size;have htm2:=RelE.rounds ps (xs k) vs a.tmps (Act.flat a) htm hvs hpk hpn
 have e2:(ps.toArray.zip vs.toArray).foldl (λtmps (t,a)=>tmps.setIfInBounds t a) a.tmps=(ps.zip vs).foldl (λt p=>t.setIfInBounds p.1 p.2) a.tmps:=by
  simp
 simp only[e2];refine wpIn_mono (round k H1 hk hJ (Act.flat a) rfl ?_ l D _ _ _ w1 Lw htm2 hr m) ?_;intro i v hv;have:=hE.vals i;rw[hv] at this;simp only[Rep] at this;simp only[Act.flat,this];rintro ex a1 w2 ⟨e1,H2,L2',q1,q2,q3,q4⟩
 cases ex with
 |normal=>
  obtain⟨hds,H2',rfl,hb⟩:=q4;obtain⟨_,_,_,hlo2,_⟩:=q2.objs _ mem_cons_self;have hlo2':w2.heap[l]? = some (.loop (rec .ready none)):=hlo2;have ht:=qiP (o':=.loop { rec .ready none with state:=.busy }) q2 rfl;refine⟨_,run_beginRound hlo2' (by rw[hrec]),?_⟩;refine wpIn_mono (hb (.obj (.loop { rec .ready none with state:=.busy })) a1 _ L2' (q3.mono ht.1.ext) ht.2 m) ?_;rintro ex a3 w3 ⟨e3,H3,L3,p1,p2,p3,p4⟩
  cases ex with
  |normal=>
   obtain⟨H3',hs3,hJ3⟩:=p4;have p2':=p2.weak hs3;obtain⟨_,_,_,hlo3,_⟩:=p2'.objs _ mem_cons_self;have hlo3':w3.heap[l]? = some (.loop { rec .ready none with state:=.busy }):=hlo3;have ht3:=qiP (o':=.loop (rec .ready none)) p2' rfl;have hend:=run_endRound (P:=C.P) none hlo3';have e3:({ { rec .ready none with state:=.busy } with state:=if (none:Option Code).isNone then .ready else .done,pending:=none }:Loop)=rec .ready none:=by rw[hrec];try rfl
   rw[e3] at hend;refine⟨.bool true,_,hend,rfl,?_⟩
   exact⟨_,L3,q1.trans (ht.1.trans ((p1.weak hs3).trans ht3.1)),ht3.2,H3',rfl,hJ3⟩
  |exit id=>exact p4.elim
  |goto id=>exact p4.elim
  |ret=>exact p4.elim
  |panic ch=>exact p4.elim
  |outgrown=>exact p4.elim
 |exit id=>exact q4.elim
 |goto id=>exact q4.elim
 |ret=>exact q4.elim
 |panic ch=>exact q4.elim
 |outgrown=>exact q4.elim
end range
def qfp(C:Ctx)(n:Nat)(ops:Array Oper)(Q:Post)(rest:List Oper)(e:Env)(H:Heap):Prop:=
 ∀ a w L,RelE n a e w L->RelH C w L H->wpListIn Fence.wide 1 C.P ops (lift C n w L (keys H) Q) rest a w
section W
variable{C:Ctx}{n:Nat}{ops:Array Oper}{Q:Post}{e:Env}{H:Heap}
theorem qfp.nil(h:Q .normal e H):qfp C n ops Q [] e H:=λ_ _ L hE hH=>⟨e,H,L,Fr.refl _ _ _,hH,hE,h⟩
theorem qbR{F:Fence}{m:Nat}{P:Program}{Q Q':Exit->Act->World->Prop}(h:∀ e a w,Q e a w->Q' e a w)(ho:LetsOut Q->LetsOut Q'):∀ (l:List Oper) (a:Act) (w:World),wpListIn F m P ops Q l a w->wpListIn F m P ops Q' l a w
 |[],_,_,k=>h _ _ _ k
 |o::l,a,w,k=>by
  unfold wpListIn at k ⊢;split at k
  ·rename_i hw
   rw[if_pos hw];refine⟨k.1,?_⟩;have k2:=k.2;generalize (o.semAt F.round a.eval).run P w=r at k2 ⊢
   cases r with
   |ok x w'=>
    cases x with
    |value v=>exact qbR h ho l _ _ k2
    |skip=>exact qbR h ho l _ _ k2
    |defer d=>exact qbR h ho l _ _ k2
    |enter f args=>
     refine⟨k2.1,k2.2.mono λe w'' he=>?_⟩
     cases e with
     |returned v=>exact qbR h ho l _ _ he
     |panicked ch=>exact h _ _ _ he
     |outgrown=>exact ho he
    |row row args=>
     refine⟨k2.1,λc cs hr=>?_⟩;obtain⟨v,w2,r2,s2⟩:=k2.2 c cs hr
     exact⟨v,w2,qbR h ho l _ _ r2,s2⟩
    |round l' f tmps avs bd=>
     refine⟨k2.1,k2.2.mono λe w'' he=>?_⟩
     cases e with
     |returned v=>exact qbR h ho l _ _ he
     |panicked ch=>exact h _ _ _ he
     |outgrown=>exact ho he
    |_=>exact k2.elim
   |halt x w'=>cases x <;> first|exact h _ _ _ k2|exact k2.elim
  rename_i hw
  rw[if_neg hw];exact⟨k.1,qbR h ho l _ _ k.2⟩
theorem quL{w w1:World}{L L1:Live}{K:List Nat}{H1:Heap}(f:Fr K w L w1 L1 H1):LetsOut (lift C n w1 L1 (keys H1) Q)->LetsOut (lift C n w L K Q):=λ⟨a,w',h⟩=>⟨a,w',qdR f h⟩
theorem qfp.pure{dst:Option Nat}{op:Op}{ty:TypeId}{pos:String}{aft:Array Edge}{rest:List Oper}{lv:LV}
  (h:Pure C ⟨dst,op,ty,pos,aft,none⟩ e H lv) (hd:qc4 n dst) (k:qfp C n ops Q rest (e.put dst lv) H):qfp C n ops Q (⟨dst,op,ty,pos,aft,none⟩::rest) e H:=λa w L hE hH=>by
 obtain⟨v,hv,hr⟩:=h a.eval w L hE.ev hH;unfold wpListIn;rw[if_pos (by simp[Region.wanted])];refine⟨λ_ _=>trivial,?_⟩;have hs:Oper.semAt (Fence.wide).round a.eval ⟨dst,op,ty,pos,aft,none⟩=execOp a.eval ⟨dst,op,ty,pos,aft,none⟩:=rfl;rw[hs,hr w ⟨λ_ _=>rfl,λ_ _ _=>rfl⟩];exact k _ w L (hE.put hd hv) hH
theorem qfp.yield{dst:Option Nat}{fo:Operand}{l:Nat}{args:List Operand}{ats:Array TypeId}{avs:List LV}{ty:TypeId}{pos:String}{aft:Array Edge}{rest:List Oper}{K:Heap->Prop}(hf:e.ev fo=.atom (.func (.yield l) #[] #[]))
  (has:args.map e.ev=avs) (hy:qfy C l avs H K) (hd:qc4 n dst) (k:∀ H',K H'->qfp C n ops Q rest (e.put dst (bool true)) H'):qfp C n ops Q (⟨dst,.call { callee:=.value fo,args:=args.toArray,argTypes:=ats },ty,pos,aft,none⟩::rest) e H:=λa w L hE hH=>by
 subst has;have hv:=hE.ev fo;rw[hf] at hv;simp only[Rep] at hv;obtain⟨fn,tmps,assign,body,h1,h2⟩:=hy (args.map a.eval) w L (qjA hE.ev _) hH 0;unfold wpListIn;rw[if_pos (by simp[Region.wanted])];refine⟨λ_ _=>trivial,?_⟩;have h3:Oper.semAt (Fence.wide).round a.eval ⟨dst,.call { callee:=.value fo,args:=args.toArray,argTypes:=ats },ty,pos,aft,none⟩=(do let d <-Deferred.ofValue (a.eval fo) (args.toArray.map a.eval);invoke d.target d.args):=rfl
 have h4:(do let d <-Deferred.ofValue (.func (.yield l) #[] #[]) (args.toArray.map a.eval);invoke d.target d.args:Sem Next).run C.P w=.ok (.round l fn tmps assign body) w:=by
  simp only[Deferred.ofValue,Sem.run_bind,Sem.run_pure,Result.andThen_ok,invoke];rw[<-h1]
  simp
 rw[h3,hv,h4];refine⟨λ_=>zNr _,h2.mono ?_⟩;rintro ex w' ⟨rfl,H',L',g1,g2,g3⟩;exact qbR (λ_ _ _=>qdR g1) (quL g1) _ _ _ (k H' g3 _ w' L' ((hE.mono g1.ext).put hd qai) g2)
theorem qag.regionW{id:Nat}{l:List Oper}(h:qfp C n l.toArray Q l e H):qag C n (.region id l.toArray false) Q e H:=λa w L hE hH=>wpIn_wide (n:=1) |>.1 (wpIn_region_lit (h a w L hE hH))
end W
def qde(C:Ctx)(n:Nat)(rs:List ResultVar)(R:LRes->Heap->Prop):Post
 |.normal,e,H|.ret,e,H=>∃ D F,e.ds=[{ target:=.collected D,args:=#[] }]/\H.Perm ((D,.obj (.deferred (some [])))::F)/\∃ vs H',qbT C n e F rs vs/\HSub H' F/\R (.ret (qbG vs)) H'
 |.panic ch,e,H=>(e.ds=[]/\∃ H',HSub H' H/\R (.panic ch) H')∨∃ D F,e.ds=[{ target:=.collected D,args:=#[] }]/\H.Perm ((D,.obj (.deferred (some [])))::F)/\∃ H',HSub H' F/\R (.panic ch) H'
 |_,_,_=>False
theorem LCalls.introM{C:Ctx}{f:FuncId}{fn:Func}{c:Code}{n:Nat}{args:List LV}{H:Heap}{R:LRes->Heap->Prop}(hf:C.P.funcs[f]? = some fn)(hb:fn.body=some c)(hn:fn.ntmps=n)(h3:Nat.ble fn.results.size 3=true)
  (hl:Nat.ble args.length n=true) (h:qag C n c (qde C n fn.results.toList R) (qfB args) H):LCalls C f args H R:=λvs w L hv hH=>by
 subst hn;have hl':args.length<=fn.ntmps:=by simpa using hl
 have h3':fn.results.size<=3:=by simpa using h3
 have hlen:=hv.length;refine callsIn_wide.1 (callsIn_of_wp_marks (F:=Fence.wide) (n:=1) hf hb trivial (wpIn_wide.2 (Go.wp_mono (h _ w L ⟨?_,rfl,λi=>?_⟩ hH) λex a' w' hq=>?_)))
 simp;omega
 exact zT0;obtain⟨e',H',L',g1,g2,g3,g4⟩:=hq
 have turn:∀ {D F},H'.Perm ((D,LObj.obj (.deferred (some [])))::F)->(Instr.takeDeferred D).run C.P w'=.ok [] (w'.putObj D (.deferred none))/\Fr (keys H) w L (w'.putObj D (.deferred none)) L' F/\RelH C (w'.putObj D (.deferred none)) L' F/\Ext w' L' (w'.putObj D (.deferred none)) L':=λ{D F} hp=>by
  have g2':=g2.perm hp;obtain⟨_,_,_,hlo,_⟩:=g2'.objs _ mem_cons_self;have hlo':w'.heap[D]? = some (.deferred (some [])):=hlo;have ht:=qiP (o':=.deferred none) g2' rfl;have hs:HSub F ((D,LObj.obj (.deferred none))::F):=zhD zhr;have hkp:Fr (keys H) w L w' L' ((D,LObj.obj (.deferred (some [])))::F):=g1.weak ⟨[],by simpa using hp⟩;exact⟨run_takeDeferred hlo',(hkp.trans ht.1).weak hs,ht.2.weak hs,ht.1.ext⟩
 have ret:RelE fn.ntmps a' e' w' L'->(∃ D F,e'.ds=[{ target:=.collected D,args:=#[] }]/\H'.Perm ((D,.obj (.deferred (some [])))::F)/\∃ vs H'',qbT C fn.ntmps e' F fn.results.toList vs/\HSub H'' F/\R (.ret (qbG vs)) H'') ->
   LeavesInM Fence.wide 1 C.P fn a'.tmps (qcE C w L H (λv=>R (.ret v)) (λch=>R (.panic ch))) a'.defers .returning w':=λhE hr=>by
  obtain⟨D,F,h1,hp,vs',H'',h2,h4,h5⟩:=hr;rw[hE.ds,h1];obtain⟨t1,t2,t3,t4⟩:=turn hp;refine⟨by simp,.inl ⟨D,_,rfl,t1,?_⟩⟩;obtain⟨v,r1,r2⟩:=qhN (hE.mono t4) t3 h2 h3';exact⟨v,r1,qbG vs',H'',L',t2.weak h4,t3.weak h4,r2,h5⟩
 cases ex with
 |normal=>exact ret g3 g4
 |ret=>exact ret g3 g4
 |panic ch=>
  rcases g4 with⟨h1,H'',h4,h5⟩|⟨D,F,h1,hp,H'',h4,h5⟩;show LeavesInM _ _ _ _ _ _ a'.defers _ _;rw[show a'.defers=[] from(show a'.defers=e'.ds from g3).trans h1];exact⟨H'',L',g1.weak h4,g2.weak h4,h5⟩;show LeavesInM _ _ _ _ _ _ a'.defers _ _;rw[show a'.defers=[{ target:=.collected D,args:=#[] }] from(show a'.defers=e'.ds from g3).trans h1];obtain⟨t1,t2,t3,t4⟩:=turn hp
  exact⟨by simp,.inl ⟨D,_,rfl,t1,⟨H'',L',t2.weak h4,t3.weak h4,h5⟩⟩⟩
 |exit id=>exact g4.elim
 |goto id=>exact g4.elim
 |outgrown=>exact g4.elim
def qa6(C:Ctx)(f:FuncId)(args:List LV)(u:FrameMode)(H:Heap)(R:FrameMode->Heap->Prop):Prop:=
 ∀ (vs:List Value) w L,RepL w L args vs->RelH C w L H->CallsD C.P f vs.toArray u w λe u' w'=>(∃ v,e=.returned v)/\qfg C w L H w' (R u')
def qjR(C:Ctx)(n:Nat)(rs:List ResultVar)(R:LRes->Heap->Prop):List Deferred->FrameMode->Env->Heap->Prop
 |[],.returning,e,H=>∃ vs H',qbT C n e H rs vs/\HSub H' H/\R (.ret (qbG vs)) H'
 |[],.panicking ch,_,H=>∃ H',HSub H' H/\R (.panic ch) H'
 |[],.run,_,_=>False
 |d::ds,u,e,H=>u≠.run/\∃ f cap H1 F,d={ target:=.fn (.func f) cap,args:=#[] }/\TEnter C.P f/\H.Perm (H1++F) /\
   qa6 C f (cap.toList.map .atom) u H1 λu' H'=>qjR C n rs R ds (settle u') e (H'++F)
def qpX(C:Ctx)(n:Nat)(w:World)(L:Live)(K:List Nat)(Q:Post):Exit->Act->World->Prop:=
 λx a' w'=>∃ e' H' L',Fr K w L w' L' H'/\RelH C w' L' H'/\RelE n a' e' w' L'/\Q x e' H'
theorem qjy{C:Ctx}{n:Nat}{w w1:World}{L L1:Live}{K:List Nat}{H1:Heap}{Q:Post}(f:Fr K w L w1 L1 H1){x:Exit}{a:Act}{w':World}
  (k:qpX C n w1 L1 (keys H1) Q x a w'):qpX C n w L K Q x a w':=
 let ⟨e',H',L',h1,h2,h3,h4⟩:=k
 ⟨e',H',L',f.trans h1,h2,h3,h4⟩
def qb2(C:Ctx)(n:Nat)(ops:Array Oper)(Q:Post)(rest:List Oper)(e:Env)(H:Heap):Prop:=
 ∀ a w L,RelE n a e w L->RelH C w L H->wpList C.P ops (qpX C n w L (keys H) Q) rest a w
def qaL(C:Ctx)(n:Nat)(c:Code)(Q:Post)(e:Env)(H:Heap):Prop:=
 ∀ a w L,RelE n a e w L->RelH C w L H->c.wp C.P (qpX C n w L (keys H) Q) a w
section P
variable{C:Ctx}{n:Nat}{ops:Array Oper}{Q:Post}{e:Env}{H:Heap}
theorem qb2.nil(h:Q .normal e H):qb2 C n ops Q [] e H:=λ_ _ L hE hH=>⟨e,H,L,Fr.refl _ _ _,hH,hE,h⟩
theorem qb2.step{dst:Option Nat}{op:Op}{ty:TypeId}{pos:String}{aft:Array Edge}{rest:List Oper}
  (h:qad C ⟨dst,op,ty,pos,aft,none⟩ e H (λlv H'=>qb2 C n ops Q rest (e.put dst lv) H') (λch H'=>Q (.panic ch) e H'))
  (hd:qc4 n dst):qb2 C n ops Q (⟨dst,op,ty,pos,aft,none⟩::rest) e H:=λa w L hE hH=>by
 unfold wpList;rw[if_pos (by simp[Region.wanted])];have hs:=h a.eval w L hE.ev hH;refine .inl ?_;unfold Oper.wp
 have left:∀ {w' v},Left C w L H w' v (λlv H'=>qb2 C n ops Q rest (e.put dst lv) H')->wpList C.P ops (qpX C n w L (keys H) Q) rest (a.put dst v) w':=λh=>by
  obtain⟨lv,H',L',h1,h2,h3,h4⟩:=h;exact qbF (λ_ _ _=>qjy h1) _ _ _ (h4 _ _ L' ((hE.mono h1.ext).put hd h3) h2)
 have leftX:∀ {w' ch},qfg C w L H w' (λH'=>Q (.panic ch) e H')->qpX C n w L (keys H) Q (.panic ch) a w':=λh=>by
  obtain⟨H',L',h1,h2,h3⟩:=h;exact⟨e,H',L',h1,h2,hE.mono h1.ext,h3⟩
 generalize (execOp a.eval ⟨dst,op,ty,pos,aft,none⟩).run C.P w=r at hs ⊢;unfold qeZ at hs;split at hs;exact left hs;exact left hs;obtain⟨rfl,hs⟩:=hs;refine Calls.mono hs λe w' he=>?_
 cases e with
 |returned v=>exact left he
 |panicked ch=>exact leftX he
 |outgrown=>exact he.elim
 exact leftX hs;exact hs.elim
theorem qb2.pure{dst:Option Nat}{op:Op}{ty:TypeId}{pos:String}{aft:Array Edge}{rest:List Oper}{lv:LV}
  (h:Pure C ⟨dst,op,ty,pos,aft,none⟩ e H lv) (hd:qc4 n dst) (k:qb2 C n ops Q rest (e.put dst lv) H):qb2 C n ops Q (⟨dst,op,ty,pos,aft,none⟩::rest) e H:=
 qb2.step (h.step k) hd
theorem qaL.region{id:Nat}{l:List Oper}(h:qb2 C n l.toArray Q l e H):qaL C n (.region id l.toArray false) Q e H:=λa w L hE hH=>wp_region_lit (h a w L hE hH)
theorem qaL.ret(h:Q .ret e H):qaL C n .ret Q e H:=λ_ _ L hE hH=>wp_ret ⟨e,H,L,Fr.refl _ _ _,hH,hE,h⟩
theorem qaL.seq{x y:Code}(h:qaL C n x (qaw (λe H=>qaL C n y Q e H) Q) e H):qaL C n (.seq x y) Q e H:=λa w L hE hH=>by
 refine wp_seq (Go.wp_mono (h a w L hE hH) λex a' w' hq=>?_);obtain⟨e',H',L',h1,h2,h3,h4⟩:=hq
 cases ex with
 |normal=>exact Go.wp_mono (h4 a' w' L' h3 h2) λ_ _ _=>qjy h1
 |exit id=>exact⟨e',H',L',h1,h2,h3,h4⟩
 |goto id=>exact⟨e',H',L',h1,h2,h3,h4⟩
 |ret=>exact⟨e',H',L',h1,h2,h3,h4⟩
 |panic ch=>exact⟨e',H',L',h1,h2,h3,h4⟩
 |outgrown=>exact⟨e',H',L',h1,h2,h3,h4⟩
theorem qaL.block{id:Nat}{c:Code}(h:qaL C n c (qal id Q) e H):qaL C n (.block id c) Q e H:=λa w L hE hH=>by
 refine wp_block (Go.wp_mono (h a w L hE hH) λex a' w' hq=>?_);obtain⟨e',H',L',h1,h2,h3,h4⟩:=hq
 cases ex with
 |exit id'=>
  simp only[Exit.inBlock,qal] at h4 ⊢;split
  rename_i hid;rw[if_pos hid] at h4;exact⟨e',H',L',h1,h2,h3,h4⟩
  rename_i hid;rw[if_neg hid] at h4;exact⟨e',H',L',h1,h2,h3,h4⟩
 |normal=>exact⟨e',H',L',h1,h2,h3,h4⟩
 |goto id=>exact⟨e',H',L',h1,h2,h3,h4⟩
 |ret=>exact⟨e',H',L',h1,h2,h3,h4⟩
 |panic ch=>exact⟨e',H',L',h1,h2,h3,h4⟩
 |outgrown=>exact⟨e',H',L',h1,h2,h3,h4⟩
def QNo(Q:Post):Post
 |.panic _,_,_=>False
 |x,e,H=>Q x e H
theorem qaL.of{c:Code}(h:qag C n c (QNo Q) e H):qaL C n c Q e H:=λa w L hE hH=>by
 refine Go.wp_mono (h a w L hE hH) λex a' w' hq=>?_;obtain⟨e',H',L',h1,h2,h3,h4⟩:=hq
 cases ex with
 |panic ch=>exact h4.elim
 |normal=>exact⟨e',H',L',h1,h2,h3,h4⟩
 |exit id=>exact⟨e',H',L',h1,h2,h3,h4⟩
 |goto id=>exact⟨e',H',L',h1,h2,h3,h4⟩
 |ret=>exact⟨e',H',L',h1,h2,h3,h4⟩
 |outgrown=>exact⟨e',H',L',h1,h2,h3,h4⟩
theorem QNo.normal{k:Env->Heap->Prop}(h:k e H):QNo (qaw k Q) .normal e H:=h
theorem QNo.ret(h:Q .ret e H):QNo Q .ret e H:=h
end P
def qbP(C:Ctx)(n:Nat)(rs:List ResultVar)(R:LRes->Heap->Prop):Post
 |.normal,e,H|.ret,e,H=>qjR C n rs R e.ds .returning e H
 |.panic ch,e,H=>qjR C n rs R e.ds (.panicking ch) e H
 |_,_,_=>False
theorem qsX{C:Ctx}{n:Nat}{fn:Func}{R:LRes->Heap->Prop}{w0:World}{L0:Live}{H0:Heap}(h3:fn.results.size<=3)(tmps:Array Value):∀ (ds:List Deferred) (u:FrameMode) (e:Env) (H:Heap) (w:World) (L:Live),tmps.size=n->(∀ i,Rep w L (e.s i) (tmps.getD i undef))->RelH C w L H->Fr (keys H0) w0 L0 w L H ->
  qjR C n fn.results.toList R ds u e H->Leaves C.P fn tmps (qcE C w0 L0 H0 (λv=>R (.ret v)) (λch=>R (.panic ch))) ds u w
 |[],.returning,e,H,w,L,hn,hv,hH,hF,h=>by
  obtain⟨vs,H',h1,h2,h5⟩:=h;obtain⟨v,r1,r2⟩:=qhN (a:={ tmps,defers:=e.ds }) ⟨hn,rfl,hv⟩ hH h1 h3
  exact⟨v,r1,qbG vs,H',L,hF.weak h2,hH.weak h2,r2,h5⟩
 |[],.panicking ch,e,H,w,L,hn,hv,hH,hF,h=>by
  obtain⟨H',h2,h5⟩:=h
  exact⟨H',L,hF.weak h2,hH.weak h2,h5⟩
 |[],.run,e,H,w,L,hn,hv,hH,hF,h=>h.elim
 |d::ds,u,e,H,w,L,hn,hv,hH,hF,h=>by
  obtain⟨hu,f,cap,H1,F,rfl,hen,hp,hc⟩:=h;refine⟨hu,.func f,cap,f,cap,rfl,by simp[invoke,qfr],?_⟩;have hH':=hH.perm hp;have:=hc cap.toList w L (qa0 _) hH'.left;simp only[Array.toArray_toList] at this;refine CallsD.mono this ?_;rintro ex u' w' ⟨⟨v,rfl⟩,hx⟩;obtain⟨H',L',g1,g2,g3⟩:=qfg.frame hH' hx;exact qsX h3 tmps ds (settle u') e H' w' L' hn (λi=>(hv i).mono g1.ext _ _) g2 (hF.trans (g1.perm hp.symm)) g3
theorem qa6.mono{C:Ctx}{f:FuncId}{args:List LV}{u:FrameMode}{H:Heap}{R R':FrameMode->Heap->Prop}(h:qa6 C f args u H R)(hr:∀ u H,R u H->R' u H):qa6 C f args u H R':=λvs w L h1 h2=>
 CallsD.mono (h vs w L h1 h2) λ_ _ _ ⟨h3,h4⟩=>⟨h3,h4.mono (hr _)⟩
theorem LCalls.introD{C:Ctx}{f:FuncId}{fn:Func}{c:Code}{n:Nat}{args:List LV}{H:Heap}{R:LRes->Heap->Prop}(hf:C.P.funcs[f]? = some fn)(hb:fn.body=some c)(hn:fn.ntmps=n)(h3:Nat.ble fn.results.size 3=true)
  (hl:Nat.ble args.length n=true) (h:qaL C n c (qbP C n fn.results.toList R) (qfB args) H):LCalls C f args H R:=λvs w L hv hH=>by
 subst hn;have hl':args.length<=fn.ntmps:=by simpa using hl
 have h3':fn.results.size<=3:=by simpa using h3
 have hlen:=hv.length;refine calls_of_wp_defers hf hb (Go.wp_mono (h _ w L ⟨?_,rfl,λi=>?_⟩ hH) λex a' w' hq=>?_)
 simp;omega
 exact zT0;obtain⟨e',H',L',g1,g2,g3,g4⟩:=hq
 have ret:∀ u,qjR C fn.ntmps fn.results.toList R e'.ds u e' H'->Leaves C.P fn a'.tmps (qcE C w L H (λv=>R (.ret v)) (λch=>R (.panic ch))) a'.defers u w':=λu hu=>by
  rw[g3.ds];exact qsX h3' a'.tmps _ u e' H' w' L' g3.size g3.vals g2 g1 hu
 cases ex with
 |normal=>exact ret _ g4
 |ret=>exact ret _ g4
 |panic ch=>exact ret _ g4
 |exit id=>exact g4.elim
 |goto id=>exact g4.elim
 |outgrown=>exact g4.elim
abbrev qmU:=Exit->FrameMode->Env->Heap->Prop
def qdv(C:Ctx)(n:Nat)(c:Code)(Q:qmU)(u:FrameMode)(e:Env)(H:Heap):Prop:=
 ∀ a w L (c0:Frame) cs,c0.mode=u->RelE n a e w L->RelH C w L H ->
  c.wpS C.P (λx a' cs' w'=>∃ u' e' H' L',cs'={ c0 with mode:=u' }::cs/\Fr (keys H) w L w' L' H'/\RelH C w' L' H'/\RelX n x a' e' w' L'/\Q x u' e' H') a (c0::cs) w
theorem qmc{P:Program}{c:Code}{Q Q':Exit->Act->List Frame->World->Prop}{a:Act}{cs:List Frame}{w:World}(h:c.wpS P Q a cs w)(hq:∀ x a cs w,Q x a cs w->Q' x a cs w):c.wpS P Q' a cs w:=λb k h1 h2=>
 let ⟨e,a',cs',w',q,r⟩:=h b k h1 h2
 ⟨e,a',cs',w',hq _ _ _ _ q,r⟩
section S
variable{C:Ctx}{n:Nat}{Q:qmU}{u:FrameMode}{e:Env}{H:Heap}
theorem qdv.of{c:Code}(h:qag C n c (λx e H=>Q x u e H) e H):qdv C n c Q u e H:=λa w L c0 cs hu hE hH=>by
 refine wpS_of_wp (Go.wp_mono (h a w L hE hH) λx a' w' hq=>?_);obtain⟨e',H',L',h1,h2,h3,h4⟩:=hq;exact⟨u,e',H',L',by subst hu;rfl,h1,h2,h3,h4⟩
theorem qdv.seq{x y:Code}(h:qdv C n x (λex u' e' H'=>match ex with|.normal=>qdv C n y Q u' e' H'|ex=>Q ex u' e' H') u e H):qdv C n (.seq x y) Q u e H:=λa w L c0 cs hu hE hH=>by
 refine wpS_seq (qmc (h a w L c0 cs hu hE hH) λex a' cs' w' hq=>?_);obtain⟨u',e',H',L',rfl,h1,h2,h3,h4⟩:=hq
 cases ex with
 |normal=>
  refine qmc (h4 a' w' L' { c0 with mode:=u' } cs rfl h3 h2) ?_;rintro ex a2 cs2 w2 ⟨u2,e2,H2,L2,rfl,g1,g2,g3,g4⟩
  exact⟨u2,e2,H2,L2,rfl,h1.trans g1,g2,g3,g4⟩
 |exit id=>exact⟨u',e',H',L',rfl,h1,h2,h3,h4⟩
 |goto id=>exact⟨u',e',H',L',rfl,h1,h2,h3,h4⟩
 |ret=>exact⟨u',e',H',L',rfl,h1,h2,h3,h4⟩
 |panic ch=>exact⟨u',e',H',L',rfl,h1,h2,h3,h4⟩
 |outgrown=>exact⟨u',e',H',L',rfl,h1,h2,h3,h4⟩
def qid:FrameMode->Value×FrameMode
 |.panicking ({ v,recovered:=false,goexit:=false }::older)=>(v,.panicking ({ v,recovered:=true }::older))
 |u=>(.nilIface,u)
theorem qn7{P:Program}{ρ:Operand->Value}{dst:Option Nat}{ty:TypeId}{pos:String}{aft:Array Edge}{g:Option (Nat×Bool)}(w:World) :
  (execOp ρ ⟨dst,.call { callee:=.builtin .recover,args:=#[],argTypes:=#[] },ty,pos,aft,g⟩).run P w=.ok .recover w:=by
 rfl
theorem qnT(c0:Frame)(cs:List Frame):recoverD (c0::cs)=none/\qid c0.mode=(.nilIface,c0.mode)∨recoverD (c0::cs)=some ((qid c0.mode).1,{ c0 with mode:=(qid c0.mode).2 }::cs):=by
 obtain⟨fn,tmps,todo,defers,mode,kind,ro⟩:=c0
 cases mode with
 |run=>exact .inl ⟨rfl,rfl⟩
 |returning=>exact .inl ⟨rfl,rfl⟩
 |panicking ch=>
  cases ch with
  |nil=>exact .inl ⟨rfl,rfl⟩
  |cons p older=>
   obtain⟨v,r,g⟩:=p;cases r <;> cases g <;> first|exact .inl ⟨rfl,rfl⟩|exact .inr rfl
theorem qdv.recover{id t s:Nat}{ty ty':TypeId}{pos pos':String}{aft aft':Array Edge}(ht:Nat.blt t n=true)(hs:Nat.blt s n=true)(h:Q .normal (qid u).2 ((e.upd t (.atom (qid u).1)).upd s (.atom (qid u).1)) H) :
  qdv C n (.region id #[⟨some t,.call { callee:=.builtin .recover,args:=#[],argTypes:=#[] },ty,pos,aft,none⟩,⟨some s,.assign (.tmp t),ty',pos',aft',none⟩] false) Q u e H:=λa w L c0 cs hu hE hH=>by
 refine wpS_region ?_;have hE1:∀ v,RelE n (a.put (some t) v) (e.upd t (.atom v)) w L:=λv=>hE.put (dst:=some t) (by simp only[qc4,dstB];exact ht) qai
 have hev:∀ v,(a.put (some t) v).eval (.tmp t)=v:=λv=>by
  have:=(hE1 v).ev (.tmp t);simpa [Env.ev,Env.upd,Rep] using this
 have hE2:∀ v,RelE n ((a.put (some t) v).put (some s) v) ((e.upd t (.atom v)).upd s (.atom v)) w L:=λv=>(hE1 v).put (dst:=some s) (by simp only[qc4,dstB];exact hs) qai
 have h1:∀ v cs1,wpOpsS C.P #[⟨some t,.call { callee:=.builtin .recover,args:=#[],argTypes:=#[] },ty,pos,aft,none⟩,⟨some s,.assign (.tmp t),ty',pos',aft',none⟩] (λx a' cs' w'=>∃ u' e' H' L',cs'={ c0 with mode:=u' }::cs/\Fr (keys H) w L w' L' H'/\RelH C w' L' H'/\RelX n x a' e' w' L'/\Q x u' e' H') [1] (a.put (some t) v) cs1 w
   ↔ (λx a' cs' w'=>∃ u' e' H' L',cs'={ c0 with mode:=u' }::cs/\Fr (keys H) w L w' L' H'/\RelH C w' L' H'/\RelX n x a' e' w' L'/\Q x u' e' H') Exit.normal ((a.put (some t) v).put (some s) v) cs1 w:=by
  intro v cs1;have hr:(execOp (a.put (some t) v).eval ⟨some s,.assign (.tmp t),ty',pos',aft',none⟩).run C.P w=.ok (.value ((a.put (some t) v).eval (.tmp t))) w:=rfl;simp only[wpOpsS,List.getElem?_toArray,List.getElem?_cons_succ,List.getElem?_cons_zero,Region.wanted,if_true,hr,Oper.upon,hev]
 have h0:(execOp a.eval ⟨some t,.call { callee:=.builtin .recover,args:=#[],argTypes:=#[] },ty,pos,aft,none⟩).run C.P w=.ok .recover w:=qn7 w;have hl:List.range (#[(⟨some t,.call { callee:=.builtin .recover,args:=#[],argTypes:=#[] },ty,pos,aft,none⟩:Oper),⟨some s,.assign (.tmp t),ty',pos',aft',none⟩]:Array Oper).size=[0,1]:=rfl;rw[hl,wpOpsS];simp only[List.getElem?_toArray,List.getElem?_cons_zero,Region.wanted,if_true,h0];rcases qnT c0 cs with⟨h2,h3⟩|h2;simp only[h2];rw[h1];subst hu;rw[h3] at h;exact⟨c0.mode,_,H,L,rfl,Fr.refl _ _ _,hH,hE2 _,h⟩;simp only[h2];rw[h1];subst hu;exact⟨_,_,H,L,rfl,Fr.refl _ _ _,hH,hE2 _,h⟩
def qt6(R:FrameMode->Heap->Prop):qmU
 |.normal,u,e,H|.ret,u,e,H=>e.ds=[]/\∃ H',HSub H' H/\R u H'
 |_,_,_,_=>False
theorem qa6.intro{f:FuncId}{fn:Func}{c:Code}{args:List LV}{R:FrameMode->Heap->Prop}(hf:C.P.funcs[f]? = some fn)(hb:fn.body=some c)(hn:fn.ntmps=n)(h3:fn.results=#[])
  (hl:Nat.ble args.length n=true) (h:qdv C n c (qt6 R) u (qfB args) H):qa6 C f args u H R:=λvs w L hv hH=>by
 subst hn;have hl':args.length<=fn.ntmps:=by simpa using hl
 have hlen:=hv.length
 have hE0:RelE fn.ntmps { tmps:=vs.toArray++Array.replicate (fn.ntmps-vs.toArray.size) undef,defers:=[] } (qfB args) w L:=by
  refine⟨?_,rfl,λi=>?_⟩
  simp;omega
  exact zT0
 refine callsD_of_wpS hf hb λc0 cs hu=>qmc (h _ w L c0 cs hu hE0 hH) λex a' cs' w' hq=>?_;obtain⟨u',e',H',L',rfl,g1,g2,g3,g4⟩:=hq
 have fin:RelE fn.ntmps a' e' w' L'->(e'.ds=[]/\∃ H'',HSub H'' H'/\R u' H'')->a'.defers=[]/\∃ u'',({ c0 with mode:=u' }::cs:List Frame)={ c0 with mode:=u'' }::cs/\∃ v,(results fn a'.tmps).run C.P w'=.ok v w'/\(∃ v',Ending.returned v=.returned v')/\qfg C w L H w' (R u''):=λhE ⟨h1,H'',h2,h4⟩=>
  ⟨hE.ds.trans h1,u',rfl,_,qpe h3 _ _,⟨_,rfl⟩,H'',L',g1.weak h2,g2.weak h2,h4⟩
 cases ex with
 |normal=>exact fin g3 g4
 |ret=>exact fin g3 g4
 |panic ch=>exact g4.elim
 |exit id=>exact g4.elim
 |goto id=>exact g4.elim
 |outgrown=>exact g4.elim
end S
section defer
variable{C:Ctx}{n:Nat}{ops:Array Oper}{Q:Post}{e:Env}{H:Heap}
theorem qb2.defer{dst:Option Nat}{fo:Operand}{f:FuncId}{caps:Array Value}{ty:TypeId}{pos:String}{aft:Array Edge}{rest:List Oper}(hf:e.ev fo=.atom (.func (.func f) #[] caps))(hd:dst=none)
  (k:qb2 C n ops Q rest ⟨e.s,{ target:=.fn (.func f) caps,args:=#[] }::e.ds⟩ H):qb2 C n ops Q (⟨dst,.defer { callee:=.value fo,args:=#[],argTypes:=#[] },ty,pos,aft,none⟩::rest) e H:=λa w L hE hH=>by
 subst hd;have hv:=hE.ev fo;rw[hf] at hv;simp only[Rep] at hv
 have hr:(execOp a.eval ⟨none,.defer { callee:=.value fo,args:=#[],argTypes:=#[] },ty,pos,aft,none⟩).run C.P w=.ok (.defer { target:=.fn (.func f) caps,args:=#[] }) w:=by
  have h3:execOp a.eval ⟨none,.defer { callee:=.value fo,args:=#[],argTypes:=#[] },ty,pos,aft,none⟩=(do let d <-Deferred.ofValue (a.eval fo) ((#[]:Array Operand).map a.eval);Pure.pure (.defer d)):=rfl;rw[h3,hv];simp only[Deferred.ofValue,map_toArray,map_nil];rfl
 unfold wpList;rw[if_pos (by simp[Region.wanted])];refine .inl ?_;unfold Oper.wp;rw[hr];simp only[Oper.upon,Act.put];exact k _ w L ⟨hE.size,by show _::a.defers=_;rw[hE.ds],hE.vals⟩ hH
end defer
section
variable{C:Ctx}{e:Env}{H:Heap}{x y:Operand}{dst:Option Nat}{ty:TypeId}{pos:String}{aft:Array Edge}{g:Option (Nat×Bool)}{K:LV->Heap->Prop}{X:List PanicEntry->Heap->Prop}
theorem qad.appBL{sT xT el bytes:Nat} [ht:TSlice C.P sT el 1] [hr:TRow C.P el 1 bytes]{e2:Nat} [hx2:TSlice C.P xT e2 1]{v:Value}{l m:List UInt8}
  (hx:e.ev x=.atom v) (ha:BRow el v l H) (hy:GL.elems (e.ev y)=some (byts m)) (hm0:m≠[]) (hroom:(l.length+m.length) * bytes<=140737488355328)
  (hk:∀ v' H',BRow el v' (l++m) H'->K (.atom v') H'):qad C ⟨dst,.call { callee:=.builtin .append,args:=#[x,y],argTypes:=#[sT,xT] },ty,pos,aft,g⟩ e H K X:=by
 have h0:∀ (cs:Array Bool) (args:Array Value),builtin .append #[sT,xT] ty cs args=(do Pure.pure (.value (<-Builtin.append_ #[sT,xT] ty args))):=λ_ _=>rfl
 cases ha with
 |nil=>
  by_cases hne:m=[]
  subst hne;exact absurd rfl hm0;intro ρ w L h hH;have hpos:0<m.length:=List.length_pos_iff.2 hne;obtain⟨ay,cy,xs0,hyv,hyc,hyr,hyl,hyf⟩:=qcI (s:=1) (h y) hy (qmq m);rw[qnu] at hyr;have hyx:xs0=bytV m:=qcq (zs:=bytV m) (by rw[show(bytV m).map LV.atom=byts m from by simp[bytV,byts,map_map,Function.comp_def]];exact hyr);subst hyx;rw[qhi] at hyv hyc hyf;rw[hyv] at hyf;have hlen:∀ w':World,(Builtin.lenOf (.slice ay m.length cy)).run C.P w'=.ok m.length w':=λw'=>by simp[Builtin.lenOf]
  obtain⟨cap',rest,r1,r2,r3⟩:=qbA (ty:=ty) (P:=C.P) (w:=w) (sT:=sT) (xT:=xT) (a:=none) (len:=0) (cap:=0) (n:=m.length) (xv:=.slice ay m.length cy) (old:=[]) (new:=bytV m) (.inr ⟨_,hx2.und⟩) hlen (λw' hw=>hyf C.P w' hw)
   (λw' _=>by simp[Builtin.firstCells]) (by simpa using hroom) zo
  rw[qax,h0];simp only[map_toArray,zMc,map_nil,Sem.run_bind,qah h hx,hyv,r3,Result.andThen_ok,Sem.run_pure,nil_append,zero_add];have hcl:(bytV m++rest).length=cap':=by rw[zLa,r2,qbJ];omega
  obtain⟨lv,H',L',g1,g2,g3,g4⟩:=qgU (K:=K) (el:=el) (l:=m) (xs:=bytV m++rest) hH.drew hne (by rw[hcl];omega) (by rw[take_left' (qbJ m)]) (λv' H' h'=>hk v' H' h');rw[hcl] at g3
  exact⟨lv,H',L',g1.of_drew,g2,g3,g4⟩
 |row hne h1 h2=>
  rename_i b xs
  intro ρ w L h hH;obtain⟨hb0,hbs,hl,zs,hz1,hz2⟩:=hH.objs _ (List.mem_singleton.2 rfl);have hz:=qcq hz2;subst hz;simp only at hb0 hbs hl hz1;obtain⟨ay,cy,xs0,hyv,hyc,hyr,hyl,hyf⟩:=qcI (s:=1) (h y) hy (qmq m);rw[qnu] at hyr;have hyx:xs0=bytV m:=qcq (zs:=bytV m) (by rw[show(bytV m).map LV.atom=byts m from by simp[bytV,byts,map_map,Function.comp_def]];exact hyr);subst hyx;rw[qhi] at hyv hyc hyf;rw[hyv] at hyf;have hlen:∀ w':World,(Builtin.lenOf (.slice ay m.length cy)).run C.P w'=.ok m.length w':=λw'=>by simp[Builtin.lenOf]
  rw[qax,h0];simp only[map_toArray,zMc,map_nil,Sem.run_bind,qah h hx,hyv]
  by_cases hc:l.length+m.length<=zs.length
  have hrun:=qdC (ty:=ty) (P:=C.P) (w:=w) (sT:=sT) (xT:=xT) (s:=1) (a:=some ⟨b,0,none⟩) (len:=l.length) (cap:=zs.length) (n:=m.length) (xv:=.slice ay m.length cy) (new:=bytV m) (.inr ⟨_,hx2.und⟩) hlen (λw' hw=>hyf C.P w' hw) hc;obtain⟨w',r1,r2,r3,r4,r5,r6,r7⟩:=qcg (P:=C.P) (b:=b) (off:=0+l.length * 1) (t:=el) (fr:=(0,0)) (bytV m) 0 w zs hz1 (by rw[qbJ];omega) (λj _ _=>by simp) (qmH m);rw[hrun];simp only[add_mk,r1,Result.andThen_ok,Sem.run_pure]
  have hx':(zs.take (0+l.length * 1+0)++bytV m++zs.drop (0+l.length * 1+0+(bytV m).length)).length=zs.length:=by
   simp only[zLa,length_take,length_drop,qbJ];omega
  have hfin:=qeP (v:=.slice (some ⟨b,0,none⟩) (l.length+m.length) zs.length) (lv:=.atom (.slice (some ⟨b,0,none⟩) (l.length+m.length) zs.length)) (K:=K) (cs':=(zs.take (0+l.length * 1+0)++bytV m++zs.drop (0+l.length * 1+0+(bytV m).length)).map .atom) hH r2 r3 r4 r5 r6 r7 (by rw[hx',zLm]) (qa0 _) qai (by
   have hb:BRow el (.slice (some ⟨b,0,none⟩) (l++m).length (zs.take (0+l.length * 1+0)++bytV m++zs.drop (0+l.length * 1+0+(bytV m).length)).length) (l++m) _:=BRow.row (b:=b) (el:=el) (by simp[hne]) (by rw[hx',zLa];exact hc) (by
    have he:0+l.length * 1+0=l.length:=by omega
    rw[he,h2,<-qiY,take_left' (qbJ _)])
   rw[hx',zLa] at hb
   exact hk _ _ hb)
  exact hfin
  have hold:∀ w':World,w'.heap=w.heap->(Builtin.firstCells 1 l.length (.slice (some ⟨b,0,none⟩) l.length zs.length)).run C.P w'=.ok (bytV l).toArray w':=λw' hw=>by
   have:=qbD (P:=C.P) (w:=w') (b:=b) (off:=0) l.length 0 #[] (bytV l) (qbJ l) (λj x' hj=>by
    have hj':zs[j]? = some x':=by
     rw[<-h2,List.getElem?_take] at hj;split at hj;exact hj;cases hj
    simp[World.cell?,hw,hz1,hj'])
   simp only[Builtin.firstCells,loadCells,Nat.mul_one,this]
   simp
  obtain⟨cap',rest,r1,r2,r3⟩:=qbA (ty:=ty) (P:=C.P) (w:=w) (sT:=sT) (xT:=xT) (a:=some ⟨b,0,none⟩) (len:=l.length) (cap:=zs.length) (n:=m.length) (xv:=.slice ay m.length cy) (old:=bytV l) (new:=bytV m) (.inr ⟨_,hx2.und⟩) hlen (λw' hw=>hyf C.P w' hw) hold hroom zo;rw[r3];simp only[Result.andThen_ok,Sem.run_pure];have hcl:(bytV l++bytV m++rest).length=cap':=by rw[zLa,zLa,r2,qbJ,qbJ];omega
  have hH0:RelH C w L []:=hH.sub (nil_sublist _);obtain⟨lv,H',L',g1,g2,g3,g4⟩:=qgU (K:=K) (el:=el) (l:=l++m) (xs:=bytV l++bytV m++rest) hH0.drew (by simp[hne]) (by rw[hcl,zLa];omega) (by rw[<-qiY,take_left' (qbJ _)]) (λv' H' h'=>hk v' H' h');rw[hcl,zLa] at g3;exact⟨lv,H',L',g1.of_drew.wide (by simp),g2,g3,g4⟩
theorem S.appBL1{sT xT el bytes:Nat} [ht:TSlice C.P sT el 1] [hr:TRow C.P el 1 bytes]{e2:Nat} [hx2:TSlice C.P xT e2 1]{v:Value}{l m:List UInt8}{H1:Heap}{q:Nat×LObj}
  (hx:e.ev x=.atom v) (ha:BRow el v l H1) (hy:GL.elems (e.ev y)=some (byts m)) (hm0:m≠[]) (hroom:(l.length+m.length) * bytes<=140737488355328)
  (hk:∀ v' H',BRow el v' (l++m) H'->K (.atom v') (q::H')):qad C ⟨dst,.call { callee:=.builtin .append,args:=#[x,y],argTypes:=#[sT,xT] },ty,pos,aft,g⟩ e (q::H1) K X:=by
 refine qad.conseq (K:=λlv H'=>∃ v' H2,lv=.atom v'/\H'=H2++[q]/\BRow el v' (l++m) H2) (qad.frame (List.perm_append_singleton _ _).symm (qad.appBL hx ha hy hm0 hroom λv' H' h=>⟨v',H',rfl,rfl,h⟩)) ?_;rintro lv H' ⟨v',H2,rfl,rfl,h⟩;exact⟨_,[q]++H2,vR _,⟨[],by simp⟩,hk _ _ h⟩
theorem Pure.blen{t el el2 s:Nat} [TSlice C.P t el2 s]{v:Value}{l:List UInt8}{Hv:Heap}(hx:e.ev x=.atom v)(ha:BRow el v l Hv):Pure C ⟨dst,.call { callee:=.builtin .len,args:=#[x],argTypes:=#[t] },ty,pos,aft,g⟩ e H (int .i64 l.length):=
 .of_any λρ _ _ h=>⟨_,qai,λw'=>by
  have hu:=qaa (P:=C.P) (TSlice.und (t:=t)) w';rw[qax,qet]
  cases ha <;> simp[Builtin.len_,hu,goInt,qah h hx]⟩
end
variable{C:Ctx}{dst:Option Nat}{ty:TypeId}{pos:String}{aft:Array Edge}{g:Option (Nat×Bool)}{e:Env}{H:Heap}{K:LV->Heap->Prop}{X:List PanicEntry->Heap->Prop}
theorem S.setPut{t kt el:TypeId}(ht:C.P.underlying t=some (.map kt el))(hkt:C.P.underlying kt=some .string){b clock:Nat}{es:Array MapEntry}{p:List UInt8->Bool}{F:Heap}{m z:Operand}{x:Operand}{k:List UInt8}(hm:e.ev m=.atom (.map (some b)))(hx:e.ev x=str k)(hz:e.ev z=bool true)
  (hp:Pick (b,.obj (.map es clock)) H F) (hs:SetMap es p) (hk:∀ es' clock',SetMap es' (λs=>p s || decide (s=k))->K (.atom undef) ((b,.obj (.map es' clock'))::F)):qad C ⟨dst,.mapUpdate t m x z,ty,pos,aft,g⟩ e H K X:=
 λρ w L h hH=>(S.setAdd (dst:=dst) (ty:=ty) (pos:=pos) (aft:=aft) (g:=g) (X:=X) ht hkt hm hx hz hp hs hk) ρ w L h hH
theorem qt4{P:Program}{fn:Func}{r s t q:ResultVar}(h:fn.results=#[r,s,t,q]){tmps:Array Value}{w:World}{v u x y:Value}(h1:(qbj tmps r).run P w=.ok v w)(h2:(qbj tmps s).run P w=.ok u w)(h3:(qbj tmps t).run P w=.ok x w)(h4:(qbj tmps q).run P w=.ok y w) :
  (results fn tmps).run P w=.ok (.tuple #[v,u,x,y]) w:=by
 have:results fn tmps=(do let v <-qbj tmps r;let u <-qbj tmps s;let x <-qbj tmps t;let y <-qbj tmps q;Pure.pure (.tuple #[v,u,x,y])):=by
  cases r <;> cases s <;> cases t <;> cases q <;> simp[results,h,qbj]
 rw[this,qdJ h1,qdJ h2,qdJ h3,qdJ h4]
 try rfl
theorem qnL{C:Ctx}{n:Nat}{fn:Func}{e:Env}{H:Heap}{a:Act}{w:World}{L:Live}(hE:RelE n a e w L)(hH:RelH C w L H){vs:List LV}
  (h:qbT C n e H fn.results.toList vs) (h3:fn.results.size=4):∃ v,(results fn a.tmps).run C.P w=.ok v w/\Rep w L (qbG vs) v:=by
 obtain⟨rs,hrs⟩:∃ rs,fn.results=List.toArray rs:=⟨fn.results.toList,by simp⟩;rw[hrs] at h h3;simp only[List.size_toArray] at h h3
 match rs,vs,h,h3,hrs with
 |[r,s,t,q],[x,y,z,o],h,_,hrs=>
  obtain⟨v1,g1,r1⟩:=h.1 a w L hE hH;obtain⟨v2,g2,r2⟩:=h.2.1 a w L hE hH;obtain⟨v3,g3,r3⟩:=h.2.2.1 a w L hE hH;obtain⟨v4,g4,r4⟩:=h.2.2.2.1 a w L hE hH
  exact⟨_,qt4 hrs g1 g2 g3 g4,by simp only[qbG,Rep];exact⟨[v1,v2,v3,v4],rfl,by simp only[RepL];exact⟨v1,_,rfl,r1,v2,_,rfl,r2,v3,_,rfl,r3,v4,_,rfl,r4,rfl⟩⟩⟩
 |[_,_,_,_],[],h,_,_=>exact h.elim
 |[_,_,_,_],[_],h,_,_=>exact h.2.elim
 |[_,_,_,_],[_,_],h,_,_=>exact h.2.2.elim
 |[_,_,_,_],[_,_,_],h,_,_=>exact h.2.2.2.elim
 |[_,_,_,_],_::_::_::_::_::_,h,_,_=>exact h.2.2.2.2.elim
theorem LCalls.intro4{C:Ctx}{f:FuncId}{fn:Func}{c:Code}{n:Nat}{args:List LV}{H:Heap}{R:LRes->Heap->Prop}(hf:C.P.funcs[f]? = some fn)(hb:fn.body=some c)(hn:fn.ntmps=n)(h3:Nat.beq fn.results.size 4=true)
  (hl:Nat.ble args.length n=true) (h:qag C n c (qac C n fn.results.toList R) (qfB args) H):LCalls C f args H R:=λvs w L hv hH=>by
 subst hn;have hl':args.length<=fn.ntmps:=by simpa using hl
 have h3':fn.results.size=4:=Nat.eq_of_beq_eq_true h3;have hlen:=hv.length;refine calls_of_wp hf hb (Go.wp_mono (h _ w L ⟨?_,rfl,λi=>?_⟩ hH) λex a' w' hq=>?_)
 simp;omega
 exact zT0;obtain⟨e',H',L',g1,g2,g3,g4⟩:=hq
 have ret:RelE fn.ntmps a' e' w' L'->(e'.ds=[]/\∃ vs H'',qbT C fn.ntmps e' H' fn.results.toList vs/\HSub H'' H'/\R (.ret (qbG vs)) H'') ->
   a'.defers=[]/\∃ v,(results fn a'.tmps).run C.P w'=.ok v w'/\qcE C w L H (λv=>R (.ret v)) (λch=>R (.panic ch)) (.returned v) w':=λhE hr=>by
  obtain⟨h1,vs',H'',h2,h4,h5⟩:=hr;obtain⟨v,r1,r2⟩:=qnL hE g2 h2 h3';exact⟨hE.ds.trans h1,v,r1,qbG vs',H'',L',g1.weak h4,g2.weak h4,r2,h5⟩
 cases ex with
 |normal=>exact ret g3 g4
 |ret=>exact ret g3 g4
 |panic ch=>
  obtain⟨h1,H'',h4,h5⟩:=g4
  exact⟨g3.trans h1,H'',L',g1.weak h4,g2.weak h4,h5⟩
 |exit id=>exact g4.elim
 |goto id=>exact g4.elim
 |outgrown=>exact g4.elim
inductive MRow (el:TypeId) (s:Nat):Value->List LV->Heap->Prop
 |nil:MRow el s (.slice none 0 0) [] []
 |row {b cap:Nat} {es spare:List LV} (hs:∀ v∈es,v.cells.length=s) (hc:es.length<=cap) (hl:es.length * s+spare.length=cap * s) :
   MRow el s (.slice (some ⟨b,0,none⟩) es.length cap) es [(b,.cells el (es.flatMap LV.cells++spare))]
section
variable{C:Ctx}{e:Env}{H:Heap}{x y:Operand}{dst:Option Nat}{ty:TypeId}{pos:String}{aft:Array Edge}{g:Option (Nat×Bool)}{K:LV->Heap->Prop}{X:List PanicEntry->Heap->Prop}
theorem qnD{w:World}{L:Live}(hH:RelH C w L []){el s cap:Nat}{es:List LV}{xs rest:List Value}(hr:RepL w L (es.flatMap LV.cells) xs)(hs:∀ v∈es,v.cells.length=s)(hc:es.length<=cap)(hl:es.length * s+rest.length=cap * s)
  (hk:∀ v' H',MRow el s v' es H'->K (.atom v') H') :
  Left C w L [] (World.push w (.cells (xs++rest).toArray el)) (.slice (some ⟨w.heap.size,0,none⟩) es.length cap) K:=by
 have hx:=qeo hH.wf (.cells (xs++rest).toArray el) 0
 have:=qey hH (.cells (xs++rest).toArray el) 0 [(w.heap.size,.cells el (es.flatMap LV.cells++rest.map .atom))] (λp hp=>by
  simp only[List.mem_singleton] at hp;subst hp
  exact⟨rfl,by simp[Live.upd],xs++rest,qaE,RepL.append (hr.mono hx _ _) (qa0 rest)⟩) (by simp)
 exact⟨.atom _,_,_,this.1,this.2,qai,hk _ _ (MRow.row hs hc (by simpa using hl))⟩
theorem qad.appM{sT xT el s bytes:Nat} [ht:TSlice C.P sT el s] [hr:TRow C.P el s bytes]{e2 s2:Nat} [hx2:TSlice C.P xT e2 s2]{v:Value}{es ms:List LV}
  (hx:e.ev x=.atom v) (ha:MRow el s v es H) (hy:GL.elems (e.ev y)=some ms) (hms:∀ v∈ms,v.cells.length=s) (hok:(ms.flatMap LV.cells).all qc1=true) (hroom:(es.length+ms.length) * bytes<=140737488355328)
  (hk:∀ v' H',MRow el s v' (es++ms) H'->K (.atom v') H'):qad C ⟨dst,.call { callee:=.builtin .append,args:=#[x,y],argTypes:=#[sT,xT] },ty,pos,aft,g⟩ e H K X:=by
 have h0:∀ (cs:Array Bool) (args:Array Value),builtin .append #[sT,xT] ty cs args=(do Pure.pure (.value (<-Builtin.append_ #[sT,xT] ty args))):=λ_ _=>rfl
 cases ha with
 |nil=>
  by_cases hne:ms=[]
  subst hne;exact qad.appendNilNil rfl ⟨e2,hx2.und⟩ hx hy (hk _ _ MRow.nil);intro ρ w L h hH;have hpos:0<ms.length:=List.length_pos_iff.2 hne;obtain⟨ay,cy,new,hyv,hyc,hyr,hyl,hyf⟩:=qcI (s:=s) (h y) hy hms;rw[hyv] at hyf;have hlen:∀ w':World,(Builtin.lenOf (.slice ay ms.length cy)).run C.P w'=.ok ms.length w':=λw'=>by simp[Builtin.lenOf]
  obtain⟨cap',rest,r1,r2,r3⟩:=qbA (ty:=ty) (P:=C.P) (w:=w) (sT:=sT) (xT:=xT) (a:=none) (len:=0) (cap:=0) (n:=ms.length) (xv:=.slice ay ms.length cy) (old:=[]) (new:=new) (.inr ⟨_,hx2.und⟩) hlen (λw' hw=>hyf C.P w' hw)
   (λw' _=>by simp[Builtin.firstCells]) (by simpa using hroom) zo
  rw[qax,h0];simp only[map_toArray,zMc,map_nil,Sem.run_bind,qah h hx,hyv,r3,Result.andThen_ok,Sem.run_pure,nil_append,zero_add]
  obtain⟨lv,H',L',g1,g2,g3,g4⟩:=qnD (K:=K) (el:=el) (es:=ms) (cap:=cap') (xs:=new) (rest:=rest) hH.drew (hyr.mono (qee w L) _ _) hms zo (by
   rw[r2,<-add_mul];congr 1;omega) (λv' H' h'=>hk v' H' h')
  exact⟨lv,H',L',g1.of_drew,g2,g3,g4⟩
 |row hs hc hl=>
  rename_i b cap spare
  intro ρ w L h hH;obtain⟨hb0,hbs,hlb,zs,hz1,hz2⟩:=hH.objs _ (List.mem_singleton.2 rfl);simp only at hb0 hbs hlb hz1;obtain⟨ay,cy,new,hyv,hyc,hyr,hyl,hyf⟩:=qcI (s:=s) (h y) hy hms;rw[hyv] at hyf;have hlen:∀ w':World,(Builtin.lenOf (.slice ay ms.length cy)).run C.P w'=.ok ms.length w':=λw'=>by simp[Builtin.lenOf]
  have hfl:(es.flatMap LV.cells).length=es.length * s:=qc9 hs;have hzl:zs.length=es.length * s+spare.length:=by rw[hz2.length,zLa,hfl]
  have hzt:RepL w L (es.flatMap LV.cells) (zs.take (es.length * s)):=by
   have:=hz2.take (es.length * s)
   rwa [take_left' hfl] at this
  rw[qax,h0];simp only[map_toArray,zMc,map_nil,Sem.run_bind,qah h hx,hyv]
  by_cases hcc:es.length+ms.length<=cap
  have hrun:=qdC (ty:=ty) (P:=C.P) (w:=w) (sT:=sT) (xT:=xT) (s:=s) (a:=some ⟨b,0,none⟩) (len:=es.length) (cap:=cap) (n:=ms.length) (xv:=.slice ay ms.length cy) (new:=new) (.inr ⟨_,hx2.und⟩) hlen (λw' hw=>hyf C.P w' hw) hcc;have hmul:(es.length+ms.length) * s<=cap * s:=Nat.mul_le_mul_right _ hcc;rw[add_mul] at hmul;obtain⟨w',r1,r2,r3,r4,r5,r6,r7⟩:=qcg (P:=C.P) (b:=b) (off:=0+es.length * s) (t:=el) (fr:=(0,0)) new 0 w zs hz1 zo (λj _ _=>by simp) (qiT hyr hok);rw[hrun];simp only[add_mk,r1,Result.andThen_ok,Sem.run_pure];have he:0+es.length * s+0=es.length * s:=by omega
  rw[he] at r7;have hnl:new.length=ms.length * s:=hyl
  have hdr:RepL w L (spare.drop (ms.length * s)) (zs.drop (es.length * s+new.length)):=by
   have:=hz2.drop (es.length * s+new.length)
   rwa [List.drop_append,List.drop_eq_nil_of_le zo,nil_append,hfl,show es.length * s+new.length-es.length * s=ms.length * s by omega] at this
  refine qeP (v:=.slice (some ⟨b,0,none⟩) (es.length+ms.length) cap) (lv:=.atom (.slice (some ⟨b,0,none⟩) (es.length+ms.length) cap)) (K:=K) (cs':=es.flatMap LV.cells++ms.flatMap LV.cells++spare.drop (ms.length * s)) hH r2 r3 r4 r5 r6 r7 ?_ (RepL.append (RepL.append hzt hyr) hdr) qai ?_;simp only[zLa,length_take,length_drop,hfl];omega
  have hb:MRow el s (.slice (some ⟨b,0,none⟩) (es++ms).length cap) (es++ms) [(b,.cells el ((es++ms).flatMap LV.cells++spare.drop (ms.length * s)))]:=MRow.row (λv hv=>by
    rcases List.mem_append.1 hv with hv|hv;exact hs v hv;exact hms v hv) (by rw[zLa];exact hcc) (by
    rw[zLa,length_drop,add_mul]
    omega)
  rw[zLa,List.flatMap_append] at hb;exact hk _ _ hb
  have hold:∀ w':World,w'.heap=w.heap->(Builtin.firstCells s es.length (.slice (some ⟨b,0,none⟩) es.length cap)).run C.P w'=.ok (zs.take (es.length * s)).toArray w':=λw' hw=>by
   have:=qbD (P:=C.P) (w:=w') (b:=b) (off:=0) (es.length * s) 0 #[] (zs.take (es.length * s)) (by rw[length_take];omega) (λj x' hj=>by
    have hj':zs[j]? = some x':=by
     rw[List.getElem?_take] at hj;split at hj;exact hj;cases hj
    simp[World.cell?,hw,hz1,hj'])
   simp only[Builtin.firstCells,loadCells,this]
   simp
  obtain⟨cap',rest,r1,r2,r3⟩:=qbA (ty:=ty) (P:=C.P) (w:=w) (sT:=sT) (xT:=xT) (a:=some ⟨b,0,none⟩) (len:=es.length) (cap:=cap) (n:=ms.length) (xv:=.slice ay ms.length cy) (old:=zs.take (es.length * s)) (new:=new) (.inr ⟨_,hx2.und⟩) hlen (λw' hw=>hyf C.P w' hw) hold hroom zo;rw[r3];simp only[Result.andThen_ok,Sem.run_pure];have hH0:RelH C w L []:=hH.sub (nil_sublist _)
  obtain⟨lv,H',L',g1,g2,g3,g4⟩:=qnD (K:=K) (el:=el) (s:=s) (es:=es++ms) (cap:=cap') (xs:=zs.take (es.length * s)++new) (rest:=rest) hH0.drew (by
    rw[List.flatMap_append];exact(RepL.append hzt hyr).mono (qee w L) _ _) (λv hv=>by
    rcases List.mem_append.1 hv with hv|hv;exact hs v hv;exact hms v hv) (by rw[zLa];omega) (by
    rw[r2,zLa,<-add_mul];congr 1;omega) (λv' H' h'=>hk v' H' h')
  rw[zLa] at g3;exact⟨lv,H',L',g1.of_drew.wide (by simp),g2,g3,g4⟩
theorem S.appM{sT xT el s bytes:Nat} [ht:TSlice C.P sT el s] [hr:TRow C.P el s bytes]{e2 s2:Nat} [hx2:TSlice C.P xT e2 s2]{v:Value}{es ms:List LV}{HM F:Heap}
  (hx:e.ev x=.atom v) (hp:H.Perm (HM++F)) (ha:MRow el s v es HM) (hy:GL.elems (e.ev y)=some ms) (hms:∀ v∈ms,v.cells.length=s) (hok:(ms.flatMap LV.cells).all qc1=true) (hroom:(es.length+ms.length) * bytes<=140737488355328)
  (hk:∀ v' H',MRow el s v' (es++ms) H'->K (.atom v') (F++H')):qad C ⟨dst,.call { callee:=.builtin .append,args:=#[x,y],argTypes:=#[sT,xT] },ty,pos,aft,g⟩ e H K X:=by
 refine qad.conseq (K:=λlv H'=>∃ v' H2,lv=.atom v'/\H'=H2++F/\MRow el s v' (es++ms) H2) (qad.frame hp (qad.appM hx ha hy hms hok hroom λv' H' h=>⟨v',H',rfl,rfl,h⟩)) ?_;rintro lv H' ⟨v',H2,rfl,rfl,h⟩;exact⟨_,F++H2,vR _,⟨[],by simpa using zPc⟩,hk _ _ h⟩
theorem Pure.mlen{t el el2 s s2:Nat} [TSlice C.P t el2 s2]{v:Value}{es:List LV}{Hv:Heap}(hx:e.ev x=.atom v)(ha:MRow el s v es Hv):Pure C ⟨dst,.call { callee:=.builtin .len,args:=#[x],argTypes:=#[t] },ty,pos,aft,g⟩ e H (int .i64 es.length):=by
 cases ha with
 |nil=>exact Pure.rowLen (m:=0) hx
 |row=>exact Pure.rowLen hx
end
theorem qtF(P:List LV):∀ (Q:List LV) (f:Nat) (vs:List LV),setL (P++Q) (P.length+f) vs=P++setL Q f vs:=by
 induction P with
 |nil=>intro Q f vs;simp
 |cons p P ih=>
  intro Q f vs;have:(p::P).length+f=(P.length+f)+1:=by simp only[zLc];omega
  rw[this];show setL (p::(P++Q)) (P.length+f+1) vs=_;rw[setL,ih]
  try rfl
section
variable{C:Ctx}{e:Env}{H:Heap}{x y:Operand}{dst:Option Nat}{ty:TypeId}{pos:String}{aft:Array Edge}{g:Option (Nat×Bool)}{K:LV->Heap->Prop}{X:List PanicEntry->Heap->Prop}
theorem MRow.addr{el s:Nat}{v:Value}{es:List LV}{HM:Heap}(h:MRow el s v es HM)(hne:es≠[]):∃ b cap spare,v=.slice (some ⟨b,0,none⟩) es.length cap/\HM=[(b,.cells el (es.flatMap LV.cells++spare))]/\es.length<=cap/\es.length * s+spare.length=cap * s:=by
 cases h with
 |nil=>exact absurd rfl hne
 |row hs hc hl=>exact⟨_,_,_,rfl,rfl,hc,hl⟩
end
section settle
variable{C:Ctx}{n:Nat}{Q:Post}{e:Env}{H F:Heap}
end settle
section
variable{C:Ctx}{e:Env}{H:Heap}{x y:Operand}{dst:Option Nat}{ty:TypeId}{pos:String}{aft:Array Edge}{g:Option (Nat×Bool)}{K:LV->Heap->Prop}{X:List PanicEntry->Heap->Prop}
theorem Pure.indexRowE{t el s:Nat} [ht:TSlice C.P t el s]{b off m cap o:Nat}{n:Int}{k:IntKind}(hx:e.ev x=.atom (.slice (some ⟨b,off,none⟩) m cap))(hy:e.ev y=int k n)(h0:0<=n)(hn:n<m)(ho:off+n.toNat * s=o) :
  Pure C ⟨dst,.indexAddr t x y,ty,pos,aft,g⟩ e H (ptr b o):=ho▸Pure.indexRow hx hy h0 hn
theorem Pure.lsliceE{t el s:Nat}{lo hi:Option Operand}{es ms:List LV}{i j:Int} [ht:TSlice C.P t el s](hx:elems (e.ev x)=some es)
  (hlo:qeT e lo 0 i) (hhi:qeT e hi es.length j) (h0:0<=i) (h1:i<=j) (h2:j<=es.length) (hs:∀ v∈es,v.cells.length=s) (he:(es.take j.toNat).drop i.toNat=ms) :
  Pure C ⟨dst,.slice t x lo hi none,ty,pos,aft,g⟩ e H (.list ms):=he▸Pure.lslice hx hlo hhi h0 h1 h2 hs
end
theorem MRow.of_cells{el b m cap:Nat}{es spare:List LV}(hs:∀ v∈es,v.cells.length=1)(hf:es.flatMap LV.cells=es)(hm:es.length=m)(hc:m<=cap)(hl:m+spare.length=cap) :
  MRow el 1 (.slice (some ⟨b,0,none⟩) m cap) es [(b,.cells el (es++spare))]:=by
 subst hm;have:=MRow.row (el:=el) (s:=1) (b:=b) (cap:=cap) (es:=es) (spare:=spare) hs hc zo
 rwa [hf] at this
section
variable{C:Ctx}{n:Nat}{Q:Post}{e:Env}{H F:Heap}
end
section
variable{C:Ctx}{e:Env}{H:Heap}{dst:Option Nat}{ty:TypeId}{pos:String}{aft:Array Edge}{g:Option (Nat×Bool)}{K:LV->Heap->Prop}{X:List PanicEntry->Heap->Prop}{x y:Operand}
theorem qfw{P:Program}{kt:TypeId}{kd k:IntKind}{n:Int}(hkt:P.underlying kt=some (.int kd))(b:Bool)(w:World):(Instr.checkKey b 10000 kt (.int k n)).run P w=.ok () w:=by
 have hck:Instr.checkKey b 10000 kt (.int k n)=Instr.checkKey b (9999+1) kt (.int k n):=rfl;rw[hck,Instr.checkKey];simp only[Sem.run_bind,qaa hkt,Result.andThen_ok,Sem.run_pure]
theorem S.insertK{t kt el:TypeId}{kd k:IntKind}(ht:C.P.underlying t=some (.map kt el))(hkt:C.P.underlying kt=some (.int kd)){b clock:Nat}{es es':Array MapEntry}{F:Heap}{m z:Operand}{n:Int}{v:Value}(hm:e.ev m=.atom (.map (some b)))(hx:e.ev x=int k n)(hz:e.ev z=.atom v)
  (hp:Pick (b,.obj (.map es clock)) H F) (hnew:Instr.findNow (.int kd) (.int k n) es.toList 0=some none) (he:es.push { key:=.int k n,val:=v,born:=clock }=es') (hk:K (.atom undef) ((b,.obj (.map es' (clock+1)))::F)):qad C ⟨dst,.insert t m x z,ty,pos,aft,g⟩ e H K X:=by
 subst he;refine qad.at1 hp λρ w L h hH=>?_;obtain⟨hb0,hbs,hl,hx1,hx2⟩:=hH.objs _ (List.mem_singleton.2 rfl);simp only at hb0 hbs hl hx1 hx2;have h3:execOp ρ ⟨dst,.insert t m x z,ty,pos,aft,g⟩=(do Instr.mapUpdate t (ρ m) (ρ x) (ρ z);Pure.pure .skip):=rfl
 have hf:(Instr.findKey kt (.int k n) es.toList).run C.P w=.ok none w:=by
  simp only[Instr.findKey,Sem.run_bind,qaa hkt,Result.andThen_ok,hnew,Sem.run_pure]
 have hc:=qfw (P:=C.P) (n:=n) (k:=k) hkt false w;have hg:(getObj b).run C.P w=.ok (.map es clock) w:=by simp only[getObj,Sem.run,hx1]
 rw[h3,qah h hm,qah h hx,qah h hz];simp only[Instr.mapUpdate,Sem.run_bind,qaa ht,Result.andThen_ok,hg,hc,hf];have hs:(setObj b (.map (es.push { key:=.int k n,val:=v,born:=clock }) (clock+1))).run C.P w=.ok () (setW w b (.map (es.push { key:=.int k n,val:=v,born:=clock }) (clock+1))):=qeK hx1 rfl;rw[hs];exact qhu (w':=setW w b (.map (es.push { key:=.int k n,val:=v,born:=clock }) (clock+1))) hH rfl rfl rfl rfl (by simp[setW]) (λc hc=>qdU hc) (qeG hbs) (λ_=>qai) hk
end
section
variable{C:Ctx}{e:Env}{H:Heap}{dst:Option Nat}{ty:TypeId}{pos:String}{aft:Array Edge}{g:Option (Nat×Bool)}{x y:Operand}
theorem Pure.lookupHit2{t kt el:TypeId}{kd k:IntKind}(ht:C.P.underlying t=some (.map kt el))(hkt:C.P.underlying kt=some (.int kd)){b clock j:Nat}{es:Array MapEntry}{n:Int}{v:Value}(hm:e.ev x=.atom (.map (some b)))(hx:e.ev y=int k n)
  (hb:(b,LObj.obj (.map es clock))∈H) (hf:Instr.findNow (.int kd) (.int k n) es.toList 0=some (some (j,v))):Pure C ⟨dst,.lookup t x y true,ty,pos,aft,g⟩ e H (.tuple [.atom v,bool true]):=λρ w L h hH=>by
 obtain⟨_,_,_,hx1,_⟩:=hH.objs _ hb;simp only at hx1;refine⟨.tuple #[v,.bool true],?_,λw' ha=>?_⟩;simp only[Rep];refine⟨[v,.bool true],rfl,?_⟩;simp only[RepL];exact⟨_,_,rfl,qai,_,_,rfl,rfl,rfl⟩;have hw:w'.heap[b]? = some (.map es clock):=(ha.1 _ hb).trans hx1;have h3:execOp ρ ⟨dst,.lookup t x y true,ty,pos,aft,g⟩=(do Pure.pure (.value (<-Instr.lookup t (ρ x) (ρ y) true))):=rfl;have hg:(getObj b).run C.P w'=.ok (.map es clock) w':=by simp only[getObj,Sem.run,hw]
 rw[h3,qah h hm,qah h hx]
 have hf2:(Instr.findKey kt (.int k n) es.toList).run C.P w'=.ok (some (j,v)) w':=by
  simp only[Instr.findKey,Sem.run_bind,qaa hkt,Result.andThen_ok,hf,Sem.run_pure]
 have hc:=qfw (P:=C.P) (n:=n) (k:=k) hkt;simp only[Instr.lookup,Sem.run_bind,qaa ht,Result.andThen_ok,hg,Sem.run_pure,hc,hf2];rfl
theorem Pure.lookupMiss2{t kt el:TypeId}{kd k:IntKind}(ht:C.P.underlying t=some (.map kt el))(hkt:C.P.underlying kt=some (.int kd)){b clock:Nat}{es:Array MapEntry}{n:Int}{zv:Value}(hz:∀ w,(zeroValue el).run C.P w=.ok zv w)(hm:e.ev x=.atom (.map (some b)))(hx:e.ev y=int k n)
  (hb:(b,LObj.obj (.map es clock))∈H) (hf:Instr.findNow (.int kd) (.int k n) es.toList 0=some none):Pure C ⟨dst,.lookup t x y true,ty,pos,aft,g⟩ e H (.tuple [.atom zv,bool false]):=λρ w L h hH=>by
 obtain⟨_,_,_,hx1,_⟩:=hH.objs _ hb;simp only at hx1;refine⟨.tuple #[zv,.bool false],?_,λw' ha=>?_⟩;simp only[Rep];refine⟨[zv,.bool false],rfl,?_⟩;simp only[RepL];exact⟨_,_,rfl,qai,_,_,rfl,rfl,rfl⟩;have hw:w'.heap[b]? = some (.map es clock):=(ha.1 _ hb).trans hx1;have h3:execOp ρ ⟨dst,.lookup t x y true,ty,pos,aft,g⟩=(do Pure.pure (.value (<-Instr.lookup t (ρ x) (ρ y) true))):=rfl;have hg:(getObj b).run C.P w'=.ok (.map es clock) w':=by simp only[getObj,Sem.run,hw]
 rw[h3,qah h hm,qah h hx]
 have hf2:(Instr.findKey kt (.int k n) es.toList).run C.P w'=.ok none w':=by
  simp only[Instr.findKey,Sem.run_bind,qaa hkt,Result.andThen_ok,hf,Sem.run_pure]
 have hc:=qfw (P:=C.P) (n:=n) (k:=k) hkt;simp only[Instr.lookup,Sem.run_bind,qaa ht,Result.andThen_ok,hg,Sem.run_pure,hc,hf2,hz];rfl
end
section
variable{C:Ctx}{n:Nat}{Q:Post}{e:Env}{H:Heap}
theorem qaL.weak{c:Code}{H':Heap}(s:HSub H' H)(h:qaL C n c Q e H'):qaL C n c Q e H:=λa w L hE hH=>
 Go.wp_mono (h a w L hE (hH.weak s)) λ_ _ _ ⟨e',H2,L',h1,h2,h3,h4⟩=>⟨e',H2,L',h1.wide s.keys,h2,h3,h4⟩
theorem qaL.conseq{c:Code}{Q':Post}(h:qaL C n c Q e H)(hq:∀ x e H,Q x e H->Q' x e H):qaL C n c Q' e H:=λa w L hE hH=>
 Go.wp_mono (h a w L hE hH) λ_ _ _ ⟨e',H2,L',h1,h2,h3,h4⟩=>⟨e',H2,L',h1,h2,h3,hq _ _ _ h4⟩
theorem qaL.loop{c:Code}(I:Nat->Env->Heap->Prop)(k:Nat)(h0:I k e H)
  (round:∀ k e H,I k e H->qaL C n c (qaw (λe' H'=>∃ m,m<k/\I m e' H') Q) e H):qaL C n (.loop c) Q e H:=λa w L hE hH=>by
 refine qi0 (I:=λk a' w'=>∃ e' H' L',Fr (keys H) w L w' L' H'/\RelH C w' L' H'/\RelE n a' e' w' L'/\I k e' H') (n:=k) ?_ ⟨e,H,L,Fr.refl _ _ _,hH,hE,h0⟩;rintro k a1 w1 ⟨e1,H1,L1,h1,h2,h3,h4⟩;refine Go.wp_mono (round k e1 H1 h4 a1 w1 L1 h3 h2) λex a' w' hq=>?_;obtain⟨e',H',L',g1,g2,g3,g4⟩:=hq
 cases ex with
 |normal=>
  obtain⟨m,hm,g4⟩:=g4
  exact⟨m,hm,e',H',L',h1.trans g1,g2,g3,g4⟩
 |exit id=>exact⟨e',H',L',h1.trans g1,g2,g3,g4⟩
 |goto id=>exact⟨e',H',L',h1.trans g1,g2,g3,g4⟩
 |ret=>exact⟨e',H',L',h1.trans g1,g2,g3,g4⟩
 |panic ch=>exact⟨e',H',L',h1.trans g1,g2,g3,g4⟩
 |outgrown=>exact⟨e',H',L',h1.trans g1,g2,g3,g4⟩
theorem qaL.loopI{c:Code}(I:Nat->List (Nat×LV)->Heap->Prop)(h0:∃ k l H0,I k l H0/\qcF e l/\HSub H0 H)
  (round:∀ k l H,I k l H->∀ j:Env,j.ds=e.ds->qaL C n c (qaw (qeF I k e.ds) Q) (Env.slots j l) H):qaL C n (.loop c) Q e H:=by
 obtain⟨k,l,H0,h0,h1,h2⟩:=h0;refine qaL.weak h2 (qaL.loop (λk e' H'=>∃ l H0,I k l H0/\qcF e' l/\HSub H0 H'/\e'.ds=e.ds) k ⟨l,H0,h0,h1,zhR _,rfl⟩ ?_);rintro k e' H' ⟨l,H0,g0,g1,g2,g3⟩;have:=round k l H0 g0 e' g3;rw[Env.slots_self g1.mem] at this;refine qaL.weak g2 (qaL.conseq this ?_);rintro ex e2 H2 hq
 cases ex with
 |normal=>
  obtain⟨m,l',H3,r1,r2,r3,r4,r5⟩:=hq
  exact⟨m,r1,l',H3,r2,r3,r4,r5⟩
 |exit id=>exact hq
 |goto id=>exact hq
 |ret=>exact hq
 |panic ch=>exact hq
 |outgrown=>exact hq
end
section
variable{C:Ctx}{e:Env}{H:Heap}{x y:Operand}{dst:Option Nat}{ty:TypeId}{pos:String}{aft:Array Edge}{g:Option (Nat×Bool)}
theorem Pure.bytesStrE{s d el:TypeId} [hs:TSlice C.P s el 1] [he:TKind C.P el .u8] [hd:TStr C.P d]{l:List UInt8}(hx:elems (e.ev x)=some (byts l)):Pure C ⟨dst,.convert s d x,ty,pos,aft,g⟩ e H (str l):=by
 by_cases hne:l=[]
 subst hne;intro ρ w L h _;obtain⟨a,cap,hv,hcap,hr⟩:=(h x).elems hx;refine⟨_,qai,λw' ha=>?_⟩;have h0:execOp ρ ⟨dst,.convert s d x,ty,pos,aft,g⟩=(do Pure.pure (.value (<-convert s d (ρ x)))):=rfl;have hlen:(byts []).length=0:=rfl
 have hc:(convert s d (.slice a 0 cap)).run C.P w'=.ok (.string ⟨#[]⟩) w':=by
  rw[run_convert_bytes_string w' s d el a 0 cap hs.und he.und hd.und]
  cases a with
  |none=>rfl
  |some a=>exact run_bytesToString w' a 0 cap [] (run_loadCells_list (P:=C.P) w' a [] λj v hj=>by cases hj)
 rw[h0,hv,hlen];simp only[Sem.run_bind,hc,Result.andThen_ok,Sem.run_pure];exact Pure.bytesStr hx hne
end
def chkStrF (P : Program) (f : Field) (o : Nat) : Bool := f.name != "_" && f.offset == o && (match P.underlying f.type with | some .string => true | _ => false)
def qng (P : Program) (f : Field) (o : Nat) : Bool := f.name != "_" && f.offset == o && (match P.underlying f.type with | some (.int .i64) => true | _ => false)
theorem qjt {P : Program} {f : Field} {o : Nat} (h : qng P f o = true) : f.name ≠ "_" ∧ f.offset = o ∧ P.underlying f.type = some (.int .i64) := by
 unfold qng at h;simp only[zBa,bne_iff_ne,beq_iff_eq] at h;obtain⟨⟨h1,h2⟩,h3⟩:=h;refine⟨h1,h2,?_⟩;split at h3
 assumption
 cases h3
section
variable{C:Ctx}{e:Env}{H:Heap}{dst:Option Nat}{ty:TypeId}{pos:String}{aft:Array Edge}{g:Option (Nat×Bool)}{x y:Operand}
end
class TInt3 (P:Program) (t:TypeId):Prop where
 und:P.underlying t=some (.struct (P.fieldsOf t))
 apart:P.stoodInHeld t=false
 guard:P.eqGuardType P.depth t=false
 fields : ∃ f0 f1 f2 : Field, (P.fieldsOf t).toList = [f0, f1, f2] ∧ (f0.name ≠ "_" ∧ f0.offset = 0 ∧ P.underlying f0.type = some (.int .i64)) ∧ (f1.name ≠ "_" ∧ f1.offset = 1 ∧ P.underlying f1.type = some (.int .i64)) ∧ (f2.name ≠ "_" ∧ f2.offset = 2 ∧ P.underlying f2.type = some (.int .i64))
def qsq(P:Program)(t:TypeId):Bool:=(match P.underlying t with|some (.struct _)=>true|_=>false) && !P.stoodInHeld t && !P.eqGuardType P.depth t && (match (P.fieldsOf t).toList with|[f0,f1,f2]=>qng P f0 0 && qng P f1 1 && qng P f2 2|_=>false)
theorem TInt3.of{P:Program}{t:TypeId}(h:qsq P t=true):TInt3 P t:=by
 unfold qsq at h;simp only[zBa,Bool.not_eq_true'] at h;obtain⟨⟨⟨h1,h2⟩,h3⟩,h4⟩:=h;refine⟨?_,h2,h3,?_⟩;split at h1
 rename_i fs hu
 rw[hu];simp[Program.fieldsOf,hu];cases h1;split at h4
 rename_i f0 f1 f2 hf
 simp only[zBa] at h4;exact⟨f0,f1,f2,hf,qjt h4.1.1,qjt h4.1.2,qjt h4.2⟩;cases h4
section
variable{C:Ctx}{e:Env}{H:Heap}{dst:Option Nat}{ty:TypeId}{pos:String}{aft:Array Edge}{g:Option (Nat×Bool)}{x y:Operand}
theorem quc{ρ:Operand->Value}{w:World}{L:Live}(h:∀ x,Rep w L (e.ev x) (ρ x)){x:Operand}{a i j:Int}(hx:e.ev x=.agg [int .i64 a,int .i64 i,int .i64 j]):ρ x=.agg #[.int .i64 a,.int .i64 i,.int .i64 j]:=by
 have hv:=h x;rw[hx] at hv;simp only[Rep,RepL,int] at hv;obtain⟨vs,h1,v0,r0,e0,rfl,v1,r1,e1,rfl,v2,r2,e2,rfl,e3⟩:=hv;rw[h1,e0,e1,e2,e3]
end
section
variable{C:Ctx}{e:Env}{H:Heap}{dst:Option Nat}{ty:TypeId}{pos:String}{aft:Array Edge}{g:Option (Nat×Bool)}{x:Operand}
theorem Pure.field0{t:TypeId} [h:TInt3 C.P t]{a i j:Int}(hx:e.ev x=.agg [int .i64 a,int .i64 i,int .i64 j]) :
  Pure C ⟨dst,.field t x 0,ty,pos,aft,g⟩ e H (int .i64 a):=
 .of_any λρ _ _ hr=>⟨_,qai,λw'=>by
  have h1:=quc hr hx;obtain⟨f0,f1,f2,hf,⟨n0,o0,u0⟩,_,_⟩:=h.fields;have h3:execOp ρ ⟨dst,.field t x 0,ty,pos,aft,g⟩=(do Pure.pure (.value (<-Instr.field t (ρ x) 0))):=rfl
  have hg:(C.P.fieldsOf t)[0]? = some f0:=by
   rw[<-Array.getElem?_toList,hf]
   try rfl
  have hp:(part f0.type #[.int .i64 a,.int .i64 i,.int .i64 j] f0.offset).run C.P w'=.ok (.int .i64 a) w':=by
   rw[o0];simp[part,isAgg,qaa u0]
  rw[h3,h1]
  simp only[Instr.field,Sem.run_bind,qaa h.und,Result.andThen_ok,hg,asAgg,Sem.run_pure,hp]⟩
end
end Go.GL
namespace Go.Stele
@[reducible] def cv(c:UInt8):Int:=(c.toNat:Int)
def qap(c:UInt8):Bool:=decide (48<=cv c) && decide (cv c<=57)
def qaT(c:UInt8):Bool:=decide (97<=cv c) && decide (cv c<=122)
def qaM(c:UInt8):Bool:=qaT c || qap c || decide (cv c=95)
def qv6(c:UInt8):Bool:=!decide (cv c=10)
def qd2(c:UInt8):Bool:=decide (cv c=32) || decide (cv c=9) || decide (cv c=10)
structure Tok where
 kind:Int
 text:List UInt8
 line:Int
 deriving DecidableEq,Inhabited
theorem qgr{p:UInt8->Bool}{s:List UInt8}{m:Nat}(hm:m<s.length)(h:s.takeWhile p=s.take m++(s.drop m).takeWhile p) :
  (p s[m]=true->s.takeWhile p=s.take (m+1)++(s.drop (m+1)).takeWhile p)/\(p s[m]=false->s.takeWhile p=s.take m):=by
 have h1:s.drop m=s[m]::s.drop (m+1):=List.drop_eq_getElem_cons hm;constructor;intro hp;rw[h,h1,takeWhile_cons_of_pos hp,List.take_succ_eq_append_getElem hm];simp only[zAs,List.singleton_append];intro hp;rw[h,h1,takeWhile_cons_of_neg (by simp[hp])]
 simp
theorem qlQ{p:UInt8->Bool}{s:List UInt8}{m:Nat}(hm:s.length<=m)(h:s.takeWhile p=s.take m++(s.drop m).takeWhile p):s.takeWhile p=s.take m:=by
 rw[h,List.drop_eq_nil_of_le hm]
 simp
def qbW(s:List UInt8):Nat:=if [47,47].isPrefixOf s then (s.takeWhile qv6).length else (s.takeWhile qd2).length
end Go.Stele
namespace Go.Stele
def qwB:Tok:=⟨0,[],0⟩
abbrev TokR:=Tok×Nat×Int
def qbO(e:Int):TokR:=(qwB,0,e)
def qep(s:List UInt8)(n:Nat):Bool:=match s[n]? with
 |some c=>qaT c || decide (cv c=95)
 |none=>false
def qcA(s:List UInt8):TokR:=
 if qep s (s.takeWhile qap).length then qbO 3 else
  match Go.Lib.parseUintB 32 (s.takeWhile qap) with
  |.ok u=>(⟨1,Go.Lib.decDigits u,0⟩,(s.takeWhile qap).length,0)
  |_=>qbO 2
def qcJ:List UInt8->TokR
 |_::b::c::_=>if (!decide (cv c=39)) || decide (cv b<32) || decide (126<cv b) || decide (cv b=39) || decide (cv b=92) then qbO 3 else (⟨1,Go.Lib.decDigits b.toNat,0⟩,3,0)
 |_=>qbO 3
def qdg:List (List UInt8):=[[97,114,114,97,121],[101,108,115,101],[102,117,110,99],[104,97,108,116],[105,102],[114,101,116,117,114,110],[118,97,114],[119,104,105,108,101]]
def qcO:List (List UInt8):=[[38,38],[124,124],[61,61],[33,61],[60,61],[62,61],[60],[62],[94],[43],[45],[42],[47],[37],[33],[61],[40],[41],[123],[125],[91],[93],[44],[59]]
def qev(s:List UInt8):TokR:=
 if 24<(s.takeWhile qaM).length then qbO 7 else (⟨if qdg.contains (s.takeWhile qaM) then 3 else 2,s.takeWhile qaM,0⟩,(s.takeWhile qaM).length,0)
def qgv(s:List UInt8):TokR:=match qcO.find? (λx=>x.isPrefixOf s) with
 |some x=>(⟨4,x,0⟩,x.length,0)
 |none=>qbO 3
def qay(s:List UInt8):TokR:=match s with
 |[]=>qbO 3
 |c::_=>if qap c then qcA s else if qaT c then qev s else if decide (cv c=39) then qcJ s else qgv s
def lexP:Nat->List UInt8->Int->Except (Int×Int) (List Tok)
 |0,_,_=>.ok []
 |fuel+1,s,line=>
  if s=[] then .ok [] else
  if qbW s=0 then
   if (qay s).2.2≠0 then .error (line,(qay s).2.2)
   else (lexP fuel (s.drop (qay s).2.1) (line+((s.take (qay s).2.1).count 10:Nat))).map ({ (qay s).1 with line:=line }::·)
  else lexP fuel (s.drop (qbW s)) (line+((s.take (qbW s)).count 10:Nat))
theorem qfV(p:UInt8->Bool)(s:List UInt8):(s.takeWhile p).length<=s.length:=(takeWhile_prefix p).length_le
theorem ql5(s:List UInt8)(h:(qay s).2.2=0):0<(qay s).2.1/\(qay s).2.1<=s.length:=by
 match s with
 |[]=>simp[qay,qbO] at h
 |c::r=>
  simp only[qay] at h ⊢;split at h <;> rename_i hc;rw[if_pos hc];unfold qcA at h ⊢;split at h;simp[qbO] at h
  rename_i hw
  rw[if_neg hw];split at h
  rename_i u hu
  refine⟨?_,qfV _ _⟩;rw[takeWhile_cons_of_pos hc]
  simp
  simp[qbO] at h;rw[if_neg hc];split at h <;> rename_i hl;rw[if_pos hl];unfold qev at h ⊢;split at h;simp[qbO] at h
  rename_i hw
  rw[if_neg hw];refine⟨?_,qfV _ _⟩;rw[takeWhile_cons_of_pos (by simp[qaM,hl])]
  simp
  rw[if_neg hl];split at h <;> rename_i hq;rw[if_pos hq];unfold qcJ at h ⊢;split at h;split at h;simp[qbO] at h
  rename_i hx
  rename_i heq
  rw[if_neg hx,heq]
  simp
  simp[qbO] at h;rw[if_neg hq];unfold qgv at h ⊢;split at h
  rename_i x hx
  have h1:=List.find?_some hx;have h2:=mem_of_find?_eq_some hx;refine⟨?_,(List.isPrefixOf_iff_prefix.1 h1).length_le⟩;have:∀ x∈qcO,0<x.length:=by decide
  exact this x h2;simp[qbO] at h
theorem qp9(s:List UInt8):qbW s<=s.length:=by
 unfold qbW;split <;> exact qfV _ _
inductive Res (A:Type) where
 |ok (v:A) (at' op:Nat)
 |err (line e:Int)
def qf4(T:List Tok)(i:Nat):Int:=match T[min i (T.length-1)]? with
 |some t=>t.line
 |none=>1
def qk6{A:Type}(T:List Tok)(i:Nat):Res A:=.err (qf4 T i) 3
def qa5(T:List Tok)(i:Nat)(xs:List (List UInt8)):Bool:=match T[i]? with
 |some t=>(decide (t.kind=3) || decide (t.kind=4)) && xs.contains t.text
 |none=>false
def qdE(T:List Tok)(k:Int)(i op:Nat):Res (List UInt8):=match T[i]? with
 |some t=>if t.kind=k then .ok t.text (i+1) op else qk6 T i
 |none=>qk6 T i
def qfk(T:List Tok)(x:List UInt8)(i op:Nat):Res Unit:=if qa5 T i [x] then .ok () (i+1) op else qk6 T i
def qcL(T:List Tok)(x:List UInt8)(i op:Nat):Res Unit:=
 if qa5 T i [x] then (if 100<=op then .err (qf4 T i) 6 else .ok () (i+1) (op+1)) else qk6 T i
def Res.bind{A B:Type}(r:Res A)(f:A->Nat->Nat->Res B):Res B:=match r with
 |.ok v i op=>f v i op
 |.err l e=>.err l e
def qoe(s:List UInt8):Nat:=match Go.Lib.parseUintB 32 s with
 |.ok u=>u
 |_=>0
end Go.Stele
namespace Go.Stele
inductive Ex where
 |mk (op:List UInt8) (num:Nat) (name:List UInt8) (args:List Ex)
 deriving Inhabited
inductive Sm where
 |mk (kind:Int) (name:List UInt8) (index value:List Ex) (thn els:List Sm)
 deriving Inhabited
structure FnD where
 name:List UInt8
 params:List (List UInt8)
 locals:List (List UInt8)
 body:List Sm
 deriving Inhabited
structure Ar where
 name:List UInt8
 size:Nat
 deriving Inhabited
structure Pr where
 vars:List (List UInt8)
 arrays:List Ar
 funcs:List FnD
 deriving Inhabited
def qbZ:Nat->List (List UInt8)
 |0=>[[124,124]]
 |1=>[[38,38]]
 |2=>[[61,61],[33,61],[60],[62],[60,61],[62,61]]
 |3=>[[94]]
 |4=>[[43],[45]]
 |5=>[[42],[47],[37]]
 |_=>[]
abbrev OR(A:Type):=Option (Res A)
def qaJ{A B:Type}(r:OR A)(f:A->Nat->Nat->OR B):OR B:=match r with
 |none=>none
 |some (.ok v i op)=>f v i op
 |some (.err l e)=>some (.err l e)
def qfi(T:List Tok)(i:Nat):List UInt8:=match T[i]? with
 |some t=>t.text
 |none=>[]
def qpw(T:List Tok)(i:Nat):Int:=match T[i]? with
 |some t=>t.kind
 |none=>0
def sEnd(T:List Tok)(x:List UInt8)(i op:Nat):Res Unit:=(qfk T x i op).bind λ_ i' op'=>.ok () i' (op'-1)
def qew(T:List Tok)(i op:Nat):Res Nat:=(qdE T 1 i op).bind λs i' op'=>.ok (qoe s) i' op'
def qbi(T:List Tok):Nat->List (List UInt8)->Nat->Nat->OR (List (List UInt8))
 |0,_,_,_=>none
 |f+1,acc,i,op=>if qa5 T i [[44]] then qaJ (some (qdE T 2 (i+1) op)) λs i' op'=>qbi T f (acc++[s]) i' op' else some (.ok acc i op)
def qgX(T:List Tok)(f:Nat)(i op:Nat):OR (List (List UInt8)):=qaJ (some (qdE T 2 i op)) λs i' op'=>qbi T f [s] i' op'
def nNeg:List UInt8:=[110,101,103]
def nNot:List UInt8:=[110,111,116]
def nNum:List UInt8:=[110,117,109]
def qeX:List UInt8:=[101,108,101,109]
def qch:List UInt8:=[99,97,108,108]
def nVar:List UInt8:=[118,97,114]
mutual
def eLev(T:List Tok):Nat->Nat->Nat->Nat->OR Ex
 |0,_,_,_=>none
 |f+1,k,i,op=>if k=6 then qdy T f i op else qaJ (eLev T f (k+1) i op) λe i' op'=>qhC T f k e i' op'
def qhC(T:List Tok):Nat->Nat->Ex->Nat->Nat->OR Ex
 |0,_,_,_,_=>none
 |f+1,k,e,i,op=>
  if qa5 T i (qbZ k) then qaJ (eLev T f (k+1) (i+1) op) λe2 i' op'=>
   if k=2 then some (.ok (.mk (qfi T i) 0 [] [e,e2]) i' op') else qhC T f k (.mk (qfi T i) 0 [] [e,e2]) i' op'
  else some (.ok e i op)
def qdy(T:List Tok):Nat->Nat->Nat->OR Ex
 |0,_,_=>none
 |f+1,i,op=>
  if qa5 T i [[45]] then qaJ (some (qcL T [45] i op)) λ_ i' op'=>qaJ (qdy T f i' op') λe i' op'=>some (.ok (.mk nNeg 0 [] [e]) i' (op'-1))
  else if qa5 T i [[33]] then qaJ (some (qcL T [33] i op)) λ_ i' op'=>qaJ (qdy T f i' op') λe i' op'=>some (.ok (.mk nNot 0 [] [e]) i' (op'-1))
  else qiH T f i op
def qiH(T:List Tok):Nat->Nat->Nat->OR Ex
 |0,_,_=>none
 |f+1,i,op=>
  if qa5 T i [[40]] then qaJ (some (qcL T [40] i op)) λ_ i' op'=>qaJ (eLev T f 0 i' op') λe i' op'=>qaJ (some (sEnd T [41] i' op')) λ_ i' op'=>some (.ok e i' op')
  else if qpw T i=1 then qaJ (some (qew T i op)) λn i' op'=>some (.ok (.mk nNum n [] []) i' op')
  else qaJ (some (qdE T 2 i op)) λs i' op'=>
   if qa5 T i' [[91]] then qaJ (qeg T f i' op') λe i' op'=>some (.ok (.mk qeX 0 s [e]) i' op')
   else if qa5 T i' [[40]] then qaJ (qib T f i' op') λl i' op'=>some (.ok (.mk qch 0 s l) i' op')
   else some (.ok (.mk nVar 0 s []) i' op')
def qeg(T:List Tok):Nat->Nat->Nat->OR Ex
 |0,_,_=>none
 |f+1,i,op=>qaJ (some (qcL T [91] i op)) λ_ i' op'=>qaJ (eLev T f 0 i' op') λe i' op'=>qaJ (some (sEnd T [93] i' op')) λ_ i' op'=>some (.ok e i' op')
def qib(T:List Tok):Nat->Nat->Nat->OR (List Ex)
 |0,_,_=>none
 |f+1,i,op=>qaJ (some (qcL T [40] i op)) λ_ i' op'=>qaJ (qbQ T f [] i' op') λl i' op'=>qaJ (some (sEnd T [41] i' op')) λ_ i' op'=>some (.ok l i' op')
def qbQ(T:List Tok):Nat->List Ex->Nat->Nat->OR (List Ex)
 |0,_,_,_=>none
 |f+1,acc,i,op=>
  if qa5 T i [[41]] then some (.ok acc i op)
  else qaJ (some (if acc=[] then .ok () i op else qfk T [44] i op)) λ_ i' op'=>qaJ (eLev T f 0 i' op') λe i' op'=>qbQ T f (acc++[e]) i' op'
end
def kwIf:List UInt8:=[105,102]
def qrw:List UInt8:=[101,108,115,101]
def qoa:List UInt8:=[119,104,105,108,101]
def ql1:List UInt8:=[114,101,116,117,114,110]
def qsr:List UInt8:=[104,97,108,116]
def qqb:List UInt8:=[118,97,114]
def qnI:List UInt8:=[97,114,114,97,121]
def qqP:List UInt8:=[102,117,110,99]
mutual
def qen(T:List Tok):Nat->Nat->Nat->OR (List Sm)
 |0,_,_=>none
 |f+1,i,op=>qaJ (some (qcL T [123] i op)) λ_ i' op'=>qaJ (qdx T f [] i' op') λl i' op'=>qaJ (some (sEnd T [125] i' op')) λ_ i' op'=>some (.ok l i' op')
def qdx(T:List Tok):Nat->List Sm->Nat->Nat->OR (List Sm)
 |0,_,_,_=>none
 |f+1,acc,i,op=>if qa5 T i [[125]] then some (.ok acc i op) else qaJ (qiF T f i op) λs i' op'=>qdx T f (acc++[s]) i' op'
def qiF(T:List Tok):Nat->Nat->Nat->OR Sm
 |0,_,_=>none
 |f+1,i,op=>
  if qa5 T i [kwIf] then qaJ (eLev T f 0 (i+1) op) λe i' op'=>qaJ (qen T f i' op') λth i' op'=>
   if qa5 T i' [qrw] then qaJ (qen T f (i'+1) op') λel i' op'=>some (.ok (.mk 3 [] [] [e] th el) i' op') else some (.ok (.mk 3 [] [] [e] th []) i' op')
  else if qa5 T i [qoa] then qaJ (eLev T f 0 (i+1) op) λe i' op'=>qaJ (qen T f i' op') λth i' op'=>some (.ok (.mk 4 [] [] [e] th []) i' op')
  else qaJ (qdr T f i op) λs i' op'=>qaJ (some (qfk T [59] i' op')) λ_ i' op'=>some (.ok s i' op')
def qdr(T:List Tok):Nat->Nat->Nat->OR Sm
 |0,_,_=>none
 |f+1,i,op=>
  if qa5 T i [ql1] then qaJ (eLev T f 0 (i+1) op) λe i' op'=>some (.ok (.mk 5 [] [] [e] [] []) i' op')
  else if qa5 T i [qsr] then some (.ok (.mk 7 [] [] [] [] []) (i+1) op)
  else qaJ (some (qdE T 2 i op)) λs i' op'=>
   if qa5 T i' [[40]] then qaJ (qib T f i' op') λl i' op'=>some (.ok (.mk 6 [] [] [.mk qch 0 s l] [] []) i' op')
   else if qa5 T i' [[91]] then qaJ (qeg T f i' op') λx i' op'=>qaJ (some (qfk T [61] i' op')) λ_ i' op'=>qaJ (eLev T f 0 i' op') λe i' op'=>some (.ok (.mk 2 s [x] [e] [] []) i' op')
   else qaJ (some (qfk T [61] i' op')) λ_ i' op'=>qaJ (eLev T f 0 i' op') λe i' op'=>some (.ok (.mk 1 s [] [e] [] []) i' op')
end
def qfm(T:List Tok):Nat->List (List UInt8)->Nat->Nat->OR (List (List UInt8))
 |0,_,_,_=>none
 |f+1,acc,i,op=>if qa5 T i [qqb] then qaJ (qgX T f (i+1) op) λl i' op'=>qaJ (some (qfk T [59] i' op')) λ_ i' op'=>qfm T f (acc++l) i' op' else some (.ok acc i op)
def qlP(T:List Tok)(f:Nat)(i op:Nat):OR FnD:=
 qaJ (some (qdE T 2 i op)) λnm i' op'=>qaJ (some (qcL T [40] i' op')) λ_ i' op'=>
 qaJ (if qa5 T i' [[41]] then some (.ok [] i' op') else qgX T f i' op') λps i' op'=>qaJ (some (sEnd T [41] i' op')) λ_ i' op'=>
 qaJ (some (qcL T [123] i' op')) λ_ i' op'=>qaJ (qfm T f [] i' op') λls i' op'=>qaJ (qdx T f [] i' op') λb i' op'=>
 qaJ (some (sEnd T [125] i' op')) λ_ i' op'=>some (.ok ⟨nm,ps,ls,b⟩ i' op')
def qgN(T:List Tok)(i op:Nat):OR Ar:=
 qaJ (some (qdE T 2 i op)) λnm i' op'=>qaJ (some (qcL T [91] i' op')) λ_ i' op'=>qaJ (some (qew T i' op')) λn i' op'=>
 qaJ (some (sEnd T [93] i' op')) λ_ i' op'=>qaJ (some (qfk T [59] i' op')) λ_ i' op'=>some (.ok ⟨nm,n⟩ i' op')
def qfs(T:List Tok):Nat->Pr->Nat->Nat->OR Pr
 |0,_,_,_=>none
 |f+1,p,i,op=>
  if T.length<=i then some (.ok p i op)
  else if qa5 T i [qqb] then qaJ (qfm T f [] i op) λl i' op'=>qfs T f { p with vars:=p.vars++l } i' op'
  else if qa5 T i [qnI] then qaJ (qgN T (i+1) op) λa i' op'=>qfs T f { p with arrays:=p.arrays++[a] } i' op'
  else if qa5 T i [qqP] then qaJ (qlP T f (i+1) op) λa i' op'=>qfs T f { p with funcs:=p.funcs++[a] } i' op'
  else some (qk6 T i)
def exOp:Ex->List UInt8|.mk o _ _ _=>o
def qeY:Ex->Nat|.mk _ n _ _=>n
def qcX:Ex->List UInt8|.mk _ _ n _=>n
def qu9:Sm->Int|.mk k _ _ _ _ _=>k
def qvm:Sm->List UInt8|.mk _ n _ _ _ _=>n
def qrl:Sm->List Ex|.mk _ _ i _ _ _=>i
def qsz:Sm->List Ex|.mk _ _ _ v _ _=>v
structure IS where
 sc:List UInt8->Nat
 ar:List UInt8->List Nat
 inp:List Nat
 out:List UInt8
 left:Nat
inductive IR (A:Type) where
 |ok (v:A) (s:IS)
 |stop (e:Int) (s:IS)
def IR.bind{A B:Type}(r:IR A)(f:A->IS->IR B):IR B:=match r with
 |.ok v s=>f v s
 |.stop e s=>.stop e s
def IR.st{A:Type}:IR A->IS
 |.ok _ s=>s
 |.stop _ s=>s
def tick(s:IS):IR Unit:=if s.left=0 then .stop 13 s else .ok () { s with left:=s.left-1 }
def b2n(b:Bool):Nat:=if b=true then 1 else 0
def binI(op:List UInt8)(a b:Nat):Option Nat:=
 if op=[43] then some ((a+b) % 4294967296)
 else if op=[45] then some ((a+4294967296-b) % 4294967296)
 else if op=[42] then some (a * b % 4294967296)
 else if op=[94] then some (a ^^^ b)
 else if op=[61,61] then some (b2n (decide (a=b)))
 else if op=[33,61] then some (b2n (decide (a≠b)))
 else if op=[60] then some (b2n (decide (a<b)))
 else if op=[62] then some (b2n (decide (b<a)))
 else if op=[60,61] then some (b2n (decide (a<=b)))
 else if op=[62,61] then some (b2n (decide (b<=a)))
 else if op=[38,38] then some (b2n (decide (a≠0/\b≠0)))
 else if op=[124,124] then some (b2n (decide (a≠0∨b≠0)))
 else if b=0 then none
 else if op=[47] then some (a / b) else some (a % b)
def keyI(f:FnD)(name:List UInt8):List UInt8:=if name∈f.params∨name∈f.locals then f.name++[46]++name else name
def fnI(P:Pr)(name:List UInt8):FnD:=(P.funcs.find? λf=>decide (f.name=name)).getD ⟨[],[],[],[]⟩
def qec(s:IS)(k:List UInt8)(v:Nat):IS:={ s with sc:=λx=>if x=k then v else s.sc x }
def qcM(f:FnD):List (List UInt8)->List Nat->IS->IS
 |p::ps,v::vs,s=>qcM f ps vs (qec s (keyI f p) v)
 |_,_,s=>s
def mapR{A:Type}(g:A->IS->IR Nat):List A->IS->IR (List Nat)
 |[],s=>.ok [] s
 |a::l,s=>(g a s).bind λv s=>(mapR g l s).bind λvs s=>.ok (v::vs) s
def blkR(g:Sm->IS->IR (Option Nat)):List Sm->IS->IR (Option Nat)
 |[],s=>.ok none s
 |a::l,s=>(g a s).bind λr s=>match r with
  |some v=>.ok (some v) s
  |none=>blkR g l s
def whlR(c:IS->IR Nat)(b:IS->IR (Option Nat)):Nat->Nat->IS->IR (Option Nat)
 |0,v,s=>if v=0 then .ok none s else .stop 13 s
 |m+1,v,s=>if v=0 then .ok none s else (b s).bind λr s=>match r with
  |some x=>.ok (some x) s
  |none=>(c s).bind λv s=>whlR c b m v s
def callI(P:Pr)(g:FnD->Sm->IS->IR (Option Nat))(name:List UInt8)(vs:List Nat)(s:IS):IR Nat:=
 if name=[105,110] then (match s.inp with
  |[]=>.ok 4294967295 s
  |v::r=>.ok v { s with inp:=r })
 else if name=[111,117,116] then .ok 0 { s with out:=s.out++[UInt8.ofNat (vs.headD 0)] }
 else (blkR (g (fnI P name)) (fnI P name).body (qcM (fnI P name) (fnI P name).params vs s)).bind λr s=>.ok (r.getD 0) s
def opI(P:Pr)(g:FnD->Sm->IS->IR (Option Nat))(f:FnD)(op:List UInt8)(num:Nat)(name:List UInt8)(vs:List Nat)(s:IS):IR Nat:=
 if op=[110,117,109] then .ok num s
 else if op=[118,97,114] then .ok (s.sc (keyI f name)) s
 else if op=[101,108,101,109] then (match (s.ar name)[vs.headD 0]? with
  |some v=>.ok v s
  |none=>.stop 2 s)
 else if op=[110,101,103] then .ok ((4294967296-vs.headD 0) % 4294967296) s
 else if op=[110,111,116] then .ok (b2n (decide (vs.headD 0=0))) s
 else if op=[99,97,108,108] then callI P g name vs s
 else match binI op (vs.headD 0) (vs.tail.headD 0) with
  |some v=>.ok v s
  |none=>.stop 12 s
mutual
def evI(P:Pr):Nat->FnD->Ex->IS->IR Nat
 |0,_,_,s=>.stop 13 s
 |n+1,f,.mk op num name args,s=>(tick s).bind λ_ s=>(mapR (evI P n f) args s).bind λvs s=>opI P (stI P n) f op num name vs s
def stI(P:Pr):Nat->FnD->Sm->IS->IR (Option Nat)
 |0,_,_,s=>.stop 13 s
 |n+1,f,.mk kind name index value thn els,s=>(tick s).bind λ_ s=>
  if kind=7 then .stop 0 s else (evI P n f (value.headD default) s).bind λv s=>
   if kind=1 then .ok none (qec s (keyI f name) v)
   else if kind=2 then (evI P n f (index.headD default) s).bind λi s=>match (s.ar name)[i]? with
    |some _=>.ok none { s with ar:=λx=>if x=name then (s.ar name).set i v else s.ar x }
    |none=>.stop 2 s
   else if kind=5 then .ok (some v) s
   else if kind=3 then (if v≠0 then blkR (stI P n f) thn s else blkR (stI P n f) els s)
   else if kind=4 then whlR (evI P n f (value.headD default)) (blkR (stI P n f) thn) n v s
   else .ok none s
end
def up(k:Nat)(s:IS):IS:={ s with left:=s.left+k }
def Grow{A:Type}(s:IS)(r:IR A):Prop:=s.out <+: r.st.out/\r.st.left<=s.left
theorem Grow.bind{A B:Type}{s:IS}{r:IR A}{f:A->IS->IR B}(h:Grow s r)(hf:∀ v s',Grow s' (f v s')):Grow s (r.bind f):=by
 cases r with
 |ok v s'=>exact⟨List.IsPrefix.trans h.1 (hf v s').1,zNt (hf v s').2 h.2⟩
 |stop e s'=>exact h
theorem qmx(s:IS):Grow s (tick s):=by
 unfold tick;split;exact⟨zPf _,zNr _⟩;exact⟨zPf _,Nat.sub_le _ _⟩
theorem qkn{A:Type}{g:A->IS->IR Nat}(h:∀ a s,Grow s (g a s)):∀ (l:List A) (s:IS),Grow s (mapR g l s)
 |[],s=>⟨zPf _,zNr _⟩
 |a::l,s=>(h a s).bind λv s=>(qkn h l s).bind λvs s=>⟨zPf _,zNr _⟩
theorem qd5{g:Sm->IS->IR (Option Nat)}(h:∀ a s,Grow s (g a s)):∀ (l:List Sm) (s:IS),Grow s (blkR g l s)
 |[],s=>⟨zPf _,zNr _⟩
 |a::l,s=>(h a s).bind λr s=>by
  cases r with
  |none=>exact qd5 h l s
  |some v=>exact⟨zPf _,zNr _⟩
theorem qnt{c:IS->IR Nat}{b:IS->IR (Option Nat)}(hc:∀ s,Grow s (c s))(hb:∀ s,Grow s (b s)):∀ (m v:Nat) (s:IS),Grow s (whlR c b m v s)
 |0,v,s=>by
  unfold whlR
  split <;> exact⟨zPf _,zNr _⟩
 |m+1,v,s=>by
  unfold whlR;split;exact⟨zPf _,zNr _⟩;refine(hb s).bind λr s=>?_
  cases r with
  |some x=>exact⟨zPf _,zNr _⟩
  |none=>exact(hc s).bind λv s=>qnt hc hb m v s
theorem qdT(f:FnD):∀ (ps:List (List UInt8)) (vs:List Nat) (s:IS),(qcM f ps vs s).out=s.out/\(qcM f ps vs s).left=s.left/\∀ k,qcM f ps vs (up k s)=up k (qcM f ps vs s)
 |p::ps,v::vs,s=>by
  obtain⟨h1,h2,h3⟩:=qdT f ps vs (qec s (keyI f p) v)
  exact⟨h1,h2,λk=>h3 k⟩
 |[],_,s=>by unfold qcM;exact⟨rfl,rfl,λ_=>rfl⟩
 |_::_,[],s=>by unfold qcM;exact⟨rfl,rfl,λ_=>rfl⟩
theorem qpg{P:Pr}{g:FnD->Sm->IS->IR (Option Nat)}(h:∀ f a s,Grow s (g f a s))(f:FnD)(op:List UInt8)(num:Nat)(name:List UInt8)(vs:List Nat)(s:IS):Grow s (opI P g f op num name vs s):=by
 unfold opI;split;exact⟨zPf _,zNr _⟩;split;exact⟨zPf _,zNr _⟩;split;split <;> exact⟨zPf _,zNr _⟩;split;exact⟨zPf _,zNr _⟩;split;exact⟨zPf _,zNr _⟩;split;unfold callI;split;split <;> exact⟨zPf _,zNr _⟩;split;exact⟨List.prefix_append _ _,zNr _⟩;refine Grow.bind ?_ λr s=>⟨zPf _,zNr _⟩;have:=qd5 (h (fnI P name)) (fnI P name).body (qcM (fnI P name) (fnI P name).params vs s);unfold Grow at this ⊢
 rwa [(qdT _ _ _ _).1,(qdT _ _ _ _).2.1] at this
 split <;> exact⟨zPf _,zNr _⟩
theorem qgf(P:Pr):∀ n:Nat,(∀ f x s,Grow s (evI P n f x s))/\∀ f x s,Grow s (stI P n f x s)
 |0=>⟨λf x s=>by unfold evI;exact⟨zPf _,zNr _⟩,λf x s=>by unfold stI;exact⟨zPf _,zNr _⟩⟩
 |n+1=>by
  obtain⟨h1,h2⟩:=qgf P n;refine⟨λf x s=>?_,λf x s=>?_⟩;obtain⟨op,num,name,args⟩:=x;unfold evI;exact(qmx s).bind λ_ s=>(qkn (h1 f) args s).bind λvs s=>qpg h2 f op num name vs s;obtain⟨kind,name,index,value,thn,els⟩:=x;unfold stI;refine(qmx s).bind λ_ s=>?_;split;exact⟨zPf _,zNr _⟩;refine(h1 f _ s).bind λv s=>?_;split;exact⟨zPf _,zNr _⟩;split;refine(h1 f _ s).bind λi s=>?_;split <;> exact⟨zPf _,zNr _⟩;split;exact⟨zPf _,zNr _⟩;split;split;exact qd5 (h2 f) _ _;exact qd5 (h2 f) _ _;split;exact qnt (h1 f _) (qd5 (h2 f) _) _ _ _;exact⟨zPf _,zNr _⟩
theorem qsD(c:IS->IR Nat)(b:IS->IR (Option Nat))(m:Nat)(s:IS):whlR c b m 0 s=.ok none s:=by
 cases m <;> rw[whlR,if_pos rfl]
theorem qj6{s s':IS}{u:Unit}(h:tick s=.ok u s'):s'.left<s.left:=by
 unfold tick at h;split at h;cases h;cases h;simp only;omega
theorem qvM(P:Pr)(n:Nat)(f:FnD)(x:Ex)(s s':IS)(v:Nat)(h:evI P n f x s=.ok v s'):s'.left<s.left:=by
 cases n with
 |zero=>unfold evI at h;cases h
 |succ n=>
  obtain⟨op,num,name,args⟩:=x;unfold evI at h
  cases ht:tick s with
  |stop e s1=>rw[ht] at h;cases h
  |ok u s1=>
   rw[ht] at h;have h1:=qj6 ht;have hG:Grow s1 ((mapR (evI P n f) args s1).bind λvs s=>opI P (stI P n) f op num name vs s):=(qkn ((qgf P n).1 f) args s1).bind λvs s=>qpg (qgf P n).2 f op num name vs s;have h2:=hG.2;have h3:(mapR (evI P n f) args s1).bind (λvs s=>opI P (stI P n) f op num name vs s)=.ok v s':=h;rw[h3] at h2;exact Nat.lt_of_le_of_lt h2 h1
structure OutI where
 out:List UInt8
 err:Int
 steps:Nat
def qca(P:Pr)(inp:List Nat)(limit:Nat):IS:=⟨λ_=>0,λx=>match P.arrays.find? λa=>decide (a.name=x) with
 |some a=>List.replicate a.size 0
 |none=>[],inp,[],limit⟩
def qbo(P:Pr):FnD:=P.funcs.getLast?.getD ⟨[],[],[],[]⟩
def endI{A:Type}(limit:Nat):IR A->OutI
 |.ok _ s=>⟨s.out,0,limit-s.left⟩
 |.stop e s=>⟨s.out,e,limit-s.left⟩
def runI(P:Pr)(inp:List Nat)(limit:Nat):OutI:=endI limit (blkR (stI P limit (qbo P)) (qbo P).body (qca P inp limit))
abbrev Nm:=List UInt8
def qm8:List Nm:=qdg++[[105,110],[111,117,116]]
def isNm(s:Nm):Bool:=decide (s.length<=24) && !qm8.contains s && (match s with
 |[]=>false
 |c::r=>qaT c && r.all qaM)
structure FSum where
 name:Nm
 params:Nat
 need:Nat
 depth:Nat
structure CEnv where
 vars:List Nm
 arrays:List Nm
 later:List Nm
 own:List Nm
 funcs:List FSum
def CEnv.globals(c:CEnv):List Nm:=c.vars++c.arrays++c.later
def CEnv.fn(c:CEnv)(name:Nm):Option FSum:=c.funcs.find? λf=>decide (f.name=name)
def orE(a b:Int):Int:=if a≠0 then a else b
def qdw:List Nm:=[[124,124],[38,38],[61,61],[33,61],[60],[62],[60,61],[62,61],[94],[43],[45],[42],[47],[37]]
def qbp(op:Nm):Int:=if op=nNum∨op=nVar then 0 else if op=qeX∨op=nNeg∨op=nNot then 1 else if op=qch then -1 else if op∈qdw then 2 else -2
def qcd(c:CEnv)(name:Nm):Int:=if name∈c.vars∨name∈c.own then 0 else if name∈c.globals then 10 else 7
def qdA(c:CEnv)(name:Nm):Int:=if name∈c.arrays then 0 else if name∈c.globals∨name∈c.own then 10 else 7
def callE(c:CEnv)(name:Nm)(n:Nat):Int:=
 if name=[105,110] then (if n=0 then 0 else 1)
 else if name=[111,117,116] then (if n=1 then 0 else 1)
 else match c.fn name with
  |some f=>if n=f.params then 0 else 1
  |none=>if name∈c.vars∨name∈c.arrays∨name∈c.own then 10 else 7
def useE(c:CEnv)(op name:Nm)(n:Nat):Int:=if op=nVar then qcd c name else if op=qeX then qdA c name else if op=qch then callE c name n else 0
mutual
def errE(c:CEnv):Ex->Int
 |.mk op num name args=>if qbp op = -1∨qbp op=args.length then orE (qbf c args) (useE c op name args.length) else 3
def qbf(c:CEnv):List Ex->Int
 |[]=>0
 |x::l=>orE (errE c x) (qbf c l)
end
def qhI:Nat->List Nat->Nat->Nat
 |i,[],m=>m
 |i,n::l,m=>qhI (i+1) l (max m (i+n))
def qiG(c:CEnv)(name:Nm)(ns:List Nat):Nat:=
 if name=[105,110] then 1
 else if name=[111,117,116] then ns.headD 0
 else match c.fn name with
  |some f=>qhI 0 ns (max (f.params+1) f.need)
  |none=>0
def opN(c:CEnv)(op name:Nm)(ns:List Nat):Nat:=
 if op=nNum∨op=nVar then 1
 else if op=qeX∨op=nNeg then 1+ns.headD 0
 else if op=qch then qiG c name ns
 else if op=nNot then max 2 (ns.headD 0)
 else if op=[62]∨op=[60,61] then max (max 3 (ns.headD 0)) (1+ns.tail.headD 0)
 else if op=[33,61] then max (max 3 (1+ns.headD 0)) (2+ns.tail.headD 0)
 else if op=[38,38] then max (1+ns.headD 0) (2+ns.tail.headD 0)
 else if op=[124,124] then max (2+ns.headD 0) (3+ns.tail.headD 0)
 else max (max 2 (ns.headD 0)) (1+ns.tail.headD 0)
mutual
def qbb(c:CEnv):Ex->Nat
 |.mk op num name args=>opN c op name (qaX c args)
def qaX(c:CEnv):List Ex->List Nat
 |[]=>[]
 |x::l=>qbb c x::qaX c l
end
def qgk(c:CEnv)(op name:Nm):Nat:=if op=qch/\name≠[105,110]/\name≠[111,117,116] then (match c.fn name with
 |some f=>f.depth+1
 |none=>0) else 0
mutual
def depE(c:CEnv):Ex->Nat
 |.mk op num name args=>max (qb7 c args) (qgk c op name)
def qb7(c:CEnv):List Ex->Nat
 |[]=>0
 |x::l=>max (depE c x) (qb7 c l)
end
def exOp1:Ex->Nm
 |.mk op _ _ _=>op
def qbV:Sm->Bool
 |.mk kind name index value thn els=>
  if kind=1 then decide (name≠[]/\index.length=0/\value.length=1/\thn.length=0/\els.length=0)
  else if kind=2 then decide (name≠[]/\index.length=1/\value.length=1/\thn.length=0/\els.length=0)
  else if kind=3 then decide (name=[]/\index.length=0/\value.length=1)
  else if kind=4 then decide (name=[]/\index.length=0/\value.length=1/\els.length=0)
  else if kind=5 then decide (name=[]/\index.length=0/\value.length=1/\thn.length=0/\els.length=0)
  else if kind=6 then decide (name=[]/\index.length=0/\value.length=1/\thn.length=0/\els.length=0/\exOp1 (value.headD default)=qch)
  else if kind=7 then decide (name=[]/\index.length=0/\value.length=0/\thn.length=0/\els.length=0)
  else false
mutual
def errS(c:CEnv):Sm->Int
 |.mk kind name index value thn els=>if qbV (.mk kind name index value thn els)=false then 3
  else orE (qbf c value) (orE (qbf c index) (orE (if kind=1 then qcd c name else if kind=2 then qdA c name else 0) (orE (qbL c thn) (qbL c els))))
def qbL(c:CEnv):List Sm->Int
 |[]=>0
 |s::l=>orE (errS c s) (qbL c l)
end
mutual
def qku(c:CEnv):Sm->Nat
 |.mk kind name index value thn els=>
  if kind=7 then 0
  else if kind=2 then max (qbb c (value.headD default)) (2+qbb c (index.headD default))
  else if kind=5 then qbb c (value.headD default)
  else max 2 (max (max (qbb c (value.headD default)) (qbS c thn)) (qbS c els))
def qbS(c:CEnv):List Sm->Nat
 |[]=>0
 |s::l=>max (qku c s) (qbS c l)
end
mutual
def depS(c:CEnv):Sm->Nat
 |.mk kind name index value thn els=>max (max (qb7 c value) (qb7 c index)) (max (qck c thn) (qck c els))
def qck(c:CEnv):List Sm->Nat
 |[]=>0
 |s::l=>max (depS c s) (qck c l)
end
def qci:List Nm->List Nm->Int
 |known,[]=>0
 |known,s::l=>if isNm s=false then 7 else if s∈known then 8 else qci (s::known) l
def qg1:Int->List Int->Int
 |total,[]=>0
 |total,n::l=>if n<=0 then 2 else if 150000-total<n then 6 else qg1 (total+n) l
def envF(vars arrays later:List Nm)(known:List FSum)(f:FnD):CEnv:=⟨vars,arrays,later,f.params++f.locals,known⟩
def errF(vars arrays later:List Nm)(known:List FSum)(f:FnD):Int:=orE (qci (vars++arrays++later) (f.params++f.locals)) (qbL (envF vars arrays later known f) f.body)
def sumF(vars arrays later:List Nm)(known:List FSum)(f:FnD):FSum:=⟨f.name,f.params.length,max (max 2 (f.params.length+1)) (qbS (envF vars arrays later known f) f.body),max 1 (qck (envF vars arrays later known f) f.body)⟩
def qe5(vars arrays later:List Nm):List FSum->List FnD->Int
 |known,[]=>0
 |known,f::l=>orE (errF vars arrays later known f) (qe5 vars arrays later (known++[sumF vars arrays later known f]) l)
def qjM(vars arrays later:List Nm):List FSum->List FnD->List FSum
 |known,[]=>known
 |known,f::l=>qjM vars arrays later (known++[sumF vars arrays later known f]) l
def qaf(vars:List Nm)(fs:List FnD):List Nm:=vars++(fs.map λf=>(f.params++f.locals).map λx=>f.name++[46]++x).flatten
def qtn(vars:List Nm)(fs:List FnD)(sums:List FSum):Int:=match fs.getLast?,sums.getLast? with
 |some f,some m=>if f.name=[109,97,105,110]/\f.params=[] then (if (qaf vars fs).length<=8000/\m.need<=200/\m.depth<=60 then 0 else 6) else 9
 |_,_=>9
def qcQ(vars:List Nm)(arrays:List (Nm×Int))(fs:List FnD):Int:=
 orE (qci [] (vars++arrays.map (·.1)++fs.map (·.name))) (orE (qg1 0 (arrays.map (·.2)))
  (orE (qe5 vars (arrays.map (·.1)) (fs.map (·.name)) [] fs) (qtn vars fs (qjM vars (arrays.map (·.1)) (fs.map (·.name)) [] fs))))
def qbw(p:Pr):Int:=qcQ p.vars (p.arrays.map λa=>(a.name,(a.size:Int))) p.funcs
theorem qae{a b:Int}:orE a b=0 ↔ a=0/\b=0:=by
 unfold orE;split;constructor;intro h;contradiction;rintro⟨h,_⟩;contradiction;constructor;intro h;exact⟨by omega,h⟩;rintro⟨_,h⟩;exact h
def qjI(k:Nat):Nat:=if k=2 then k+1 else k
def quO(s:List UInt8)(line:Int):Except (Int×Int) (List Tok):=lexP s.length s line
open Go.Lib
theorem qmn(M:Nat):∀ (l r:List UInt8) (acc u:Nat),parseUintM M acc l=.ok u->parseUintM M acc (l++r)=parseUintM M u r
 |[],r,acc,u,h=>by
  rw[parseUintM] at h;cases h
  rfl
 |c::l,r,acc,u,h=>by
  rw[parseUintM] at h;rw[cons_append,parseUintM];split at h
  rename_i hc
  rw[if_pos hc];split at h;cases h
  rename_i h1
  rw[if_neg h1];split at h;cases h
  rename_i h2
  rw[if_neg h2];exact qmn M l r _ u h;cases h
theorem qkh{d:Nat}(h:d<10):(UInt8.ofNat (48+d)).toNat=48+d:=by
 rw[UInt8.toNat_ofNat'];omega
theorem qxJ(M:Nat)(hM:M<=4294967295)(u:Nat)(hu:u<=M):parseUintM M 0 (decDigits u)=.ok u:=by
 induction u using Nat.strongRecOn with
 |_ u ih=>
  have one:∀ a d,d<10->a * 10+d<=M->parseUintM M a [UInt8.ofNat (48+d)]=.ok (a * 10+d):=λa d hd ha=>by
   rw[parseUintM,qkh hd,if_pos (by omega),if_neg (by omega),if_neg (by omega),parseUintM];congr 1;omega
  rw[decDigits];split;have:=one 0 u (by assumption) (by omega);simpa using this;rw[qmn M _ _ 0 (u / 10) (ih (u / 10) (by omega) (by omega)),one _ _ (by omega) (by omega)];congr 1;omega
theorem qcb(u:Nat):decDigits u≠[]:=by
 rw[decDigits];split <;> simp
theorem qiX(u:Nat)(hu:u<4294967296):parseUintB 32 (decDigits u)=.ok u:=by
 rw[parseUintB,if_neg (qcb u)];exact qxJ _ zDd u (by omega)
theorem qf2:∀ (k u:Nat),u<10 ^ (k+1)->nDigits u<=k+1
 |0,u,h=>by rw[nDigits_small (by simpa using h)];omega
 |k+1,u,h=>by
  by_cases hu:u<10
  rw[nDigits_small hu];omega;rw[nDigits_big hu];have:=qf2 k (u / 10) (by rw[Nat.pow_succ] at h;omega);omega
theorem qgB{u:Nat}(hu:u<4294967296):(decDigits u).length<=10:=by
 rw[decDigits_length];exact qf2 9 u (by omega)
theorem qi7{l:List UInt8}{u:Nat}(h:parseUintB 32 l=.ok u):u<4294967296:=by
 have key:∀ (l:List UInt8) (acc u:Nat),acc<=4294967295->parseUintM 4294967295 acc l=.ok u->u<=4294967295:=by
  intro l
  induction l with
  |nil=>intro acc u ha h;rw[parseUintM] at h;cases h;exact ha
  |cons c l ih=>
   intro acc u ha h;rw[parseUintM] at h;split at h;split at h;cases h;split at h;cases h;exact ih _ _ (by omega) h;cases h
 rw[parseUintB] at h;split at h;cases h;have:=key _ _ _ (by omega) h;omega
def qw1(t:Tok):Prop:=t.text.length<=100/\(t.kind=1->∃ u,u<4294967296/\parseUintB 32 t.text=.ok u/\t.text=decDigits u)
theorem qoE(s:List UInt8)(h:(qay s).2.2=0):qw1 (qay s).1:=by
 match s with
 |[]=>simp[qay,qbO] at h
 |c::r=>
  simp only[qay] at h ⊢;split at h <;> rename_i hc;rw[if_pos hc];unfold qcA at h ⊢;split at h;simp[qbO] at h
  rename_i hw
  rw[if_neg hw];split at h
  rename_i u hu
  have hlt:=qi7 hu;exact⟨by have:=qgB hlt;simp only;omega,λ_=>⟨u,hlt,qiX u hlt,rfl⟩⟩;simp[qbO] at h;rw[if_neg hc];split at h <;> rename_i hl;rw[if_pos hl];unfold qev at h ⊢;split at h;simp[qbO] at h
  rename_i hw
  rw[if_neg hw];refine⟨by simp only;omega,λhk=>?_⟩;simp only at hk;split at hk <;> cases hk;rw[if_neg hl];split at h <;> rename_i hq;rw[if_pos hq];unfold qcJ at h ⊢;split at h;split at h;simp[qbO] at h
  rename_i hx
  rename_i heq
  rename_i b _ _
  rw[if_neg hx];have hb:b.toNat<4294967296:=Nat.lt_trans (UInt8.toNat_lt b) zDd;exact⟨by have:=qgB hb;simp only;omega,λ_=>⟨b.toNat,hb,qiX _ hb,rfl⟩⟩;simp[qbO] at h;rw[if_neg hq];unfold qgv at h ⊢;split at h
  rename_i x hx
  have h2:=mem_of_find?_eq_some hx;have:∀ x∈qcO,x.length<=100:=by decide
  exact⟨this x h2,λhk=>by cases hk⟩;simp[qbO] at h
theorem qvu{A B:Type}{f:A->B}{r:Except (Int×Int) A}{b:B}(h:r.map f=.ok b):∃ a,r=.ok a/\f a=b:=by
 cases r with
 |ok a=>exact⟨a,rfl,by injection h⟩
 |error e=>cases h
theorem qlT:∀ (f:Nat) (s:List UInt8) (line:Int) (T:List Tok),lexP f s line=.ok T->T.length<=f/\∀ t∈T,qw1 t
 |0,s,line,T,h=>by
  rw[lexP] at h;cases h
  exact⟨zNr _,by simp⟩
 |f+1,s,line,T,h=>by
  rw[lexP] at h;split at h;cases h;exact⟨zero_le _,by simp⟩;split at h;split at h;cases h
  rename_i he
  obtain⟨T',h1,rfl⟩:=qvu h;obtain⟨k1,k2⟩:=qlT f _ _ _ h1;refine⟨by rw[zLc];omega,λt ht=>?_⟩;rcases zMi.1 ht with rfl|ht;exact qoE s (by omega);exact k2 t ht;obtain⟨k1,k2⟩:=qlT f _ _ _ h;exact⟨by omega,k2⟩
def qeF(t:Tok):Prop:=t.text.length<=24/\t.text≠[]/\qbW t.text=0/\(10:UInt8) ∉ t.text/\qay t.text=(⟨t.kind,t.text,0⟩,t.text.length,0)
theorem qm2{c:UInt8}{r:List UInt8}(hw:qd2 c=false)(h47:c≠47):qbW (c::r)=0:=by
 have h:([47,47]:List UInt8).isPrefixOf (c::r)=false:=by
  cases h:([47,47]:List UInt8).isPrefixOf (c::r) with
  |false=>rfl
  |true=>
   simp only[List.isPrefixOf,zBa,beq_iff_eq] at h;exact absurd h.1.symm h47
 unfold qbW;rw[h,if_neg zDd,takeWhile_cons_of_neg (by rw[hw];decide)]
 try rfl
theorem qo2{d:Nat}(h:d<10):qap (UInt8.ofNat (48+d))=true:=by
 have h1:(UInt8.ofNat (48+d)).toNat=48+d:=qkh h;unfold qap cv;rw[h1]
 simp
 omega
theorem qeO(u:Nat):∀ c∈decDigits u,qap c=true:=by
 induction u using Nat.strongRecOn with
 |ind u ih=>
  intro c hc
  by_cases h:u<10
  rw[decDigits_one h] at hc;rw[List.mem_singleton.1 hc];exact qo2 h;rw[decDigits,dif_neg h] at hc;rcases List.mem_append.1 hc with hc|hc;exact ih (u / 10) (by omega) c hc;rw[List.mem_singleton.1 hc];exact qo2 (by omega)
theorem qnU{c:UInt8}(h:qap c=true):qd2 c=false/\c≠47:=by
 unfold qap at h;rw[zBa,zDe,zDe] at h;refine⟨?_,λhc=>?_⟩;unfold qd2;simp only[Bool.or_eq_false_iff,decide_eq_false_iff_not];omega;subst hc;exact absurd h.1 zDd
theorem qnm{c:UInt8}(h:qaT c=true):qd2 c=false/\c≠47:=by
 unfold qaT at h;rw[zBa,zDe,zDe] at h;refine⟨?_,λhc=>?_⟩;unfold qd2;simp only[Bool.or_eq_false_iff,decide_eq_false_iff_not];omega;subst hc;exact absurd h.1 zDd
theorem qoC{p:UInt8->Bool}:∀ {s:List UInt8},(∀ c∈s,p c=true)->s.takeWhile p=s
 |[],_=>rfl
 |c::s,h=>by rw[takeWhile_cons_of_pos (h c zMs),qoC λd hd=>h d (zMo _ hd)]
theorem qvk{p:UInt8->Bool}:∀ {s:List UInt8} {c:UInt8},c∈s.takeWhile p->p c=true
 |[],_,h=>by cases h
 |d::s,c,h=>by
  by_cases hd:p d=true
  rw[takeWhile_cons_of_pos hd] at h;rcases zMi.1 h with rfl|h;exact hd;exact qvk h;rw[takeWhile_cons_of_neg hd] at h;cases h
theorem qna{u:Nat}(hu:u<4294967296)(l:Int):qeF ⟨1,decDigits u,l⟩:=by
 have hd:=qeO u;have hne:=qcb u;refine⟨by have:=qgB hu;simp only;omega,hne,?_,λh=>by have:=hd _ h;exact absurd this zDd,?_⟩;show qbW (decDigits u)=0
 cases hD:decDigits u with
 |nil=>exact absurd hD hne
 |cons c r=>
  have:=qnU (hd c (by rw[hD];exact mem_cons_self ..));exact qm2 this.1 this.2
 show qay (decDigits u)=(⟨1,decDigits u,0⟩,(decDigits u).length,0)
 have h1:qay (decDigits u)=qcA (decDigits u):=by
  cases hD:decDigits u with
  |nil=>exact absurd hD hne
  |cons c r=>rw[qay,if_pos (hd c (by rw[hD];exact mem_cons_self ..))]
 rw[h1];unfold qcA;rw[qoC hd,qiX u hu,if_neg];unfold qep;rw[List.getElem?_eq_none (zNr _)];decide
theorem qqB:∀ x∈qcO,x.length<=24/\x≠[]/\qbW x=0/\(10:UInt8) ∉ x/\qay x=(⟨4,x,0⟩,x.length,0):=by decide +kernel
theorem qkq(s:List UInt8)(h:(qay s).2.2=0):qeF (qay s).1:=by
 match s with
 |[]=>simp[qay,qbO] at h
 |c::r=>
  simp only[qay] at h ⊢;split at h <;> rename_i hc;rw[if_pos hc];unfold qcA at h ⊢;split at h;simp[qbO] at h
  rename_i hw
  rw[if_neg hw];split at h
  rename_i u hu
  exact qna (qi7 hu) 0;simp[qbO] at h;rw[if_neg hc];split at h <;> rename_i hl;rw[if_pos hl];unfold qev at h ⊢;split at h;simp[qbO] at h
  rename_i hw
  rw[if_neg hw];have hin:qaM c=true:=by simp[qaM,hl]
  have hW:(c::r).takeWhile qaM=c::r.takeWhile qaM:=takeWhile_cons_of_pos hin;have hall:∀ d∈(c::r).takeWhile qaM,qaM d=true:=λd hd=>qvk hd;have hww:=qnm hl;refine⟨by simp only;omega,by simp only;rw[hW];simp,by simp only;rw[hW];exact qm2 hww.1 hww.2,λh10=>absurd (hall _ h10) zDd,?_⟩;simp only
  have h1:qay ((c::r).takeWhile qaM)=qev ((c::r).takeWhile qaM):=by
   rw[hW,qay,if_neg hc,if_pos hl]
  rw[h1];unfold qev;rw[qoC hall,if_neg hw];rw[if_neg hl];split at h <;> rename_i hq;rw[if_pos hq];unfold qcJ at h ⊢;split at h;split at h;simp[qbO] at h
  rename_i hx
  rename_i heq
  rename_i b _ _
  rw[if_neg hx];exact qna (Nat.lt_trans (UInt8.toNat_lt b) zDd) 0;simp[qbO] at h;rw[if_neg hq];unfold qgv at h ⊢;split at h
  rename_i x hx
  exact qqB x (mem_of_find?_eq_some hx);simp[qbO] at h
theorem qh8:∀ (f:Nat) (s:List UInt8) (line:Int) (T:List Tok),lexP f s line=.ok T->∀ t∈T,qeF t
 |0,s,line,T,h=>by
  rw[lexP] at h;cases h
  simp
 |f+1,s,line,T,h=>by
  rw[lexP] at h;split at h;cases h
  simp
  split at h;split at h;cases h
  rename_i he
  obtain⟨T',h1,rfl⟩:=qvu h;have k2:=qh8 f _ _ _ h1;intro t ht;rcases zMi.1 ht with rfl|ht;exact qkq s (by omega);exact k2 t ht;exact qh8 f _ _ _ h
def Good{A:Type}(T:List Tok)(s:Bool)(i op:Nat)(r:Res A):Prop:=match r with
 |.ok _ i' op'=>i<=i'/\(s=true->i<i')/\(i<=T.length->i'<=T.length)/\op'=op
 |.err _ _=>True
def qc0{A:Type}(T:List Tok)(s:Bool)(i op:Nat)(r:OR A):Prop:=∀ r',r=some r'->Good T s i op r'
theorem qaR{T:List Tok}{i:Nat}{xs:List (List UInt8)}(h:qa5 T i xs=true):i<T.length:=by
 rcases lt_or_ge i T.length with h1|h1;exact h1;rw[qa5,List.getElem?_eq_none h1] at h;cases h
theorem qjL{T:List Tok}{i:Nat}{t:Tok}(h:T[i]? = some t):i<T.length:=(List.getElem?_eq_some_iff.1 h).1
theorem qbM(T:List Tok)(k:Int)(i op:Nat):Good T true i op (qdE T k i op):=by
 unfold qdE;split
 rename_i t ht
 have:=qjL ht;split;exact⟨by omega,λ_=>by omega,λ_=>by omega,rfl⟩;trivial;trivial
theorem qbq(T:List Tok)(x:List UInt8)(i op:Nat):Good T true i op (qfk T x i op):=by
 unfold qfk;split
 rename_i h
 have:=qaR h;exact⟨by omega,λ_=>by omega,λ_=>by omega,rfl⟩;trivial
theorem qbv{T:List Tok}{x:List UInt8}{i op i' op':Nat}{u:Unit}(h:qcL T x i op=.ok u i' op'):i'=i+1/\op'=op+1/\op<100/\i<T.length:=by
 unfold qcL at h;split at h
 rename_i h1
 have:=qaR h1;split at h;cases h;cases h;exact⟨rfl,rfl,by omega,this⟩;cases h
theorem qfP{T:List Tok}{x:List UInt8}{i op i' op':Nat}{u:Unit}(h:sEnd T x i op=.ok u i' op'):i'=i+1/\op'=op-1/\i<T.length:=by
 unfold sEnd qfk at h;split at h
 rename_i h1
 have:=qaR h1;cases h;exact⟨rfl,rfl,this⟩;cases h
theorem qfQ(T:List Tok)(i op:Nat):Good T true i op (qew T i op):=by
 have:=qbM T 1 i op;unfold qew
 cases h:qdE T 1 i op with
 |ok v i' op'=>rw[h] at this;exact this
 |err l e=>trivial
theorem qaH{A B:Type}{r:OR A}{f:A->Nat->Nat->OR B}{q:Res B}(h:qaJ r f=some q) :
  (∃ v i op,r=some (.ok v i op)/\f v i op=some q)∨(∃ l e,r=some (.err l e)/\q=.err l e):=by
 match r,h with
 |some (.ok v i op),h=>exact .inl ⟨v,i,op,rfl,h⟩
 |some (.err l e),h=>exact .inr ⟨l,e,rfl,by simpa [qaJ] using h.symm⟩
theorem qaK{A B:Type}{T:List Tok}{s t:Bool}{i op j op1:Nat}{r:OR A}{f:A->Nat->Nat->OR B}(hr:qc0 T s j op1 r)
  (hf:∀ v i' ,r=some (.ok v i' op1)->j<=i'->(s=true->j<i')->(j<=T.length->i'<=T.length)->qc0 T t i op (f v i' op1)):qc0 T t i op (qaJ r f):=λq hq=>by
 rcases qaH hq with⟨v,i',op',h1,h2⟩|⟨l,e,_,rfl⟩;obtain⟨g1,g2,g3,g4⟩:=hr _ h1;subst g4;exact hf v i' h1 g1 g2 g3 q h2;trivial
theorem qaF{A:Type}{T:List Tok}{s:Bool}{i op:Nat}{r:Res A}(h:Good T s i op r):qc0 T s i op (some r):=λr' hr=>by cases hr;exact h
theorem qb5{A:Type}{T:List Tok}{s:Bool}{i op:Nat}:qc0 (A:=A) T s i op none:=λr' hr=>by cases hr
theorem qc0.from{A:Type}{T:List Tok}{s t:Bool}{i j op:Nat}{r:OR A}(h:qc0 T s j op r)(hij:i<=j)(hs:t=true->i<j∨s=true)(hT:i<=T.length->j<=T.length):qc0 T t i op r:=λr' hr=>by
 have:=h r' hr
 cases r' with
 |ok v i' op'=>
  obtain⟨g1,g2,g3,g4⟩:=this;refine⟨by omega,λht=>?_,λhi=>g3 (hT hi),g4⟩;rcases hs ht with h1|h1;omega
  have:=g2 h1;omega
 |err l e=>trivial
theorem qfS(T:List Tok):∀ (f:Nat) (acc:List (List UInt8)) (i op:Nat),qc0 T false i op (qbi T f acc i op)
 |0,_,_,_=>qb5
 |f+1,acc,i,op=>by
  rw[qbi];split
  rename_i h
  have:=qaR h;refine qaK (qaF (qbM T 2 (i+1) op)) λv i' _ h1 h2 h3=>?_;exact(qfS T f _ i' op).from (by omega) (by simp) (λ_=>h3 (by omega));exact qaF ⟨by omega,by simp,λh=>h,rfl⟩
theorem qcG(T:List Tok)(f i op:Nat):qc0 T true i op (qgX T f i op):=
 qaK (qaF (qbM T 2 i op)) λv i' _ h1 h2 h3=>(qfS T f _ i' op).from h1 (λ_=>.inl (h2 rfl)) h3
theorem qg2{A:Type}{T:List Tok}{s:Bool}{x y:List UInt8}{i op:Nat}{g:Nat->Nat->OR A}(hg:i<T.length->op<100->qc0 T s (i+1) (op+1) (g (i+1) (op+1))) :
  qc0 T true i op (qaJ (some (qcL T x i op)) λ_ i' op'=>qaJ (g i' op') λv i' op'=>qaJ (some (sEnd T y i' op')) λ_ i' op'=>some (.ok v i' op')):=λq hq=>by
 rcases qaH hq with⟨v,i1,op1,h1,h2⟩|⟨l,e,_,rfl⟩;injection h1 with h1;obtain⟨rfl,rfl,ho,hi⟩:=qbv h1;rcases qaH h2 with⟨w,i2,op2,h3,h4⟩|⟨l,e,_,rfl⟩;obtain⟨g1,_,g3,rfl⟩:=hg hi ho _ h3;rcases qaH h4 with⟨u,i3,op3,h5,h6⟩|⟨l,e,_,rfl⟩;injection h5 with h5;obtain⟨rfl,rfl,hi2⟩:=qfP h5;cases h6;exact⟨by omega,λ_=>by omega,λ_=>by omega,by omega⟩;trivial;trivial;trivial
theorem qcV(T:List Tok):∀ f:Nat,(∀ k i op,qc0 T true i op (eLev T f k i op))/\(∀ k e i op,qc0 T false i op (qhC T f k e i op))/\(∀ i op,qc0 T true i op (qdy T f i op)) /\
  (∀ i op,qc0 T true i op (qiH T f i op))/\(∀ i op,qc0 T true i op (qeg T f i op))/\(∀ i op,qc0 T true i op (qib T f i op))/\(∀ acc i op,qc0 T false i op (qbQ T f acc i op))
 |0=>⟨λ_ _ _=>by rw[eLev];exact qb5,λ_ _ _ _=>by rw[qhC];exact qb5,λ_ _=>by rw[qdy];exact qb5,λ_ _=>by rw[qiH];exact qb5,λ_ _=>by rw[qeg];exact qb5,λ_ _=>by rw[qib];exact qb5,λ_ _ _=>by rw[qbQ];exact qb5⟩
 |f+1=>by
  obtain⟨hL,hO,hU,hP,hI,hA,hB⟩:=qcV T f
  have neg:∀ (x:List UInt8) (nm:List UInt8) (i op:Nat),qc0 T true i op (qaJ (some (qcL T x i op)) λ_ i' op'=>qaJ (qdy T f i' op') λe i' op'=>some (.ok (Ex.mk nm 0 [] [e]) i' (op'-1))):=λx nm i op q hq=>by
   rcases qaH hq with⟨v,i1,op1,h1,h2⟩|⟨l,e,_,rfl⟩;injection h1 with h1;obtain⟨rfl,rfl,ho,hi⟩:=qbv h1;rcases qaH h2 with⟨w,i2,op2,h3,h4⟩|⟨l,e,_,rfl⟩;obtain⟨g1,_,g3,rfl⟩:=hU _ _ _ h3;cases h4;exact⟨by omega,λ_=>by omega,λ_=>g3 (by omega),by omega⟩;trivial;trivial
  refine⟨λk i op=>?_,λk e i op=>?_,λi op=>?_,λi op=>?_,λi op=>?_,λi op=>?_,λacc i op=>?_⟩;rw[eLev];split;exact hU i op;exact qaK (hL (k+1) i op) λv i' _ h1 h2 h3=>(hO k v i' op).from h1 (λ_=>.inl (h2 rfl)) h3;rw[qhC];split
  rename_i h
  have:=qaR h;refine qaK (hL (k+1) (i+1) op) λv i' _ h1 h2 h3=>?_;split;exact qaF ⟨by omega,by simp,λ_=>h3 (by omega),rfl⟩;exact(hO k _ i' op).from (by omega) (by simp) (λ_=>h3 (by omega));exact qaF ⟨by omega,by simp,λh=>h,rfl⟩;rw[qdy];split;exact neg _ _ _ _;split;exact neg _ _ _ _;exact hP i op;rw[qiH];split;exact qg2 (g:=λi op=>eLev T f 0 i op) λ_ _=>hL 0 _ _;split;exact qaK (qaF (qfQ T i op)) λv i' _ h1 h2 h3=>qaF ⟨h1,λ_=>h2 rfl,h3,rfl⟩;refine qaK (qaF (qbM T 2 i op)) λv i' _ h1 h2 h3=>?_;split;exact qaK (hI i' op) λv i2 _ g1 g2 g3=>qaF ⟨by omega,λ_=>by have:=h2 rfl;omega,λh=>g3 (h3 h),rfl⟩;split;exact qaK (hA i' op) λv i2 _ g1 g2 g3=>qaF ⟨by omega,λ_=>by have:=h2 rfl;omega,λh=>g3 (h3 h),rfl⟩;exact qaF ⟨h1,λ_=>h2 rfl,h3,rfl⟩;rw[qeg];exact qg2 (g:=λi op=>eLev T f 0 i op) λ_ _=>hL 0 _ _;rw[qib];exact qg2 (g:=λi op=>qbQ T f [] i op) λ_ _=>hB [] _ _;rw[qbQ];split;exact qaF ⟨by omega,by simp,λh=>h,rfl⟩;refine qaK (s:=false) (j:=i) (op1:=op) ?_ λv i' _ h1 h2 h3=>?_;split;exact qaF ⟨by omega,by simp,λh=>h,rfl⟩;exact qc0.from (qaF (qbq T [44] i op)) (by omega) (by simp) (λh=>h);exact qaK (hL 0 i' op) λv i2 _ g1 g2 g3=>(hB _ i2 op).from (by omega) (by simp) (λh=>g3 (h3 h))
end Go.Stele
namespace Go.Stele
theorem qe2(T:List Tok):∀ f:Nat,(∀ i op,qc0 T true i op (qen T f i op))/\(∀ acc i op,qc0 T false i op (qdx T f acc i op))/\(∀ i op,qc0 T true i op (qiF T f i op))/\(∀ i op,qc0 T true i op (qdr T f i op))
 |0=>⟨λ_ _=>by rw[qen];exact qb5,λ_ _ _=>by rw[qdx];exact qb5,λ_ _=>by rw[qiF];exact qb5,λ_ _=>by rw[qdr];exact qb5⟩
 |f+1=>by
  obtain⟨hB,hL,hS,hM⟩:=qe2 T f;obtain⟨gL,_,_,_,gI,gA,_⟩:=qcV T f;refine⟨λi op=>?_,λacc i op=>?_,λi op=>?_,λi op=>?_⟩;rw[qen];exact qg2 (g:=λi op=>qdx T f [] i op) λ_ _=>hL [] _ _;rw[qdx];split;exact qaF ⟨by omega,by simp,λh=>h,rfl⟩;exact qaK (hS i op) λv i' _ h1 h2 h3=>(hL _ i' op).from h1 (by simp) h3;rw[qiF];split
  rename_i h
  have:=qaR h;refine qaK (gL 0 (i+1) op) λv i' _ h1 h2 h3=>qaK (hB i' op) λw i2 _ g1 g2 g3=>?_;split
  rename_i h4
  have:=qaR h4;refine qaK (hB (i2+1) op) λx i3 _ k1 k2 k3=>qaF ⟨by omega,λ_=>by omega,λ_=>k3 (by omega),rfl⟩;exact qaF ⟨by omega,λ_=>by omega,λ_=>g3 (h3 (by omega)),rfl⟩;split
  rename_i h
  have:=qaR h;exact qaK (gL 0 (i+1) op) λv i' _ h1 h2 h3=>qaK (hB i' op) λw i2 _ g1 g2 g3=>qaF ⟨by omega,λ_=>by omega,λ_=>g3 (h3 (by omega)),rfl⟩;exact qaK (hM i op) λv i' _ h1 h2 h3=>qaK (qaF (qbq T [59] i' op)) λw i2 _ g1 g2 g3=>qaF ⟨by omega,λ_=>by have:=h2 rfl;omega,λhh=>g3 (h3 hh),rfl⟩;rw[qdr];split
  rename_i h
  have:=qaR h;exact qaK (gL 0 (i+1) op) λv i' _ h1 h2 h3=>qaF ⟨by omega,λ_=>by omega,λ_=>h3 (by omega),rfl⟩;split
  rename_i h
  have:=qaR h;exact qaF ⟨by omega,λ_=>by omega,λ_=>by omega,rfl⟩;refine qaK (qaF (qbM T 2 i op)) λv i' _ h1 h2 h3=>?_;split;exact qaK (gA i' op) λw i2 _ g1 g2 g3=>qaF ⟨by omega,λ_=>by have:=h2 rfl;omega,λhh=>g3 (h3 hh),rfl⟩;split
  exact qaK (gI i' op) λw i2 _ g1 g2 g3=>qaK (qaF (qbq T [61] i2 op)) λu i3 _ k1 k2 k3=>qaK (gL 0 i3 op) λx i4 _ m1 m2 m3=>
   qaF ⟨by omega,λ_=>by have:=h2 rfl;omega,λhh=>m3 (k3 (g3 (h3 hh))),rfl⟩
  exact qaK (qaF (qbq T [61] i' op)) λu i3 _ k1 k2 k3=>qaK (gL 0 i3 op) λx i4 _ m1 m2 m3=>
   qaF ⟨by omega,λ_=>by have:=h2 rfl;omega,λhh=>m3 (k3 (h3 hh)),rfl⟩
theorem qcp(T:List Tok):∀ (f:Nat) (acc:List (List UInt8)) (i op:Nat),qc0 T (qa5 T i [qqb]) i op (qfm T f acc i op)
 |0,_,_,_=>by rw[qfm];exact qb5
 |f+1,acc,i,op=>by
  rw[qfm];split
  rename_i h
  have:=qaR h
  exact qaK (qcG T f (i+1) op) λv i' _ h1 h2 h3=>qaK (qaF (qbq T [59] i' op)) λu i2 _ g1 g2 g3=>
   (qcp T f _ i2 op).from (by omega) (λ_=>.inl (by omega)) (λ_=>g3 (h3 (by omega)))
  rename_i h
  exact qaF ⟨by omega,λhh=>absurd hh h,λh=>h,rfl⟩
def Ends{A:Type}(r:OR A):Prop:=∃ q,r=some q
theorem qar{A B:Type}{r:OR A}{f:A->Nat->Nat->OR B}(h:Ends r)(k:∀ v i op,r=some (.ok v i op)->Ends (f v i op)):Ends (qaJ r f):=by
 obtain⟨q,rfl⟩:=h
 cases q with
 |ok v i op=>exact k v i op rfl
 |err l e=>exact⟨_,rfl⟩
theorem qaq{A:Type}{r:Res A}:Ends (some r):=⟨_,rfl⟩
theorem qcK{B:Type}{T:List Tok}{x:List UInt8}{i op:Nat}{g:Unit->Nat->Nat->OR B}(k:i<T.length->op<100->Ends (g () (i+1) (op+1))):Ends (qaJ (some (qcL T x i op)) g):=
 qar qaq λv i1 op1 h1=>by
  injection h1 with h1;obtain⟨rfl,rfl,ho,hi⟩:=qbv h1;exact k hi ho
theorem qsa(T:List Tok):∀ f:Nat,(∀ k i op,k<=6->i<=T.length->10 * (T.length-i)+20-k<=f->Ends (eLev T f k i op))/\(∀ k e i op,k<=5->i<=T.length->10 * (T.length-i)+11<=f->Ends (qhC T f k e i op)) /\
  (∀ i op,i<=T.length->10 * (T.length-i)+13<=f->Ends (qdy T f i op))/\(∀ i op,i<=T.length->10 * (T.length-i)+12<=f->Ends (qiH T f i op))/\(∀ i op,i<=T.length->10 * (T.length-i)+11<=f->Ends (qeg T f i op)) /\
  (∀ i op,i<=T.length->10 * (T.length-i)+12<=f->Ends (qib T f i op))/\(∀ acc i op,i<=T.length->10 * (T.length-i)+21<=f->Ends (qbQ T f acc i op))
 |0=>⟨λ_ _ _ _ _ _=>by omega,λ_ _ _ _ _ _ _=>by omega,λ_ _ _ _=>by omega,λ_ _ _ _=>by omega,λ_ _ _ _=>by omega,λ_ _ _ _=>by omega,λ_ _ _ _ _=>by omega⟩
 |f+1=>by
  obtain⟨hL,hO,hU,hP,hI,hA,hB⟩:=qsa T f;obtain⟨gL,gO,gU,gP,gI,gA,gB⟩:=qcV T f
  have neg:∀ (x nm:List UInt8) (i op:Nat),10 * (T.length-i)+13<=f+1->Ends (qaJ (some (qcL T x i op)) λ_ i' op'=>qaJ (qdy T f i' op') λe i' op'=>some (.ok (Ex.mk nm 0 [] [e]) i' (op'-1))):=λx nm i op hf=>
   qcK λhi ho=>qar (hU _ _ (by omega) (by omega)) λv i2 op2 _=>qaq
  refine⟨λk i op hk hi hf=>?_,λk e i op hk hi hf=>?_,λi op hi hf=>?_,λi op hi hf=>?_,λi op hi hf=>?_,λi op hi hf=>?_,λacc i op hi hf=>?_⟩;rw[eLev];split;exact hU i op hi (by omega);refine qar (hL (k+1) i op (by omega) hi (by omega)) λv i' op' h=>?_;obtain⟨g1,g2,g3,rfl⟩:=gL (k+1) i op _ h;have:=g2 rfl;exact hO k v i' op' (by omega) (g3 hi) (by have:=g3 hi;omega);rw[qhC];split
  rename_i h
  have:=qaR h;refine qar (hL (k+1) (i+1) op (by omega) (by omega) (by omega)) λv i' op' h=>?_;obtain⟨g1,g2,g3,rfl⟩:=gL (k+1) (i+1) op _ h;have:=g3 (by omega);split;exact qaq;exact hO k _ i' op' hk this (by omega);exact qaq;rw[qdy];split;exact neg _ _ _ _ hf;split;exact neg _ _ _ _ hf;exact hP i op hi (by omega);rw[qiH];split;exact qcK λhlt ho=>qar (hL 0 _ _ (by omega) (by omega) (by omega)) λv i2 op2 _=>qar qaq λ_ _ _ _=>qaq;split;exact qar qaq λ_ _ _ _=>qaq;refine qar qaq λv i' op' h=>?_;injection h with h;have hg:=qbM T 2 i op;rw[h] at hg;obtain⟨h1,h2,h3,rfl⟩:=hg;have:=h2 rfl;have:=h3 hi;split;exact qar (hI i' _ (by omega) (by omega)) λ_ _ _ _=>qaq;split;exact qar (hA i' _ (by omega) (by omega)) λ_ _ _ _=>qaq;exact qaq;rw[qeg];exact qcK λhlt ho=>qar (hL 0 _ _ (by omega) (by omega) (by omega)) λv i2 op2 _=>qar qaq λ_ _ _ _=>qaq;rw[qib];exact qcK λhlt ho=>qar (hB [] _ _ (by omega) (by omega)) λv i2 op2 _=>qar qaq λ_ _ _ _=>qaq;rw[qbQ];split;exact qaq;refine qar qaq λv i' op' h=>?_
  have hg:i<=i'/\i'<=T.length:=by
   injection h with h;split at h;cases h;exact⟨zNr _,hi⟩;have hg:=qbq T [44] i op;rw[h] at hg;exact⟨hg.1,hg.2.2.1 hi⟩
  refine qar (hL 0 i' op' (by omega) hg.2 (by omega)) λv2 i2 op2 h2=>?_;obtain⟨g1,g2,g3,rfl⟩:=gL 0 i' op' _ h2;have:=g2 rfl;have:=g3 hg.2;exact hB _ i2 _ this (by omega)
theorem qra(T:List Tok):∀ f:Nat,(∀ i op,i<=T.length->10 * (T.length-i)+5<=f->Ends (qen T f i op))/\(∀ acc i op,i<=T.length->10 * (T.length-i)+14<=f->Ends (qdx T f acc i op)) /\
  (∀ i op,i<=T.length->10 * (T.length-i)+13<=f->Ends (qiF T f i op))/\(∀ i op,i<=T.length->10 * (T.length-i)+12<=f->Ends (qdr T f i op))
 |0=>⟨λ_ _ _ _=>by omega,λ_ _ _ _ _=>by omega,λ_ _ _ _=>by omega,λ_ _ _ _=>by omega⟩
 |f+1=>by
  obtain⟨hB,hL,hS,hM⟩:=qra T f;obtain⟨eL,_,_,_,eI,eA,_⟩:=qsa T f;obtain⟨gL,_,_,_,gI,gA,_⟩:=qcV T f;obtain⟨kB,kL,kS,kM⟩:=qe2 T f;refine⟨λi op hi hf=>?_,λacc i op hi hf=>?_,λi op hi hf=>?_,λi op hi hf=>?_⟩;rw[qen];exact qcK λhlt ho=>qar (hL [] _ _ (by omega) (by omega)) λv i2 op2 _=>qar qaq λ_ _ _ _=>qaq;rw[qdx];split;exact qaq;refine qar (hS i op hi (by omega)) λv i' op' h=>?_;obtain⟨g1,g2,g3,rfl⟩:=kS i op _ h;have:=g2 rfl;have:=g3 hi;exact hL _ i' _ (by omega) (by omega);rw[qiF];split
  rename_i h
  have:=qaR h;refine qar (eL 0 (i+1) op (by omega) (by omega) (by omega)) λv i' op' h=>?_;obtain⟨g1,g2,g3,rfl⟩:=gL 0 (i+1) op _ h;have:=g2 rfl;have:=g3 (by omega);refine qar (hB i' _ (by omega) (by omega)) λv2 i2 op2 h2=>?_;obtain⟨q1,q2,q3,rfl⟩:=kB i' _ _ h2;have:=q3 (by omega);split
  rename_i h4
  have:=qaR h4;exact qar (hB (i2+1) _ (by omega) (by omega)) λ_ _ _ _=>qaq;exact qaq;split
  rename_i h
  have:=qaR h;refine qar (eL 0 (i+1) op (by omega) (by omega) (by omega)) λv i' op' h=>?_;obtain⟨g1,g2,g3,rfl⟩:=gL 0 (i+1) op _ h;have:=g2 rfl;have:=g3 (by omega);exact qar (hB i' _ (by omega) (by omega)) λv2 i2 op2 h2=>qaq;exact qar (hM i op hi (by omega)) λ_ _ _ _=>qar qaq λ_ _ _ _=>qaq;rw[qdr];split
  rename_i h
  have:=qaR h;exact qar (eL 0 (i+1) op (by omega) (by omega) (by omega)) λ_ _ _ _=>qaq;split;exact qaq;refine qar qaq λv i' op' h=>?_;injection h with h;have hg:=qbM T 2 i op;rw[h] at hg;obtain⟨h1,h2,h3,rfl⟩:=hg;have:=h2 rfl;have:=h3 hi;split;exact qar (eA i' _ (by omega) (by omega)) λ_ _ _ _=>qaq
  have tail:∀ (i2 op2:Nat) (g:Ex->Sm),i'<=i2->i2<=T.length->Ends (qaJ (some (qfk T [61] i2 op2)) λ_ i' op'=>qaJ (eLev T f 0 i' op') λe i' op'=>some (.ok (g e) i' op')):=λi2 op2 g hi1 hi2=>by
   refine qar qaq λv i3 op3 h3=>?_;injection h3 with h3;have hg:=qbq T [61] i2 op2;rw[h3] at hg;have:=hg.2.2.1 hi2;have:=hg.1;exact qar (eL 0 i3 _ (by omega) (by omega) (by omega)) λ_ _ _ _=>qaq
  split;refine qar (eI i' _ (by omega) (by omega)) λv2 i2 op2 h2=>?_;obtain⟨q1,q2,q3,rfl⟩:=gI i' _ _ h2;exact tail i2 _ _ q1 (q3 (by omega));exact tail i' _ _ (zNr _) (by omega)
theorem qfH(T:List Tok):∀ (f:Nat) (acc:List (List UInt8)) (i op:Nat),i<=T.length->T.length-i+1<=f->Ends (qbi T f acc i op)
 |0,_,_,_,_,h=>by omega
 |f+1,acc,i,op,hi,hf=>by
  rw[qbi];split
  rename_i h
  have:=qaR h;refine qar qaq λv i' op' h=>?_;injection h with h;have hg:=qbM T 2 (i+1) op;rw[h] at hg;obtain⟨h1,h2,h3,rfl⟩:=hg;exact qfH T f _ i' _ (h3 (by omega)) (by have:=h3 (by omega);omega);exact qaq
theorem qj2(T:List Tok)(f i op:Nat)(hi:i<=T.length)(hf:T.length-i+1<=f):Ends (qgX T f i op):=
 qar qaq λv i' op' h=>by
  injection h with h;have hg:=qbM T 2 i op;rw[h] at hg;obtain⟨h1,h2,h3,rfl⟩:=hg;exact qfH T f _ i' _ (h3 hi) (by have:=h3 hi;omega)
theorem qh9(T:List Tok):∀ (f:Nat) (acc:List (List UInt8)) (i op:Nat),i<=T.length->T.length-i+2<=f->Ends (qfm T f acc i op)
 |0,_,_,_,_,h=>by omega
 |f+1,acc,i,op,hi,hf=>by
  rw[qfm];split
  rename_i h
  have:=qaR h;refine qar (qj2 T f (i+1) op (by omega) (by omega)) λv i' op' h=>?_;obtain⟨g1,g2,g3,rfl⟩:=qcG T f (i+1) op _ h;have:=g3 (by omega);refine qar qaq λv i2 op2 h2=>?_;injection h2 with h2;have hg:=qbq T [59] i' op';rw[h2] at hg;obtain⟨h1,h2,h3,rfl⟩:=hg;have:=h3 (by omega);exact qh9 T f _ i2 _ (by omega) (by omega);exact qaq
theorem qld{B:Type}{T:List Tok}{k:Int}{i op:Nat}{g:List UInt8->Nat->Nat->OR B}(h:∀ s,i<T.length->Ends (g s (i+1) op)):Ends (qaJ (some (qdE T k i op)) g):=
 qar qaq λv i' op' hw=>by
  injection hw with hw;unfold qdE at hw;split at hw
  rename_i t ht
  have:=qjL ht;split at hw;cases hw;exact h _ this;cases hw;cases hw
theorem qtl{B:Type}{T:List Tok}{x:List UInt8}{i op:Nat}{g:Unit->Nat->Nat->OR B}(h:i<T.length->Ends (g () (i+1) (op-1))):Ends (qaJ (some (sEnd T x i op)) g):=
 qar qaq λv i' op' hw=>by
  injection hw with hw;obtain⟨rfl,rfl,hlt⟩:=qfP hw;exact h hlt
theorem qqo(T:List Tok)(f i op:Nat)(hi:i<=T.length)(hf:10 * (T.length-i)+14<=f):Ends (qlP T f i op):=by
 unfold qlP;refine qld λs h1=>qcK λh2 h3=>qar ?_ λv i2 op2 h4=>qtl λh5=>qcK λh6 h7=>qar (qh9 T f [] _ _ (by omega) ?_) λv2 i3 op3 h8=>qar ((qra T f).2.1 [] _ _ ?_ ?_) λv3 i4 op4 h9=>qar qaq λ_ _ _ _=>qaq;split;exact qaq;exact qj2 T f _ _ (by omega) (by omega)
 have:i+1+1<=i2:=by
  split at h4;cases h4;omega;exact(qcG T f _ _ _ h4).1
 omega;exact(qcp T f _ _ _ _ h8).2.2.1 (by omega)
 have:i+1+1<=i2:=by
  split at h4;cases h4;omega;exact(qcG T f _ _ _ h4).1
 have:=(qcp T f _ _ _ _ h8).1;omega
theorem qeA(T:List Tok)(f i op:Nat):qc0 T true i op (qlP T f i op):=by
 intro q hq0;unfold qlP at hq0
 cases q with
 |err l e=>trivial
 |ok v i9 op9=>
  rcases qaH hq0 with⟨s,i1,op1,h1,hq1⟩|⟨l,e,_,h⟩;injection h1 with h1;have g1:=qbM T 2 i op;rw[h1] at g1;obtain⟨a1,a2,a3,rfl⟩:=g1;have:=a2 rfl;rcases qaH hq1 with⟨_,i2,op2,h2,hq2⟩|⟨l,e,_,h⟩;injection h2 with h2;obtain⟨rfl,rfl,b1,b2⟩:=qbv h2;rcases qaH hq2 with⟨ps,i3,op3,h3,hq3⟩|⟨l,e,_,h⟩
  have c:i1+1<=i3/\(i1+1<=T.length->i3<=T.length)/\op3=op1+1:=by
   split at h3;cases h3;exact⟨zNr _,λh=>h,rfl⟩;obtain⟨c1,_,c3,c4⟩:=qcG T f _ _ _ h3;exact⟨c1,c3,c4⟩
  obtain⟨c1,c2,rfl⟩:=c;rcases qaH hq3 with⟨_,i4,op4,h4,hq4⟩|⟨l,e,_,h⟩;injection h4 with h4;obtain⟨rfl,rfl,d1⟩:=qfP h4;rcases qaH hq4 with⟨_,i5,op5,h5,hq5⟩|⟨l,e,_,h⟩;injection h5 with h5;obtain⟨rfl,rfl,e1,e2⟩:=qbv h5;rcases qaH hq5 with⟨ls,i6,op6,h6,hq6⟩|⟨l,e,_,h⟩;obtain⟨f1,_,f3,rfl⟩:=qcp T f _ _ _ _ h6;have:=f3 (by omega);rcases qaH hq6 with⟨bs,i7,op7,h7,hq7⟩|⟨l,e,_,h⟩;obtain⟨k1,_,k3,rfl⟩:=(qe2 T f).2.1 _ _ _ _ h7;have:=k3 (by omega);rcases qaH hq7 with⟨_,i8,op8,h8,hq8⟩|⟨l,e,_,h⟩;injection h8 with h8;obtain⟨rfl,rfl,m1⟩:=qfP h8;cases hq8;exact⟨by omega,λ_=>by omega,λ_=>by omega,by omega⟩;cases h;cases h;cases h;cases h;cases h;cases h;cases h;cases h
theorem qdY(T:List Tok)(i op:Nat):qc0 T true i op (qgN T i op):=by
 intro q hq0;unfold qgN at hq0
 cases q with
 |err l e=>trivial
 |ok v i9 op9=>
  rcases qaH hq0 with⟨s,i1,op1,h1,hq1⟩|⟨l,e,_,h⟩;injection h1 with h1;have g1:=qbM T 2 i op;rw[h1] at g1;obtain⟨a1,a2,a3,rfl⟩:=g1;have:=a2 rfl;rcases qaH hq1 with⟨_,i2,op2,h2,hq2⟩|⟨l,e,_,h⟩;injection h2 with h2;obtain⟨rfl,rfl,b1,b2⟩:=qbv h2;rcases qaH hq2 with⟨ps,i3,op3,h3,hq3⟩|⟨l,e,_,h⟩;injection h3 with h3;have g3:=qfQ T (i1+1) (op1+1);rw[h3] at g3;obtain⟨c1,c2,c3,rfl⟩:=g3;have:=c2 rfl;rcases qaH hq3 with⟨_,i4,op4,h4,hq4⟩|⟨l,e,_,h⟩;injection h4 with h4;obtain⟨rfl,rfl,d1⟩:=qfP h4;rcases qaH hq4 with⟨_,i5,op5,h5,hq5⟩|⟨l,e,_,h⟩;injection h5 with h5;have g5:=qbq T [59] (i3+1) op4;rw[h5] at g5;obtain⟨e1,e2,e3,rfl⟩:=g5;have:=e2 rfl;have:=e3 (by omega);cases hq5;exact⟨by omega,λ_=>by omega,λ_=>by omega,by omega⟩;cases h;cases h;cases h;cases h;cases h
theorem qol(T:List Tok)(i op:Nat):Ends (qgN T i op):=by
 unfold qgN;exact qld λs _=>qcK λ_ _=>qar qaq λ_ _ _ _=>qar qaq λ_ _ _ _=>qar qaq λ_ _ _ _=>qaq
theorem qeL(T:List Tok):∀ (f:Nat) (p:Pr) (i op:Nat),i<=T.length->10 * (T.length-i)+20<=f->Ends (qfs T f p i op)
 |0,_,_,_,_,h=>by omega
 |f+1,p,i,op,hi,hf=>by
  rw[qfs];split;exact qaq;split
  rename_i h
  have:=qaR h;refine qar (qh9 T f _ i op hi (by omega)) λv i' op' h2=>?_;obtain⟨g1,g2,g3,rfl⟩:=qcp T f _ i op _ h2;have:=g2 h;have:=g3 hi;exact qeL T f _ i' _ (by omega) (by omega);split
  rename_i h
  have:=qaR h;refine qar (qol T _ _) λv i' op' h2=>?_;obtain⟨g1,g2,g3,rfl⟩:=qdY T _ _ _ h2;have:=g3 (by omega);exact qeL T f _ i' _ (by omega) (by omega);split
  rename_i h
  have:=qaR h;refine qar (qqo T f _ _ (by omega) (by omega)) λv i' op' h2=>?_;obtain⟨g1,g2,g3,rfl⟩:=qeA T f _ _ _ h2;have:=g3 (by omega);exact qeL T f _ i' _ (by omega) (by omega);exact qaq
theorem qwu{T:List Tok}{k:Int}{i op:Nat}{s:List UInt8}{i' op':Nat}(h:some (qdE T k i op)=some (.ok s i' op')):i'=i+1/\op'=op:=by
 injection h with h;unfold qdE at h;split at h;split at h;cases h;exact⟨rfl,rfl⟩;cases h;cases h
theorem qr3{T:List Tok}{x:List UInt8}{i op:Nat}{u:Unit}{i' op':Nat}(h:some (qfk T x i op)=some (.ok u i' op')):i'=i+1/\op'=op:=by
 injection h with h;unfold qfk at h;split at h;cases h;exact⟨rfl,rfl⟩;cases h
abbrev KT:=Int×List UInt8
def sg(c:UInt8):KT:=(4,[c])
def qeR(x:List UInt8):Prop:=qeF ⟨2,x,0⟩
mutual
inductive PE:Ex->Nat->List KT->Nat->Prop
 |num {n k:Nat} (h:n<4294967296):PE (.mk nNum n [] []) k [(1,Go.Lib.decDigits n)] 0
 |var {s:List UInt8} {k:Nat} (h:qeR s):PE (.mk nVar 0 s []) k [(2,s)] 0
 |elem {s:List UInt8} {k:Nat} {a:Ex} {ts:List KT} {d:Nat} (h:qeR s) (ha:PE a 0 ts d):PE (.mk qeX 0 s [a]) k ((2,s)::sg 91::(ts++[sg 93])) (d+1)
 |call {s:List UInt8} {k:Nat} {l:List Ex} {ts:List KT} {d:Nat} (h:qeR s) (hl:PEs l ts d):PE (.mk qch 0 s l) k ((2,s)::sg 40::(ts++[sg 41])) (d+1)
 |neg {k:Nat} {a:Ex} {ts:List KT} {d:Nat} (ha:PE a 6 ts d):PE (.mk nNeg 0 [] [a]) k (sg 45::ts) (d+1)
 |not {k:Nat} {a:Ex} {ts:List KT} {d:Nat} (ha:PE a 6 ts d):PE (.mk nNot 0 [] [a]) k (sg 33::ts) (d+1)
 |bin {s k:Nat} {op:List UInt8} {a b:Ex} {t1 t2:List KT} {d1 d2:Nat} (hs:s<6) (ho:op∈qbZ s) (hk:k<=s) (ha:PE a (qjI s) t1 d1) (hb:PE b (s+1) t2 d2):PE (.mk op 0 [] [a,b]) k (t1++(4,op)::t2) (max d1 d2)
 |par {s k:Nat} {op:List UInt8} {a b:Ex} {t1 t2:List KT} {d1 d2:Nat} (hs:s<6) (ho:op∈qbZ s) (hk:s<k) (ha:PE a (qjI s) t1 d1) (hb:PE b (s+1) t2 d2):PE (.mk op 0 [] [a,b]) k (sg 40::((t1++(4,op)::t2)++[sg 41])) (max d1 d2+1)
inductive PEs:List Ex->List KT->Nat->Prop
 |nil:PEs [] [] 0
 |one {a:Ex} {ts:List KT} {d:Nat} (ha:PE a 0 ts d):PEs [a] ts d
 |more {a b:Ex} {l:List Ex} {t1 t2:List KT} {d1 d2:Nat} (ha:PE a 0 t1 d1) (hl:PEs (b::l) t2 d2):PEs (a::b::l) (t1++sg 44::t2) (max d1 d2)
end
theorem PE.weak{e:Ex}{k k':Nat}{ts:List KT}{d:Nat}(h:PE e k ts d)(hk:k'<=k):∃ ts' d',PE e k' ts' d'/\ts'.length<=ts.length/\d'<=d:=by
 cases h with
 |num h=>exact⟨_,_,.num h,zNr _,zNr _⟩
 |var h=>exact⟨_,_,.var h,zNr _,zNr _⟩
 |elem h ha=>exact⟨_,_,.elem h ha,zNr _,zNr _⟩
 |call h ha=>exact⟨_,_,.call h ha,zNr _,zNr _⟩
 |neg ha=>exact⟨_,_,.neg ha,zNr _,zNr _⟩
 |not ha=>exact⟨_,_,.not ha,zNr _,zNr _⟩
 |bin hs ho hk2 ha hb=>exact⟨_,_,.bin hs ho (by omega) ha hb,zNr _,zNr _⟩
 |par hs ho hk2 ha hb=>
  rename_i s _ _ _ _ _ _ _
  by_cases h2:k'<=s
  exact⟨_,_,.bin hs ho h2 ha hb,by simp only[zLa,zLc,zLn];omega,by omega⟩;exact⟨_,_,.par hs ho (by omega) ha hb,zNr _,zNr _⟩
theorem PE.paren{e:Ex}{ts:List KT}{d:Nat}(h:PE e 0 ts d):∃ ts' d',PE e 6 ts' d'/\ts'.length<=ts.length+2/\d'<=d+1:=by
 cases h with
 |num h=>exact⟨_,_,.num h,by omega,by omega⟩
 |var h=>exact⟨_,_,.var h,by omega,by omega⟩
 |elem h ha=>exact⟨_,_,.elem h ha,by omega,by omega⟩
 |call h ha=>exact⟨_,_,.call h ha,by omega,by omega⟩
 |neg ha=>exact⟨_,_,.neg ha,by omega,by omega⟩
 |not ha=>exact⟨_,_,.not ha,by omega,by omega⟩
 |bin hs ho hk2 ha hb=>exact⟨_,_,.par hs ho hs ha hb,by simp only[zLa,zLc,zLn];omega,by omega⟩
 |par hs ho hk2 ha hb=>omega
theorem PEs.snoc:∀ {l:List Ex} {a:Ex} {t0 t1:List KT} {d0 d1:Nat},PEs l t0 d0->PE a 0 t1 d1->∃ t,PEs (l++[a]) t (max d0 d1)/\t.length=t0.length+(if l=[] then 0 else 1)+t1.length:=by
 intro l
 induction l with
 |nil=>
  intro a t0 t1 d0 d1 h h1
  cases h with
  |nil=>exact⟨t1,by rw[Nat.zero_max];exact .one h1,by simp⟩
 |cons b l ih=>
  intro a t0 t1 d0 d1 h h1
  cases h with
  |one hb=>exact⟨_,.more hb (.one h1),by simp only[zLa,zLc];simp;omega⟩
  |more hb hl=>
   obtain⟨t,g1,g2⟩:=ih hl h1;exact⟨_,by rw[Nat.max_assoc];exact .more hb g1,by simp only[zLa,zLc,g2];simp;omega⟩
def Wh{A:Type}(P:A->Nat->Nat->Prop)(r:OR A):Prop:=∀ v i op,r=some (.ok v i op)->P v i op
theorem qbe{A B:Type}{r:OR A}{k:A->Nat->Nat->OR B}{P:A->Nat->Nat->Prop}{Q:B->Nat->Nat->Prop}(hr:Wh P r)(hk:∀ v i op,P v i op->Wh Q (k v i op)):Wh Q (qaJ r k):=λv i op h=>by
 rcases qaH h with⟨w,i1,op1,h1,h2⟩|⟨_,_,_,h2⟩;exact hk _ _ _ (hr _ _ _ h1) v i op h2;cases h2
theorem qg7{A B:Type}{r:OR A}{k:A->Nat->Nat->OR B}{Q:B->Nat->Nat->Prop}(hk:∀ v i op,r=some (.ok v i op)->Wh Q (k v i op)):Wh Q (qaJ r k):=qbe (λ_ _ _ h=>h) hk
theorem qcN{A:Type}{P:A->Nat->Nat->Prop}{v:A}{i op:Nat}(h:P v i op):Wh P (some (.ok v i op)):=λ_ _ _ e=>by cases e;exact h
theorem qcY{A:Type}{P:A->Nat->Nat->Prop}:Wh P none:=λ_ _ _ e=>by cases e
theorem qmj{A:Type}{P Q:A->Nat->Nat->Prop}{r:OR A}(h:Wh P r)(hPQ:∀ v i op,P v i op->Q v i op):Wh Q r:=λv i op e=>hPQ _ _ _ (h v i op e)
theorem qdF{B:Type}{T:List Tok}{x:List UInt8}{i op:Nat}{k:Unit->Nat->Nat->OR B}{Q:B->Nat->Nat->Prop}(hk:op<100->Wh Q (k () (i+1) (op+1))):Wh Q (qaJ (some (qcL T x i op)) k):=qg7 λv i1 op1 h=>by
 injection h with h;obtain⟨rfl,rfl,h3,_⟩:=qbv h;exact hk h3
theorem qjE{B:Type}{T:List Tok}{x:List UInt8}{i op:Nat}{k:Unit->Nat->Nat->OR B}{Q:B->Nat->Nat->Prop}(hk:Wh Q (k () (i+1) (op-1))):Wh Q (qaJ (some (sEnd T x i op)) k):=qg7 λv i1 op1 h=>by
 injection h with h;obtain⟨rfl,rfl,_⟩:=qfP h;exact hk
theorem qkk{B:Type}{T:List Tok}{x:List UInt8}{i op:Nat}{k:Unit->Nat->Nat->OR B}{Q:B->Nat->Nat->Prop}(hk:Wh Q (k () (i+1) op)):Wh Q (qaJ (some (qfk T x i op)) k):=qg7 λv i1 op1 h=>by
 obtain⟨rfl,rfl⟩:=qr3 h;exact hk
theorem qqy{T:List Tok}(hT:∀ t∈T,qeF t){i op i' op':Nat}{s:List UInt8}(h:qdE T 2 i op=.ok s i' op'):qeR s/\i'=i+1/\op'=op:=by
 unfold qdE at h;split at h
 rename_i t ht
 split at h
 rename_i hk
 cases h;have:=hT t (List.mem_of_getElem? ht);refine⟨?_,rfl,rfl⟩;unfold qeR;unfold qeF at this ⊢;rw[hk] at this;exact this;cases h;cases h
theorem qh1{B:Type}{T:List Tok}(hT:∀ t∈T,qeF t){i op:Nat}{k:List UInt8->Nat->Nat->OR B}{Q:B->Nat->Nat->Prop}(hk:∀ s,qeR s->Wh Q (k s (i+1) op)):Wh Q (qaJ (some (qdE T 2 i op)) k):=qg7 λv i1 op1 h=>by
 injection h with h;obtain⟨h1,rfl,rfl⟩:=qqy hT h;exact hk v h1
theorem qug(s:List UInt8):qoe s<4294967296:=by
 unfold qoe;split
 rename_i u h
 exact qi7 h;decide
theorem qmV{B:Type}{T:List Tok}{i op:Nat}{k:Nat->Nat->Nat->OR B}{Q:B->Nat->Nat->Prop}(hk:∀ n,n<4294967296->Wh Q (k n (i+1) op)):Wh Q (qaJ (some (qew T i op)) k):=qg7 λv i1 op1 h=>by
 injection h with h;unfold qew Res.bind at h;split at h
 rename_i h1
 cases h;obtain⟨rfl,rfl⟩:=qwu (congrArg some h1);exact hk _ (qug _);cases h
theorem qqj{T:List Tok}{i:Nat}{xs:List (List UInt8)}(h:qa5 T i xs=true):qfi T i∈xs:=by
 unfold qa5 at h;unfold qfi;split at h
 rename_i t ht
 simp only[zBa] at h;simpa using h.2;cases h
def SE(k i op:Nat)(e:Ex)(i' op':Nat):Prop:=op'=op/\∃ ts d,PE e k ts d/\ts.length+i<=i'/\d<=100-op
def SX(i op:Nat)(e:Ex)(i' op':Nat):Prop:=op'=op/\∃ ts d,PE e 0 ts d/\ts.length+2+i<=i'/\d+1<=100-op
def SA(i op:Nat)(l:List Ex)(i' op':Nat):Prop:=op'=op/\∃ ts d,PEs l ts d/\ts.length+2+i<=i'/\d+1<=100-op
def SL(i op:Nat)(l:List Ex)(i' op':Nat):Prop:=op'=op/\∃ ts d,PEs l ts d/\ts.length+i<=i'/\d<=100-op
theorem qvr{T:List Tok}(hT:∀ t∈T,qeF t):∀ f:Nat,(∀ k i op,k<=6->Wh (SE k i op) (eLev T f k i op))/\(∀ k e i0 i op ts d,k<6->PE e (qjI k) ts d->ts.length+i0<=i->d<=100-op->Wh (SE k i0 op) (qhC T f k e i op)) /\
  (∀ i op,Wh (SE 6 i op) (qdy T f i op))/\(∀ i op,Wh (SE 6 i op) (qiH T f i op))/\(∀ i op,Wh (SX i op) (qeg T f i op))/\(∀ i op,Wh (SA i op) (qib T f i op)) /\
  (∀ acc i0 i op ts d,PEs acc ts d->ts.length+i0<=i->d<=100-op->Wh (SL i0 op) (qbQ T f acc i op))
 |0=>⟨λ_ _ _ _=>by rw[eLev];exact qcY,λ_ _ _ _ _ _ _ _ _ _ _=>by rw[qhC];exact qcY,λ_ _=>by rw[qdy];exact qcY,λ_ _=>by rw[qiH];exact qcY,λ_ _=>by rw[qeg];exact qcY,λ_ _=>by rw[qib];exact qcY,λ_ _ _ _ _ _ _ _ _=>by rw[qbQ];exact qcY⟩
 |f+1=>by
  obtain⟨hL,hO,hU,hP,hI,hA,hB⟩:=qvr hT f;refine⟨λk i op hk=>?_,λk e i0 i op ts d hk hP0 hts hd=>?_,λi op=>?_,λi op=>?_,λi op=>?_,λi op=>?_,λacc i0 i op ts d hP0 hts hd=>?_⟩;rw[eLev];split
  rename_i h6
  subst h6;exact hU i op;refine qbe (hL (k+1) i op (by omega)) λv i' op' h=>?_;obtain⟨rfl,ts,d,h1,h2,h3⟩:=h;obtain⟨ts',d',g1,g2,g3⟩:=h1.weak (k':=qjI k) (by unfold qjI;split <;> omega);exact hO k v i i' _ ts' d' (by omega) g1 (by omega) (by omega);rw[qhC];split
  rename_i ht
  refine qbe (hL (k+1) (i+1) op (by omega)) λv i' op' h=>?_;obtain⟨rfl,t2,d2,h1,h2,h3⟩:=h;have hb:PE (.mk (qfi T i) 0 [] [e,v]) k (ts++(4,qfi T i)::t2) (max d d2):=.bin hk (qqj ht) (zNr _) hP0 h1;split;exact qcN ⟨rfl,_,_,hb,by simp only[zLa,zLc];omega,by omega⟩
  rename_i h22
  refine hO k _ i0 i' _ _ _ hk (by rw[qjI,if_neg h22];exact hb) (by simp only[zLa,zLc];omega) (by omega);obtain⟨ts',d',g1,g2,g3⟩:=hP0.weak (k':=k) (by unfold qjI;split <;> omega);exact qcN ⟨rfl,ts',d',g1,by omega,by omega⟩;rw[qdy];split;refine qdF λho=>qbe (hU (i+1) (op+1)) λv i' op' h=>?_;obtain⟨rfl,ts,d,h1,h2,h3⟩:=h;exact qcN ⟨by omega,_,_,.neg h1,by simp only[zLc];omega,by omega⟩;split;refine qdF λho=>qbe (hU (i+1) (op+1)) λv i' op' h=>?_;obtain⟨rfl,ts,d,h1,h2,h3⟩:=h;exact qcN ⟨by omega,_,_,.not h1,by simp only[zLc];omega,by omega⟩;exact hP i op;rw[qiH];split;refine qdF λho=>qbe (hL 0 (i+1) (op+1) (by omega)) λv i' op' h=>qjE ?_;obtain⟨rfl,ts,d,h1,h2,h3⟩:=h;obtain⟨ts',d',g1,g2,g3⟩:=h1.paren;exact qcN ⟨by omega,ts',d',g1,by omega,by omega⟩;split;exact qmV λn hn=>qcN ⟨rfl,_,_,.num hn,by simp only[zLc,zLn];omega,by omega⟩;refine qh1 hT λs hs=>?_;split;refine qbe (hI (i+1) op) λv i' op' h=>?_;obtain⟨rfl,ts,d,h1,h2,h3⟩:=h;exact qcN ⟨rfl,_,_,.elem hs h1,by simp only[zLc,zLa,zLn];omega,by omega⟩;split;refine qbe (hA (i+1) op) λv i' op' h=>?_;obtain⟨rfl,ts,d,h1,h2,h3⟩:=h;exact qcN ⟨rfl,_,_,.call hs h1,by simp only[zLc,zLa,zLn];omega,by omega⟩;exact qcN ⟨rfl,_,_,.var hs,by simp only[zLc,zLn];omega,by omega⟩;rw[qeg];refine qdF λho=>qbe (hL 0 (i+1) (op+1) (by omega)) λv i' op' h=>qjE ?_;obtain⟨rfl,ts,d,h1,h2,h3⟩:=h;exact qcN ⟨by omega,ts,d,h1,by omega,by omega⟩;rw[qib];refine qdF λho=>qbe (hB [] (i+1) (i+1) (op+1) [] 0 .nil (by simp) (by omega)) λv i' op' h=>qjE ?_;obtain⟨rfl,ts,d,h1,h2,h3⟩:=h;exact qcN ⟨by omega,ts,d,h1,by omega,by omega⟩;rw[qbQ];split;exact qcN ⟨rfl,ts,d,hP0,by omega,by omega⟩;refine qg7 λ_ i1 op1 h1=>?_
  have hi:i1=i+(if acc=[] then 0 else 1)/\op1=op:=by
   injection h1 with h1;split at h1
   rename_i ha
   cases h1;rw[if_pos ha];exact⟨rfl,rfl⟩
   rename_i ha
   rw[if_neg ha];exact qr3 (congrArg some h1)
  obtain⟨rfl,rfl⟩:=hi;refine qbe (hL 0 _ op1 (by omega)) λv i' op' h=>?_;obtain⟨rfl,t2,d2,h1,h2,h3⟩:=h;obtain⟨t,g1,g2⟩:=hP0.snoc h1;exact hB _ i0 i' _ t _ g1 (by omega) (by omega)
mutual
inductive PS:Sm->List KT->Nat->Prop
 |assign {s:List UInt8} {e:Ex} {ts:List KT} {d:Nat} (h:qeR s) (he:PE e 0 ts d):PS (.mk 1 s [] [e] [] []) ((2,s)::sg 61::(ts++[sg 59])) d
 |store {s:List UInt8} {x e:Ex} {t1 t2:List KT} {d1 d2:Nat} (h:qeR s) (hx:PE x 0 t1 d1) (he:PE e 0 t2 d2):PS (.mk 2 s [x] [e] [] []) ((2,s)::sg 91::(t1++sg 93::sg 61::(t2++[sg 59]))) (max (d1+1) d2)
 |call {s:List UInt8} {l:List Ex} {ts:List KT} {d:Nat} (h:qeR s) (hl:PEs l ts d):PS (.mk 6 [] [] [.mk qch 0 s l] [] []) ((2,s)::sg 40::(ts++[sg 41,sg 59])) (d+1)
 |ret {e:Ex} {ts:List KT} {d:Nat} (he:PE e 0 ts d):PS (.mk 5 [] [] [e] [] []) ((3,ql1)::(ts++[sg 59])) d
 |halt:PS (.mk 7 [] [] [] [] []) [(3,qsr),sg 59] 0
 |ifElse {e:Ex} {th el:List Sm} {ts t1 t2:List KT} {d d1 d2:Nat} (he:PE e 0 ts d) (h1:PSs th t1 d1) (h2:PSs el t2 d2) (hne:el≠[]) :
   PS (.mk 3 [] [] [e] th el) ((3,kwIf)::(ts++sg 123::(t1++sg 125::(3,qrw)::sg 123::(t2++[sg 125])))) (max d (max (d1+1) (d2+1)))
 |ifThen {e:Ex} {th:List Sm} {ts t1:List KT} {d d1:Nat} (he:PE e 0 ts d) (h1:PSs th t1 d1):PS (.mk 3 [] [] [e] th []) ((3,kwIf)::(ts++sg 123::(t1++[sg 125]))) (max d (d1+1))
 |while {e:Ex} {th:List Sm} {ts t1:List KT} {d d1:Nat} (he:PE e 0 ts d) (h1:PSs th t1 d1):PS (.mk 4 [] [] [e] th []) ((3,qoa)::(ts++sg 123::(t1++[sg 125]))) (max d (d1+1))
inductive PSs:List Sm->List KT->Nat->Prop
 |nil:PSs [] [] 0
 |cons {s:Sm} {l:List Sm} {t1 t2:List KT} {d1 d2:Nat} (h:PS s t1 d1) (hl:PSs l t2 d2):PSs (s::l) (t1++t2) (max d1 d2)
end
theorem PSs.snoc:∀ {l:List Sm} {a:Sm} {t0 t1:List KT} {d0 d1:Nat},PSs l t0 d0->PS a t1 d1->PSs (l++[a]) (t0++t1) (max d0 d1):=by
 intro l
 induction l with
 |nil=>
  intro a t0 t1 d0 d1 h h1
  cases h with
  |nil=>
   have:=PSs.cons h1 .nil;rw[zLz,Nat.max_zero] at this;rw[Nat.zero_max]
   exact this
 |cons b l ih=>
  intro a t0 t1 d0 d1 h h1
  cases h with
  |cons hb hl=>
   rw[zAs,Nat.max_assoc];exact .cons hb (ih hl h1)
def SS(i op:Nat)(s:Sm)(i' op':Nat):Prop:=op'=op/\∃ ts d,PS s ts d/\ts.length+i<=i'/\d<=100-op
def SM(i op:Nat)(s:Sm)(i' op':Nat):Prop:=op'=op/\∃ ts d,PS s ts d/\ts.length+i<=i'+1/\d<=100-op
def SSs(i op:Nat)(s:List Sm)(i' op':Nat):Prop:=op'=op/\∃ ts d,PSs s ts d/\ts.length+i<=i'/\d<=100-op
def SB(i op:Nat)(s:List Sm)(i' op':Nat):Prop:=op'=op/\∃ ts d,PSs s ts d/\ts.length+2+i<=i'/\d+1<=100-op
theorem qvn{T:List Tok}(hT:∀ t∈T,qeF t):∀ f:Nat,(∀ i op,Wh (SB i op) (qen T f i op))/\(∀ acc i0 i op ts d,PSs acc ts d->ts.length+i0<=i->d<=100-op->Wh (SSs i0 op) (qdx T f acc i op)) /\
  (∀ i op,Wh (SS i op) (qiF T f i op))/\(∀ i op,Wh (SM i op) (qdr T f i op))
 |0=>⟨λ_ _=>by rw[qen];exact qcY,λ_ _ _ _ _ _ _ _ _=>by rw[qdx];exact qcY,λ_ _=>by rw[qiF];exact qcY,λ_ _=>by rw[qdr];exact qcY⟩
 |f+1=>by
  obtain⟨hB,hL,hS,hM⟩:=qvn hT f;obtain⟨eL,_,_,_,eI,eA,_⟩:=qvr hT f;refine⟨λi op=>?_,λacc i0 i op ts d hP0 hts hd=>?_,λi op=>?_,λi op=>?_⟩;rw[qen];refine qdF λho=>qbe (hL [] (i+1) (i+1) (op+1) [] 0 .nil (by simp) (by omega)) λv i' op' h=>qjE ?_;obtain⟨rfl,ts,d,h1,h2,h3⟩:=h;exact qcN ⟨by omega,ts,d,h1,by omega,by omega⟩;rw[qdx];split;exact qcN ⟨rfl,ts,d,hP0,hts,hd⟩;refine qbe (hS i op) λv i' op' h=>?_;obtain⟨rfl,t2,d2,h1,h2,h3⟩:=h;exact hL _ i0 i' _ _ _ (hP0.snoc h1) (by simp only[zLa];omega) (by omega);rw[qiF];split;refine qbe (eL 0 (i+1) op (by omega)) λv i1 op1 h=>?_;obtain⟨rfl,t1,d1,g1,g2,g3⟩:=h;refine qbe (hB i1 _) λth i2 op2 h=>?_;obtain⟨rfl,t2,d2,k1,k2,k3⟩:=h;split;refine qbe (hB (i2+1) _) λel i3 op3 h=>?_;obtain⟨rfl,t3,d3,l1,l2,l3⟩:=h
  by_cases hne:el=[]
  subst hne;exact qcN ⟨rfl,_,_,.ifThen g1 k1,by simp only[zLc,zLa,zLn];omega,by omega⟩;exact qcN ⟨rfl,_,_,.ifElse g1 k1 l1 hne,by simp only[zLc,zLa,zLn];omega,by omega⟩;exact qcN ⟨rfl,_,_,.ifThen g1 k1,by simp only[zLc,zLa,zLn];omega,by omega⟩;split;refine qbe (eL 0 (i+1) op (by omega)) λv i1 op1 h=>?_;obtain⟨rfl,t1,d1,g1,g2,g3⟩:=h;refine qbe (hB i1 _) λth i2 op2 h=>?_;obtain⟨rfl,t2,d2,k1,k2,k3⟩:=h;exact qcN ⟨rfl,_,_,.while g1 k1,by simp only[zLc,zLa,zLn];omega,by omega⟩;refine qbe (hM i op) λv i1 op1 h=>qkk ?_;obtain⟨rfl,t1,d1,g1,g2,g3⟩:=h;exact qcN ⟨rfl,_,_,g1,by omega,by omega⟩;rw[qdr];split;refine qbe (eL 0 (i+1) op (by omega)) λv i1 op1 h=>?_;obtain⟨rfl,t1,d1,g1,g2,g3⟩:=h;exact qcN ⟨rfl,_,_,.ret g1,by simp only[zLc,zLa,zLn];omega,by omega⟩;split;exact qcN ⟨rfl,_,_,.halt,by simp only[zLc,zLa,zLn];omega,by omega⟩;refine qh1 hT λs hs=>?_;split;refine qbe (eA (i+1) op) λv i1 op1 h=>?_;obtain⟨rfl,t1,d1,g1,g2,g3⟩:=h;exact qcN ⟨rfl,_,_,.call hs g1,by simp only[zLc,zLa,zLn];omega,by omega⟩;split;refine qbe (eI (i+1) op) λv i1 op1 h=>qkk ?_;obtain⟨rfl,t1,d1,g1,g2,g3⟩:=h;refine qbe (eL 0 (i1+1) _ (by omega)) λe i2 op2 h=>?_;obtain⟨rfl,t2,d2,k1,k2,k3⟩:=h;exact qcN ⟨rfl,_,_,.store hs g1 k1,by simp only[zLc,zLa,zLn];omega,by omega⟩;refine qkk (qbe (eL 0 (i+1+1) op (by omega)) λe i2 op2 h=>?_);obtain⟨rfl,t2,d2,k1,k2,k3⟩:=h;exact qcN ⟨rfl,_,_,.assign hs k1,by simp only[zLc,zLa,zLn];omega,by omega⟩
def qkH:List (List UInt8)->List KT
 |[]=>[]
 |[a]=>[(2,a)]
 |a::b::l=>(2,a)::sg 44::qkH (b::l)
theorem qgi:∀ l:List (List UInt8),(qkH l).length=2 * l.length-1
 |[]=>rfl
 |[a]=>rfl
 |a::b::l=>by
  rw[qkH,zLc,zLc,qgi (b::l)];simp only[zLc];omega
def varK(l:List (List UInt8)):List KT:=if l=[] then [] else (3,qqb)::(qkH l++[sg 59])
theorem qlq(l:List (List UInt8)):(varK l).length=if l=[] then 0 else 2 * l.length+1:=by
 unfold varK;split;rfl
 rename_i h
 have:0<l.length:=List.length_pos_iff.2 h;simp only[zLc,zLa,qgi,zLn];omega
def qgI(l:List (List UInt8)):Prop:=∀ x∈l,qeR x
theorem qgI.app{a b:List (List UInt8)}(ha:qgI a)(hb:qgI b):qgI (a++b):=λx hx=>by
 rcases List.mem_append.1 hx with h|h;exact ha x h;exact hb x h
inductive PF:FnD->List KT->Nat->Prop
 |mk {nm:List UInt8} {ps ls:List (List UInt8)} {b:List Sm} {ts:List KT} {d:Nat} (h:qeR nm) (hp:qgI ps) (hl:qgI ls) (hb:PSs b ts d) :
   PF ⟨nm,ps,ls,b⟩ ((3,qqP)::(2,nm)::sg 40::(qkH ps++sg 41::sg 123::(varK ls++(ts++[sg 125])))) (d+1)
inductive PFs:List FnD->List KT->Prop
 |nil:PFs [] []
 |cons {f:FnD} {l:List FnD} {t1 t2:List KT} {d:Nat} (h:PF f t1 d) (hd:d<=100) (hl:PFs l t2):PFs (f::l) (t1++t2)
def arK(a:Ar):List KT:=[(3,qnI),(2,a.name),sg 91,(1,Go.Lib.decDigits a.size),sg 93,sg 59]
def qvZ(l:List Ar):Prop:=∀ a∈l,qeR a.name/\a.size<4294967296
inductive PP:Pr->List KT->Prop
 |mk {v:List (List UInt8)} {a:List Ar} {f:List FnD} {ts:List KT} (hv:qgI v) (ha:qvZ a) (hf:PFs f ts):PP ⟨v,a,f⟩ (varK v++((a.map arK).flatten++ts))
theorem PFs.snoc:∀ {l:List FnD} {a:FnD} {t0 t1:List KT} {d:Nat},PFs l t0->PF a t1 d->d<=100->PFs (l++[a]) (t0++t1):=by
 intro l
 induction l with
 |nil=>
  intro a t0 t1 d h h1 hd
  cases h with
  |nil=>
   have:=PFs.cons h1 hd .nil;rw[zLz] at this
   exact this
 |cons b l ih=>
  intro a t0 t1 d h h1 hd
  cases h with
  |cons hb hd' hl=>
   rw[zAs];exact .cons hb hd' (ih hl h1 hd)
theorem qgY{T:List Tok}(hT:∀ t∈T,qeF t):∀ (f:Nat) (acc:List (List UInt8)) (i op:Nat),qgI acc->Wh (λl i' op'=>op'=op/\qgI l/\acc.length<=l.length/\2 * l.length+i<=2 * acc.length+i') (qbi T f acc i op)
 |0,_,_,_,_=>by rw[qbi];exact qcY
 |f+1,acc,i,op,ha=>by
  rw[qbi];split;refine qh1 hT λs hs=>qmj (qgY hT f (acc++[s]) (i+1+1) op (ha.app λx hx=>by cases List.mem_singleton.1 hx;exact hs)) λl i' op' h=>?_;obtain⟨rfl,h1,h2,h3⟩:=h;rw[zLa,length_singleton] at h2 h3;exact⟨rfl,h1,by omega,by omega⟩;exact qcN ⟨rfl,ha,zNr _,by omega⟩
theorem qns{T:List Tok}(hT:∀ t∈T,qeF t)(f i op:Nat):Wh (λl i' op'=>op'=op/\qgI l/\0<l.length/\2 * l.length+i<=1+i') (qgX T f i op):=
 qh1 hT λs hs=>qmj (qgY hT f [s] (i+1) op λx hx=>by cases List.mem_singleton.1 hx;exact hs) λl i' op' h=>by
  obtain⟨rfl,h1,h2,h3⟩:=h;rw[length_singleton] at h2 h3;exact⟨rfl,h1,by omega,by omega⟩
theorem qls{T:List Tok}(hT:∀ t∈T,qeF t):∀ (f:Nat) (acc:List (List UInt8)) (i op:Nat),qgI acc->Wh (λl i' op'=>op'=op/\qgI l/\acc.length<=l.length/\(if acc.length=l.length then i<=i' else 2 * l.length+1+i<=2 * acc.length+i')) (qfm T f acc i op)
 |0,_,_,_,_=>by rw[qfm];exact qcY
 |f+1,acc,i,op,ha=>by
  rw[qfm];split;refine qbe (qns hT f (i+1) op) λl i1 op1 h=>qkk ?_;obtain⟨rfl,h1,h2,h3⟩:=h;refine qmj (qls hT f (acc++l) (i1+1) _ (ha.app h1)) λl2 i' op' h=>?_;obtain⟨rfl,g1,g2,g3⟩:=h;rw[zLa] at g2 g3;refine⟨rfl,g1,by omega,?_⟩;rw[if_neg (by omega)];split at g3 <;> omega;exact qcN ⟨rfl,ha,zNr _,by rw[if_pos rfl];omega⟩
theorem qtP{T:List Tok}(hT:∀ t∈T,qeF t)(f i:Nat):Wh (λa i' op'=>op'=0/\∃ ts d,PF a ts d/\d<=100/\ts.length+i<=i'+1) (qlP T f i 0):=by
 unfold qlP;refine qh1 hT λnm hnm=>qdF λ_=>qbe (P:=λps i' op'=>op'=1/\qgI ps/\2 * ps.length-1+(i+1+1)<=i') ?_ λps i1 op1 h=>qjE (qdF λ_=>?_);split;exact qcN ⟨rfl,(λx hx=>by cases hx),by simp⟩;exact qmj (qns hT f _ _) λl i' op' h=>⟨h.1,h.2.1,by omega⟩;obtain⟨rfl,h1,h2⟩:=h;refine qbe (qls hT f [] _ _ λx hx=>by cases hx) λls i2 op2 h=>?_;obtain⟨rfl,g1,_,g3⟩:=h;refine qbe ((qvn hT f).2.1 [] i2 i2 _ [] 0 .nil (by simp) (by omega)) λb i3 op3 h=>qjE ?_;obtain⟨rfl,ts,d,k1,k2,k3⟩:=h;refine qcN ⟨by omega,_,_,.mk hnm h1 g1 k1,by omega,?_⟩;simp only[zLc,zLa,zLn,qgi,qlq] at g3 ⊢
 by_cases hl:ls=[]
 subst hl;simp only[zLn,if_pos] at g3 ⊢;omega;have:¬ 0=ls.length:=λh=>hl (eq_nil_of_length_eq_zero h.symm);rw[if_neg this] at g3;rw[if_neg hl];omega
theorem qrX{T:List Tok}(hT:∀ t∈T,qeF t)(i:Nat):Wh (λa i' op'=>op'=0/\qeR a.name/\a.size<4294967296/\5+i<=i') (qgN T i 0):=by
 unfold qgN;exact qh1 hT λnm hnm=>qdF λ_=>qmV λn hn=>qjE (qkk (qcN ⟨rfl,hnm,hn,by omega⟩))
def ntK(v:Nat)(a:Nat)(t:Nat):Nat:=(if v=0 then 0 else 2 * v+1)+6 * a+t
theorem qiK{T:List Tok}(hT:∀ t∈T,qeF t):∀ (f:Nat) (v:List (List UInt8)) (a:List Ar) (fs:List FnD) (ts:List KT) (i:Nat),qgI v->qvZ a->PFs fs ts->ntK v.length a.length ts.length<=i->i<=T.length ->
  Wh (λq _ _=>∃ v' a' f' t',q=⟨v',a',f'⟩/\qgI v'/\qvZ a'/\PFs f' t'/\ntK v'.length a'.length t'.length<=T.length) (qfs T f ⟨v,a,fs⟩ i 0)
 |0,_,_,_,_,_,_,_,_,_,_=>by rw[qfs];exact qcY
 |f+1,v,a,fs,ts,i,hv,ha,hf,hi,hT'=>by
  rw[qfs];split;exact qcN ⟨_,_,_,_,rfl,hv,ha,hf,by omega⟩
  rename_i hlt
  split
  rename_i hw
  refine qg7 λl i1 op1 h1=>?_;have hg:=(qcp T f [] i 0 _ h1).2.2.1 hT';obtain⟨rfl,g1,_,g3⟩:=qls hT f [] i 0 (λx hx=>by cases hx) _ _ _ h1;refine qiK hT f (v++l) a fs ts i1 (hv.app g1) ha hf ?_ hg;rw[zLa];simp only[zLn] at g3;unfold ntK at hi ⊢;split at g3
  rename_i h0
  rw[<-h0,add_zero];omega;rw[if_neg (by omega)];split at hi <;> omega;split;refine qg7 λl i1 op1 h1=>?_;have hg:=(qdY T (i+1) 0 _ h1).2.2.1 (by omega);obtain⟨rfl,g1,g2,g3⟩:=qrX hT (i+1) _ _ _ h1;refine qiK hT f v (a++[l]) fs ts i1 hv (λx hx=>?_) hf ?_ hg;rcases List.mem_append.1 hx with h|h;exact ha x h;cases List.mem_singleton.1 h;exact⟨g1,g2⟩;rw[zLa,length_singleton];unfold ntK at hi ⊢;omega;split;refine qg7 λl i1 op1 h1=>?_;have hg:=(qeA T f (i+1) 0 _ h1).2.2.1 (by omega);obtain⟨rfl,t1,d,g1,g2,g3⟩:=qtP hT f (i+1) _ _ _ h1;refine qiK hT f v a (fs++[l]) (ts++t1) i1 hv ha (hf.snoc g1 g2) ?_ hg;rw[zLa];unfold ntK at hi ⊢;omega;exact λ_ _ _ e=>by cases e
theorem qs5:∀ a:List Ar,((a.map arK).flatten).length=6 * a.length
 |[]=>rfl
 |a::l=>by
  rw[zMc,List.flatten_cons,zLa,qs5 l,zLc];simp only[arK,zLc,zLn];omega
theorem qtk{T:List Tok}(hT:∀ t∈T,qeF t){f i op:Nat}{p:Pr}(h:qfs T f ⟨[],[],[]⟩ 0 0=some (.ok p i op)):∃ ts,PP p ts/\ts.length<=T.length:=by
 obtain⟨v,a,fs,t,rfl,h1,h2,h3,h4⟩:=qiK hT f [] [] [] [] 0 (λx hx=>by cases hx) (λx hx=>by cases hx) .nil (by simp[ntK]) (zero_le _) _ _ _ h;refine⟨_,.mk h1 h2 h3,?_⟩;simp only[zLa,qlq,qs5];unfold ntK at h4
 by_cases hv:v=[]
 subst hv;simp only[zLn,if_pos] at h4 ⊢;omega;have:¬ v.length=0:=λh=>hv (eq_nil_of_length_eq_zero h);rw[if_neg this] at h4;rw[if_neg hv];omega
open Go.Lib
def qoP(s:List UInt8):Pr×Int:=match quO s 1 with
 |.error (l,e)=>(⟨[],[],[]⟩,e)
 |.ok T=>match qfs T (10 * T.length+20) ⟨[],[],[]⟩ 0 0 with
  |some (.ok p _ _)=>(p,0)
  |some (.err l e)=>(⟨[],[],[]⟩,e)
  |none=>(⟨[],[],[]⟩,0)
def qoT(p:Pr)(inp:List Nat)(steps:Int):OutI:=if 100000000<steps then ⟨[],6,0⟩ else if steps<=0 then ⟨[],13,0⟩ else runI p inp steps.toNat
theorem qsN(l:List (List UInt8)):l.length<=(qkH l).length:=by rw[qgi];omega
theorem qrp(l:List (List UInt8)):l.length<=(varK l).length:=by 
 rw[qlq]
 by_cases h:l=[]
 rw[h];exact zero_le _;rw[if_neg h];omega
theorem qaV:∀ (l k:List Nm),qci k l=0->l.Nodup/\∀ s∈l,s ∉ k/\isNm s=true
 |[],k,_=>⟨nodup_nil,λs hs=>(not_mem_nil hs).elim⟩
 |s::l,k,h=>by
  rw[qci] at h;split at h;cases h
  rename_i h1
  split at h;cases h
  rename_i h2
  obtain⟨g1,g2⟩:=qaV l (s::k) h;refine⟨List.nodup_cons.2 ⟨λhm=>(g2 s hm).1 zMs,g1⟩,λx hx=>?_⟩;rcases zMi.1 hx with rfl|hx;exact⟨h2,by simpa using h1⟩;exact⟨λhm=>(g2 x hx).1 (zMo _ hm),(g2 x hx).2⟩
theorem quA{s:Nm}(h:isNm s=true):(46:UInt8) ∉ s:=by
 unfold isNm at h;rw[zBa] at h;have h2:=h.2
 cases s with
 |nil=>exact not_mem_nil
 |cons c r=>
  simp only[zBa] at h2;intro hm;rcases zMi.1 hm with rfl|hm;exact absurd h2.1 zDd;exact absurd (List.all_eq_true.1 h2.2 46 hm) zDd
theorem qjc:∀ (a b x y:Nm),(46:UInt8) ∉ a->(46:UInt8) ∉ b->a++46::x=b++46::y->a=b/\x=y
 |[],[],x,y,_,_,h=>by
  injection h with _ h
  exact⟨rfl,h⟩
 |[],d::b,x,y,_,hb,h=>by
  injection h with h1 _
  exact absurd (h1▸mem_cons_self ..) hb
 |c::a,[],x,y,ha,_,h=>by
  injection h with h1 _
  exact absurd (h1▸mem_cons_self ..) ha
 |c::a,d::b,x,y,ha,hb,h=>by
  injection h with h1 h2;obtain⟨e1,e2⟩:=qjc a b x y (λg=>ha (zMo _ g)) (λg=>hb (zMo _ g)) h2;exact⟨by rw[h1,e1],e2⟩
theorem qmy{fs:List FnD}(h:(fs.map (·.name)).Nodup){f g:FnD}(hf:f∈fs)(hg:g∈fs)(he:f.name=g.name):f=g:=by
 induction fs with
 |nil=>cases hf
 |cons a l ih=>
  rw[zMc,nodup_cons] at h;rcases zMi.1 hf with rfl|hf';rcases zMi.1 hg with rfl|hg';rfl;exact absurd (List.mem_map.2 ⟨g,hg',he.symm⟩) h.1;rcases zMi.1 hg with rfl|hg';exact absurd (List.mem_map.2 ⟨f,hf',he⟩) h.1;exact ih h.2 hf' hg'
theorem qnN{vars arrays:List Nm}{fs:List FnD}(h:qci [] (vars++arrays++fs.map (·.name))=0){f:FnD}(hf:f∈fs)(name:Nm):f.name++[46]++name∈qaf vars fs ↔ name∈f.params++f.locals:=by
 obtain⟨h1,h2⟩:=qaV _ _ h;have hd:∀ g∈fs,(46:UInt8) ∉ g.name:=λg hg=>quA (h2 _ (List.mem_append.2 (.inr (List.mem_map.2 ⟨g,hg,rfl⟩)))).2;unfold qaf;rw[mem_append];constructor;rintro(g|g);have:=quA (h2 _ (List.mem_append.2 (.inl (List.mem_append.2 (.inl g))))).2;exact absurd (by simp) this;obtain⟨l,g1,g2⟩:=List.mem_flatten.1 g;obtain⟨k,g3,rfl⟩:=List.mem_map.1 g1;obtain⟨x,g4,g5⟩:=List.mem_map.1 g2;have g6:k.name++46::x=f.name++46::name:=by simpa using g5
 obtain⟨e1,rfl⟩:=qjc _ _ _ _ (hd k g3) (hd f hf) g6;rw[<-qmy (List.nodup_append.1 h1).2.1 g3 hf e1];exact g4;intro g;exact .inr (List.mem_flatten.2 ⟨_,List.mem_map.2 ⟨f,hf,rfl⟩,List.mem_map.2 ⟨name,g,rfl⟩⟩)
theorem qvz{vars arrays:List Nm}{fs:List FnD}(h:qci [] (vars++arrays++fs.map (·.name))=0){f:FnD}(hf:f∈fs)(name:Nm):(if f.name++[46]++name∈qaf vars fs then f.name++[46]++name else name)=keyI f name:=by
 unfold keyI;simp only[qnN h hf,mem_append]
theorem qh2{vars arrays:List Nm}{fs:List FnD}{known:List FSum}{f:FnD}(hf:f∈fs){name:Nm}(h:qcd (envF vars arrays (fs.map (·.name)) known f) name=0):keyI f name∈qaf vars fs:=by
 unfold qcd at h;unfold keyI qaf;rw[mem_append];split at h
 rename_i h1
 split
 rename_i h2
 exact .inr (List.mem_flatten.2 ⟨_,List.mem_map.2 ⟨f,hf,rfl⟩,List.mem_map.2 ⟨name,List.mem_append.2 h2,rfl⟩⟩)
 rename_i h2
 rcases h1 with h1|h1;exact .inl h1;exact absurd (List.mem_append.1 h1) h2;split at h <;> cases h
theorem qlH{P:Pr}{f:FnD}(h:(P.funcs.map (·.name)).Nodup)(hf:f∈P.funcs):fnI P f.name=f:=by
 unfold fnI
 cases hg:P.funcs.find? λg=>decide (g.name=f.name) with
 |none=>exact absurd (List.find?_eq_none.1 hg f hf) (by simp)
 |some g=>exact qmy h (mem_of_find?_eq_some hg) hf (of_decide_eq_true (List.find?_some (p:=λg:FnD=>decide (g.name=f.name)) hg))
def Lt(v:Nat):Prop:=v<4294967296
mutual
def numE:Ex->Prop
 |.mk op num name args=>Lt num/\qbk args
def qbk:List Ex->Prop
 |[]=>True
 |x::l=>numE x/\qbk l
end
mutual
def numS:Sm->Prop
 |.mk kind name index value thn els=>qbk index/\qbk value/\qbE thn/\qbE els
def qbE:List Sm->Prop
 |[]=>True
 |x::l=>numS x/\qbE l
end
theorem qno:∀ {l:List Ex} {x:Ex},qbk l->x∈l->numE x
 |a::l,x,h,hx=>by
  rcases zMi.1 hx with rfl|hx;exact h.1;exact qno h.2 hx
theorem qeC:∀ {l:List Sm} {x:Sm},qbE l->x∈l->numS x
 |a::l,x,h,hx=>by
  rcases zMi.1 hx with rfl|hx;exact h.1;exact qeC h.2 hx
theorem qi1{l:List Ex}(h:qbk l):numE (l.headD default):=by
 cases l with
 |nil=>exact⟨by unfold Lt;decide,trivial⟩
 |cons a l=>exact h.1
structure Bnd(s:IS):Prop where
 sc:∀ k,Lt (s.sc k)
 ar:∀ x,∀ v∈s.ar x,Lt v
 inp:∀ v∈s.inp,Lt v
def Bd{A:Type}(P:A->Prop):IR A->Prop
 |.ok v s=>P v/\Bnd s
 |.stop _ _=>True
theorem Bd.bind{A B:Type}{P:A->Prop}{Q:B->Prop}{r:IR A}{f:A->IS->IR B}(h:Bd P r)(hf:∀ v s,P v->Bnd s->Bd Q (f v s)):Bd Q (r.bind f):=by
 cases r with
 |ok v s=>exact hf v s h.1 h.2
 |stop e s=>trivial
def qcC(r:Option Nat):Prop:=∀ v,r=some v->Lt v
theorem qcC.none:qcC none:=λ_ h=>by cases h
theorem qcC.some{v:Nat}(h:Lt v):qcC (some v):=λ_ e=>by cases e;exact h
theorem qlh{s:IS}(h:Bnd s):Bd (λ_=>True) (tick s):=by
 unfold tick;split;trivial;exact⟨trivial,h.sc,h.ar,h.inp⟩
theorem qsU{A:Type}{g:A->IS->IR Nat}:∀ (l:List A) (s:IS),(∀ a∈l,∀ s,Bnd s->Bd Lt (g a s))->Bnd s->Bd (λvs=>∀ v∈vs,Lt v) (mapR g l s)
 |[],s,_,hs=>⟨λv hv=>(not_mem_nil hv).elim,hs⟩
 |a::l,s,h,hs=>by
  unfold mapR;refine(h a zMs s hs).bind λv s hv hs=>(qsU l s (λb hb=>h b (zMo _ hb)) hs).bind λvs s hvs hs=>⟨λx hx=>?_,hs⟩;rcases zMi.1 hx with rfl|hx;exact hv;exact hvs x hx
theorem qhR{g:Sm->IS->IR (Option Nat)}:∀ (l:List Sm) (s:IS),(∀ a∈l,∀ s,Bnd s->Bd qcC (g a s))->Bnd s->Bd qcC (blkR g l s)
 |[],s,_,hs=>⟨qcC.none,hs⟩
 |a::l,s,h,hs=>by
  unfold blkR;refine(h a zMs s hs).bind λr s hr hs=>?_
  cases r with
  |some v=>exact⟨hr,hs⟩
  |none=>exact qhR l s (λb hb=>h b (zMo _ hb)) hs
theorem qr2{c:IS->IR Nat}{b:IS->IR (Option Nat)}(hc:∀ s,Bnd s->Bd Lt (c s))(hb:∀ s,Bnd s->Bd qcC (b s)):∀ (m v:Nat) (s:IS),Bnd s->Bd qcC (whlR c b m v s)
 |0,v,s,hs=>by
  unfold whlR;split;exact⟨qcC.none,hs⟩
  trivial
 |m+1,v,s,hs=>by
  unfold whlR;split;exact⟨qcC.none,hs⟩;refine(hb s hs).bind λr s hr hs=>?_
  cases r with
  |some x=>exact⟨hr,hs⟩
  |none=>exact(hc s hs).bind λv s _ hs=>qr2 hc hb m v s hs
theorem qvb(b:Bool):Lt (b2n b):=by unfold b2n Lt;split <;> decide
theorem qww{op:List UInt8}{a b v:Nat}(ha:Lt a)(hb:Lt b)(h:binI op a b=some v):Lt v:=by
 have hm:∀ n:Nat,Lt (n % 4294967296):=λn=>mod_lt _ zDd;have hx:Lt (a ^^^ b):=Nat.xor_lt_two_pow (n:=32) ha hb
 have hi:∀ {c:Prop} [Decidable c] {x y:Option Nat},qcC x->qcC y->qcC (if c then x else y):=λh1 h2=>by
  split;exact h1;exact h2
 have hB:∀ b,qcC (some (b2n b)):=λb=>qcC.some (qvb b)
 have:qcC (binI op a b):=hi (qcC.some (hm _)) (hi (qcC.some (hm _)) (hi (qcC.some (hm _)) (hi (qcC.some hx) (hi (hB _) (hi (hB _) (hi (hB _) (hi (hB _) (hi (hB _) (hi (hB _) (hi (hB _) (hi (hB _) (hi qcC.none
  (hi (qcC.some (Nat.lt_of_le_of_lt (Nat.div_le_self _ _) ha)) (qcC.some (Nat.lt_of_le_of_lt (Nat.mod_le _ _) ha)))))))))))))))
 exact this v h
theorem qml(f:FnD):∀ (ps:List (List UInt8)) (vs:List Nat) (s:IS),(∀ v∈vs,Lt v)->Bnd s->Bnd (qcM f ps vs s)
 |p::ps,v::vs,s,hv,hs=>by
  unfold qcM;refine qml f ps vs _ (λx hx=>hv x (zMo _ hx)) ⟨λk=>?_,hs.ar,hs.inp⟩;show Lt (if k=keyI f p then v else s.sc k);split;exact hv v zMs
  exact hs.sc k
 |[],_,s,_,hs=>by unfold qcM;exact hs
 |_::_,[],s,_,hs=>by unfold qcM;exact hs
theorem qr8{l:List Nat}(h:∀ v∈l,Lt v):Lt (l.headD 0):=by
 cases l with
 |nil=>unfold Lt;decide
 |cons a l=>exact h a zMs
theorem qxi{P:Pr}{g:FnD->Sm->IS->IR (Option Nat)}(hP:∀ f∈P.funcs,qbE f.body)(hg:∀ f x s,numS x->Bnd s->Bd qcC (g f x s))(f:FnD)(op:List UInt8){num:Nat}(hn:Lt num)(name:List UInt8){vs:List Nat}(hv:∀ v∈vs,Lt v){s:IS}(hs:Bnd s):Bd Lt (opI P g f op num name vs s):=by
 have ht:Lt (vs.tail.headD 0):=qr8 λv h=>hv v (List.mem_of_mem_tail h);unfold opI;split;exact⟨hn,hs⟩;split;exact⟨hs.sc _,hs⟩;split;split
 rename_i v h
 exact⟨hs.ar _ v (List.mem_of_getElem? h),hs⟩;trivial;split;exact⟨mod_lt _ zDd,hs⟩;split;exact⟨qvb _,hs⟩;split;unfold callI;split;split;exact⟨by unfold Lt;decide,hs⟩
 rename_i v r h
 exact⟨hs.inp v (by rw[h];exact mem_cons_self ..),hs.sc,hs.ar,λx hx=>hs.inp x (by rw[h];exact zMo _ hx)⟩;split;exact⟨by unfold Lt;decide,hs.sc,hs.ar,hs.inp⟩;refine(qhR _ _ (λx hx s hs=>hg _ x s ?_ hs) (qml _ _ _ _ hv hs)).bind λr s hr hs=>⟨?_,hs⟩;unfold fnI at hx
 cases hf:P.funcs.find? λf=>decide (f.name=name) with
 |none=>rw[hf] at hx;cases hx
 |some f'=>
  rw[hf] at hx;exact qeC (hP f' (mem_of_find?_eq_some hf)) hx
 cases r with
 |none=>show Lt 0;unfold Lt;decide
 |some v=>exact hr v rfl
 split
 rename_i v h
 exact⟨qww (qr8 hv) ht h,hs⟩;trivial
theorem qoW{P:Pr}(hP:∀ f∈P.funcs,qbE f.body):∀ n:Nat,(∀ f x s,numE x->Bnd s->Bd Lt (evI P n f x s))/\∀ f x s,numS x->Bnd s->Bd qcC (stI P n f x s)
 |0=>⟨λf x s _ _=>by unfold evI;trivial,λf x s _ _=>by unfold stI;trivial⟩
 |n+1=>by
  obtain⟨i1,i2⟩:=qoW hP n;refine⟨λf x s hx hs=>?_,λf x s hx hs=>?_⟩;obtain⟨op,num,name,args⟩:=x;unfold evI;exact(qlh hs).bind λ_ s _ hs=>(qsU args s (λa ha s hs=>i1 f a s (qno hx.2 ha) hs) hs).bind λvs s hvs hs=>qxi hP i2 f op hx.1 name hvs hs;obtain⟨kind,name,index,value,thn,els⟩:=x;obtain⟨h1,h2,h3,h4⟩:=hx;unfold stI;refine(qlh hs).bind λ_ s _ hs=>?_;split;trivial;refine(i1 f _ s (qi1 h2) hs).bind λv s hv hs=>?_;split;refine⟨qcC.none,λk=>?_,hs.ar,hs.inp⟩;show Lt (if k=keyI f name then v else s.sc k);split;exact hv;exact hs.sc k;split;refine(i1 f _ s (qi1 h1) hs).bind λi s hi hs=>?_;split;refine⟨qcC.none,hs.sc,λx w hw=>?_,hs.inp⟩;have hw':w∈(if x=name then (s.ar name).set i v else s.ar x):=hw;split at hw';rcases List.mem_or_eq_of_mem_set hw' with g|rfl;exact hs.ar name w g;exact hv;exact hs.ar x w hw';trivial;split;exact⟨qcC.some hv,hs⟩;split;split;exact qhR _ _ (λa ha s hs=>i2 f a s (qeC h3 ha) hs) hs;exact qhR _ _ (λa ha s hs=>i2 f a s (qeC h4 ha) hs) hs;split;exact qr2 (λs hs=>i1 f _ s (qi1 h2) hs) (λs hs=>qhR _ _ (λa ha s hs=>i2 f a s (qeC h3 ha) hs) hs) n v s hs;exact⟨qcC.none,hs⟩
theorem qjG{vars arrays later:List Nm}:∀ (fs:List FnD) (known:List FSum),qe5 vars arrays later known fs=0->∀ f∈fs,(f.params++f.locals).Nodup/\∀ x∈f.params++f.locals,x ∉ vars++arrays++later
 |[],known,_,f,hf=>(not_mem_nil hf).elim
 |g::l,known,h,f,hf=>by
  rw[qe5] at h;obtain⟨h1,h2⟩:=qae.1 h;rcases zMi.1 hf with rfl|hf;obtain⟨g1,g2⟩:=qaV _ _ (qae.1 h1).1;exact⟨g1,λx hx=>(g2 x hx).1⟩;exact qjG l _ h2 f hf
theorem qmO{A B:Type}{g:A->B}(hg:∀ x y,g x=g y->x=y):∀ {l:List A},l.Nodup->(l.map g).Nodup
 |[],_=>nodup_nil
 |a::l,h=>by
  rw[nodup_cons] at h;rw[zMc,nodup_cons];refine⟨λhm=>?_,qmO hg h.2⟩;obtain⟨b,hb,he⟩:=List.mem_map.1 hm;exact h.1 (hg _ _ he▸hb)
theorem qsv{fs:List FnD}:(fs.map (·.name)).Nodup->(∀ f∈fs,(46:UInt8) ∉ f.name)->(∀ f∈fs,(f.params++f.locals).Nodup)->((fs.map λf=>(f.params++f.locals).map λx=>f.name++[46]++x).flatten).Nodup:=by
 induction fs with
 |nil=>intro _ _ _;exact nodup_nil
 |cons f l ih=>
  intro h1 h2 h3;rw[zMc,nodup_cons] at h1;rw[zMc,List.flatten_cons,List.nodup_append];refine⟨?_,ih h1.2 (λg hg=>h2 g (zMo _ hg)) (λg hg=>h3 g (zMo _ hg)),?_⟩;exact qmO (λx y hxy=>List.append_cancel_left hxy) (h3 f zMs);intro a ha b hb he;subst he;obtain⟨x,_,rfl⟩:=List.mem_map.1 ha;obtain⟨L,g1,g2⟩:=List.mem_flatten.1 hb;obtain⟨g,g3,rfl⟩:=List.mem_map.1 g1;obtain⟨y,_,g5⟩:=List.mem_map.1 g2;have g6:g.name++46::y=f.name++46::x:=by simpa using g5
  obtain⟨e1,_⟩:=qjc _ _ _ _ (h2 g (zMo _ g3)) (h2 f zMs) g6;exact h1.1 (List.mem_map.2 ⟨g,g3,e1⟩)
theorem qqN{vars arrays:List Nm}{fs:List FnD}(h:qci [] (vars++arrays++fs.map (·.name))=0)(hf:qe5 vars arrays (fs.map (·.name)) [] fs=0):(qaf vars fs).Nodup:=by
 obtain⟨h1,h2⟩:=qaV _ _ h;have ho:=qjG fs [] hf;unfold qaf;rw[List.nodup_append];refine⟨(List.nodup_append.1 (List.nodup_append.1 h1).1).1,qsv (List.nodup_append.1 h1).2.1 (λf hf=>quA (h2 _ (List.mem_append.2 (.inr (List.mem_map.2 ⟨f,hf,rfl⟩)))).2) λf hf=>(ho f hf).1,?_⟩;intro a ha b hb he;subst he;obtain⟨L,g1,g2⟩:=List.mem_flatten.1 hb;obtain⟨g,g3,rfl⟩:=List.mem_map.1 g1;obtain⟨y,_,g5⟩:=List.mem_map.1 g2;have:=quA (h2 _ (List.mem_append.2 (.inl (List.mem_append.2 (.inl ha))))).2;rw[<-g5] at this;exact absurd (by simp) this
def qiE(fs:List FnD)(known:List FSum):Prop:=∀ k∈known,∃ g∈fs,g.name=k.name/\g.params.length=k.params
theorem qkP{vars arrays later:List Nm}{all:List FnD}:∀ (fs:List FnD) (known:List FSum),qe5 vars arrays later known fs=0->qiE all known->(∀ f∈fs,f∈all)->∀ f∈fs,∃ kn,qbL (envF vars arrays later kn f) f.body=0/\qiE all kn
 |[],known,_,_,_,f,hf=>(not_mem_nil hf).elim
 |g::l,known,h,hk,ha,f,hf=>by
  rw[qe5] at h;obtain⟨h1,h2⟩:=qae.1 h;rcases zMi.1 hf with rfl|hf;exact⟨known,(qae.1 h1).2,hk⟩;refine qkP l _ h2 (λk hk'=>?_) (λx hx=>ha x (zMo _ hx)) f hf;rcases List.mem_append.1 hk' with g1|g1;exact hk k g1;rw[List.mem_singleton.1 g1];exact⟨g,ha g zMs,rfl,rfl⟩
theorem qj8:∀ (l:List Int) (t:Int),0<=t->qg1 t l=0->∀ n∈l,0<n/\t+n<=150000
 |[],t,_,_,n,hn=>(not_mem_nil hn).elim
 |a::l,t,ht,h,n,hn=>by
  rw[qg1] at h;split at h;cases h;split at h;cases h;rcases zMi.1 hn with rfl|hn;constructor <;> omega;have:=qj8 l (t+a) (by omega) h n hn;constructor <;> omega
structure Valid(p:Pr):Prop where
 names:qci [] (p.vars++p.arrays.map (·.name)++p.funcs.map (·.name))=0
 sizes:∀ a∈p.arrays,0<a.size/\a.size<=150000
 own:∀ f∈p.funcs,(f.params++f.locals).Nodup/\∀ x∈f.params++f.locals,x ∉ p.vars++p.arrays.map (·.name)++p.funcs.map (·.name)
 bodies:∀ f∈p.funcs,∃ kn,qbL (envF p.vars (p.arrays.map (·.name)) (p.funcs.map (·.name)) kn f) f.body=0/\qiE p.funcs kn
 keys:(qaf p.vars p.funcs).Nodup
 main:qbo p∈p.funcs/\(qbo p).name=[109,97,105,110]/\(qbo p).params=[]
 few:(qaf p.vars p.funcs).length<=8000
theorem qes{p:Pr}(h:qbw p=0):Valid p:=by
 unfold qbw qcQ at h;have e1:(p.arrays.map λa=>(a.name,(a.size:Int))).map (·.1)=p.arrays.map (·.name):=by rw[map_map];try rfl
 rw[e1] at h;obtain⟨h1,h⟩:=qae.1 h;obtain⟨h2,h⟩:=qae.1 h;obtain⟨h3,h4⟩:=qae.1 h
 have hm:qbo p∈p.funcs/\(qbo p).name=[109,97,105,110]/\(qbo p).params=[]/\(qaf p.vars p.funcs).length<=8000:=by
  unfold qtn at h4;split at h4
  ·rename_i f m hf hms
   split at h4
   ·rename_i h5
    split at h4
    ·rename_i h6
     have e:qbo p=f:=by unfold qbo;rw[hf];try rfl
     rw[e];exact⟨List.mem_of_getLast? hf,h5.1,h5.2,h6.1⟩
    cases h4
   cases h4
  cases h4
 refine⟨h1,λa ha=>?_,qjG _ _ h3,qkP _ _ h3 (λk hk=>(not_mem_nil hk).elim) (λf hf=>hf),qqN h1 h3,⟨hm.1,hm.2.1,hm.2.2.1⟩,hm.2.2.2⟩
 have:=qj8 _ 0 zDd h2 (a.size:Int) (by
  rw[map_map]
  exact List.mem_map.2 ⟨a,ha,rfl⟩)
 constructor <;> omega
theorem qqg{p:Pr}{f:FnD}{kn:List FSum}(hv:Valid p)(hk:qiE p.funcs kn){name:Nm}{n:Nat}(h:callE (envF p.vars (p.arrays.map (·.name)) (p.funcs.map (·.name)) kn f) name n=0)(h1:name≠[105,110])(h2:name≠[111,117,116]):fnI p name∈p.funcs/\(fnI p name).name=name/\(fnI p name).params.length=n:=by
 unfold callE at h;rw[if_neg h1,if_neg h2] at h;unfold CEnv.fn at h;rw[show(envF p.vars (p.arrays.map (·.name)) (p.funcs.map (·.name)) kn f).funcs=kn from rfl] at h
 cases hf:kn.find? λf=>decide (f.name=name) with
 |none=>
  rw[hf] at h;simp only at h
  split at h <;> cases h
 |some k=>
  rw[hf] at h;simp only at h;split at h
  rename_i hn
  obtain⟨g,g1,g2,g3⟩:=hk k (mem_of_find?_eq_some hf);have hkn:k.name=name:=of_decide_eq_true (List.find?_some (p:=λg:FSum=>decide (g.name=name)) hf);have e:=qlH (P:=p) (List.nodup_append.1 (qaV _ _ hv.names).1).2.1 g1;rw[g2,hkn] at e;rw[e];exact⟨g1,g2.trans hkn,by rw[g3,hn]⟩;cases h
theorem qiR{s:Nm}(h:isNm s=true):s.length<=24:=by
 unfold isNm at h;simp only[zBa,zDe] at h;exact h.1.1
theorem qlX{vars arrays later:List Nm}:∀ (fs:List FnD) (known:List FSum),qe5 vars arrays later known fs=0->∀ f∈fs,∀ x∈f.params++f.locals,isNm x=true
 |[],known,_,f,hf=>(not_mem_nil hf).elim
 |g::l,known,h,f,hf=>by
  rw[qe5] at h;obtain⟨h1,h2⟩:=qae.1 h;rcases zMi.1 hf with rfl|hf;obtain⟨g1,g2⟩:=qaV _ _ (qae.1 h1).1;exact λx hx=>(g2 x hx).2;exact qlX l _ h2 f hf
theorem qpq{p:Pr}(h:qbw p=0):(∀ f∈p.funcs,f.name.length<=24)/\∀ k∈qaf p.vars p.funcs,k.length<=49:=by
 unfold qbw qcQ at h;have e1:(p.arrays.map λa=>(a.name,(a.size:Int))).map (·.1)=p.arrays.map (·.name):=by rw[map_map];try rfl
 rw[e1] at h;obtain⟨h1,h⟩:=qae.1 h;obtain⟨h2,h⟩:=qae.1 h;obtain⟨h3,h4⟩:=qae.1 h;have hn:=(qaV _ _ h1).2;have hf:∀ f∈p.funcs,f.name.length<=24:=λf hf=>qiR (hn _ (List.mem_append.2 (.inr (List.mem_map.2 ⟨f,hf,rfl⟩)))).2;refine⟨hf,λk hk=>?_⟩;unfold qaf at hk;rcases List.mem_append.1 hk with g|g;have:=qiR (hn k (List.mem_append.2 (.inl (List.mem_append.2 (.inl g))))).2;omega;obtain⟨l,g1,g2⟩:=List.mem_flatten.1 g;obtain⟨f,g3,rfl⟩:=List.mem_map.1 g1;obtain⟨x,g4,rfl⟩:=List.mem_map.1 g2;have a1:=hf f g3;have a2:=qiR (qlX _ _ h3 f g3 x g4);simp only[zLa,zLc,zLn];omega
theorem qhk{p:Pr}(h:qbw p=0):∀ f∈p.funcs,f.name.length<=1000/\∀ x∈f.params++f.locals,x.length<=1000:=by
 have h0:=(qpq h).1;unfold qbw qcQ at h;have e1:(p.arrays.map λa=>(a.name,(a.size:Int))).map (·.1)=p.arrays.map (·.name):=by rw[map_map];try rfl
 rw[e1] at h;have h3:=(qae.1 (qae.1 (qae.1 h).2).2).1;exact λf hf=>⟨zNt (h0 f hf) zDd,λx hx=>zNt (qiR (qlX _ _ h3 f hf x hx)) zDd⟩
theorem qrF{p:Pr}{f:FnD}{name:Nm}(h:∀ k∈qaf p.vars p.funcs,k.length<=49)(hk:keyI f name∈qaf p.vars p.funcs):name.length<=49:=by
 have:=h _ hk;unfold keyI at this;split at this;simp only[zLa,zLc,zLn] at this;omega;exact this
def Few6(n:Nat):Prop:=n<=2000000
mutual
def smE:Ex->Prop
 |.mk op num name args=>Few6 args.length/\smEs args
def smEs:List Ex->Prop
 |[]=>True
 |x::l=>smE x/\smEs l
end
mutual
def smS:Sm->Prop
 |.mk kind name index value thn els=>Few6 index.length/\Few6 value.length/\Few6 thn.length/\Few6 els.length/\smEs index/\smEs value/\smSs thn/\smSs els
def smSs:List Sm->Prop
 |[]=>True
 |x::l=>smS x/\smSs l
end
structure SmF(f:FnD):Prop where
 params:Few6 f.params.length
 locals:Few6 f.locals.length
 body:Few6 f.body.length
 stmts:smSs f.body
structure SmP(p:Pr):Prop where
 vars:Few6 p.vars.length
 arrays:Few6 p.arrays.length
 funcs:Few6 p.funcs.length
 each:∀ f∈p.funcs,SmF f
mutual
def ndE:Ex->Nat
 |.mk op num name args=>1+ndEs args
def ndEs:List Ex->Nat
 |[]=>0
 |x::l=>ndE x+ndEs l
end
mutual
def ndS:Sm->Nat
 |.mk kind name index value thn els=>1+(ndEs index+ndEs value+ndSs thn+ndSs els)
def ndSs:List Sm->Nat
 |[]=>0
 |x::l=>ndS x+ndSs l
end
def ndF(f:FnD):Nat:=1+f.params.length+f.locals.length+ndSs f.body
def ndFs:List FnD->Nat
 |[]=>0
 |f::l=>ndF f+ndFs l
theorem qlG(x:Ex):1<=ndE x:=by
 obtain⟨op,num,name,args⟩:=x;rw[ndE];omega
theorem qn2(x:Sm):1<=ndS x:=by
 obtain⟨k,n,i,v,t,e⟩:=x;rw[ndS];omega
theorem qga:∀ l:List Ex,l.length<=ndEs l
 |[]=>zNr _
 |x::l=>by
  have h1:=qlG x;have h2:=qga l;rw[ndEs,zLc];omega
theorem qe8:∀ l:List Sm,l.length<=ndSs l
 |[]=>zNr _
 |x::l=>by
  have h1:=qn2 x;have h2:=qe8 l;rw[ndSs,zLc];omega
theorem qho:∀ l:List FnD,l.length<=ndFs l
 |[]=>zNr _
 |x::l=>by
  have h2:=qho l;rw[ndFs,zLc];unfold ndF;omega
theorem qgS:∀ {l:List FnD} {f:FnD},f∈l->ndF f<=ndFs l
 |g::l,f,h=>by
  rw[ndFs];rcases zMi.1 h with rfl|h;omega;have:=qgS h;omega
theorem qlw:∀ {l:List Ex} {f:Ex},f∈l->ndE f<=ndEs l
 |g::l,f,h=>by
  rw[ndEs];rcases zMi.1 h with rfl|h;omega;have:=qlw h;omega
mutual
theorem qxq:∀ x:Ex,ndE x<=2000000->smE x
 |.mk op num name args,h=>by
  rw[ndE] at h;have:=qga args;exact⟨show args.length<=2000000 by omega,ql0 args (by omega)⟩
theorem ql0:∀ l:List Ex,ndEs l<=2000000->smEs l
 |[],_=>trivial
 |x::l,h=>by
  rw[ndEs] at h;exact⟨qxq x (by omega),ql0 l (by omega)⟩
end
mutual
theorem qxu:∀ x:Sm,ndS x<=2000000->smS x
 |.mk k n i v t e,h=>by
  rw[ndS] at h;have h1:=qga i;have h2:=qga v;have h3:=qe8 t;have h4:=qe8 e;exact⟨show i.length<=2000000 by omega,show v.length<=2000000 by omega,show t.length<=2000000 by omega,show e.length<=2000000 by omega,ql0 i (by omega),ql0 v (by omega),qln t (by omega),qln e (by omega)⟩
theorem qln:∀ l:List Sm,ndSs l<=2000000->smSs l
 |[],_=>trivial
 |x::l,h=>by
  rw[ndSs] at h;exact⟨qxu x (by omega),qln l (by omega)⟩
end
theorem qo8{f:FnD}(h:ndF f<=2000000):SmF f:=by
 unfold ndF at h;have:=qe8 f.body;exact⟨show f.params.length<=2000000 by omega,show f.locals.length<=2000000 by omega,show f.body.length<=2000000 by omega,qln _ (by omega)⟩
def KnB(B D:Nat)(known:List FSum):Prop:=∀ k∈known,k.need<=B/\k.params+1<=B/\k.depth<=D
theorem qoJ(B:Nat)(c:CEnv):∀ (l:List Ex) (i m:Nat),(∀ x∈l,qbb c x<=4 * ndE x+B)->qhI i (qaX c l) m<=max m (4 * ndEs l+i+B)
 |[],i,m,_=>by rw[qaX,qhI];exact Nat.le_max_left _ _
 |x::l,i,m,h=>by
  rw[qaX,qhI,ndEs];have h1:=h x zMs;have h2:=qoJ B c l (i+1) (max m (i+qbb c x)) (λy hy=>h y (zMo _ hy));have h3:=qlG x;omega
mutual
theorem qf9(B D:Nat)(c:CEnv)(hB:KnB B D c.funcs):∀ x:Ex,qbb c x<=4 * ndE x+B
 |.mk op num name args=>by
  rw[qbb,ndE];have ha:=qni B D c hB args
  have h0:(qaX c args).headD 0<=4 * ndEs args+B:=by
   cases args with
   |nil=>rw[qaX];exact zero_le _
   |cons x l=>
    have:=ha x zMs;rw[qaX,ndEs];show qbb c x<=_;omega
  have h1:(qaX c args).tail.headD 0<=4 * ndEs args+B:=by
   cases args with
   |nil=>rw[qaX];exact zero_le _
   |cons x l=>
    cases l with
    |nil=>rw[qaX,qaX];exact zero_le _
    |cons y l=>
     have:=ha y (zMo _ zMs);rw[qaX,qaX,ndEs,ndEs];show qbb c y<=_;omega
  have hc:qiG c name (qaX c args)<=4 * (1+ndEs args)+B:=by
   unfold qiG;split;omega;split;omega;unfold CEnv.fn;split
   rename_i k hk
   have hkb:=hB k (mem_of_find?_eq_some hk);have:=qoJ B c args 0 (max (k.params+1) k.need) ha;omega;omega
  unfold opN;split;omega;split;omega;split;exact hc;split;omega;split;omega;split;omega;split;omega;split;omega;omega
theorem qni(B D:Nat)(c:CEnv)(hB:KnB B D c.funcs):∀ (l:List Ex),∀ x∈l,qbb c x<=4 * ndE x+B
 |[],x,h=>(not_mem_nil h).elim
 |a::l,x,h=>by
  rcases zMi.1 h with h1|h1;rw[h1];exact qf9 B D c hB a;exact qni B D c hB l x h1
end
theorem quV{B D:Nat}{c:CEnv}(hB:KnB B D c.funcs)(op name:Nm):qgk c op name<=D+1:=by
 unfold qgk;split;unfold CEnv.fn;split
 rename_i k hk
 have:=hB k (mem_of_find?_eq_some hk);omega;omega;omega
mutual
theorem qn8(B D:Nat)(c:CEnv)(hB:KnB B D c.funcs):∀ x:Ex,depE c x<=D+1
 |.mk op num name args=>by
  rw[depE];have h1:=qgK B D c hB args;have h2:=quV hB op name;omega
theorem qgK(B D:Nat)(c:CEnv)(hB:KnB B D c.funcs):∀ l:List Ex,qb7 c l<=D+1
 |[]=>zero_le _
 |x::l=>by
  rw[qb7];have h1:=qn8 B D c hB x;have h2:=qgK B D c hB l;omega
end
theorem qjO{B D:Nat}{c:CEnv}(hB:KnB B D c.funcs)(l:List Ex):qbb c (l.headD default)<=4 * (ndEs l+1)+B:=by
 cases l with
 |nil=>
  have:=qf9 B D c hB (default:Ex)
  have h1:ndE (default:Ex)=1:=by
   show ndE (.mk [] 0 [] [])=1;rw[ndE,ndEs]
  show qbb c default<=_;rw[ndEs]
  omega
 |cons x l=>
  have:=qf9 B D c hB x;show qbb c x<=_;rw[ndEs];omega
mutual
theorem qtv(B D:Nat)(c:CEnv)(hB:KnB B D c.funcs):∀ x:Sm,qku c x<=8 * ndS x+B
 |.mk k n i v t e=>by
  rw[qku,ndS];have h1:=qjO hB v;have h2:=qjO hB i;have h3:=qfu B D c hB t;have h4:=qfu B D c hB e;split;omega;split;omega;split;omega;omega
theorem qfu(B D:Nat)(c:CEnv)(hB:KnB B D c.funcs):∀ l:List Sm,qbS c l<=8 * ndSs l+B
 |[]=>by rw[qbS];exact zero_le _
 |x::l=>by
  rw[qbS,ndSs];have h1:=qtv B D c hB x;have h2:=qfu B D c hB l;omega
end
mutual
theorem qq3(B D:Nat)(c:CEnv)(hB:KnB B D c.funcs):∀ x:Sm,depS c x<=D+1
 |.mk k n i v t e=>by
  rw[depS];have h1:=qgK B D c hB v;have h2:=qgK B D c hB i;have h3:=qe9 B D c hB t;have h4:=qe9 B D c hB e;omega
theorem qe9(B D:Nat)(c:CEnv)(hB:KnB B D c.funcs):∀ l:List Sm,qck c l<=D+1
 |[]=>by rw[qck];exact zero_le _
 |x::l=>by
  rw[qck];have h1:=qq3 B D c hB x;have h2:=qe9 B D c hB l;omega
end
theorem qvL{B D:Nat}{vars arrays later:List Nm}{known:List FSum}{f:FnD}(hB:KnB B D known):(sumF vars arrays later known f).need<=8 * ndF f+B/\(sumF vars arrays later known f).params+1<=8 * ndF f+B/\(sumF vars arrays later known f).depth<=D+1:=by
 have h1:=qfu B D (envF vars arrays later known f) hB f.body;have h2:=qe9 B D (envF vars arrays later known f) hB f.body;unfold sumF ndF;simp only;omega
def Few{A:Type}(k:Nat)(s:IS)(r:IR A):Prop:=r.st.out.length+r.st.left<=s.out.length+s.left+k
theorem Few.bind{A B:Type}{k:Nat}{s:IS}{r:IR A}{f:A->IS->IR B}(h:Few 0 s r)(hf:∀ v s',Few k s' (f v s')):Few k s (r.bind f):=by
 cases r with
 |ok v s'=>exact zNt (hf v s') (Nat.add_le_add_right h k)
 |stop e s'=>exact zNt h (le_add_right _ _)
theorem Few.bind'{A B:Type}{k:Nat}{s:IS}{r:IR A}{f:A->IS->IR B}(h:Few k s r)(hf:∀ v s',Few 0 s' (f v s')):Few k s (r.bind f):=by
 cases r with
 |ok v s'=>exact zNt (hf v s') h
 |stop e s'=>exact h
theorem Few.refl{A:Type}{k:Nat}{v:A}{s:IS}:Few k s (.ok v s):=le_add_right _ _
theorem Few.reflS{A:Type}{k:Nat}{e:Int}{s:IS}:Few (A:=A) k s (.stop e s):=le_add_right _ _
theorem Few.tick{B:Type}{s:IS}{f:Unit->IS->IR B}(hf:∀ s',Few 1 s' (f () s')):Few 0 s ((tick s).bind f):=by
 unfold Go.Stele.tick;split;exact Few.reflS
 rename_i h
 have:=hf { s with left:=s.left-1 };unfold Few at this ⊢;simp only at this;show(f () { s with left:=s.left-1 }).st.out.length+(f () { s with left:=s.left-1 }).st.left<=_
 omega
theorem Few.up{A:Type}{s:IS}{r:IR A}(h:Few 0 s r):Few 1 s r:=zNt h (le_add_right _ _)
theorem qo9{A:Type}{g:A->IS->IR Nat}(h:∀ a s,Few 0 s (g a s)):∀ (l:List A) (s:IS),Few 0 s (mapR g l s)
 |[],s=>Few.refl
 |a::l,s=>(h a s).bind λv s=>(qo9 h l s).bind λvs s=>Few.refl
theorem qf7{g:Sm->IS->IR (Option Nat)}(h:∀ a s,Few 0 s (g a s)):∀ (l:List Sm) (s:IS),Few 0 s (blkR g l s)
 |[],s=>Few.refl
 |a::l,s=>(h a s).bind λr s=>by
  cases r with
  |none=>exact qf7 h l s
  |some v=>exact Few.refl
theorem qpA{c:IS->IR Nat}{b:IS->IR (Option Nat)}(hc:∀ s,Few 0 s (c s))(hb:∀ s,Few 0 s (b s)):∀ (m v:Nat) (s:IS),Few 0 s (whlR c b m v s)
 |0,v,s=>by
  unfold whlR;split;exact Few.refl
  exact Few.reflS
 |m+1,v,s=>by
  unfold whlR;split;exact Few.refl;refine(hb s).bind λr s=>?_
  cases r with
  |some x=>exact Few.refl
  |none=>exact(hc s).bind λv s=>qpA hc hb m v s
theorem qvW{P:Pr}{g:FnD->Sm->IS->IR (Option Nat)}(h:∀ f a s,Few 0 s (g f a s))(f:FnD)(op:List UInt8)(num:Nat)(name:List UInt8)(vs:List Nat)(s:IS):Few 1 s (opI P g f op num name vs s):=by
 unfold opI;split;exact Few.refl;split;exact Few.refl;split;split;exact Few.refl;exact Few.reflS;split;exact Few.refl;split;exact Few.refl;split;unfold callI;split;split;exact Few.refl;exact le_add_right _ _;split;unfold Few;simp only[IR.st,zLa,zLc,zLn];omega;refine Few.bind' (Few.up ?_) λr s=>Few.refl;have:=qf7 (h (fnI P name)) (fnI P name).body (qcM (fnI P name) (fnI P name).params vs s);unfold Few at this ⊢
 rwa [(qdT _ _ _ _).1,(qdT _ _ _ _).2.1] at this
 split;exact Few.refl;exact Few.reflS
theorem qjW(P:Pr):∀ n:Nat,(∀ f x s,Few 0 s (evI P n f x s))/\∀ f x s,Few 0 s (stI P n f x s)
 |0=>⟨λf x s=>by unfold evI;exact Few.reflS,λf x s=>by unfold stI;exact Few.reflS⟩
 |n+1=>by
  obtain⟨h1,h2⟩:=qjW P n;refine⟨λf x s=>?_,λf x s=>?_⟩;obtain⟨op,num,name,args⟩:=x;unfold evI;exact Few.tick λs=>(qo9 (h1 f) args s).bind λvs s=>qvW h2 f op num name vs s;obtain⟨kind,name,index,value,thn,els⟩:=x;unfold stI;refine Few.tick λs=>Few.up ?_;split;exact Few.reflS;refine(h1 f _ s).bind λv s=>?_;split;exact Few.refl;split;refine(h1 f _ s).bind λi s=>?_;split;exact Few.refl;exact Few.reflS;split;exact Few.refl;split;split;exact qf7 (h2 f) _ _;exact qf7 (h2 f) _ _;split;exact qpA (h1 f _) (qf7 (h2 f) _) _ _ _;exact Few.refl
abbrev Wd:=List UInt8
def numW(w:Wd):Option Nat:=match Go.Lib.parseUintB 32 w with
 |.ok u=>if Go.Lib.decDigits u=w then some u else none
 |_=>none
def qkf(s:Wd):Bool:=match s with
 |[]=>false
 |c::r=>decide (s.length<=40) && qaT c && s.all qaM
def defW(w:Wd):Option Wd:=if w.getLast? = some 58/\qkf w.dropLast=true then some w.dropLast else none
def refW(w:Wd):Option Wd:=match w with
 |[]=>none
 |c::r=>if c=38/\qkf r=true then some r else none
def wdAt(l:List Wd)(i:Nat):Wd:=(l[i]?).getD []
def qd1(a:Nat)(op:Wd)(b:Nat):Option Nat:=
 if op=[43] then some ((a+b) % 4294967296)
 else if op=[45] then some ((a+4294967296-b) % 4294967296)
 else if op=[42] then some (a * b % 4294967296)
 else if op=[94] then some (a ^^^ b)
 else if op=[60] then some (if a<b then 1 else 0)
 else if op=[47] then (if b=0 then none else some (a / b))
 else if op=[37] then (if b=0 then none else some (a % b))
 else none
def qa1(x op y:Wd):Option Wd:=match numW x,numW y with
 |some a,some b=>match qd1 a op b with
  |some c=>if (Go.Lib.decDigits c).length<=x.length+y.length+1 then some (Go.Lib.decDigits c) else none
  |none=>none
 |_,_=>none
def qda(v:List Wd)(i:Nat):Option Wd:=match refW (wdAt v i) with
 |some l=>if wdAt v (i+1)=[63] then some l else none
 |none=>none
abbrev qeU:=Nat×List Wd
def qhB(v:List Wd):qeU:=match qa1 (wdAt v 0) (wdAt v 2) (wdAt v 1) with
 |some s=>(3,[s])
 |none=>(0,[])
def qcW(v:List Wd):qeU:=
 if wdAt v 0=[48]/\(wdAt v 1=[43]∨wdAt v 1=[45]∨wdAt v 1=[94])∨wdAt v 0=[49]/\(wdAt v 1=[42]∨wdAt v 1=[47]) then (2,[]) else (0,[])
def qcu(v:List Wd):qeU:=
 if (wdAt v 1=[43]∨wdAt v 1=[42]∨wdAt v 1=[94])/\wdAt v 3=wdAt v 1 then
  (match qa1 (wdAt v 0) (wdAt v 1) (wdAt v 2) with
  |some s=>(4,[s,wdAt v 1])
  |none=>(0,[]))
 else (0,[])
def qiB(v:List Wd):qeU:=if (numW (wdAt v 0)).isSome=true/\wdAt v 1=[64]/\wdAt v 2=wdAt v 0/\wdAt v 3=[33] then (4,[]) else (0,[])
def qdp(v:List Wd):qeU:=if (qda v 4).isSome=true/\wdAt v 0=[49]/\wdAt v 1=[60]/\wdAt v 2=[49]/\wdAt v 3=[60] then (6,[wdAt v 4,wdAt v 5]) else (0,[])
def qeQ(v:List Wd):qeU:=match numW (wdAt v 0) with
 |some n=>if n≠0/\(qda v 1).isSome=true then (3,[]) else (0,[])
 |none=>(0,[])
def qf1(l:Wd):List Wd->Bool
 |[]=>false
 |w::r=>match defW w with
  |some d=>decide (d=l) || qf1 l r
  |none=>false
def qhM(v:List Wd):qeU:=match qda v 1 with
 |some l=>if wdAt v 0=[48]/\qf1 l (v.drop 3)=true then (3,[]) else (0,[])
 |none=>(0,[])
def qcr(v:List Wd):Nat:=if (qda v 1).isSome=true/\wdAt v 0=[48] then 3 else if wdAt v 0=[59]∨wdAt v 0=[36] then 1 else 0
def qb3(v:List Wd):Nat:=(v.takeWhile λw=>(defW w).isNone).length
def qiy(v:List Wd):qeU:=if 0<qcr v/\0<qb3 (v.drop (qcr v)) then (qcr v+qb3 (v.drop (qcr v)),v.take (qcr v)) else (0,[])
def qcw(used:Wd->Bool)(v:List Wd):qeU:=match defW (wdAt v 0) with
 |some l=>if used l=true then (0,[]) else (1,[])
 |none=>(0,[])
def qa3(used:Wd->Bool)(v:List Wd):qeU:=
 if (qhB v).1≠0 then qhB v else if (qcW v).1≠0 then qcW v else if (qcu v).1≠0 then qcu v else if (qiB v).1≠0 then qiB v else if (qdp v).1≠0 then qdp v else
 if (qeQ v).1≠0 then qeQ v else if (qhM v).1≠0 then qhM v else if (qiy v).1≠0 then qiy v else qcw used v
def qcx(used:Wd->Bool):Nat->List Wd->List Wd
 |0,_=>[]
 |_+1,[]=>[]
 |f+1,w::r=>if (qa3 used (w::r)).1=0 then w::qcx used f r else (qa3 used (w::r)).2++qcx used f ((w::r).drop (qa3 used (w::r)).1)
def qaO(l:List Wd)(s:Wd):Bool:=l.any λw=>decide (refW w=some s)
def qeb(l:List Wd):List Wd:=qcx (qaO l) l.length l
theorem qb1{v:List Wd}{i:Nat}(h:wdAt v i≠[]):i<v.length:=by
 rcases lt_or_ge i v.length with h1|h1;exact h1;exact absurd (by simp[wdAt,List.getElem?_eq_none h1]) h
theorem qr6{w:Wd}{n:Nat}(h:numW w=some n):w≠[]:=by
 rintro rfl;have:numW []=none:=by decide +kernel
 rw[this] at h;cases h
theorem qcD{v:List Wd}{i:Nat}{l:Wd}(h:qda v i=some l):i+1<v.length:=by
 unfold qda at h;split at h;split at h
 rename_i h2
 exact qb1 (by rw[h2];decide);cases h;cases h
theorem qwN{a b:Nat}{op:Wd}{c:Nat}(h:qd1 a op b=some c):op≠[]:=by
 rintro rfl;have:qd1 a [] b=none:=rfl;rw[this] at h;cases h
theorem qcR{x op y s:Wd}(h:qa1 x op y=some s):x≠[]/\op≠[]/\y≠[]:=by
 unfold qa1 at h;split at h
 rename_i a b ha hb
 split at h
 rename_i c hc
 exact⟨qr6 ha,qwN hc,qr6 hb⟩;cases h;cases h
def qfC(v:List Wd)(r:qeU):Prop:=r.1≠0->r.1<=v.length/\r.2.length<r.1
theorem qbh(v:List Wd):qfC v (0,[]):=λh=>absurd rfl h
theorem qwV(v:List Wd):qfC v (qhB v):=by
 unfold qhB;split
 rename_i s h
 obtain⟨_,h2,_⟩:=qcR h;have:=qb1 h2;exact λ_=>⟨by simp only;omega,by simp⟩;exact qbh v
theorem qqL(v:List Wd):qfC v (qcW v):=by
 unfold qcW;split
 rename_i h
 have:wdAt v 1≠[]:=by
  intro h0;rw[h0] at h;rcases h with⟨_,h|h|h⟩|⟨_,h|h⟩ <;> cases h
 have:=qb1 this;exact λ_=>⟨by simp only;omega,by simp⟩;exact qbh v
theorem qp7(v:List Wd):qfC v (qcu v):=by
 unfold qcu;split
 rename_i h
 split
 rename_i s hs
 have h3:wdAt v 3≠[]:=by rw[h.2];exact(qcR hs).2.1
 have:=qb1 h3;exact λ_=>⟨by simp only;omega,by simp⟩;exact qbh v;exact qbh v
theorem qvS(v:List Wd):qfC v (qiB v):=by
 unfold qiB;split
 rename_i h
 have:=qb1 (v:=v) (i:=3) (by rw[h.2.2.2];decide);exact λ_=>⟨by simp only;omega,by simp⟩;exact qbh v
theorem qsn(v:List Wd):qfC v (qdp v):=by
 unfold qdp;split
 rename_i h
 obtain⟨l,hl⟩:=Option.isSome_iff_exists.1 h.1;have:=qcD hl;exact λ_=>⟨by simp only;omega,by simp⟩;exact qbh v
theorem qtJ(v:List Wd):qfC v (qeQ v):=by
 unfold qeQ;split;split
 rename_i h
 obtain⟨l,hl⟩:=Option.isSome_iff_exists.1 h.2;have:=qcD hl;exact λ_=>⟨by simp only;omega,by simp⟩;exact qbh v;exact qbh v
theorem qwW(v:List Wd):qfC v (qhM v):=by
 unfold qhM;split
 rename_i l hl
 split;have:=qcD hl;exact λ_=>⟨by simp only;omega,by simp⟩;exact qbh v;exact qbh v
theorem qvG(v:List Wd):qcr v<=v.length:=by
 unfold qcr;split
 rename_i h
 obtain⟨l,hl⟩:=Option.isSome_iff_exists.1 h.1;have:=qcD hl;omega;split
 rename_i h
 have:=qb1 (v:=v) (i:=0) (by rcases h with h|h <;> rw[h] <;> decide);omega;omega
theorem qwa(v:List Wd):qfC v (qiy v):=by
 unfold qiy;split
 rename_i h
 intro _;have h1:=qvG v;have h2:qb3 (v.drop (qcr v))<=(v.drop (qcr v)).length:=(takeWhile_prefix _).length_le;rw[length_drop] at h2;simp only[length_take];omega;exact qbh v
theorem qsd(used:Wd->Bool)(v:List Wd):qfC v (qcw used v):=by
 unfold qcw;split
 rename_i l hl
 split;exact qbh v
 have:wdAt v 0≠[]:=by
  intro h0;rw[h0] at hl;cases hl
 have:=qb1 this;exact λ_=>⟨by simp only;omega,by simp⟩;exact qbh v
theorem qfo(used:Wd->Bool)(v:List Wd):qfC v (qa3 used v):=by
 unfold qa3;split;exact qwV v;split;exact qqL v;split;exact qp7 v;split;exact qvS v;split;exact qsn v;split;exact qtJ v;split;exact qwW v;split;exact qwa v;exact qsd used v
theorem qjF(used:Wd->Bool):∀ (f:Nat) (l:List Wd),(qcx used f l).length<=l.length
 |0,l=>zero_le _
 |f+1,[]=>zNr _
 |f+1,w::r=>by
  rw[qcx];split;have:=qjF used f r;simp only[zLc];omega
  rename_i h
  obtain⟨h1,h2⟩:=qfo used (w::r) h;have:=qjF used f ((w::r).drop (qa3 used (w::r)).1);rw[length_drop] at this;rw[zLa];omega
theorem qcP(w:Wd)(n:Nat):numW w=some n ↔ n<4294967296/\decDigits n=w:=by
 unfold numW;constructor;intro h;split at h
 rename_i u hu
 split at h
 rename_i he
 cases h;exact⟨qi7 hu,he⟩;cases h;cases h;rintro⟨h1,h2⟩;subst h2;rw[qiX n h1]
 simp
theorem qjf{w:Wd}{n:Nat}(h:numW w=some n):n<4294967296:=((qcP w n).1 h).1
theorem qgc{n:Nat}(h:n<4294967296):numW (decDigits n)=some n:=(qcP _ n).2 ⟨h,rfl⟩
theorem qki{a b c:Nat}{op:Wd}(ha:a<4294967296)(hb:b<4294967296)(h:qd1 a op b=some c):c<4294967296:=by
 unfold qd1 at h;split at h;cases h;omega;split at h;cases h;omega;split at h;cases h;exact mod_lt _ zDd;split at h;cases h;exact Nat.xor_lt_two_pow (n:=32) ha hb;split at h;cases h;split <;> decide;split at h;split at h;cases h;cases h;exact Nat.lt_of_le_of_lt (Nat.div_le_self _ _) ha;split at h;split at h;cases h;cases h
 rename_i hb0
 have:=mod_lt a (Nat.pos_of_ne_zero hb0);omega;cases h
def qb0(v:List Wd):Prop:=wdAt v 0=[48]/\(wdAt v 1=[43]∨wdAt v 1=[45]∨wdAt v 1=[94])∨wdAt v 0=[49]/\(wdAt v 1=[42]∨wdAt v 1=[47])
instance(v:List Wd):Decidable (qb0 v):=by unfold qb0;infer_instance
def qaZ(v:List Wd):Prop:=(wdAt v 1=[43]∨wdAt v 1=[42]∨wdAt v 1=[94])/\wdAt v 3=wdAt v 1
instance(v:List Wd):Decidable (qaZ v):=by unfold qaZ;infer_instance
def qhg(v:List Wd):Prop:=(numW (wdAt v 0)).isSome=true/\wdAt v 1=[64]/\wdAt v 2=wdAt v 0/\wdAt v 3=[33]
instance(v:List Wd):Decidable (qhg v):=by unfold qhg;infer_instance
def qc2(v:List Wd):Prop:=(qda v 4).isSome=true/\wdAt v 0=[49]/\wdAt v 1=[60]/\wdAt v 2=[49]/\wdAt v 3=[60]
instance(v:List Wd):Decidable (qc2 v):=by unfold qc2;infer_instance
def qef(v:List Wd):Bool:=match numW (wdAt v 0) with
 |some n=>decide (n≠0/\(qda v 1).isSome=true)
 |none=>false
def qic(v:List Wd):Bool:=match qda v 1 with
 |some l=>decide (wdAt v 0=[48]/\qf1 l (v.drop 3)=true)
 |none=>false
def qkw(v:List Wd):Prop:=0<qcr v/\0<qb3 (v.drop (qcr v))
instance(v:List Wd):Decidable (qkw v):=by unfold qkw;infer_instance
def qdu(v:List Wd):Option Wd:=qa1 (wdAt v 0) (wdAt v 2) (wdAt v 1)
def qbr(v:List Wd):Option Wd:=qa1 (wdAt v 0) (wdAt v 1) (wdAt v 2)
section
variable{v:List Wd}{used:Wd->Bool}
theorem qvQ{s:Wd}(h:qdu v=some s):qhB v=(3,[s]):=by unfold qhB;unfold qdu at h;rw[h]
theorem qfW(h:qdu v=none):qhB v=(0,[]):=by unfold qhB;unfold qdu at h;rw[h]
theorem qqD(h:qb0 v):qcW v=(2,[]):=if_pos h
theorem qc6(h:¬ qb0 v):qcW v=(0,[]):=if_neg h
theorem qqh{s:Wd}(h:qaZ v)(h2:qbr v=some s):qcu v=(4,[s,wdAt v 1]):=by
 unfold qcu;unfold qbr at h2;unfold qaZ at h;rw[if_pos h,h2]
theorem qdS(h:¬ qaZ v∨qbr v=none):qcu v=(0,[]):=by
 unfold qcu;unfold qbr at h
 by_cases hc:qaZ v
 rcases h with h|h;exact absurd hc h;unfold qaZ at hc;rw[if_pos hc,h];unfold qaZ at hc;rw[if_neg hc]
theorem qvB(h:qhg v):qiB v=(4,[]):=if_pos h
theorem qj7(h:¬ qhg v):qiB v=(0,[]):=if_neg h
theorem qta(h:qc2 v):qdp v=(6,[wdAt v 4,wdAt v 5]):=if_pos h
theorem qgT(h:¬ qc2 v):qdp v=(0,[]):=if_neg h
theorem quH(h:qef v=true):qeQ v=(3,[]):=by
 unfold qef at h;unfold qeQ;split at h
 ·rename_i n hn
  try rw[hn]
  exact if_pos (of_decide_eq_true h)
 cases h
theorem qlR(h:qef v=false):qeQ v=(0,[]):=by
 unfold qef at h;unfold qeQ;split at h
 ·rename_i n hn
  try rw[hn]
  exact if_neg (of_decide_eq_false h)
 rename_i hn
 first|rw[hn]|rfl
theorem qwL(h:qic v=true):qhM v=(3,[]):=by
 unfold qic at h;unfold qhM;split at h
 ·rename_i n hn
  try rw[hn]
  exact if_pos (of_decide_eq_true h)
 cases h
theorem qsM(h:qic v=false):qhM v=(0,[]):=by
 unfold qic at h;unfold qhM;split at h
 ·rename_i n hn
  try rw[hn]
  exact if_neg (of_decide_eq_false h)
 rename_i hn
 first|rw[hn]|rfl
theorem qwe(h:qkw v):qiy v=(qcr v+qb3 (v.drop (qcr v)),v.take (qcr v)):=if_pos h
theorem qwt(h:¬ qkw v):qiy v=(0,[]):=if_neg h
theorem qup{s:Wd}(h:qdu v=some s):qa3 used v=(3,[s]):=by
 unfold qa3;rw[qvQ h]
 try rfl
theorem qtH(h1:qdu v=none)(h:qb0 v):qa3 used v=(2,[]):=by
 unfold qa3;rw[qfW h1,qqD h]
 try rfl
theorem qud{s:Wd}(h1:qdu v=none)(h2:¬ qb0 v)(h:qaZ v)(h':qbr v=some s):qa3 used v=(4,[s,wdAt v 1]):=by
 unfold qa3;rw[qfW h1,qc6 h2,qqh h h']
 try rfl
theorem quy(h1:qdu v=none)(h2:¬ qb0 v)(h3:¬ qaZ v∨qbr v=none)(h:qhg v):qa3 used v=(4,[]):=by
 unfold qa3;rw[qfW h1,qc6 h2,qdS h3,qvB h]
 try rfl
theorem quY(h1:qdu v=none)(h2:¬ qb0 v)(h3:¬ qaZ v∨qbr v=none)(h4:¬ qhg v)(h:qc2 v):qa3 used v=(6,[wdAt v 4,wdAt v 5]):=by
 unfold qa3;rw[qfW h1,qc6 h2,qdS h3,qj7 h4,qta h]
 try rfl
theorem qtZ(h1:qdu v=none)(h2:¬ qb0 v)(h3:¬ qaZ v∨qbr v=none)(h4:¬ qhg v)(h5:¬ qc2 v)(h:qef v=true):qa3 used v=(3,[]):=by
 unfold qa3;rw[qfW h1,qc6 h2,qdS h3,qj7 h4,qgT h5,quH h]
 try rfl
theorem qui(h1:qdu v=none)(h2:¬ qb0 v)(h3:¬ qaZ v∨qbr v=none)(h4:¬ qhg v)(h5:¬ qc2 v)(h6:qef v=false)(h:qic v=true):qa3 used v=(3,[]):=by
 unfold qa3;rw[qfW h1,qc6 h2,qdS h3,qj7 h4,qgT h5,qlR h6,qwL h]
 try rfl
theorem qt3(h1:qdu v=none)(h2:¬ qb0 v)(h3:¬ qaZ v∨qbr v=none)(h4:¬ qhg v)(h5:¬ qc2 v)(h6:qef v=false)(h7:qic v=false)(h:qkw v):qa3 used v=(qcr v+qb3 (v.drop (qcr v)),v.take (qcr v)):=by
 unfold qa3;have h0:qcr v+qb3 (v.drop (qcr v))≠0:=by have:=h.1;omega
 rw[qfW h1,qc6 h2,qdS h3,qj7 h4,qgT h5,qlR h6,qsM h7,qwe h];simp only[ne_eq,not_true_eq_false,if_false,h0,not_false_eq_true,if_true]
theorem qtz(h1:qdu v=none)(h2:¬ qb0 v)(h3:¬ qaZ v∨qbr v=none)(h4:¬ qhg v)(h5:¬ qc2 v)(h6:qef v=false)(h7:qic v=false)(h8:¬ qkw v):qa3 used v=qcw used v:=by
 unfold qa3;rw[qfW h1,qc6 h2,qdS h3,qj7 h4,qgT h5,qlR h6,qsM h7,qwt h8]
 try rfl
end
def qaS(c:UInt8):List UInt8->List (List UInt8)
 |[]=>[[]]
 |d::r=>if d=c then []::qaS c r else match qaS c r with
  |p::ps=>(d::p)::ps
  |[]=>[[d]]
theorem qhj(c:UInt8):∀ s,∃ p ps,qaS c s=p::ps
 |[]=>⟨_,_,rfl⟩
 |d::r=>by
  obtain⟨p,ps,h⟩:=qhj c r;rw[qaS,h];split;exact⟨_,_,rfl⟩;exact⟨_,_,rfl⟩
theorem qeH(c:UInt8)(r:List UInt8):qaS c (c::r)=[]::qaS c r:=by rw[qaS,if_pos rfl]
theorem qeW{c d:UInt8}(h:d≠c)(r:List UInt8):∃ p ps,qaS c r=p::ps/\qaS c (d::r)=(d::p)::ps:=by
 obtain⟨p,ps,hp⟩:=qhj c r;exact⟨p,ps,hp,by rw[qaS,if_neg h,hp]⟩
theorem qdW{c:UInt8}:∀ {s:List UInt8},c ∉ s->qaS c s=[s]
 |[],_=>rfl
 |d::r,h=>by
  have hd:d≠c:=λe=>h (by rw[e];exact mem_cons_self ..);have hr:c ∉ r:=λe=>h (zMo _ e);rw[qaS,if_neg hd,qdW hr]
theorem qh7{c:UInt8}:∀ {a b:List UInt8},c ∉ a->qaS c (a++c::b)=a::qaS c b
 |[],b,_=>qeH c b
 |d::a,b,h=>by
  have hd:d≠c:=λe=>h (by rw[e];exact mem_cons_self ..);have ha:c ∉ a:=λe=>h (zMo _ e);rw[cons_append,qaS,if_neg hd,qh7 ha]
theorem qgh{c:UInt8}:∀ {s:List UInt8},c ∉ s->index s [c] = -1
 |[],_=>rfl
 |d::r,h=>by
  have hd:¬ c=d:=λe=>h (by rw[e];exact mem_cons_self ..);have hr:c ∉ r:=λe=>h (zMo _ e);have hp:([c]:List UInt8).isPrefixOf (d::r)=false:=by simp[List.isPrefixOf,hd]
  rw[index,hp,qgh hr]
  try rfl
theorem qgL{c:UInt8}:∀ {a b:List UInt8},c ∉ a->index (a++c::b) [c]=(a.length:Int)
 |[],b,_=>by
  have hp:([c]:List UInt8).isPrefixOf (c::b)=true:=by simp[List.isPrefixOf]
  rw[nil_append,index,hp]
  try rfl
 |d::a,b,h=>by
  have hd:¬ c=d:=λe=>h (by rw[e];exact mem_cons_self ..);have ha:c ∉ a:=λe=>h (zMo _ e);have hp:([c]:List UInt8).isPrefixOf (d::(a++c::b))=false:=by simp[List.isPrefixOf,hd]
  rw[cons_append,index,hp,qgL ha,if_neg zDd,if_neg (by
   intro h;have:=eq_of_beq h
   omega)]
  simp
theorem qjn{c:UInt8}{s:List UInt8}(h:c∈s):∃ a b,s=a++c::b/\c ∉ a:=List.eq_append_cons_of_mem h
theorem qvF(c:UInt8)(s:List UInt8):(cut s [c]).1=s.takeWhile (λd=>decide (d≠c)):=by
 by_cases h:c∈s
 obtain⟨a,b,rfl,ha⟩:=qjn h
 have h1:∀ x∈a,decide (x≠c)=true:=λx hx=>by
  simp only[zDe];rintro rfl;exact ha hx
 rw[cut,qgL ha,if_pos (by omega),List.takeWhile_append_of_pos h1,takeWhile_cons_of_neg (by simp)]
 simp
 have h1:∀ x∈s,decide (x≠c)=true:=λx hx=>by
  simp only[zDe];rintro rfl;exact h hx
 rw[cut,qgh h,if_neg zDd];have:=List.takeWhile_append_of_pos (l₂:=[]) h1;simpa using this.symm
theorem qg4(c:UInt8):∀ (f:Nat) (s:List UInt8),s.length<f->countFrom [c] f s=s.count c
 |0,s,h=>by omega
 |f+1,s,h=>by
  rw[countFrom]
  by_cases hc:c∈s
  ·obtain⟨a,b,rfl,ha⟩:=qjn hc
   rw[qgL ha,if_neg (by
    intro h;have:=eq_of_beq h
    omega)]
   have hd:(a++c::b).drop ((a.length:Int).toNat+[c].length)=b:=by
    rw[show(a.length:Int).toNat+[c].length=a.length+1 by simp];rw[<-List.drop_drop,List.drop_left]
    try rfl
   rw[hd,qg4 c f b (by simp only[zLa,zLc] at h;omega)];rw[List.count_append,List.count_cons_self,List.count_eq_zero.2 ha];omega
  rw[qgh hc,if_pos zDd,List.count_eq_zero.2 hc]
theorem qkQ(c:UInt8):∀ (k:Nat) (s:List UInt8),s.count c<=k->splitK [c] 0 k s=qaS c s
 |0,s,h=>by
  have hc:c ∉ s:=List.count_eq_zero.1 (by omega)
  rw[splitK,qdW hc]
 |k+1,s,h=>by
  rw[splitK]
  by_cases hc:c∈s
  ·obtain⟨a,b,rfl,ha⟩:=qjn hc
   rw[qgL ha,if_neg (by
    intro h;have:=eq_of_beq h
    omega),qh7 ha]
   have hd:(a++c::b).drop ((a.length:Int).toNat+[c].length)=b:=by
    rw[show(a.length:Int).toNat+[c].length=a.length+1 by simp];rw[<-List.drop_drop,List.drop_left]
    try rfl
   rw[hd,show(a.length:Int).toNat+0=a.length by simp,List.take_left,qkQ c k b (by
    rw[List.count_append,List.count_cons_self] at h
    omega)]
  rw[qgh hc,if_pos zDd,qdW hc]
theorem qqQ(c:UInt8)(s:List UInt8):split s [c]=qaS c s:=by
 rw[split,count,qkQ c _ s (by rw[qg4 c _ s (by omega)];exact zNr _)]
def full(l:List (List UInt8)):List Wd:=l.filter λw=>decide (w≠[])
def qfG(s:List UInt8):List Wd:=full (qaS 32 (s.takeWhile λd=>decide (d≠35)))
def qbl(s:List UInt8):List Wd:=(qaS 10 s).flatMap qfG
def qfh(cur:List UInt8):List Wd:=if cur=[] then [] else [cur]
def qiD:List UInt8->Bool->List UInt8->List Wd
 |cur,_,[]=>qfh cur
 |cur,com,c::r=>
  if c=10 then qfh cur++qiD [] false r
  else if com=true then qiD cur true r
  else if c=35 then qfh cur++qiD [] true r
  else if c=32 then qfh cur++qiD [] false r
  else qiD (cur++[c]) false r
def qhy(cur:List UInt8)(com:Bool)(l:List UInt8):List Wd:=if com=true then qfh cur else qfG (cur++l)
theorem qut(a b:List (List UInt8)):full (a++b)=full a++full b:=List.filter_append ..
theorem qlW(a:List UInt8):full [a]=qfh a:=by
 unfold full qfh
 by_cases h:a=[] <;> simp[h]
def qeJ(cur:List UInt8):Prop:=∀ c∈cur,c≠10/\c≠32/\c≠35
theorem qq4{cur:List UInt8}(h:qeJ cur)(l:List UInt8):qfG (cur++35::l)=qfh cur:=by
 have h1:∀ x∈cur,decide (x≠35)=true:=λx hx=>by simp only[zDe];exact(h x hx).2.2
 have h2:(32:UInt8) ∉ cur:=λhx=>(h 32 hx).2.1 rfl;unfold qfG;rw[List.takeWhile_append_of_pos h1,takeWhile_cons_of_neg (by simp),zLz,qdW h2,qlW]
theorem qlt{cur:List UInt8}(h:qeJ cur):qfG cur=qfh cur:=by
 have h1:∀ x∈cur,decide (x≠35)=true:=λx hx=>by simp only[zDe];exact(h x hx).2.2
 have h2:(32:UInt8) ∉ cur:=λhx=>(h 32 hx).2.1 rfl;have h3:=List.takeWhile_append_of_pos (l₂:=[]) h1;rw[zLz,List.takeWhile_nil,zLz] at h3;unfold qfG;rw[h3,qdW h2,qlW]
theorem qkC{cur:List UInt8}(h:qeJ cur)(l:List UInt8):qfG (cur++32::l)=qfh cur++qfG l:=by
 have h1:∀ x∈cur,decide (x≠35)=true:=λx hx=>by simp only[zDe];exact(h x hx).2.2
 have h2:(32:UInt8) ∉ cur:=λhx=>(h 32 hx).2.1 rfl;unfold qfG;rw[List.takeWhile_append_of_pos h1,takeWhile_cons_of_pos zDd,qh7 h2,<-List.singleton_append,qut,qlW]
theorem qhY:∀ (s cur:List UInt8) (com:Bool) (p:List UInt8) (ps:List (List UInt8)),qeJ cur->(com=true->cur=[])->qaS 10 s=p::ps->qiD cur com s=qhy cur com p++ps.flatMap qfG
 |[],cur,com,p,ps,hc,hcom,hp=>by
  cases hp;rw[qiD,qhy]
  cases com with
  |true=>simp
  |false=>simp[qlt hc]
 |c::r,cur,com,p,ps,hc,hcom,hp=>by
  obtain⟨q,qs,hq⟩:=qhj 10 r;rw[qiD]
  by_cases h10:c=10
  subst h10;rw[qeH,hq] at hp;cases hp;rw[if_pos rfl,qhY r [] false q qs (λx hx=>by cases hx) (by simp) hq]
  have:qhy cur com []=qfh cur:=by
   unfold qhy
   cases com with
   |true=>rfl
   |false=>rw[if_neg zDd,zLz,qlt hc]
  rw[this];simp[qhy];clear hq;obtain⟨q,qs,hq,hp'⟩:=qeW h10 r;rw[hp'] at hp;cases hp;rw[if_neg h10]
  cases com with
  |true=>
   obtain rfl:=hcom rfl;rw[if_pos rfl,qhY r [] true q ps (λx hx=>by cases hx) (λ_=>rfl) hq]
   simp[qhy]
  |false=>
   rw[if_neg zDd]
   by_cases h35:c=35
   subst h35;rw[if_pos rfl,qhY r [] true q ps (λx hx=>by cases hx) (λ_=>rfl) hq];have:qhy cur false (35::q)=qfh cur:=by unfold qhy;rw[if_neg zDd,qq4 hc]
   rw[this];simp[qhy,qfh];rw[if_neg h35]
   by_cases h32:c=32
   subst h32;rw[if_pos rfl,qhY r [] false q ps (λx hx=>by cases hx) (by simp) hq];have:qhy cur false (32::q)=qfh cur++qfG q:=by unfold qhy;rw[if_neg zDd,qkC hc]
   rw[this,zAs];simp[qhy]
   rw[if_neg h32,qhY r (cur++[c]) false q ps (λx hx=>by
    rcases List.mem_append.1 hx with h|h;exact hc x h;obtain rfl:=List.mem_singleton.1 h
    exact⟨h10,h32,h35⟩) (by simp) hq]
   simp[qhy]
theorem qpW(s:List UInt8):qiD [] false s=qbl s:=by
 obtain⟨p,ps,hp⟩:=qhj 10 s;rw[qhY s [] false p ps (λx hx=>by cases hx) (by simp) hp];unfold qbl;rw[hp];simp[qhy]
theorem qpz(used:Wd->Bool):∀ (f:Nat) (l:List Wd),l.length<=f->qcx used f l=l∨(qcx used f l).length<l.length
 |0,l,h=>by
  have:l=[]:=eq_nil_of_length_eq_zero (by omega);subst this
  exact .inl rfl
 |f+1,[],_=>.inl rfl
 |f+1,w::r,h=>by
  rw[qcx];split;rcases qpz used f r (by simp only[zLc] at h;omega) with h1|h1;rw[h1];exact .inl rfl;right;simp only[zLc];omega
  rename_i h0
  obtain⟨h1,h2⟩:=qfo used (w::r) h0;have:=qjF used f ((w::r).drop (qa3 used (w::r)).1);rw[length_drop] at this;right;rw[zLa];omega
theorem qlD(l:List Wd):qeb l=l∨(qeb l).length<l.length:=qpz _ _ l (zNr _)
def optF:Nat->List Wd->List Wd
 |0,l=>l
 |f+1,l=>if qeb l=l then l else optF f (qeb l)
def optP(l:List Wd):List Wd:=optF l.length l
theorem qmI:∀ (f g:Nat) (l:List Wd),l.length<=f->l.length<=g->optF f l=optF g l
 |0,0,_,_,_=>rfl
 |0,g+1,l,h,_=>by
  have:l=[]:=eq_nil_of_length_eq_zero (by omega);subst this
  rw[optF,optF,if_pos (by rfl)]
 |f+1,0,l,_,h=>by
  have:l=[]:=eq_nil_of_length_eq_zero (by omega);subst this
  rw[optF,optF,if_pos (by rfl)]
 |f+1,g+1,l,h1,h2=>by
  rw[optF,optF];split;rfl
  rename_i h
  rcases qlD l with h3|h3;exact absurd h3 h;exact qmI f g (qeb l) (by omega) (by omega)
theorem qvE{l:List Wd}(h:qeb l=l):optP l=l:=by
 unfold optP
 cases l with
 |nil=>rfl
 |cons w r=>rw[zLc,optF,if_pos h]
theorem qsL{l:List Wd}(h:qeb l≠l):optP l=optP (qeb l):=by
 rcases qlD l with h3|h3;exact absurd h3 h;have h4:∃ k,l.length=k+1:=⟨l.length-1,by omega⟩;obtain⟨k,hk⟩:=h4;unfold optP;rw[hk,optF,if_neg h];exact qmI _ _ _ (by omega) (zNr _)
theorem qlC{v:List Wd}{i:Nat}(h:i<v.length):wdAt v i∈v:=by
 unfold wdAt;rw[List.getElem?_eq_getElem h];exact List.getElem_mem h
theorem qhF{x op y s:Wd}(h:qa1 x op y=some s):∃ c,c<4294967296/\s=decDigits c:=by
 unfold qa1 at h;split at h
 rename_i a b ha hb
 split at h
 rename_i c hc
 split at h;cases h;exact⟨c,qki (qjf ha) (qjf hb) hc,rfl⟩;cases h;cases h;cases h
theorem quz{P:Wd->Prop}(hd:∀ n,n<4294967296->P (decDigits n))(used:Wd->Bool)(v:List Wd)(hv:∀ w∈v,P w):∀ w∈(qa3 used v).2,P w:=by
 have none:∀ n:Nat,∀ w∈((n,[]):qeU).2,P w:=λ_ w hw=>by cases hw
 by_cases h1:∃ s,qdu v=some s
 obtain⟨s,h1⟩:=h1;rw[qup h1];obtain⟨c,hc,rfl⟩:=qhF h1;intro w hw;rcases List.mem_singleton.1 hw with rfl;exact hd c hc
 have h1:qdu v=Option.none:=by
  cases h:qdu v with
  |none=>rfl
  |some s=>exact absurd ⟨s,h⟩ h1
 by_cases h2:qb0 v
 rw[qtH h1 h2];exact none _
 by_cases h3:qaZ v/\∃ s,qbr v=some s
 obtain⟨h3,s,h4⟩:=h3;rw[qud h1 h2 h3 h4];obtain⟨c,hc,rfl⟩:=qhF h4;have h5:=qb1 (qcR h4).2.1;intro w hw;simp only[zMi,not_mem_nil,or_false] at hw;rcases hw with rfl|rfl;exact hd c hc;exact hv _ (qlC h5)
 have h3:¬ qaZ v∨qbr v=Option.none:=by
  by_cases hc:qaZ v
  exact zT30;exact .inl hc
 by_cases h4:qhg v
 rw[quy h1 h2 h3 h4];exact none _
 by_cases h5:qc2 v
 rw[quY h1 h2 h3 h4 h5];obtain⟨l,hl⟩:=Option.isSome_iff_exists.1 h5.1;have h6:=qcD hl;intro w hw;simp only[zMi,not_mem_nil,or_false] at hw;rcases hw with rfl|rfl;exact hv _ (qlC (by omega));exact hv _ (qlC (by omega))
 cases h6:qef v with
 |true=>rw[qtZ h1 h2 h3 h4 h5 h6];exact none _
 |false=>
  cases h7:qic v with
  |true=>rw[qui h1 h2 h3 h4 h5 h6 h7];exact none _
  |false=>
   by_cases h8:qkw v
   rw[qt3 h1 h2 h3 h4 h5 h6 h7 h8];exact λw hw=>hv w (List.mem_of_mem_take hw);rw[qtz h1 h2 h3 h4 h5 h6 h7 h8];unfold qcw;split;split <;> exact none _;exact none _
theorem qfU{P:Wd->Prop}(hd:∀ n,n<4294967296->P (decDigits n))(used:Wd->Bool):∀ (f:Nat) (l:List Wd),(∀ w∈l,P w)->∀ w∈qcx used f l,P w
 |0,_,_=>λw hw=>by cases hw
 |f+1,[],_=>λw hw=>by cases hw
 |f+1,a::r,hl=>by
  rw[qcx];split;intro w hw;rcases zMi.1 hw with rfl|hw;exact hl _ zMs;exact qfU hd used f r (λx hx=>hl x (zMo _ hx)) w hw;intro w hw;rcases List.mem_append.1 hw with hw|hw;exact quz hd used (a::r) hl w hw;exact qfU hd used f _ (λx hx=>hl x (List.mem_of_mem_drop hx)) w hw
theorem qpb{P:Wd->Prop}(hd:∀ n,n<4294967296->P (decDigits n)):∀ (f:Nat) (l:List Wd),(∀ w∈l,P w)->∀ w∈optF f l,P w
 |0,l,h=>h
 |f+1,l,h=>by
  rw[optF];split;exact h;exact qpb hd f _ (qfU hd _ _ l h)
theorem qtN{P:Wd->Prop}(hd:∀ n,n<4294967296->P (decDigits n)){l:List Wd}(h:∀ w∈l,P w):∀ w∈optP l,P w:=qpb hd _ l h
def qbB(w:Wd):Prop:=w≠[]/\qeJ w
theorem qfn(n:Nat):qbB (decDigits n):=⟨qcb n,λc hc=>by
 have:=qeO n c hc
 refine⟨?_,?_,?_⟩ <;> (rintro rfl;exact absurd this zDd)⟩
theorem qim{c:UInt8}{l:List UInt8}:∀ p∈qaS c l,c ∉ p/\∀ x∈p,x∈l:=by
 induction l with
 |nil=>
  intro p hp;obtain rfl:=List.mem_singleton.1 hp
  exact⟨by simp,by simp⟩
 |cons d r ih=>
  intro p hp
  by_cases h:d=c
  subst h;rw[qeH] at hp;rcases zMi.1 hp with rfl|hp;exact⟨by simp,by simp⟩;exact⟨(ih p hp).1,λx hx=>zMo _ ((ih p hp).2 x hx)⟩;obtain⟨q,qs,h1,h2⟩:=qeW h r;rw[h2] at hp;rw[h1] at ih;rcases zMi.1 hp with rfl|hp;have:=ih q zMs;refine⟨λhm=>?_,λx hx=>?_⟩;rcases zMi.1 hm with e|hm;exact h e.symm;exact this.1 hm;rcases zMi.1 hx with rfl|hx;exact mem_cons_self ..;exact zMo _ (this.2 x hx);have:=ih p (zMo _ hp);exact⟨this.1,λx hx=>zMo _ (this.2 x hx)⟩
theorem qof{l:List UInt8}(h:(10:UInt8) ∉ l):∀ w∈qfG l,qbB w:=by
 intro w hw;obtain⟨h1,h2⟩:=List.mem_filter.1 hw;obtain⟨h3,h4⟩:=qim w h1;refine⟨of_decide_eq_true h2,λc hc=>⟨?_,?_,?_⟩⟩;rintro rfl;exact h ((takeWhile_prefix _).subset (h4 _ hc));rintro rfl;exact h3 hc;rintro rfl
 have:∀ (l:List UInt8),(35:UInt8) ∉ l.takeWhile λd=>decide (d≠35):=by
  intro l
  induction l with
  |nil=>simp
  |cons d r ih=>
   rw[List.takeWhile_cons];split
   rename_i hd
   intro hm;rcases zMi.1 hm with e|hm;rw[<-e] at hd;simp at hd;exact ih hm
   simp
 exact this _ (h4 _ hc)
theorem qij(s:List UInt8):∀ w∈qbl s,qbB w:=by
 intro w hw;obtain⟨p,hp,hw⟩:=List.mem_flatMap.1 hw;exact qof (qim p hp).1 w hw
theorem qj0(x y:Wd)(r:List Wd):join (x::y::r) [32]=x++32::join (y::r) [32]:=by simp[join]
theorem qnG:∀ (l:List Wd),(∀ w∈l,qbB w)->(10:UInt8) ∉ join l [32]
 |[],_=>by simp[join]
 |[a],h=>by
  rw[join_one]
  exact λhm=>((h a zMs).2 10 hm).1 rfl
 |a::b::r,h=>by
  rw[qj0];intro hm;rcases List.mem_append.1 hm with hm|hm;exact((h a zMs).2 10 hm).1 rfl;rcases zMi.1 hm with e|hm;exact absurd e zDd;exact qnG (b::r) (λx hx=>h x (zMo _ hx)) hm
theorem qm1:∀ (l:List Wd),(∀ w∈l,qbB w)->qfG (join l [32])=l
 |[],_=>rfl
 |[a],h=>by
  obtain⟨h1,h2⟩:=h a zMs;rw[join_one,qlt h2]
  simp[qfh,h1]
 |a::b::r,h=>by
  obtain⟨h1,h2⟩:=h a zMs;rw[qj0,qkC h2,qm1 (b::r) λx hx=>h x (zMo _ hx)];simp[qfh,h1]
theorem qf3{l:List Wd}(h:∀ w∈l,qbB w):qbl (join l [32])=l:=by
 unfold qbl;rw[qdW (qnG l h)];simp[qm1 l h]
theorem qtL{a b:List Wd}(ha:∀ w∈a,qbB w)(hb:∀ w∈b,qbB w)(h:join a [32]=join b [32]):a=b:=by
 rw[<-qf3 ha,<-qf3 hb,h]
theorem qqn{l:List Wd}(h:∀ w∈l,qbB w):∀ w∈qeb l,qbB w:=qfU (λn _=>qfn n) _ _ l h
theorem qs1{l:List Wd}(h:∀ w∈l,qbB w):∀ w∈optP l,qbB w:=qtN (λn _=>qfn n) h
def qcz(s:List UInt8):List UInt8×Int:=if 400000<s.length then ([],6) else (join (optP (qbl s)) [32],0)
def tot(l:List Wd):Nat:=(l.map λw=>w.length+1).sum
theorem qaN(w:Wd)(l:List Wd):tot (w::l)=w.length+1+tot l:=by simp[tot]
theorem qba:tot []=0:=rfl
theorem qbd(a b:List Wd):tot (a++b)=tot a+tot b:=by simp[tot]
theorem qm7(l:List Wd)(n:Nat):tot l=tot (l.take n)+tot (l.drop n):=by rw[<-qbd,take_append_drop]
theorem qgg:∀ l:List Wd,(join l [32]).length<=tot l
 |[]=>zero_le _
 |[a]=>by
  rw[join_one,qaN]
  omega
 |a::b::r=>by
  have:=qgg (b::r);rw[qj0,qaN];simp only[zLa,zLc];omega
theorem qeN{x op y s:Wd}(h:qa1 x op y=some s):s.length<=x.length+y.length+1:=by
 unfold qa1 at h;split at h;split at h;split at h
 rename_i hle
 cases h;exact hle;cases h;cases h;cases h
theorem qty(used:Wd->Bool)(v:List Wd):tot (qa3 used v).2<=tot (v.take (qa3 used v).1):=by
 by_cases h1:∃ s,qdu v=some s
 obtain⟨s,h1⟩:=h1;rw[qup h1];have hl:=qeN h1;have hlt:=qb1 (qcR h1).2.1
 match v,hlt,hl with
 |a::b::c::r,_,hl=>
  simp only[wdAt,List.getElem?_cons_zero,List.getElem?_cons_succ,getD_some] at hl;simp only[take_succ_cons,take_zero,qaN,qba];omega
 have h1:qdu v=Option.none:=by
  cases h:qdu v with
  |none=>rfl
  |some s=>exact absurd ⟨s,h⟩ h1
 by_cases h2:qb0 v
 rw[qtH h1 h2];exact zero_le _
 by_cases h3:qaZ v/\∃ s,qbr v=some s
 obtain⟨h3,s,h4⟩:=h3;rw[qud h1 h2 h3 h4];have hl:=qeN h4;have h5:wdAt v 3≠[]:=by rw[h3.2];exact(qcR h4).2.1
 have hlt:=qb1 h5
 match v,hlt,hl with
 |a::b::c::d::r,_,hl=>
  simp only[wdAt,List.getElem?_cons_zero,List.getElem?_cons_succ,getD_some] at hl ⊢;simp only[take_succ_cons,take_zero,qaN,qba];omega
 have h3:¬ qaZ v∨qbr v=Option.none:=by
  by_cases hc:qaZ v
  exact zT30;exact .inl hc
 by_cases h4:qhg v
 rw[quy h1 h2 h3 h4];exact zero_le _
 by_cases h5:qc2 v
 rw[quY h1 h2 h3 h4 h5];obtain⟨l,hl⟩:=Option.isSome_iff_exists.1 h5.1;have h6:=qcD hl
 match v,h6 with
 |a::b::c::d::e::f::r,_=>
  simp only[wdAt,List.getElem?_cons_zero,List.getElem?_cons_succ,getD_some];simp only[take_succ_cons,take_zero,qaN,qba];omega
 cases h6:qef v with
 |true=>rw[qtZ h1 h2 h3 h4 h5 h6];exact zero_le _
 |false=>
  cases h7:qic v with
  |true=>rw[qui h1 h2 h3 h4 h5 h6 h7];exact zero_le _
  |false=>
   by_cases h8:qkw v
   rw[qt3 h1 h2 h3 h4 h5 h6 h7 h8];simp only;have:=qm7 (v.take (qcr v+qb3 (v.drop (qcr v)))) (qcr v);rw[List.take_take,Nat.min_eq_left (by omega)] at this;omega;rw[qtz h1 h2 h3 h4 h5 h6 h7 h8];unfold qcw;split;split <;> exact zero_le _;exact zero_le _
theorem qg9(used:Wd->Bool):∀ (f:Nat) (l:List Wd),tot (qcx used f l)<=tot l
 |0,_=>zero_le _
 |f+1,[]=>zNr _
 |f+1,a::r=>by
  rw[qcx];split;rw[qaN,qaN];have:=qg9 used f r;omega;have h1:=qty used (a::r);have h2:=qg9 used f ((a::r).drop (qa3 used (a::r)).1);have h3:=qm7 (a::r) (qa3 used (a::r)).1;rw[qbd];omega
theorem qpO:∀ (f:Nat) (l:List Wd),tot (optF f l)<=tot l
 |0,l=>zNr _
 |f+1,l=>by
  rw[optF];split;exact zNr _;exact zNt (qpO f _) (qg9 _ _ l)
theorem qge:∀ (s cur:List UInt8) (com:Bool),tot (qiD cur com s)<=cur.length+s.length+1
 |[],cur,com=>by
  rw[qiD];unfold qfh;split;exact zero_le _
  simp[tot]
 |c::r,cur,com=>by
  have hf:tot (qfh cur)<=cur.length+1:=by
   unfold qfh;split;exact zero_le _;simp[tot]
  rw[qiD];simp only[zLc];split;have:=qge r [] false;rw[qbd];simp only[zLn] at this;omega;split;have:=qge r cur true;omega;split;have:=qge r [] true;rw[qbd];simp only[zLn] at this;omega;split;have:=qge r [] false;rw[qbd];simp only[zLn] at this;omega;have:=qge r (cur++[c]) false;rw[zLa,length_singleton] at this;omega
theorem qhe(s:List UInt8):tot (qbl s)<=s.length+1:=by
 rw[<-qpW];have:=qge s [] false;simpa using this
theorem qu2(s:List UInt8):(join (optP (qbl s)) [32]).length<=s.length+1:=
 zNt (qgg _) (zNt (qpO _ _) (qhe s))
theorem qoL(c:UInt8)(r:List UInt8):qkf (c::r)=(decide ((c::r).length<=40) && qaT c && (c::r).all qaM):=rfl
theorem quP{s:Wd}(h:qkf s=true):s≠[]:=by
 rintro rfl;cases h
def qky:Nat->List (List UInt8)->List (Wd×Nat)
 |_,[]=>[]
 |n,l::r=>(qfG l).map (λw=>(w,n+1))++qky (n+1) r
def qgl(s:List UInt8):List (Wd×Nat):=qky 0 (qaS 10 s)
theorem qmB:∀ (l:List (List UInt8)) (n:Nat),(qky n l).map (·.1)=l.flatMap qfG
 |[],_=>rfl
 |a::r,n=>by
  rw[qky,zMa,map_map,qmB r];simp[Function.comp_def]
theorem qdZ(s:List UInt8):(qgl s).map (·.1)=qbl s:=qmB _ 0
theorem qpS{l:List (List UInt8)}{i:Nat}(h:i<l.length)(n:Nat):qky n (l.drop i)=(qfG l[i]).map (λw=>(w,n+1))++qky (n+1) (l.drop (i+1)):=by
 rw[List.drop_eq_getElem_cons h,qky]
theorem qq6{l:List (List UInt8)}{i:Nat}(h:i<l.length):full (l.drop i)=if l[i]=[] then full (l.drop (i+1)) else l[i]::full (l.drop (i+1)):=by
 rw[List.drop_eq_getElem_cons h];unfold full;rw[List.filter_cons]
 by_cases hc:l[i]=[]
 simp[hc];simp[hc]
theorem qh5(c:UInt8):∀ s,(qaS c s).length<=s.length+1
 |[]=>by simp[qaS]
 |d::r=>by
  have:=qh5 c r
  by_cases h:d=c
  subst h;rw[qeH];simp only[zLc];omega;obtain⟨p,ps,h1,h2⟩:=qeW h r;rw[h2];rw[h1] at this;simp only[zLc] at this ⊢;omega
theorem qdd{c:UInt8}:∀ {s p:List UInt8},p∈qaS c s->p.length<=s.length
 |[],p,h=>by
  obtain rfl:=List.mem_singleton.1 h
  exact zNr _
 |d::r,p,h=>by
  by_cases hd:d=c
  subst hd;rw[qeH] at h;rcases zMi.1 h with rfl|h;exact zero_le _;have:=qdd h;simp only[zLc];omega;obtain⟨q,qs,h1,h2⟩:=qeW hd r;rw[h2] at h;rcases zMi.1 h with rfl|h;have:=qdd (c:=c) (s:=r) (p:=q) (by rw[h1];exact mem_cons_self ..);simp only[zLc];omega;have:=qdd (c:=c) (s:=r) (p:=p) (by rw[h1];exact zMo _ h);simp only[zLc];omega
theorem qif(s:List UInt8):(qbl s).length<=s.length+1:=by
 have h1:=qhe s
 have h2:(qbl s).length<=tot (qbl s):=by
  unfold tot;generalize qbl s=l
  induction l with
  |nil=>exact zNr _
  |cons a l ih=>
   simp only[zLc,zMc,List.sum_cons];omega
 omega
theorem qq0{l:List Wd}{w:Wd}(h:w∈l):w.length+1<=tot l:=by
 induction l with
 |nil=>cases h
 |cons a l ih=>
  rw[qaN];rcases zMi.1 h with rfl|h;omega;have:=ih h;omega
theorem qlV(l:List Wd):l.length<=tot l:=by
 induction l with
 |nil=>exact zero_le _
 |cons a l ih=>
  rw[qaN,zLc];omega
theorem qs2(l:List Wd):tot (qeb l)<=tot l:=qg9 _ _ _
def qdt:List UInt8:=[43,45,42,47,37,94,60,64,33,63,58,59,44,46,36,48,49,50,51,52,53,54,55,56,57]
def qjZ(w:Wd):Bool:=w.all λc=>qdt.contains c
def defs(l:List Wd):List Wd:=l.filterMap defW
def OkW(ds:List Wd)(w:Wd):Prop:=match defW w with
 |some _=>True
 |none=>match refW w with
  |some d=>d∈ds
  |none=>qjZ w=true
def qgD(l:List Wd):Prop:=(defs l).Nodup/\∀ w∈l,OkW (defs l) w
def qbY(w:Wd):Bool:=match w with
 |[]=>false
 |c::_=>qap c
def qbc(w:Wd):Bool:=match w.getLast? with
 |some c=>qap c
 |none=>false
def one(d:Bool):Nat:=if d=true then 1 else 0
def lenW:Bool->List Wd->Nat
 |_,[]=>0
 |d,w::r=>match defW w with
  |some _=>lenW d r
  |none=>match refW w with
   |some _=>one d+6+lenW true r
   |none=>one (d && qbY w)+w.length+lenW (qbc w) r
structure Sign(w:Wd):Prop where
 d:defW w=none
 r:refW w=none
 f:qbY w=false
 l:qbc w=false
 n:w.length=1
structure Num(w:Wd):Prop where
 d:defW w=none
 r:refW w=none
 f:qbY w=true
 l:qbc w=true
 n:1<=w.length
 c:qjZ w=true
theorem qkK{c:UInt8}(h:qap c=true):qdt.contains c=true:=by
 have:∀ n:Nat,n<256->qap (UInt8.ofNat n)=true->qdt.contains (UInt8.ofNat n)=true:=by decide +kernel
 have h1:=this c.toNat c.toNat_lt;rw[UInt8.ofNat_toNat] at h1;exact h1 h
theorem qjv(n:Nat):Num (decDigits n):=by
 have hd:=qeO n;have hne:=qcb n;generalize decDigits n=w at hd hne
 cases w with
 |nil=>exact absurd rfl hne
 |cons c r=>
  have hc:=hd c zMs;have hl:(c::r).getLast? = some ((c::r).getLast (by simp)):=List.getLast?_eq_some_getLast (by simp);have hlm:=hd _ (getLast_mem (l:=c::r) (by simp));refine⟨?_,?_,hc,?_,by simp,?_⟩;unfold defW;rw[hl,if_neg];intro h;rw[Option.some.inj h.1] at hlm;exact absurd hlm zDd;unfold refW;simp only;rw[if_neg];intro h;rw[h.1] at hc;exact absurd hc zDd;unfold qbc;rw[hl];exact hlm;unfold qjZ;rw[List.all_eq_true];exact λx hx=>qkK (hd x hx)
theorem qkc{w:Wd}{n:Nat}(h:numW w=some n):Num w:=by
 rw[<-((qcP w n).1 h).2];exact qjv n
theorem qc8{w:Wd}(h:w∈([[43],[45],[42],[94],[60],[47],[37],[64],[33],[63],[59],[36]]:List Wd)):Sign w:=by
 have:∀ w∈([[43],[45],[42],[94],[60],[47],[37],[64],[33],[63],[59],[36]]:List Wd),defW w=none/\refW w=none/\qbY w=false/\qbc w=false/\w.length=1:=by decide +kernel
 obtain⟨h1,h2,h3,h4,h5⟩:=this w h;exact⟨h1,h2,h3,h4,h5⟩
theorem qrh{a b c:Nat}{op:Wd}(h:qd1 a op b=some c):Sign op:=by
 apply qc8;unfold qd1 at h;simp only[zMi,not_mem_nil,or_false];split at h;exact .inl ‹_›;split at h;exact .inr (.inl ‹_›);split at h;exact .inr (.inr (.inl ‹_›));split at h;exact .inr (.inr (.inr (.inl ‹_›)));split at h;exact .inr (.inr (.inr (.inr (.inl ‹_›))));split at h;exact .inr (.inr (.inr (.inr (.inr (.inl ‹_›)))));split at h;exact .inr (.inr (.inr (.inr (.inr (.inr (.inl ‹_›))))));cases h
theorem qfZ{x op y s:Wd}(h:qa1 x op y=some s):Num x/\Sign op/\Num y/\Num s:=by
 obtain⟨c,_,rfl⟩:=qhF h;unfold qa1 at h;split at h
 rename_i a b ha hb
 split at h
 rename_i c' hc
 exact⟨qkc ha,qrh hc,qkc hb,qjv c⟩;cases h;cases h
theorem qbg{w d:Wd}(h:refW w=some d):defW w=none:=by
 unfold refW at h;split at h;cases h
 rename_i c r
 split at h
 rename_i hc
 obtain⟨rfl,hn⟩:=hc;unfold defW;rw[if_neg];rintro⟨_,h2⟩
 cases r with
 |nil=>cases hn
 |cons e r=>
  rw[List.dropLast_cons_of_ne_nil (by simp),qoL] at h2;have:qaT 38=false:=by decide
  rw[this] at h2;simp at h2
 cases h
theorem qhQ{v:List Wd}{i:Nat}{l:Wd}(h:qda v i=some l):refW (wdAt v i)=some l/\wdAt v (i+1)=[63]:=by
 unfold qda at h;split at h
 rename_i d hd
 split at h;cases h;exact⟨hd,‹_›⟩;cases h;cases h
theorem qt2{w l:Wd}(h:defW w=some l)(d:Bool)(r:List Wd):lenW d (w::r)=lenW d r:=by
 rw[lenW,h]
theorem qo4{w l:Wd}(h:refW w=some l)(d:Bool)(r:List Wd):lenW d (w::r)=one d+6+lenW true r:=by
 rw[lenW,qbg h,h]
theorem Sign.len{w:Wd}(h:Sign w)(d:Bool)(r:List Wd):lenW d (w::r)=1+lenW false r:=by
 rw[lenW,h.d,h.r,h.f,h.l,h.n,Bool.and_false];simp[one]
theorem Num.len{w:Wd}(h:Num w)(d:Bool)(r:List Wd):lenW d (w::r)=one d+w.length+lenW true r:=by
 rw[lenW,h.d,h.r,h.f,h.l,Bool.and_true]
theorem one_le(d:Bool):one d<=1:=by cases d <;> simp[one]
theorem qos:∀ r:List Wd,lenW true r<=lenW false r+1/\lenW false r<=lenW true r
 |[]=>⟨by simp[lenW],by simp[lenW]⟩
 |w::r=>by
  have ih:=qos r;have e1:one true=1:=rfl;have e0:one false=0:=rfl;have h1:=one_le (qbY w);rw[lenW,lenW]
  cases defW w with
  |some l=>exact ih
  |none=>
   cases refW w with
   |some l=>simp only;omega
   |none=>
    simp only[Bool.true_and,Bool.false_and,e0];omega
theorem qmm(d:Bool)(r:List Wd):lenW d r<=lenW false r+1/\lenW false r<=lenW d r:=by
 cases d with
 |true=>exact qos r
 |false=>exact⟨by omega,zNr _⟩
theorem qeB(r:List Wd):∀ (m:List Wd) (d:Bool),lenW false r<=lenW d (m++r)
 |[],d=>(qmm d r).2
 |w::m,d=>by
  rw[cons_append,lenW]
  cases defW w with
  |some l=>exact qeB r m d
  |none=>
   cases refW w with
   |some l=>have:=qeB r m true;simp only;omega
   |none=>have:=qeB r m (qbc w);simp only;omega
theorem qi8{w:Wd}(h:Num w∨Sign w)(m r:List Wd)(d:Bool):lenW d r<=lenW d (w::(m++r)):=by
 have h1:=(qmm d r).1;rcases h with h|h;have h2:=qeB r m true;have h3:=h.n;rw[h.len];omega;have h2:=qeB r m false;rw[h.len];omega
theorem qfJ{x y:List Wd}(h:∀ d,lenW d x<=lenW d y):∀ (m:List Wd) (d:Bool),lenW d (m++x)<=lenW d (m++y)
 |[],d=>h d
 |w::m,d=>by
  rw[cons_append,cons_append,lenW,lenW]
  cases defW w with
  |some l=>exact qfJ h m d
  |none=>
   cases refW w with
   |some l=>have:=qfJ h m true;simp only;omega
   |none=>have:=qfJ h m (qbc w);simp only;omega
theorem qcU(w:Wd)(l:List Wd):defs (w::l)=(match defW w with|some d=>[d]|none=>[])++defs l:=by
 unfold defs;rw[List.filterMap_cons]
 try cases defW w <;> rfl
theorem qaC{w:Wd}(h:defW w=none)(l:List Wd):defs (w::l)=defs l:=by rw[qcU,h];try rfl
theorem qgd(a b:List Wd):defs (a++b)=defs a++defs b:=List.filterMap_append
theorem qrT{p:Wd->Bool}:∀ {l:List Wd} {x:Wd},x∈l.takeWhile p->p x=true
 |[],x,h=>by cases h
 |a::l,x,h=>by
  rw[List.takeWhile_cons] at h;split at h;rcases zMi.1 h with rfl|h
  assumption
  exact qrT h;cases h
structure RuleFine(used:Wd->Bool)(v:List Wd)(r:qeU):Prop where
 len:∀ d rest,lenW d (r.2++rest)<=lenW d (v.take r.1++rest)
 put:defs r.2=[]
 took:∀ d∈defs (v.take r.1),used d=false
theorem num0:Num [48]:=qjv 0 |> λh=>by rwa [decDigits_one zDd] at h
theorem num1:Num [49]:=qjv 1 |> λh=>by rwa [decDigits_one zDd] at h
theorem qg0(used:Wd->Bool)(v:List Wd)(h:(qa3 used v).1≠0):RuleFine used v (qa3 used v):=by
 by_cases h1:∃ s,qdu v=some s
 ·obtain⟨s,h1⟩:=h1;rw[qup h1];have hl:=qeN h1;have hlt:=qb1 (qcR h1).2.1;obtain⟨k1,k2,k3,k4⟩:=qfZ h1
  match v,hlt,hl,k1,k2,k3 with
  |a::b::c::r,_,hl,k1,k2,k3=>
   simp only[wdAt,List.getElem?_cons_zero,List.getElem?_cons_succ,getD_some] at hl k1 k2 k3;refine⟨λd rest=>?_,by rw[qaC k4.d];try rfl,λd hd=>?_⟩;simp only[take_succ_cons,take_zero,cons_append,nil_append];rw[k4.len,k1.len,k3.len,k2.len];have:=(qos rest).1;have e1:one true=1:=rfl;omega;simp only[take_succ_cons,take_zero] at hd;rw[qaC k1.d,qaC k3.d,qaC k2.d] at hd;cases hd
 have h1:qdu v=Option.none:=by
  cases h:qdu v with
  |none=>rfl
  |some s=>exact absurd ⟨s,h⟩ h1
 by_cases h2:qb0 v
 rw[qtH h1 h2]
 have hop:Num (wdAt v 0)/\Sign (wdAt v 1):=by
  rcases h2 with⟨e,h|h|h⟩|⟨e,h|h⟩;exact⟨by rw[e];exact num0,by rw[h];exact qc8 zDd⟩;exact⟨by rw[e];exact num0,by rw[h];exact qc8 zDd⟩;exact⟨by rw[e];exact num0,by rw[h];exact qc8 zDd⟩;exact⟨by rw[e];exact num1,by rw[h];exact qc8 zDd⟩;exact⟨by rw[e];exact num1,by rw[h];exact qc8 zDd⟩
 have hlt:1<v.length:=qb1 (by intro h0;have:=hop.2.n;rw[h0] at this;cases this)
 match v,hlt,hop with
 |a::b::r,_,hop=>
  simp only[wdAt,List.getElem?_cons_zero,List.getElem?_cons_succ,getD_some] at hop;refine⟨λd rest=>qi8 (.inl hop.1) [b] rest d,rfl,λd hd=>?_⟩;simp only[take_succ_cons,take_zero] at hd;rw[qaC hop.1.d,qaC hop.2.d] at hd;cases hd
 by_cases h3:qaZ v/\∃ s,qbr v=some s
 ·obtain⟨h3,s,h4⟩:=h3;rw[qud h1 h2 h3 h4];have hl:=qeN h4;have h5:wdAt v 3≠[]:=by rw[h3.2];exact(qcR h4).2.1
  have hlt:=qb1 h5;have heq:=h3.2;obtain⟨k1,k2,k3,k4⟩:=qfZ h4
  match v,hlt,hl,k1,k2,k3,heq with
  |a::b::c::e::r,_,hl,k1,k2,k3,heq=>
   simp only[wdAt,List.getElem?_cons_zero,List.getElem?_cons_succ,getD_some] at hl k1 k2 k3 heq ⊢;subst heq;refine⟨λd rest=>?_,by rw[qaC k4.d,qaC k2.d];try rfl,λd hd=>?_⟩;simp only[take_succ_cons,take_zero,cons_append,nil_append];rw[k4.len,k1.len,k2.len,k2.len,k3.len,k2.len];omega;simp only[take_succ_cons,take_zero] at hd;rw[qaC k1.d,qaC k2.d,qaC k3.d,qaC k2.d] at hd;cases hd
 have h3:¬ qaZ v∨qbr v=Option.none:=by
  by_cases hc:qaZ v
  exact zT30;exact .inl hc
 by_cases h4:qhg v
 rw[quy h1 h2 h3 h4];obtain⟨g1,g2,g3,g4⟩:=h4;obtain⟨n,hn⟩:=Option.isSome_iff_exists.1 g1;have kn:=qkc hn;have hlt:=qb1 (v:=v) (i:=3) (by rw[g4];decide)
 match v,hlt,g2,g3,g4,kn with
 |a::b::c::e::r,_,g2,g3,g4,kn=>
  simp only[wdAt,List.getElem?_cons_zero,List.getElem?_cons_succ,getD_some] at g2 g3 g4 kn;subst g2 g3 g4;refine⟨λd rest=>qi8 (.inl kn) [[64],c,[33]] rest d,rfl,λd hd=>?_⟩;simp only[take_succ_cons,take_zero] at hd;rw[qaC kn.d,qaC (qc8 zDd).d,qaC kn.d,qaC (qc8 zDd).d] at hd;cases hd
 by_cases h5:qc2 v
 ·rw[quY h1 h2 h3 h4 h5];obtain⟨g0,g1,g2,g3,g4⟩:=h5;obtain⟨l,hl⟩:=Option.isSome_iff_exists.1 g0;have h6:=qcD hl;obtain⟨j1,j2⟩:=qhQ hl
  match v,h6,g1,g2,g3,g4,j1,j2 with
  |a::b::c::e::p::q::r,_,g1,g2,g3,g4,j1,j2=>
   simp only[wdAt,List.getElem?_cons_zero,List.getElem?_cons_succ,getD_some] at g1 g2 g3 g4 j1 j2 ⊢;subst g1 g2 g3 g4 j2;have s60:Sign [60]:=qc8 zDd;have s63:Sign [63]:=qc8 zDd;refine⟨λd rest=>?_,by rw[qaC (qbg j1),qaC s63.d];try rfl,λd hd=>?_⟩;simp only[take_succ_cons,take_zero,cons_append,nil_append];rw[num1.len,s60.len,num1.len,s60.len];have:=(qmm d (p::[63]::rest)).1;have e1:([49]:Wd).length=1:=rfl;omega;simp only[take_succ_cons,take_zero] at hd;rw[qaC num1.d,qaC s60.d,qaC num1.d,qaC s60.d,qaC (qbg j1),qaC s63.d] at hd;cases hd
 have three:∀ (x:Wd),Num x->wdAt v 0=x->(qda v 1).isSome=true->RuleFine used v (3,[]):=λx hx h0 hj=>by
  obtain⟨l,hl⟩:=Option.isSome_iff_exists.1 hj;have h6:=qcD hl;obtain⟨j1,j2⟩:=qhQ hl;clear h hj
  match v,h6,h0,j1,j2 with
  |a::p::q::r,_,h0,j1,j2=>
   simp only[wdAt,List.getElem?_cons_zero,List.getElem?_cons_succ,getD_some] at h0 j1 j2;subst h0 j2;refine⟨λd rest=>qi8 (.inl hx) [p,[63]] rest d,rfl,λd hd=>?_⟩;simp only[take_succ_cons,take_zero] at hd;rw[qaC hx.d,qaC (qbg j1),qaC (qc8 zDd).d] at hd;cases hd
 cases h6:qef v with
 |true=>
  rw[qtZ h1 h2 h3 h4 h5 h6];unfold qef at h6;split at h6
  rename_i n hn
  exact three _ (qkc hn) rfl (of_decide_eq_true h6).2
  cases h6
 |false=>
  cases h7:qic v with
  |true=>
   rw[qui h1 h2 h3 h4 h5 h6 h7];unfold qic at h7;split at h7
   ·rename_i l hl
    exact three _ num0 (of_decide_eq_true h7).1 (by rw[hl];try rfl)
   cases h7
  |false=>
   by_cases h8:qkw v
   ·rw[qt3 h1 h2 h3 h4 h5 h6 h7 h8]
    have hst:defs (v.take (qcr v))=[]/\∀ (d:Bool) (x y:List Wd),lenW false x<=lenW false y->lenW d (v.take (qcr v)++x)<=lenW d (v.take (qcr v)++y):=by
     have hp:=h8.1;revert hp;unfold qcr;split
     ·rename_i hj
      intro _;obtain⟨l,hl⟩:=Option.isSome_iff_exists.1 hj.1;have h6:=qcD hl;obtain⟨j1,j2⟩:=qhQ hl;have h0:=hj.2;clear hj h8 hl h h1 h2 h3 h4 h5 h7 three
      match v,h6,h0,j1,j2 with
      |a::p::q::r,_,h0,j1,j2=>
       simp only[wdAt,List.getElem?_cons_zero,List.getElem?_cons_succ,getD_some] at h0 j1 j2;subst h0 j2;have s63:Sign [63]:=qc8 zDd;refine⟨?_,λd x y hxy=>?_⟩
       ·simp only[take_succ_cons,take_zero];rw[qaC num0.d,qaC (qbg j1),qaC s63.d]
        try rfl
       simp only[take_succ_cons,take_zero,cons_append,nil_append];rw[num0.len,num0.len,qo4 j1,qo4 j1,s63.len,s63.len];omega
     split
     ·rename_i hs
      intro _
      have hsg:Sign (wdAt v 0):=by
       rcases hs with h|h <;> rw[h] <;> exact qc8 zDd
      have hlt:0<v.length:=qb1 (by intro h0;have:=hsg.n;rw[h0] at this;cases this);clear hs h8 h h1 h2 h3 h4 h5 h6 h7 three
      match v,hlt,hsg with
      |a::r,_,hsg=>
       simp only[wdAt,List.getElem?_cons_zero,getD_some] at hsg;refine⟨?_,λd x y hxy=>?_⟩
       ·simp only[take_succ_cons,take_zero];rw[qaC hsg.d]
        try rfl
       simp only[take_succ_cons,take_zero,cons_append,nil_append];rw[hsg.len,hsg.len];omega
     intro hp;omega
    have htk:v.take (qcr v+qb3 (v.drop (qcr v)))=v.take (qcr v)++(v.drop (qcr v)).takeWhile λw=>(defW w).isNone:=by
     rw[List.take_add];congr 1;unfold qb3;exact(List.prefix_iff_eq_take.1 (takeWhile_prefix _)).symm
    refine⟨λd rest=>?_,hst.1,λd hd=>?_⟩;simp only;rw[htk,zAs];exact hst.2 d _ _ (qeB rest _ false);simp only at hd;rw[htk,qgd,hst.1,nil_append] at hd;exfalso;obtain⟨w,hw,hwd⟩:=List.mem_filterMap.1 hd;have:=qrT hw;rw[hwd] at this;cases this
   rw[qtz h1 h2 h3 h4 h5 h6 h7 h8] at h ⊢
   have hU:qcw used v=match defW (wdAt v 0) with
    |some l=>if used l=true then (0,[]) else (1,[])
    |none=>(0,[]):=rfl
   cases hd:defW (wdAt v 0) with
   |none=>rw[hd] at hU;rw[hU] at h;exact absurd rfl h
   |some l=>
    rw[hd] at hU;simp only at hU
    by_cases hu:used l=true
    rw[if_pos hu] at hU;rw[hU] at h;exact absurd rfl h;rw[if_neg hu] at hU;rw[hU];have hlt:0<v.length:=qb1 (by intro h0;rw[h0] at hd;cases hd);clear hU h h1 h2 h3 h4 h5 h6 h7 h8 three
    match v,hlt,hd with
    |a::r,_,hd=>
     simp only[wdAt,List.getElem?_cons_zero,getD_some] at hd;refine⟨λd rest=>?_,rfl,λd hdd=>?_⟩;simp only[take_succ_cons,take_zero,cons_append,nil_append];rw[qt2 hd];exact zNr _;simp only[take_succ_cons,take_zero] at hdd;rw[qcU,hd] at hdd;have:d=l:=by simpa [defs] using hdd
     rw[this];exact Bool.eq_false_iff.2 hu
theorem qh0(used:Wd->Bool):∀ (f:Nat) (l:List Wd) (d:Bool),l.length<=f->lenW d (qcx used f l)<=lenW d l
 |0,l,d,h=>by
  have:l=[]:=eq_nil_of_length_eq_zero (by omega);subst this
  exact zNr _
 |f+1,[],d,_=>zNr _
 |f+1,w::r,d,h=>by
  rw[qcx];split;exact qfJ (x:=qcx used f r) (y:=r) (λd=>qh0 used f r d (by simp only[zLc] at h;omega)) [w] d
  rename_i h0
  have hR:=qg0 used (w::r) h0;have hk:=qfo used (w::r) h0;have ih:=λd=>qh0 used f ((w::r).drop (qa3 used (w::r)).1) d (by rw[length_drop];omega);have h1:=qfJ ih (qa3 used (w::r)).2 d;have h2:=hR.len d ((w::r).drop (qa3 used (w::r)).1);rw[take_append_drop] at h2;exact zNt h1 h2
theorem qhO(used:Wd->Bool):∀ (f:Nat) (l:List Wd),l.length<=f->(defs (qcx used f l)).Sublist (defs l)/\∀ d∈defs l,used d=true->d∈defs (qcx used f l)
 |0,l,h=>by
  have:l=[]:=eq_nil_of_length_eq_zero (by omega);subst this
  exact⟨List.Sublist.refl _,λd hd=>by cases hd⟩
 |f+1,[],_=>⟨List.Sublist.refl _,λd hd=>by cases hd⟩
 |f+1,w::r,h=>by
  rw[qcx];split;obtain⟨i1,i2⟩:=qhO used f r (by simp only[zLc] at h;omega);rw[qcU w r,qcU w (qcx used f r)];refine⟨List.Sublist.append (List.Sublist.refl _) i1,λd hd hu=>?_⟩;rcases List.mem_append.1 hd with hd|hd;exact List.mem_append_left _ hd;exact List.mem_append_right _ (i2 d hd hu)
  rename_i h0
  have hR:=qg0 used (w::r) h0;obtain⟨i1,i2⟩:=qhO used f ((w::r).drop (qa3 used (w::r)).1) (by have:=qfo used (w::r) h0;rw[length_drop];omega);have hs:defs (w::r)=defs ((w::r).take (qa3 used (w::r)).1)++defs ((w::r).drop (qa3 used (w::r)).1):=by rw[<-qgd,take_append_drop]
  rw[qgd,hR.put,nil_append];refine⟨i1.trans (by rw[hs];exact List.sublist_append_right _ _),λd hd hu=>?_⟩;rw[hs] at hd;rcases List.mem_append.1 hd with hd|hd;rw[hR.took d hd] at hu;cases hu;exact i2 d hd hu
theorem qpa{l:List Wd}(h:qgD l):qgD (qeb l):=by
 obtain⟨h1,h2⟩:=h;obtain⟨i1,i2⟩:=qhO (qaO l) l.length l (zNr _);refine⟨h1.sublist i1,λw hw=>?_⟩;have hm:=qfU (P:=λw=>w∈l∨∃ n,w=decDigits n) (λn _=>.inr ⟨n,rfl⟩) (qaO l) l.length l (λw hw=>.inl hw) w hw;rcases hm with hm|⟨n,rfl⟩;have hk:=h2 w hm;unfold OkW at hk ⊢
 cases hd:defW w with
 |some d=>trivial
 |none=>
  rw[hd] at hk;simp only at hk ⊢
  cases hr:refW w with
  |none=>rw[hr] at hk;exact hk
  |some d=>
   rw[hr] at hk;simp only at hk ⊢;refine i2 d hk ?_;unfold qaO;rw[List.any_eq_true];exact⟨w,hm,decide_eq_true hr⟩
 have hk:=qjv n;unfold OkW;rw[hk.d,hk.r];exact hk.c
theorem qoG:∀ (f:Nat) (l:List Wd),qgD l->qgD (optF f l)/\lenW false (optF f l)<=lenW false l
 |0,l,h=>⟨h,zNr _⟩
 |f+1,l,h=>by
  rw[optF];split;exact⟨h,zNr _⟩;obtain⟨i1,i2⟩:=qoG f _ (qpa h);exact⟨i1,zNt i2 (qh0 _ _ l false (zNr _))⟩
theorem qv0{l:List Wd}(h:qgD l):qgD (optP l)/\lenW false (optP l)<=lenW false l:=qoG _ _ h
def qea(n:Nat):Wd:=([48,48,48,48,48]++decDigits n).drop (([48,48,48,48,48]++decDigits n).length-6)
def qaG(known:Wd->Nat)(w:Wd):Wd:=match refW w with
 |some x=>qea (known x)
 |none=>w
def addT(known:Wd->Nat)(t w:Wd):Wd:=match defW w with
 |some _=>t
 |none=>t++(if qbc t && qbY (qaG known w) then [32] else [])++qaG known w
def qcZ(known:Wd->Nat)(l:List Wd):Wd:=l.foldl (addT known) []
def qby(known:Wd->Nat)(og:Nat)(s:Wd×List (Wd×Nat))(w:Wd):Wd×List (Wd×Nat):=match defW w with
 |some x=>(s.1,s.2++[(x,og+s.1.length)])
 |none=>(addT known s.1 w,s.2)
def qed(known:Wd->Nat)(og:Nat)(l:List Wd):List (Wd×Nat):=(l.foldl (qby known og) ([],[])).2
def qdI(labs:List (Wd×Nat))(x:Wd):Nat:=match labs.find? λp=>decide (p.1=x) with
 |some p=>p.2
 |none=>0
def errT(all:List Wd):List Wd->List (Wd×Nat)->Nat×Nat
 |_,[]=>(0,0)
 |met,(w,ln)::r=>match defW w with
  |some x=>if x∈met then (ln,8) else errT all (met++[x]) r
  |none=>match refW w with
   |some x=>if x∈all then errT all met r else (ln,7)
   |none=>if qjZ w=true then errT all met r else (ln,3)
def asmP(src:Wd)(og:Int):Except (Nat×Nat) (Wd×List (Wd×Nat)):=
 if og<0∨262144<=og then .error (0,2)
 else if (errT (defs (qbl src)) [] (qgl src)).2≠0 then .error (errT (defs (qbl src)) [] (qgl src))
 else if 40000<(qcZ (qdI (qed (λ_=>0) og.toNat (qbl src))) (qbl src)).length then .error (0,6)
 else .ok (qcZ (qdI (qed (λ_=>0) og.toNat (qbl src))) (qbl src),qed (λ_=>0) og.toNat (qbl src))
theorem qfX(n:Nat):(qea n).length=6/\∀ c∈qea n,qap c=true:=by
 have h1:1<=(decDigits n).length:=List.length_pos_iff.2 (qcb n);constructor;unfold qea;rw[length_drop,zLa];simp only[zLc,zLn];omega;intro c hc;have h2:=List.mem_of_mem_drop hc;rcases List.mem_append.1 h2 with h|h;simp only[zMi,not_mem_nil,or_false,or_self] at h;rw[h];decide;exact qeO n c h
theorem qok{known:Wd->Nat}{w:Wd}(known':Wd->Nat):qbY (qaG known w)=qbY (qaG known' w)/\qbc (qaG known w)=qbc (qaG known' w)/\(qaG known w).length=(qaG known' w).length:=by
 unfold qaG
 cases refW w with
 |none=>exact⟨rfl,rfl,rfl⟩
 |some x=>
  have key:∀ n,qbY (qea n)=true/\qbc (qea n)=true/\(qea n).length=6:=λn=>by
   obtain⟨h1,h2⟩:=qfX n;have hne:qea n≠[]:=λh=>by rw[h] at h1;cases h1
   refine⟨?_,?_,h1⟩
   cases h:qea n with
   |nil=>exact absurd h hne
   |cons c r=>exact h2 c (by rw[h];simp)
   unfold qbc;rw[List.getLast?_eq_some_getLast hne];exact h2 _ (getLast_mem hne)
  obtain⟨a1,a2,a3⟩:=key (known x);obtain⟨b1,b2,b3⟩:=key (known' x);exact⟨a1.trans b1.symm,a2.trans b2.symm,a3.trans b3.symm⟩
theorem qjP{a b:Wd}(h:b≠[]):qbc (a++b)=qbc b:=by
 unfold qbc;rw[List.getLast?_append,List.getLast?_eq_some_getLast h];try rfl
theorem qhw(known:Wd->Nat)(t w:Wd)(hd:defW w=none)(hw:w≠[]):qaG known w≠[]/\qbc (addT known t w)=qbc (qaG known w)/\(addT known t w).length=t.length+one (qbc t && qbY (qaG known w))+(qaG known w).length:=by
 have hp:qaG known w≠[]:=by
  unfold qaG
  cases refW w with
  |none=>exact hw
  |some x=>intro h;have:=(qfX (known x)).1;rw[show qea (known x)=[] from h] at this;cases this
 refine⟨hp,?_,?_⟩;unfold addT;rw[hd];exact qjP hp;unfold addT;rw[hd];simp only[zLa,one];split <;> rfl
theorem qjY(known:Wd->Nat):∀ (l:List Wd) (t:Wd),(∀ w∈l,w≠[])->(l.foldl (addT known) t).length=t.length+lenW (qbc t) l
 |[],t,_=>rfl
 |w::r,t,h=>by
  have hr:=λx hx=>h x (zMo w hx);rw[foldl_cons,qjY known r _ hr,lenW]
  cases hd:defW w with
  |some x=>
   have:addT known t w=t:=by unfold addT;rw[hd]
   rw[this]
  |none=>
   obtain⟨h1,h2,h3⟩:=qhw known t w hd (h w (by simp));rw[h2,h3]
   cases hr:refW w with
   |some x=>
    have hp:qaG known w=qea (known x):=by unfold qaG;rw[hr]
    obtain⟨a1,a2⟩:=qfX (known x)
    have hf:qbY (qea (known x))=true:=by
     cases h:qea (known x) with
     |nil=>rw[h] at a1;cases a1
     |cons c q=>exact a2 c (by rw[h];simp)
    have hl:qbc (qea (known x))=true:=by
     have hne:qea (known x)≠[]:=λh=>by rw[h] at a1;cases a1
     unfold qbc;rw[List.getLast?_eq_some_getLast hne];exact a2 _ (getLast_mem hne)
    rw[hp,hf,hl,a1,Bool.and_true];simp only
    omega
   |none=>
    have hp:qaG known w=w:=by unfold qaG;rw[hr]
    rw[hp];simp only;omega
theorem qjN(known:Wd->Nat)(l:List Wd)(h:∀ w∈l,w≠[]):(qcZ known l).length=lenW false l:=by
 have:=qjY known l [] h;rw[qcZ,this];simp[qbc]
theorem qhp(known:Wd->Nat)(og:Nat):∀ (l:List Wd) (s:Wd×List (Wd×Nat)),(l.foldl (qby known og) s).1=l.foldl (addT known) s.1
 |[],s=>rfl
 |w::r,s=>by
  rw[foldl_cons,foldl_cons,qhp known og r];congr 1;unfold qby
  cases hd:defW w with
  |some x=>simp only;unfold addT;rw[hd]
  |none=>rfl
theorem qlY(known known':Wd->Nat)(og:Nat):∀ (l:List Wd) (s s':Wd×List (Wd×Nat)),(∀ w∈l,w≠[])->s.1.length=s'.1.length->qbc s.1=qbc s'.1->s.2=s'.2->(l.foldl (qby known og) s).2=(l.foldl (qby known' og) s').2
 |[],s,s',_,_,_,h=>h
 |w::r,s,s',hw,h1,h2,h3=>by
  rw[foldl_cons,foldl_cons];have hr:=λx hx=>hw x (zMo w hx)
  cases hd:defW w with
  |some x=>
   have e1:qby known og s w=(s.1,s.2++[(x,og+s.1.length)]):=by unfold qby;rw[hd]
   have e2:qby known' og s' w=(s'.1,s'.2++[(x,og+s'.1.length)]):=by unfold qby;rw[hd]
   rw[e1,e2]
   exact qlY known known' og r _ _ hr h1 h2 (by simp only[h3,h1])
  |none=>
   have e1:qby known og s w=(addT known s.1 w,s.2):=by unfold qby;rw[hd]
   have e2:qby known' og s' w=(addT known' s'.1 w,s'.2):=by unfold qby;rw[hd]
   rw[e1,e2];obtain⟨a1,a2,a3⟩:=qhw known s.1 w hd (hw w (by simp));obtain⟨b1,b2,b3⟩:=qhw known' s'.1 w hd (hw w (by simp));obtain⟨c1,c2,c3⟩:=qok (known:=known) (w:=w) known';exact qlY known known' og r _ _ hr (by rw[a3,b3,c1,c3,h1,h2]) (by rw[a2,b2,c2]) h3
theorem qnk(known known':Wd->Nat)(og:Nat)(l:List Wd)(h:∀ w∈l,w≠[]):qed known og l=qed known' og l:=qlY known known' og l _ _ h rfl rfl rfl
theorem qgu(known:Wd->Nat)(og:Nat):∀ (l:List Wd) (s:Wd×List (Wd×Nat)),((l.foldl (qby known og) s).2).map (·.1)=s.2.map (·.1)++defs l
 |[],s=>by simp[defs]
 |w::r,s=>by
  rw[foldl_cons,qgu known og r];unfold qby defs
  cases hd:defW w with
  |some x=>simp[hd]
  |none=>simp[hd]
def qfI:List UInt8:=[97,98,99,100,101,102,103,104,105,106,107,108,109,110,111,112,113,114,115,116,117,118,119,120,121,122,48,49,50,51,52,53,54,55,56,57,95]
theorem ql3:∀ n:Nat,n<256->qfI.contains (UInt8.ofNat n)=qaM (UInt8.ofNat n):=by decide +kernel
theorem qrG(c:UInt8):qfI.contains c=qaM c:=by
 have h:=ql3 c.toNat c.toNat_lt
 rwa [UInt8.ofNat_toNat] at h
theorem qcc{p:UInt8->Bool}:∀ {l:List UInt8},l.dropWhile p=[] ↔ l.all p=true
 |[]=>by simp
 |c::l=>by
  rw[List.dropWhile_cons,all_cons]
  cases h:p c with
  |true=>simpa using qcc
  |false=>simp
theorem quj(s:List UInt8):(trimS s qfI=[]) ↔ s.all qaM=true:=by
 have he:(λc=>qfI.contains c)=qaM:=funext qrG;unfold trimS trimLeftS trimRightS;rw[he,qcc];constructor;intro h
 by_cases h2:s.reverse.dropWhile qaM=[]
 rw[qcc] at h2;rw[all_reverse] at h2;exact h2;exfalso;obtain⟨c,r,hcr⟩:=List.exists_cons_of_ne_nil h2
 have h3:qaM c=false:=by
  have:=List.head?_dropWhile_not qaM s.reverse;rw[hcr] at this;simpa using this
 rw[hcr,all_reverse,all_cons,h3] at h;cases h;intro h;have h2:s.reverse.dropWhile qaM=[]:=by rw[qcc,all_reverse];exact h
 rw[h2]
 try rfl
theorem qrK(r:List UInt8):hasPrefix (38::r) [38]=true/\trimPrefix (38::r) [38]=r:=by
 simp[trimPrefix,hasPrefix,List.isPrefixOf]
theorem quf{c:UInt8}(h:c≠38)(r:List UInt8):hasPrefix (c::r) [38]=false:=by
 have:¬ (38:UInt8)=c:=λe=>h e.symm;simp[hasPrefix,List.isPrefixOf,this]
theorem qvt(w:Wd):refW w=if hasPrefix w [38]=true/\qkf (trimPrefix w [38])=true then some (trimPrefix w [38]) else none:=by
 cases w with
 |nil=>rfl
 |cons c r=>
  by_cases h:c=38
  subst h;rw[(qrK r).1,(qrK r).2];simp[refW];rw[quf h];simp[refW,h]
theorem qle(w:Wd):hasSuffix w [58]=decide (w.getLast? = some 58):=by
 unfold hasSuffix;rw[Bool.eq_iff_iff,List.isSuffixOf_iff_suffix,decide_eq_true_iff];constructor;rintro⟨t,rfl⟩
 simp
 intro h;rw[List.getLast?_eq_some_iff] at h;obtain⟨t,rfl⟩:=h;exact⟨t,rfl⟩
theorem qvd(w:Wd):defW w=if hasSuffix w [58]=true/\qkf (trimSuffix w [58])=true then some (trimSuffix w [58]) else none:=by
 rw[qle];unfold defW
 by_cases h:w.getLast? = some 58
 ·have h2:trimSuffix w [58]=w.dropLast:=by
   unfold trimSuffix;rw[qle,decide_eq_true h,if_pos rfl,List.dropLast_eq_take]
   try rfl
  rw[h2];simp[h]
 simp[h]
structure MS where
 mem:Nat->Nat
 pc:Nat
 data:List Nat
 calls:List Nat
 inp:List Nat
 out:Wd
 digit:Bool
inductive MR where
 |run (s:MS)
 |stop (e:Nat) (out:Wd)
def MR.trap(s:MS):MR:=.stop 12 s.out
def qdD(v:Nat)(s:MS):MR:=if s.data.length<256 then .run { s with data:=v::s.data } else .trap s
def binM(c a b:Nat):Option Nat:=
 if c=43 then some ((a+b) % 4294967296)
 else if c=45 then some ((a+4294967296-b) % 4294967296)
 else if c=42 then some (a * b % 4294967296)
 else if c=47 then (if b=0 then none else some (a / b))
 else if c=37 then (if b=0 then none else some (a % b))
 else if c=94 then some (a ^^^ b)
 else some (if a<b then 1 else 0)
def qcf(c:Nat):Bool:=decide (48<=c) && decide (c<=57)
def qlZ(c:Nat)(s:MS):MR:=if s.digit=true then (match s.data with
 |d::r=>.run { s with data:=(d * 10+c-48) % 4294967296::r }
 |[]=>.trap s) else qdD (c-48) s
def ldM(s:MS):MR:=match s.data with
 |a::r=>if a<262144 then qdD (s.mem a) { s with data:=r } else .trap s
 |[]=>.trap s
def stoM(s:MS):MR:=match s.data with
 |a::v::r=>if a<262144 then .run { s with data:=r,mem:=λi=>if i=a then v else s.mem i } else .trap s
 |_=>.trap s
def jmpM(s:MS):MR:=match s.data with
 |t::v::r=>.run { s with data:=r,pc:=if v=0 then t else s.pc }
 |_=>.trap s
def qm3(s:MS):MR:=match s.data with
 |t::r=>if s.calls.length<64 then .run { s with data:=r,calls:=s.pc::s.calls,pc:=t } else .trap s
 |[]=>.trap s
def bakM(s:MS):MR:=match s.calls with
 |t::r=>.run { s with calls:=r,pc:=t }
 |[]=>.trap s
def rdM(s:MS):MR:=match s.inp with
 |v::r=>qdD v { s with inp:=r }
 |[]=>qdD 4294967295 s
def wrM(s:MS):MR:=match s.data with
 |v::r=>.run { s with data:=r,out:=s.out++[UInt8.ofNat v] }
 |[]=>.trap s
def opM(c:Nat)(s:MS):MR:=match s.data with
 |b::a::r=>(match binM c a b with
  |some v=>qdD v { s with data:=r }
  |none=>.trap s)
 |_=>.trap s
def exeM(c:Nat)(s:MS):MR:=
 if qcf c=true then qlZ c s
 else if c=32∨c=10 then .run s
 else if c=64 then ldM s
 else if c=33 then stoM s
 else if c=63 then jmpM s
 else if c=58 then qm3 s
 else if c=59 then bakM s
 else if c=44 then rdM s
 else if c=46 then wrM s
 else if c=36 then .stop 0 s.out
 else if c=43∨c=45∨c=42∨c=47∨c=37∨c=94∨c=60 then opM c s
 else .trap s
def stepM(s:MS):MR:=
 if s.pc<262144 then (match exeM (s.mem s.pc) { s with pc:=s.pc+1 } with
  |.run s'=>.run { s' with digit:=qcf (s.mem s.pc) }
  |.stop e o=>.stop e o)
 else .trap s
def runM:Nat->MS->Nat×Wd×Nat
 |0,s=>(13,s.out,0)
 |n+1,s=>match stepM s with
  |.run s'=>((runM n s').1,(runM n s').2.1,(runM n s').2.2+1)
  |.stop e o=>(e,o,1)
def qfl(code:Wd)(og:Nat):Nat->Nat:=λi=>if og<=i then (match code[i-og]? with
 |some c=>c.toNat
 |none=>0) else 0
def qgq(code:Wd)(og:Nat)(inp:List Nat):MS:=⟨qfl code og,og,[],[],inp,[],false⟩
inductive Stp:Nat->MS->MS->Prop
 |zero (s:MS):Stp 0 s s
 |step {k:Nat} {s s' s2:MS}:stepM s=.run s'->Stp k s' s2->Stp (k+1) s s2
theorem Stp.one{s s':MS}(h:stepM s=.run s'):Stp 1 s s':=.step h (.zero _)
theorem Stp.trans{a b:Nat}{s s' s2:MS}(h:Stp a s s')(k:Stp b s' s2):Stp (a+b) s s2:=by
 induction h with
 |zero s=>rw[zero_add];exact k
 |step h1 _ ih=>rw[Nat.add_right_comm];exact .step h1 (ih k)
theorem qwr{k:Nat}{s s':MS}(h:Stp k s s'):∀ n,runM (k+n) s=((runM n s').1,(runM n s').2.1,(runM n s').2.2+k):=by
 induction h with
 |zero s=>intro n;rw[zero_add];try rfl
 |step h1 _ ih=>
  intro n;rw[Nat.add_right_comm,runM,h1];simp only;rw[ih n];simp only[add_assoc]
def Stx(m:Nat)(s s':MS):Prop:=∃ k,k<=m/\Stp k s s'
theorem Stx.one{s s':MS}(h:stepM s=.run s'):Stx 1 s s':=⟨1,zNr _,.one h⟩
def qhs(mem:Nat->Nat)(p:Nat)(t:Wd):Prop:=∀ i (h:i<t.length),mem (p+i)=(t[i]).toNat
theorem qhs.app{mem:Nat->Nat}{p:Nat}{a b:Wd}(h:qhs mem p (a++b)):qhs mem p a/\qhs mem (p+a.length) b:=by
 constructor;intro i hi;have:=h i (by rw[zLa];omega);rw[List.getElem_append_left hi] at this;exact this;intro i hi;have:=h (a.length+i) (by rw[zLa];omega);rw[List.getElem_append_right (by omega)] at this;rw[add_assoc];simpa using this
theorem qhs.pre{mem:Nat->Nat}{p:Nat}{a t:Wd}(h:qhs mem p t)(hp:a <+: t):qhs mem p a:=by
 obtain⟨b,rfl⟩:=hp;exact h.app.1
theorem qv3(code:Wd)(og:Nat):qhs (qfl code og) og code:=λi hi=>by
 unfold qfl;rw[if_pos (le_add_right _ _),Nat.add_sub_cancel_left,List.getElem?_eq_getElem hi]
def valD(a:Nat)(l:Wd):Nat:=l.foldl (λa c=>10 * a+(c.toNat-48)) a
theorem qpG(a:Nat)(l m:Wd):valD a (l++m)=valD (valD a l) m:=List.foldl_append ..
theorem qlU{c:UInt8}:qap c=true ↔ 48<=c.toNat/\c.toNat<=57:=by
 have h:∀ n:Nat,n<256->(qap (UInt8.ofNat n)=true ↔ 48<=n/\n<=57):=by decide +kernel
 have:=h c.toNat c.toNat_lt
 rwa [UInt8.ofNat_toNat] at this
theorem qmf(u:Nat):valD 0 (decDigits u)=u:=by
 rw[decDigits];split
 rename_i h
 unfold valD;simp only[foldl_cons,List.foldl_nil]
 have:(UInt8.ofNat (48+u)).toNat=48+u:=by
  rw[UInt8.toNat_ofNat'];omega
 rw[this];omega
 rename_i h
 have ih:=qmf (u / 10);rw[qpG,ih];unfold valD;simp only[foldl_cons,List.foldl_nil]
 have:(UInt8.ofNat (48+u % 10)).toNat=48+u % 10:=by
  rw[UInt8.toNat_ofNat'];omega
 rw[this];omega
termination_by u
theorem qk4:∀ k:Nat,valD 0 (List.replicate k 48)=0
 |0=>rfl
 |k+1=>by
  have:=qk4 k;rw[List.replicate_succ];exact this
theorem qiV:∀ (k n:Nat),n<10 ^ (k+1)->(decDigits n).length<=k+1
 |0,n,h=>by rw[decDigits,dif_pos (by simpa using h)];simp
 |k+1,n,h=>by
  rw[decDigits];split
  simp
  have:=qiV k (n / 10) (by rw[Nat.pow_succ] at h;omega);rw[zLa,length_singleton];omega
theorem qnC{n:Nat}(h:n<1000000):valD 0 (qea n)=n:=by
 have h1:=qiV 5 n h;have h2:1<=(decDigits n).length:=List.length_pos_iff.2 (qcb n)
 have h3:qea n=List.replicate (6-(decDigits n).length) 48++decDigits n:=by
  unfold qea;rw[zLa,List.drop_append_of_le_length (by simp only[zLc,zLn];omega)];congr 1
  have:∀ k:Nat,k<=6->1<=k->([48,48,48,48,48]:Wd).drop (([48,48,48,48,48]:Wd).length+k-6)=List.replicate (6-k) 48:=by
   intro k hk h1;have:k=1∨k=2∨k=3∨k=4∨k=5∨k=6:=by omega
   rcases this with rfl|rfl|rfl|rfl|rfl|rfl <;> rfl
  exact this _ h1 h2
 rw[h3,qpG,qk4,qmf]
theorem qtR(l:Wd):∀ a:Nat,(∀ c∈l,qap c=true)->l.foldl (λa c=>(a * 10+c.toNat-48) % 4294967296) (a % 4294967296)=valD a l % 4294967296:=by
 induction l with
 |nil=>intro a _;rfl
 |cons c l ih=>
  intro a h;have hc:=qlU.1 (h c (by simp));have h1:=ih (a * 10+c.toNat-48) λx hx=>h x (zMo _ hx)
  have h2:valD a (c::l)=valD (a * 10+c.toNat-48) l:=by
   unfold valD;rw[foldl_cons];congr 1;omega
  rw[h2,<-h1,foldl_cons];congr 1;omega
theorem qmE:∀ (l:Wd) (s:MS) (d:Nat) (r:List Nat),(∀ c∈l,qap c=true)->s.digit=true->s.data=d::r->qhs s.mem s.pc l->s.pc+l.length<=262144 ->
  Stp l.length s { s with pc:=s.pc+l.length,data:=l.foldl (λa c=>(a * 10+c.toNat-48) % 4294967296) d::r }
 |[],s,d,r,_,_,hd,_,_=>by
  have:({ s with pc:=s.pc+([]:Wd).length,data:=([]:Wd).foldl (λa c=>(a * 10+c.toNat-48) % 4294967296) d::r }:MS)=s:=by
   cases s;simp only at hd;subst hd;rfl
  rw[this];exact .zero s
 |c::l,s,d,r,h,hg,hd,hm,hp=>by
  have hc:=h c (by simp);have hcn:=qlU.1 hc;have hm0:=hm 0 (by simp);simp only[add_zero,List.getElem_cons_zero] at hm0;have hdn:qcf c.toNat=true:=by unfold qcf;simp[hcn.1,hcn.2]
  rw[zLc] at hp
  have hst:stepM s=.run { s with pc:=s.pc+1,data:=(d * 10+c.toNat-48) % 4294967296::r }:=by
   unfold stepM;rw[if_pos (by omega),hm0];unfold exeM qlZ;rw[if_pos hdn];simp only[hg,if_true,hd,hdn]
  have hm1:qhs s.mem (s.pc+1) l:=λi hi=>by
   have:=hm (i+1) (by rw[zLc];omega);rw[show s.pc+1+i=s.pc+(i+1) by omega];simpa using this
  have ih:=qmE l { s with pc:=s.pc+1,data:=(d * 10+c.toNat-48) % 4294967296::r } _ r (λx hx=>h x (zMo _ hx)) hg rfl hm1 (by simp only;omega)
  have e:({ s with pc:=s.pc+(c::l).length,data:=(c::l).foldl (λa c=>(a * 10+c.toNat-48) % 4294967296) d::r }:MS)={ s with pc:=s.pc+1+l.length,data:=l.foldl (λa c=>(a * 10+c.toNat-48) % 4294967296) ((d * 10+c.toNat-48) % 4294967296)::r }:=by
   rw[zLc,foldl_cons,add_assoc,Nat.add_comm 1]
  rw[e];exact .step hst ih
theorem qpD{l:Wd}{s:MS}(hne:l≠[])(h:∀ c∈l,qap c=true)(hg:s.digit=false)(hroom:s.data.length<256)(hm:qhs s.mem s.pc l)(hp:s.pc+l.length<=262144)(hv:valD 0 l<4294967296) :
  Stp l.length s { s with pc:=s.pc+l.length,data:=valD 0 l::s.data,digit:=true }:=by
 cases l with
 |nil=>exact absurd rfl hne
 |cons c l=>
  have hc:=h c (by simp);have hcn:=qlU.1 hc;have hm0:=hm 0 (by simp);simp only[add_zero,List.getElem_cons_zero] at hm0;have hdn:qcf c.toNat=true:=by unfold qcf;simp[hcn.1,hcn.2]
  rw[zLc] at hp
  have hst:stepM s=.run { s with pc:=s.pc+1,data:=(c.toNat-48)::s.data,digit:=true }:=by
   unfold stepM;rw[if_pos (by omega),hm0];unfold exeM qlZ qdD;rw[if_pos hdn];simp[hg,hroom,hdn]
  have hm1:qhs s.mem (s.pc+1) l:=λi hi=>by
   have:=hm (i+1) (by rw[zLc];omega);rw[show s.pc+1+i=s.pc+(i+1) by omega];simpa using this
  have hl:=λx hx=>h x (zMo c hx);have ih:=qmE l { s with pc:=s.pc+1,data:=(c.toNat-48)::s.data,digit:=true } _ s.data hl rfl rfl hm1 (by simp only;omega);have h3:=qtR l (c.toNat-48) hl;have h4:valD 0 (c::l)=valD (c.toNat-48) l:=by unfold valD;rw[foldl_cons];congr 1;omega
  rw[Nat.mod_eq_of_lt (show c.toNat-48<4294967296 by omega),<-h4,Nat.mod_eq_of_lt hv] at h3;rw[h3] at ih
  have e:({ s with pc:=s.pc+(c::l).length,data:=valD 0 (c::l)::s.data,digit:=true }:MS)={ s with pc:=s.pc+1+l.length,data:=valD 0 (c::l)::s.data,digit:=true }:=by
   rw[zLc,add_assoc,Nat.add_comm 1]
  rw[e];exact .step hst ih
structure PW where
 W:List Wd
 og:Nat
 known:Wd->Nat
def PW.pre(C:PW)(i:Nat):Wd:=qcZ C.known (C.W.take i)
def PW.plc(C:PW)(i:Nat):Nat:=C.og+(C.pre i).length
def PW.At(C:PW)(s:MS)(i:Nat):Prop:=s.pc=C.plc i/\(s.digit=true->qbc (C.pre i)=true)
structure PW.Ok(C:PW)(mem:Nat->Nat):Prop where
 here:qhs mem C.og (qcZ C.known C.W)
 fits:C.og+(qcZ C.known C.W).length<=262144
theorem qu1(known:Wd->Nat)(t w:Wd):t <+: addT known t w:=by
 unfold addT;split;exact zPf _;rw[zAs];exact List.prefix_append _ _
theorem qnE(known:Wd->Nat):∀ (l:List Wd) (t:Wd),t <+: l.foldl (addT known) t
 |[],t=>zPf _
 |w::l,t=>List.IsPrefix.trans (qu1 known t w) (qnE known l _)
theorem PW.pre_all(C:PW)(i:Nat):C.pre i <+: qcZ C.known C.W:=by
 have h:qcZ C.known C.W=(C.W.drop i).foldl (addT C.known) (C.pre i):=by
  unfold PW.pre qcZ;rw[<-List.foldl_append,take_append_drop]
 rw[h];exact qnE _ _ _
theorem PW.pre_succ(C:PW){i:Nat}{w:Wd}(h:C.W[i]? = some w):C.pre (i+1)=addT C.known (C.pre i) w:=by
 obtain⟨hi,rfl⟩:=List.getElem?_eq_some_iff.1 h;unfold PW.pre qcZ;rw[List.take_succ_eq_append_getElem hi,List.foldl_append]
 try rfl
theorem PW.pre_le(C:PW)(i:Nat):C.plc i<=C.og+(qcZ C.known C.W).length:=by
 have:=(C.pre_all i).length_le;unfold PW.plc;omega
theorem PW.piece{C:PW}{mem:Nat->Nat}{i:Nat}{w:Wd}(hk:C.Ok mem)(hw:C.W[i]? = some w)(hd:defW w=none) :
  C.pre (i+1)=C.pre i++(if qbc (C.pre i) && qbY (qaG C.known w) then [32] else [])++qaG C.known w /\
  qhs mem (C.plc i) ((if qbc (C.pre i) && qbY (qaG C.known w) then [32] else [])++qaG C.known w)/\C.plc (i+1)<=262144:=by
 have h1:=C.pre_succ hw;have h2:addT C.known (C.pre i) w=C.pre i++(if qbc (C.pre i) && qbY (qaG C.known w) then [32] else [])++qaG C.known w:=by unfold addT;rw[hd]
 rw[h2] at h1;refine⟨h1,?_,zNt (C.pre_le _) hk.fits⟩;have h3:=hk.here.pre (C.pre_all (i+1));rw[h1,zAs] at h3;exact h3.app.2
theorem PW.sign{C:PW}{s:MS}{i:Nat}{c:UInt8}(hk:C.Ok s.mem)(h:C.At s i)(hw:C.W[i]? = some [c])(hd:defW [c]=none)(hr:refW [c]=none)(hc:qap c=false) :
  stepM s=(match exeM c.toNat { s with pc:=C.plc (i+1) } with
   |.run s'=>.run { s' with digit:=false }
   |.stop e o=>.stop e o)/\qbc (C.pre (i+1))=false:=by
 obtain⟨h1,h2,h3⟩:=C.piece hk hw hd;have hp:qaG C.known [c]=[c]:=by unfold qaG;rw[hr]
 have hf:qbY [c]=false:=hc;rw[hp,hf,Bool.and_false,if_neg zDd] at h1 h2;rw[zLz] at h1;rw[nil_append] at h2;have m0:=h2 0 (by simp);simp only[add_zero,List.getElem_cons_zero] at m0
 have hplc:C.plc (i+1)=C.plc i+1:=by
  unfold PW.plc;rw[h1,zLa]
  try rfl
 have hn:qcf c.toNat=false:=by
  cases hx:qcf c.toNat with
  |false=>rfl
  |true=>
   unfold qcf at hx;simp only[zBa,zDe] at hx;rw[qlU.2 hx] at hc;cases hc
 constructor
 ·unfold stepM;rw[if_pos (by rw[h.1];omega),h.1,m0,<-hplc,hn]
  try cases exeM c.toNat { s with pc:=C.plc (i+1) } <;> rfl
 rw[h1];unfold qbc;simp[hc]
def PW.Code(C:PW)(i:Nat)(ws:List Wd):Prop:=∀ k (h:k<ws.length),C.W[i+k]? = some ws[k]
theorem PW.Code.app{C:PW}{i:Nat}{a b:List Wd}(h:C.Code i (a++b)):C.Code i a/\C.Code (i+a.length) b:=by
 constructor;intro k hk;have:=h k (by rw[zLa];omega)
 rwa [List.getElem_append_left hk] at this
 intro k hk;have:=h (a.length+k) (by rw[zLa];omega);rw[List.getElem_append_right (by omega)] at this;rw[add_assoc];simpa using this
theorem PW.Code.cons{C:PW}{i:Nat}{w:Wd}{b:List Wd}(h:C.Code i (w::b)):C.W[i]? = some w/\C.Code (i+1) b:=by
 have h1:=PW.Code.app (a:=[w]) (b:=b) h;have h2:=h1.1 0 (by simp);exact⟨by simpa using h2,h1.2⟩
def PW.put(C:PW)(s:MS)(i:Nat)(d:List Nat):MS:={ s with pc:=C.plc i,data:=d,digit:=false }
theorem qbs{c:UInt8}(h:c∈([43,45,42,47,37,94,60,64,33,63,58,59,44,46,36]:Wd)):defW [c]=none/\refW [c]=none/\qap c=false:=by
 have:∀ c∈([43,45,42,47,37,94,60,64,33,63,58,59,44,46,36]:Wd),defW [c]=none/\refW [c]=none/\qap c=false:=by decide +kernel
 exact this c h
section
variable{C:PW}{s:MS}{i:Nat}
theorem PW.load(hk:C.Ok s.mem)(h:C.At s i)(hw:C.W[i]? = some [64]){a:Nat}{r:List Nat}(hd:s.data=a::r)(ha:a<262144)(hroom:r.length<256):Stx 1 s (C.put s (i+1) (s.mem a::r)):=by
 obtain⟨e1,e2,e3⟩:=qbs (c:=64) zDd;obtain⟨h1,_⟩:=C.sign hk h hw e1 e2 e3;refine Stx.one (h1.trans ?_)
 have:exeM (64:UInt8).toNat { s with pc:=C.plc (i+1) }=.run { s with pc:=C.plc (i+1),data:=s.mem a::r }:=by
  unfold exeM;rw[if_neg zDd,if_neg zDd,if_pos zDd];unfold ldM qdD;simp[hd,ha,hroom]
 rw[this]
 try rfl
theorem PW.store(hk:C.Ok s.mem)(h:C.At s i)(hw:C.W[i]? = some [33]){a v:Nat}{r:List Nat}(hd:s.data=a::v::r)(ha:a<262144):Stx 1 s { C.put s (i+1) r with mem:=λi=>if i=a then v else s.mem i }:=by
 obtain⟨e1,e2,e3⟩:=qbs (c:=33) zDd;obtain⟨h1,_⟩:=C.sign hk h hw e1 e2 e3;refine Stx.one (h1.trans ?_)
 have:exeM (33:UInt8).toNat { s with pc:=C.plc (i+1) }=.run { s with pc:=C.plc (i+1),data:=r,mem:=λi=>if i=a then v else s.mem i }:=by
  unfold exeM;rw[if_neg zDd,if_neg zDd,if_neg zDd,if_pos zDd];unfold stoM;simp[hd,ha]
 rw[this]
 try rfl
theorem PW.jump(hk:C.Ok s.mem)(h:C.At s i)(hw:C.W[i]? = some [63]){t v:Nat}{r:List Nat}(hd:s.data=t::v::r):Stx 1 s { C.put s (i+1) r with pc:=if v=0 then t else C.plc (i+1) }:=by
 obtain⟨e1,e2,e3⟩:=qbs (c:=63) zDd;obtain⟨h1,_⟩:=C.sign hk h hw e1 e2 e3;refine Stx.one (h1.trans ?_)
 have:exeM (63:UInt8).toNat { s with pc:=C.plc (i+1) }=.run { s with pc:=if v=0 then t else C.plc (i+1),data:=r }:=by
  unfold exeM;rw[if_neg zDd,if_neg zDd,if_neg zDd,if_neg zDd,if_pos zDd];unfold jmpM;simp[hd]
 rw[this]
 try rfl
theorem PW.call(hk:C.Ok s.mem)(h:C.At s i)(hw:C.W[i]? = some [58]){t:Nat}{r:List Nat}(hd:s.data=t::r)(hc:s.calls.length<64):Stx 1 s { C.put s (i+1) r with pc:=t,calls:=C.plc (i+1)::s.calls }:=by
 obtain⟨e1,e2,e3⟩:=qbs (c:=58) zDd;obtain⟨h1,_⟩:=C.sign hk h hw e1 e2 e3;refine Stx.one (h1.trans ?_)
 have:exeM (58:UInt8).toNat { s with pc:=C.plc (i+1) }=.run { s with pc:=t,data:=r,calls:=C.plc (i+1)::s.calls }:=by
  unfold exeM;rw[if_neg zDd,if_neg zDd,if_neg zDd,if_neg zDd,if_neg zDd,if_pos zDd];unfold qm3;simp[hd,hc]
 rw[this]
 try rfl
theorem PW.back(hk:C.Ok s.mem)(h:C.At s i)(hw:C.W[i]? = some [59]){t:Nat}{r:List Nat}(hd:s.calls=t::r):Stx 1 s { s with pc:=t,calls:=r,digit:=false }:=by
 obtain⟨e1,e2,e3⟩:=qbs (c:=59) zDd;obtain⟨h1,_⟩:=C.sign hk h hw e1 e2 e3;refine Stx.one (h1.trans ?_)
 have:exeM (59:UInt8).toNat { s with pc:=C.plc (i+1) }=.run { s with pc:=t,calls:=r }:=by
  unfold exeM;rw[if_neg zDd,if_neg zDd,if_neg zDd,if_neg zDd,if_neg zDd,if_neg zDd,if_pos zDd];unfold bakM;simp[hd]
 rw[this]
theorem PW.read(hk:C.Ok s.mem)(h:C.At s i)(hw:C.W[i]? = some [44])(hroom:s.data.length<256):Stx 1 s { C.put s (i+1) ((s.inp.headD 4294967295)::s.data) with inp:=s.inp.tail }:=by
 obtain⟨e1,e2,e3⟩:=qbs (c:=44) zDd;obtain⟨h1,_⟩:=C.sign hk h hw e1 e2 e3;refine Stx.one (h1.trans ?_)
 have:exeM (44:UInt8).toNat { s with pc:=C.plc (i+1) }=.run { s with pc:=C.plc (i+1),data:=(s.inp.headD 4294967295)::s.data,inp:=s.inp.tail }:=by
  unfold exeM;rw[if_neg zDd,if_neg zDd,if_neg zDd,if_neg zDd,if_neg zDd,if_neg zDd,if_neg zDd,if_pos zDd];unfold rdM qdD
  cases hi:s.inp with
  |nil=>simp[hi,hroom]
  |cons v r=>simp[hi,hroom]
 rw[this]
 try rfl
theorem PW.write(hk:C.Ok s.mem)(h:C.At s i)(hw:C.W[i]? = some [46]){v:Nat}{r:List Nat}(hd:s.data=v::r):Stx 1 s { C.put s (i+1) r with out:=s.out++[UInt8.ofNat v] }:=by
 obtain⟨e1,e2,e3⟩:=qbs (c:=46) zDd;obtain⟨h1,_⟩:=C.sign hk h hw e1 e2 e3;refine Stx.one (h1.trans ?_)
 have:exeM (46:UInt8).toNat { s with pc:=C.plc (i+1) }=.run { s with pc:=C.plc (i+1),data:=r,out:=s.out++[UInt8.ofNat v] }:=by
  unfold exeM;rw[if_neg zDd,if_neg zDd,if_neg zDd,if_neg zDd,if_neg zDd,if_neg zDd,if_neg zDd,if_neg zDd,if_pos zDd];unfold wrM;simp[hd]
 rw[this]
 try rfl
theorem PW.halt(hk:C.Ok s.mem)(h:C.At s i)(hw:C.W[i]? = some [36]):stepM s=.stop 0 s.out:=by
 obtain⟨e1,e2,e3⟩:=qbs (c:=36) zDd;obtain⟨h1,_⟩:=C.sign hk h hw e1 e2 e3;rw[h1]
 have:exeM (36:UInt8).toNat { s with pc:=C.plc (i+1) }=.stop 0 s.out:=by
  unfold exeM;rw[if_neg zDd,if_neg zDd,if_neg zDd,if_neg zDd,if_neg zDd,if_neg zDd,if_neg zDd,if_neg zDd,if_neg zDd,if_pos zDd]
 rw[this]
def isOp(c:UInt8):Prop:=c=43∨c=45∨c=42∨c=47∨c=37∨c=94∨c=60
theorem qu8{c:UInt8}(hc:isOp c)(s:MS):exeM c.toNat s=opM c.toNat s:=by
 have h:qcf c.toNat=false/\¬ (c.toNat=32∨c.toNat=10)/\c.toNat≠64/\c.toNat≠33/\c.toNat≠63/\c.toNat≠58/\c.toNat≠59/\c.toNat≠44/\c.toNat≠46/\c.toNat≠36/\(c.toNat=43∨c.toNat=45∨c.toNat=42∨c.toNat=47∨c.toNat=37∨c.toNat=94∨c.toNat=60):=by
  rcases hc with rfl|rfl|rfl|rfl|rfl|rfl|rfl <;> decide
 obtain⟨a1,a2,a3,a4,a5,a6,a7,a8,a9,a10,a11⟩:=h;unfold exeM;rw[if_neg (by rw[a1];decide),if_neg a2,if_neg a3,if_neg a4,if_neg a5,if_neg a6,if_neg a7,if_neg a8,if_neg a9,if_neg a10,if_pos a11]
theorem qpF{c:UInt8}(hc:isOp c):defW [c]=none/\refW [c]=none/\qap c=false:=
 qbs (by unfold isOp at hc;rcases hc with rfl|rfl|rfl|rfl|rfl|rfl|rfl <;> decide)
theorem PW.op(hk:C.Ok s.mem)(h:C.At s i){c:UInt8}(hc:isOp c)(hw:C.W[i]? = some [c]){a b v:Nat}{r:List Nat}(hd:s.data=b::a::r)(hv:binM c.toNat a b=some v)(hroom:r.length<256):Stx 1 s (C.put s (i+1) (v::r)):=by
 obtain⟨e1,e2,e3⟩:=qpF hc;obtain⟨h1,_⟩:=C.sign hk h hw e1 e2 e3;refine Stx.one (h1.trans ?_)
 have:exeM c.toNat { s with pc:=C.plc (i+1) }=.run { s with pc:=C.plc (i+1),data:=v::r }:=by
  rw[qu8 hc];unfold opM qdD;simp[hd,hv,hroom]
 rw[this]
 try rfl
theorem PW.opTrap(hk:C.Ok s.mem)(h:C.At s i){c:UInt8}(hc:isOp c)(hw:C.W[i]? = some [c]){a b:Nat}{r:List Nat}(hd:s.data=b::a::r)(hv:binM c.toNat a b=none):stepM s=.stop 12 s.out:=by
 obtain⟨e1,e2,e3⟩:=qpF hc;obtain⟨h1,_⟩:=C.sign hk h hw e1 e2 e3;rw[h1]
 have:exeM c.toNat { s with pc:=C.plc (i+1) }=.stop 12 s.out:=by
  rw[qu8 hc];unfold opM MR.trap;simp[hd,hv]
 rw[this]
end
end Go.Stele
