import Derived.StillTail
import Derived.Recover
import Derived.Laws.StructEq
import Derived.ChangeKeysEq
import Derived.Lib.ParseIntB
import Derived.Lib.ItoaNum
import Derived.Test.YtmnjklgnhpnckaaGreatDoorBRowLV2
set_option linter.unusedVariables false
set_option linter.unusedSimpArgs false
set_option maxRecDepth 100000
set_option maxHeartbeats 4000000
open List (mem_singleton map_toArray map_nil mem_cons_self size_toArray nil_append take_left' length_take length_drop flatMap_append flatMap_cons nodup_cons)
open Nat (mul_comm zero_le zero_add add_mul)
namespace Go.GL
open Go.RowKit
variable{C:Ctx}{L:Live}{P:Program}{Q:Jc}{a i j n:Int}{ua:Array Edge}{b bytes cap qa el len m o off s t:Nat}{c:Code}{cs es spare:List LV}{dst:Option Nat}{k k2 kd:IntKind}{kt ty u xT yT:TypeId}{ra:String}{da:List Oper}{v zv:Value}{w:World}{ρ:Operand->Value}
section
variable{C:Ctx}{e:Env}{H:Heap}{dst:Option Nat}{ty:TypeId}{ra:String}{ua:Array Edge}{g:Option (Nat×Bool)}{xT yT:TypeId}{x y:Operand}{k k2:IntKind}{a b:Int}
theorem QY{op:BinOp}{x y:Operand}{b:Int}(hx:ρ x=.int k a)(hy:ρ y=.int k2 b){s:Sem Value}
  (h:(binOp op xT (.int k a) (.int k2 b))=s) {v:Value} (hv:∀ w,s.run P w=.ok v w) (w:World):(execOp ρ ⟨dst,.binOp op xT x y yT,ty,ra,ua,g⟩).run P w=.ok (.value v) w:=by
 subst h;have he:eqGuard op xT x y (.int k a) (.int k2 b)=Pure.pure ():=by unfold eqGuard;cases op <;> rfl
 simp only[execOp,hx,hy,he,Ac,Yd,ad,hv]
theorem Pure.WO(hx:e.ev x=int k a)(hy:e.ev y=int k b)(hb:b≠0):Pure C ⟨dst,.binOp .quo xT x y yT,ty,ra,ua,g⟩ e H (int k (k.wrap (a.tdiv b))):=
 .Wa λ_ _ _ h=>⟨_,zd,QY (Zb h hx) (Zb h hy) (s:=Op.intDiv .quo k a b) (by simp only[binOp,ne_eq,not_true_eq_false,if_false]) (λ_=>by simp only[Op.intDiv,zn hb,Yd])⟩
theorem Pure.tJ(hx:e.ev x=int k a)(hy:e.ev y=int k b)(hb:b≠0):Pure C ⟨dst,.binOp .rem xT x y yT,ty,ra,ua,g⟩ e H (int k (a.tmod b)):=
 .Wa λ_ _ _ h=>⟨_,zd,QY (Zb h hx) (Zb h hy) (s:=Op.intDiv .rem k a b) (by simp only[binOp,ne_eq,not_true_eq_false,if_false]) (λ_=>by simp only[Op.intDiv,zn hb,Yd])⟩
theorem Pure.yy(hx:e.ev x=int k a)(hy:e.ev y=int k b):Pure C ⟨dst,.binOp .xor xT x y yT,ty,ra,ua,g⟩ e H (int k (k.wrap ((BitVec.ofInt k.bits a ^^^ BitVec.ofInt k.bits b).toNat:Nat))):=
 .Wa λ_ _ _ h=>⟨_,zd,QY (Zb h hx) (Zb h hy) (s:=Op.intBits .xor k a b) (by simp only[binOp,ne_eq,not_true_eq_false,if_false]) λ_=>rfl⟩
theorem Pure.ZB{i:TypeInfo}(hu:C.P.underlying t=some (.array len el))(hi:C.P.info? el=some i){bl:Nat}(hx:e.ev x=ptr bl off)(hy:e.ev y=int k n)(h0:0<=n)(hn:n<len) :
  Pure C ⟨dst,.indexAddr t x y,ty,ra,ua,g⟩ e H (ptr bl (off+n.toNat * i.size)):=.Wa λρ w L h=>⟨_,zd,λw'=>by
 have h3:execOp ρ ⟨dst,.indexAddr t x y,ty,ra,ua,g⟩=(do Pure.pure (.value (<-Instr.indexAt t (ρ x) (ρ y)))):=rfl;rw[h3,Zb h hx,Zb h hy];have hc:0<=n/\n<(len:Int):=⟨h0,hn⟩;simp[Instr.indexAt,asIntOf,ye hu,Instr.sureAddr,hc,Ot hi,Cf]⟩
end
theorem qiQ{P:Program}{md:Region.Mode}{Sa:Array Oper}{Q:Exit->Act->World->Prop}{S S':World->Prop}(hS:∀ w,S' w->S w):∀ (Aa:Nat) (Ba:Array Bool) (a:Act) (w:World),
  wpAnyH P md Sa Q S' Aa Ba a w->wpAnyH P md Sa Q S Aa Ba a w
 |0,_,_,_,k=>k
 |Aa+1,_,_,_,k=>⟨k.1,λi hi=>wpOp_mono (λa' w' h=>⟨hS _ h.1,qiQ hS Aa _ a' w' h.2⟩) (k.2 i hi)⟩
theorem nh.any{n:Nat}{Sa:Array Oper}{HF:Heap}{Aa:Nat}{Ba:Array Bool}{e:Env}{H:Heap}(HF':Heap)(hs:∀ p∈HF,p∈HF')(h:yb C n Sa Q HF' Aa Ba e H):nh C n Sa Q HF Aa Ba e H:=λw0 L0 a w L hL hA _ hE hH=>
 qiQ (λw' zN=>⟨λp hp=>(zN.1 p (hs p hp)).trans (hA.1 p hp),λb i hi=>(zN.2 b i (Nat.lt_of_lt_of_le hi (hL b))).trans (hA.2 b i hi)⟩) _ _ _ _ (h a w L hE hH)
def LS(C:Ctx)(n:Nat)(Sa:Array Oper)(K:Env->Prop)(da:List Oper)(e:Env)(H:Heap):Prop:=
 ∀ a w L,yc n a e w L->Ta C w L H->wpStill C.P Sa w (λa'=>∃ e',yc n a' e' w L/\K e') da a
section still
variable{C:Ctx}{n:Nat}{Sa:Array Oper}{K:Env->Prop}{e:Env}{H:Heap}{dst:Option Nat}{op:Op}{ty:TypeId}{ra:String}{ua:Array Edge}{da:List Oper}
theorem LS.nil(h:K e):LS C n Sa K [] e H:=λ_ _ _ hE _=>⟨e,hE,h⟩
theorem qt1{Q:Act->Prop}{a:Act}{o:Oper}(hg:Region.wanted o (yielded Sa a.tmps)=true)(h:(execOp a.eval o).run P w=.ok (.value v) w)(k:wpStill P Sa w Q da (a.put o.dst v)):wpStill P Sa w Q (o::da) a:=by unfold wpStill;rw[zp hg];unfold Oper.still;rw[h];exact⟨rfl,k⟩
theorem Wm{lv:LV}(h:Pure C ⟨dst,op,ty,ra,ua,none⟩ e H lv)(hd:Sl n dst)(k:LS C n Sa K da (e.put dst lv) H):LS C n Sa K (⟨dst,op,ty,ra,ua,none⟩::da) e H:=λa w L hE hH=>by obtain⟨v,hv,hr⟩:=h a.eval w L hE.ev hH;exact qt1 (by simp[Region.wanted]) (hr w (uq.refl _ _ _)) (k _ w L (hE.put hd hv) hH)
theorem B1{P:Program}{w:World}{Q Q':Act->Prop}(h:∀ a,Q a->Q' a):∀ (l:List Oper) (a:Act),wpStill P Sa w Q l a->wpStill P Sa w Q' l a
 |[],a,k=>h a k
 |o::l,a,k=>by unfold wpStill at k ⊢;split at k;rename_i hw;rw[zp hw];exact Oper.still_mono (λa=>B1 h l a) k;rename_i hw;rw[zn hw];exact B1 h l _ k
theorem fb.tail [hm:Ss C.P] {id:Nat} {l:List Oper}  (m:Nat) (hB:Region.lexTailB .any l.toArray m=true) (h:LS C n l.toArray (λe'=>Ea C n l.toArray Q (l.drop m) e' H) (l.take m) e H):fb C n (.region id l.toArray true) Q e H:=λa w L hE hH=>by refine wp_region_still_tail m hm.out hB ?_;refine B1 (λa' h'=>?_) _ _ (h a w.drew L (hE.mono (HH w L)) hH.drew);obtain⟨e',O5,hk⟩:=h';refine BB (λx a2 w' hq=>?_) _ _ _ (hk a' w.drew L O5 hH.drew);obtain⟨e2,H',L',h1,h2,h3,h4⟩:=hq;exact⟨e2,H',L',h1.Re,h2,h3,h4⟩
end still
@[reducible] def XW(b n:Nat):LV:=.atom (.slice (some ⟨b,0,none⟩) n n)
section
variable{C:Ctx}{e:Env}{H:Heap}{dst:Option Nat}{ty:TypeId}{ra:String}{ua:Array Edge}{g:Option (Nat×Bool)}{K:LV->Heap->Prop}{X:List PanicEntry->Heap->Prop}{x y:Operand}
theorem qlE(n:Nat)(z:Value):(Array.range n).map (λi=>(if n * 1=0 then #[] else #[z])[i % (if n * 1=0 then (#[]:Array Value) else #[z]).size]!)=(List.replicate n z).toArray:=by rcases Nat.eq_zero_or_pos n with rfl|hn;simp;rw[zn zo];apply Array.ext;simp;intro i h1 h2;simp[Nat.mod_one]
theorem S.Dx [ht:Oa C.P t el 1] [hr:xh C.P el 1 bytes] [hz:Og C.P el [zv]]{n:Nat}(hx:e.ev x=int k n)(hy:e.ev y=int k2 n)(hb:bytes * n<=100000000000)(hn:n<=100000000000)
  (hk:∀ b,K (XW b n) ((b,.cells el (List.replicate n (.atom zv)))::H)):Ya C ⟨dst,.makeSlice t x y,ty,ra,ua,g⟩ e H K X:=by
 refine Ya.Iz λρ w L h hH=>?_;have h3:execOp ρ ⟨dst,.makeSlice t x y,ty,ra,ua,g⟩=(do Pure.pure (.value (<-Instr.makeSlice t (ρ x) (ρ y)))):=rfl;obtain⟨i,z,hi,hs,RC,Le,aC,uN⟩:=hr.out;obtain⟨i',z',Ff,bw,Il,jI⟩:=hz.out;rw[hi] at Ff;obtain rfl:=Option.some.inj Ff;rw[aC] at bw;obtain rfl:=Option.some.inj bw;have wn:IntKind.i64.wrap (n:Int)=n:=Nt zo;have n1:¬ ((n:Int)<0):=by omega
 have n2:¬ ((281474976710656:Int)<(i.bytes:Int) * n):=by
  rw[RC];have:((bytes * n:Nat):Int)<=100000000000:=by omega
  rw[Int.natCast_mul] at this;omega
 have n3:¬ (n * i.bytes > roomBytes):=by rw[RC,mul_comm];unfold roomBytes;omega
 have Hd:(Instr.makeSlice t (.int k n) (.int k2 n)).run C.P w=.ok (.slice (some ⟨w.heap.size,0,none⟩) n n) (World.push w (.cells (List.replicate n zv).toArray el)):=by
  have Lx:=qlE n zv;by_cases h0:n=0
  ·subst h0;have wz:IntKind.i64.wrap 0=0:=Nt zo;simp[Instr.makeSlice,ye ht.De,asInt,asIntOf,kN hi,Ot hi,hs,wz,newRow,askRoom,roomBytes,newObj,World.push,Ac,Yd];have e0:(Array.range 0).map (λ_=>(default:Value))=#[]:=by simp
   rw[e0];try rfl
  simp only[Nat.mul_one,h0,if_false] at Lx;simp[Instr.makeSlice,ye ht.De,asInt,asIntOf,kN hi,Ot hi,hs,wn,n1,n2,n3,h0,zeroValue,aC,Il,newRow,askRoom,newObj,World.push,Ac,Yd,Lx];simp at Lx;rw[Lx];try rfl
 rw[h3,Zb h hx,Zb h hy,Ac,Hd];have Tn:oa w L (List.replicate n (.atom zv)) (List.replicate n zv):=by have:=Wp (w:=w) (L:=L) (List.replicate n zv);rwa [List.map_replicate] at this
 have Rn:=AH hH.wf (.cells (List.replicate n zv).toArray el) 0;have:=Uy hH (.cells (List.replicate n zv).toArray el) 0 [(w.heap.size,.cells el (List.replicate n (.atom zv)))] (λp hp=>by
  simp only[mem_singleton] at hp;subst hp;exact⟨rfl,by simp[Live.Kc],List.replicate n zv,Fq,Tn.mono Rn _ _⟩) (by simp)
 exact⟨_,_,_,this.1,this.2,zd,hk _⟩
theorem Pure.Fj [ht:Oa C.P t el s](hx:e.ev x=.atom (.slice (some ⟨b,off,none⟩) m cap))(hy:e.ev y=int k n)(h0:0<=n)(hn:n<m) :
  Pure C ⟨dst,.indexAddr t x y,ty,ra,ua,g⟩ e H (ptr b (off+n.toNat * s)):=.Wa λρ w L h=>by
 obtain⟨i,hi,ld⟩:=ht.size;refine⟨_,zd,λw'=>?_⟩;have h3:execOp ρ ⟨dst,.indexAddr t x y,ty,ra,ua,g⟩=(do Pure.pure (.value (<-Instr.indexAt t (ρ x) (ρ y)))):=rfl;rw[h3,Zb h hx,Zb h hy];have hc:0<=n/\n<(m:Int):=⟨h0,hn⟩;simp[Instr.indexAt,asIntOf,ye ht.De,hc,Ot hi,Cf,ld]
theorem Pure.To [Oa C.P t el s]{a:Option Addr}(hx:e.ev x=.atom (.slice a m cap)):Pure C ⟨dst,.call { callee:=.builtin .len,args:=#[x],argTypes:=#[t] },ty,ra,ua,g⟩ e H (int .i64 m):=
 .Wa λρ _ _ h=>⟨_,zd,λw'=>by
  have hu:=ye (P:=C.P) (Oa.De (t:=t)) w';rw[Qr,sV];simp[Builtin.len_,hu,goInt,Zb h hx]⟩
end
section shut
variable{C:Ctx}{n:Nat}{Q:Jc}{e:Env}{H F:Heap}
end shut
section
variable{C:Ctx}{e:Env}{H:Heap}{dst:Option Nat}{ty:TypeId}{ra:String}{ua:Array Edge}{g:Option (Nat×Bool)}{K:LV->Heap->Prop}{X:List PanicEntry->Heap->Prop}{x y:Operand}
theorem qkg [h:Oa P t el s](a:Option Addr)(n m:Nat)(w:World):(Op.equal t (.slice a n m) (.slice none 0 0)).run P w=.ok a.isNone w:=by rw[gV,Op.equalIn];try cases a <;> simp only[Ac,ye h.De,ad,Yd] <;> rfl
theorem S.VA{yT:Nat} [ht:Oa C.P t el s](hx:elems (e.ev x)=some es)(hk:∀ b,(b=true->es=[])->K (bool b) H):Ya C ⟨dst,.binOp .eql t x (.const (.slice none 0 0)) yT,ty,ra,ua,g⟩ e H K X:=λρ w L h hH=>by
 obtain⟨a,cap,hv,hc,hr⟩:=(h x).elems hx;have h2:=Zb h (x:=.const (.slice none 0 0)) rfl;have he:eqGuard .eql t x (.const (.slice none 0 0)) (.slice a es.length cap) (.slice none 0 0)=Pure.pure ():=by simp[eqGuard]
 have hb:binOp .eql t (.slice a es.length cap) (.slice none 0 0)=(do Pure.pure (.bool (<-Op.equal t (.slice a es.length cap) (.slice none 0 0)))):=rfl;have Hd:(execOp ρ ⟨dst,.binOp .eql t x (.const (.slice none 0 0)) yT,ty,ra,ua,g⟩).run C.P w=.ok (.value (.bool a.isNone)) w:=by simp only[execOp,hv,h2,he,hb,Ac,Yd,ad,qkg]
 rw[Hd];refine⟨bool a.isNone,H,L,Fr.refl _ _ _,hH,zd,hk _ λhn=>?_⟩
 cases a with
 |some a=>cases hn
 |none=>
  cases es with
  |nil=>rfl
  |cons v es=>obtain⟨b,off,k,h3,_⟩:=hr (by simp);cases h3
theorem Pure.XA [Oa C.P t el s]{a:Option Addr}(hx:e.ev x=.atom (.slice a m cap)):Pure C ⟨dst,.call { callee:=.builtin .cap,args:=#[x],argTypes:=#[t] },ty,ra,ua,g⟩ e H (int .i64 cap):=
 .Wa λρ _ _ h=>⟨_,zd,λw'=>by
  have hu:=ye (P:=C.P) (Oa.De (t:=t)) w';have h0:∀ (cs:Array Bool) (args:Array Value),builtin .cap #[t] ty cs args=(do Pure.pure (.value (<-Builtin.cap_ #[t] ty args))):=λ_ _=>rfl;rw[Qr,h0]
  simp[Builtin.cap_,hu,goInt,Zb h hx]⟩
theorem Pure.il [ht:Oa C.P t el s]{a:Option Addr}{n:Nat}{hi:Operand}(hx:e.ev x=.atom (.slice a m cap))(hh:e.ev hi=int k n)(hn:n<=cap) :
  Pure C ⟨dst,.slice t x none (some hi) none,ty,ra,ua,g⟩ e H (.atom (.slice a n cap)):=.Wa λρ w L h=>by
 obtain⟨ti,Z2,ld⟩:=ht.size;refine⟨_,zd,λw'=>?_⟩;have hb:=J1 (P:=C.P) (w':=w') (len:=m) (cap:=cap) (lo:=none) (hi:=some hi) (i:=0) (j:=n) h true rfl ⟨k,hh⟩ zo zo zo;have h3:execOp ρ ⟨dst,.slice t x none (some hi) none,ty,ra,ua,g⟩=(do Pure.pure (.value (<-Instr.sliceAt t (ρ x) none (some (ρ hi)) none))):=rfl;rw[h3,Zb h hx];simp only[Option.map_none,Option.map_some] at hb;simp only[Instr.sliceAt,Instr.slice,Ac,ye (P:=C.P) ht.De w',ad,Yd,hb,Ot Z2,ld]
 have ha:∀ a:Addr,a.add 0=a:=λa=>by obtain⟨b,o,sp⟩:=a;unfold Addr.add;cases sp <;> simp
 simp[ha]
theorem S.tD{sT xT:Nat} [ht:Oa C.P sT el 1] [hr:xh C.P el 1 bytes] [hz:Og C.P el [zv]] [wG:Nh C.P xT .i64]{n:Nat}(hx:e.ev x=Yb)(hy:e.ev y=int .i64 n)(hn:0<n)(Xa:n * bytes<=140737488355328)
  (hk:∀ b cap,n<=cap->K (.atom (.slice (some ⟨b,0,none⟩) n cap)) ((b,.cells el (List.replicate cap (.atom zv)))::H)) :
  Ya C ⟨dst,.call { callee:=.builtin .append,args:=#[x,y],argTypes:=#[sT,xT] },ty,ra,ua,g⟩ e H K X:=by
 refine Ya.Iz λρ w L h hH=>?_;have h0:∀ (cs:Array Bool) (args:Array Value),builtin .append #[sT,xT] ty cs args=(do Pure.pure (.value (<-Builtin.append_ #[sT,xT] ty args))):=λ_ _=>rfl;obtain⟨i,z,hi,hs,hb,Le,aC,uN⟩:=hr.out;obtain⟨i',z',Ff,bw,Il,jI⟩:=hz.out;rw[hi] at Ff;obtain rfl:=Option.some.inj Ff;rw[aC] at bw;obtain rfl:=Option.some.inj bw;have hmul:n<=n * bytes:=Nat.le_mul_of_pos_right _ Le;have wn:IntKind.i64.wrap (n:Int)=n:=Nt zo;have n1:¬ ((n:Int)<0):=by omega
 have n2:¬ ((281474976710656:Int)<(n:Int) * (i.bytes:Int)):=by
  rw[hb];have:((n * bytes:Nat):Int)<=140737488355328:=by omega
  rw[Int.natCast_mul] at this;omega
 have uL:¬ (9223372036854775807<(n:Int)):=by omega
 have Be:=growslice_fits (bytes:=bytes) (need:=n) (old:=0) hn Xa;have wL:¬ (281474976710656<Builtin.nextslicecap n 0 * i.bytes):=by rw[hb];omega
 have Co:¬ n=0:=by omega
 have oz:∀ m,(Builtin.zeroCells #[zv] m)=(List.replicate m zv).toArray:=λm=>by unfold Builtin.zeroCells;apply Array.ext;simp;intro j h1 h2;simp[Nat.mod_one]
 have Ue:n<=grownCap w n 0 el:=by simp[grownCap,Question.cut]
 have Hd:(Builtin.append_ #[sT,xT] ty #[.slice none 0 0,.int .i64 n]).run C.P w=.ok (.slice (some ⟨w.heap.size,0,none⟩) n (grownCap w n 0 el)) (World.push w.drew (.cells (List.replicate (grownCap w n 0 el) zv).toArray el)):=by simp[Builtin.append_,ye ht.De,ye wG.De,sizeOf,typeInfo,zeroValue,hi,hs,aC,Il,asInt,asIntOf,wn,n1,n2,Co,uL,wL,Question.forced,newRow,grownCap,Builtin.firstCells,oz];show World.push w.drew _=World.push w.drew _;congr 2;apply Array.ext';have:=Ue;unfold grownCap at this;congr 2;omega
 rw[Qr,h0];simp only[map_toArray,jd,map_nil,Ac,Zb h hx,Zb h hy,Hd,ad,Yd];have hHd:=hH.drew;have Tn:oa w.drew L (List.replicate (grownCap w n 0 el) (.atom zv)) (List.replicate (grownCap w n 0 el) zv):=by have:=Wp (w:=w.drew) (L:=L) (List.replicate (grownCap w n 0 el) zv);rwa [List.map_replicate] at this
 have Rn:=AH hHd.wf (.cells (List.replicate (grownCap w n 0 el) zv).toArray el) 0;have:=Uy hHd (.cells (List.replicate (grownCap w n 0 el) zv).toArray el) 0 [(w.heap.size,.cells el (List.replicate (grownCap w n 0 el) (.atom zv)))] (λp hp=>by
  simp only[mem_singleton] at hp;subst hp;exact⟨rfl,by simp[Live.Kc],List.replicate (grownCap w n 0 el) zv,Fq,Tn.mono Rn _ _⟩) (by simp)
 exact⟨_,_,_,this.1.Re,this.2,zd,hk _ _ Ue⟩
end
section opened
variable{C:Ctx}{n:Nat}{Q:Jc}{e:Env}{H F:Heap}
theorem qvT(hp:xd (b,.cells el cs) H F)(hH:Ta C w L H)(hl:∀ k cap,cap * k<=cs.length->∃ e s,w.shape? b=some (e,s)/\cap * k<=s):Ta C w L ((b,.row 0)::F):=by have Xn:=hH.perm hp;obtain⟨Le,Of,tI,xs,td,Gd⟩:=Xn.uc _ mem_cons_self;simp only at Le Of tI td Gd;refine⟨Xn.base,Xn.ui,Xn.b0,Xn.wf,Xn.nodup,λp Xk=>?_⟩;rcases zc.1 Xk with rfl|Xk;exact⟨Le,Of,tI,_,_,_,td,zero_le _,zero_le _⟩;exact Xn.uc p (Pc _ Xk)
theorem qpL(hp:xd (b,.cells el cs) H F)(hH:Ta C w L H):w.shape? b=some (el,cs.length):=by have Xn:=hH.perm hp;obtain⟨Le,Of,tI,xs,td,Gd⟩:=Xn.uc _ mem_cons_self;simp only at td;simp only[World.shape?,td];rw[size_toArray,Gd.length]
theorem Ea.VE{Sa:Array Oper}(d k:Nat)(hp:xd (b,.cells el cs) H F)(hd:e.s d=.atom (.slice (some ⟨b,0,none⟩) 0 cap))(hc:cap * k<=cs.length)(h:Ea C n Sa Q da (e.Kc d (.app b cap k [])) ((b,.row 0)::F)):Ea C n Sa Q da e H:=λa w L hE hH=>by
 have hs:=qpL hp hH;have hk:∀ x,x∈keys ((b,ma.row 0)::F)->x∈keys H:=λx hx=>by have:=((hp.map (·.1)).mem_iff (a:=x)).2 (by simpa using hx);exact this
 refine BB (λ_ _ _=>VU hk) _ _ _ (h a w L ⟨hE.size,hE.ds,λi=>?_⟩ (qvT hp hH λk2 PS h2=>⟨_,_,hs,h2⟩));have hv:=hE.Gi i;simp only[Env.Kc]
 cases hb:Nat.beq i d with
 |false=>exact hv
 |true=>have hi:=Nat.eq_of_beq_eq_true hb;subst hi;rw[hd] at hv;simp only[xb] at hv;rw[hv];show xb w L (.app b cap k []) _;simp only[xb];refine⟨rfl,zero_le _,?_,_,_,hs,hc⟩;simp only[Qc]
end opened
section
variable{C:Ctx}{e:Env}{H:Heap}{dst:Option Nat}{ty:TypeId}{ra:String}{ua:Array Edge}{g:Option (Nat×Bool)}{K:LV->Heap->Prop}{X:List PanicEntry->Heap->Prop}{x y z:Operand}{k:IntKind}
theorem qvY(a b:Nat):(if (a:Int)<(b:Int) then (b:Int) else (a:Int))=((max a b:Nat):Int):=by split <;> omega
theorem Pure.max2{a b:Nat}(hx:e.ev x=int k (a:Int))(hy:e.ev y=int k (b:Int)){t u:TypeId}:Pure C ⟨dst,.call { callee:=.builtin .max,args:=#[x,y],argTypes:=#[t,u] },ty,ra,ua,g⟩ e H (int k ((max a b:Nat):Int)):=
 .Wa λρ _ _ h=>⟨_,zd,λw'=>by
  have h0:∀ (cs:Array Bool) (args:Array Value),builtin .max #[t,u] ty cs args=(do Pure.pure (.value (<-Builtin.max_ #[t,u] ty args))):=λ_ _=>rfl;rw[Qr,h0];have:=qvY a b;simp[Builtin.max_,Builtin.max2,Zb h hx,Zb h hy]
  split <;> omega⟩
theorem Pure.W1{a c:Nat}(hx:e.ev x=int k (a:Int))(hy:e.ev y=int k (b:Int))(hz:e.ev z=int k (c:Int)){t v:TypeId}:Pure C ⟨dst,.call { callee:=.builtin .max,args:=#[x,y,z],argTypes:=#[t,u,v] },ty,ra,ua,g⟩ e H (int k ((max (max a b) c:Nat):Int)):=
 .Wa λρ _ _ h=>⟨_,zd,λw'=>by
  have h0:∀ (cs:Array Bool) (args:Array Value),builtin .max #[t,u,v] ty cs args=(do Pure.pure (.value (<-Builtin.max_ #[t,u,v] ty args))):=λ_ _=>rfl;rw[Qr,h0];simp[Builtin.max_,Builtin.max2,Zb h hx,Zb h hy,Zb h hz]
  repeat' split
  all_goals omega⟩
theorem Pure.Ej{A B:Int}(a b:Nat)(hx:e.ev x=int k A)(hy:e.ev y=int k B)(ha:A=(a:Int))(hb:B=(b:Int)){t:TypeId}:Pure C ⟨dst,.call { callee:=.builtin .max,args:=#[x,y],argTypes:=#[t,u] },ty,ra,ua,g⟩ e H (int k ((max a b:Nat):Int)):=by subst ha hb;exact Pure.max2 hx hy
theorem Pure.Lq{A B D:Int}(a b d:Nat)(hx:e.ev x=int k A)(hy:e.ev y=int k B)(hz:e.ev z=int k D)(ha:A=(a:Int))(hb:B=(b:Int))(hd:D=(d:Int)){t v:TypeId}:Pure C ⟨dst,.call { callee:=.builtin .max,args:=#[x,y,z],argTypes:=#[t,u,v] },ty,ra,ua,g⟩ e H (int k ((max (max a b) d:Nat):Int)):=by subst ha hb hd;exact Pure.W1 hx hy hz
theorem Pure.CS{b:Int}(h:a=b)(hx:e.ev x=int k a)(hy:e.ev y=int k b):Pure C ⟨dst,.binOp .eql xT x y yT,ty,ra,ua,g⟩ e H (bool true):=by have:=Pure.eql (C:=C) (H:=H) (dst:=dst) (ty:=ty) (ra:=ra) (ua:=ua) (g:=g) (xT:=xT) (yT:=yT) hx hy;rwa [Nf h] at this
theorem Pure.DS{b:Int}(h:¬ a=b)(hx:e.ev x=int k a)(hy:e.ev y=int k b):Pure C ⟨dst,.binOp .eql xT x y yT,ty,ra,ua,g⟩ e H (bool false):=by have:=Pure.eql (C:=C) (H:=H) (dst:=dst) (ty:=ty) (ra:=ra) (ua:=ua) (g:=g) (xT:=xT) (yT:=yT) hx hy;rwa [decide_eq_false h] at this
def so(m:KV)(l:List (List UInt8)):Prop:=∀ k,wb m k=if k∈l then some (bool true) else none
theorem so.nil:so [] []:=λk=>by simp[wb]
theorem so.add{m:KV}{l:List (List UInt8)}(h:so m l)(s:List UInt8):so (Ic m s (bool true)) (l++[s]):=λk=>by
 rw[Im,h k];by_cases h1:s=k;rw[zp h1,zp (by rw[h1];simp)];rw[zn h1];by_cases h2:k∈l;rw[zp h2,zp (List.mem_append_left _ h2)];rw[zn h2,zn (by
  intro h3;rcases xj h3 with h3|h3;exact h2 h3;exact h1 (Vi h3).symm)]
theorem Pure.wg{t el:TypeId} [h:jo C.P t el zv (bool false)]{m:KV}{l:List (List UInt8)}{s:List UInt8}(hm:e.ev x=.atom (.map (some b)))(hx:e.ev y=str s)(hb:(b,.map (Pe m) qa)∈H)(hs:so m l) :
  Pure C ⟨dst,.lookup t x y false,ty,ra,ua,g⟩ e H (bool (decide (s∈l))):=by
 by_cases h1:s∈l;rw[Nf h1];exact Pure.WH hm hx hb (by rw[hs s,zp h1]);rw[decide_eq_false h1];exact Pure.BK hm hx hb (by rw[hs s,zn h1])
end
def Kn(C:Ctx)(f:FuncId)(args:List LV)(u:FrameMode)(H:Heap)(R:FrameMode->Heap->Prop):Prop:=
 ∀ (vs:List Value) w L,oa w L args vs->Ta C w L H->CallsD C.P f vs.toArray u w λe u' w'=>(∃ v,e=.returned v)/\ur C w L H w' (R u')
def CP(C:Ctx)(n:Nat)(rs:List ResultVar)(R:Ie->Heap->Prop):List Deferred->FrameMode->Env->Heap->Prop
 |[],.returning,e,H=>∃ vs H',Dm C n e H rs vs/\HSub H' H/\R (.ret (Dh vs)) H'
 |[],.panicking ch,_,H=>∃ H',HSub H' H/\R (.panic ch) H'
 |[],.run,_,_=>False
 |d::ds,u,e,H=>u≠.run/\∃ f cap H1 F,d={ target:=.fn (.func f) cap,args:=#[] }/\Tb C.P f/\H.Perm (H1++F) /\
   Kn C f (cap.toList.map .atom) u H1 λu' H'=>CP C n rs R ds (settle u') e (H'++F)
def VL(C:Ctx)(n:Nat)(w:World)(L:Live)(K:List Nat)(Q:Jc):Exit->Act->World->Prop:=
 λx a' w'=>∃ e' H' L',Fr K w L w' L' H'/\Ta C w' L' H'/\yc n a' e' w' L'/\Q x e' H'
theorem qj9{n:Nat}{w1:World}{L1:Live}{K:List Nat}{H1:Heap}(f:Fr K w L w1 L1 H1){x:Exit}{a:Act}{w':World}
  (k:VL C n w1 L1 (keys H1) Q x a w'):VL C n w L K Q x a w':=
 let ⟨e',H',L',h1,h2,h3,h4⟩:=k
 ⟨e',H',L',f.trans h1,h2,h3,h4⟩
def dj(C:Ctx)(n:Nat)(Sa:Array Oper)(Q:Jc)(da:List Oper)(e:Env)(H:Heap):Prop:=
 ∀ a w L,yc n a e w L->Ta C w L H->wpList C.P Sa (VL C n w L (keys H) Q) da a w
def xg(C:Ctx)(n:Nat)(c:Code)(Q:Jc)(e:Env)(H:Heap):Prop:=
 ∀ a w L,yc n a e w L->Ta C w L H->c.wp C.P (VL C n w L (keys H) Q) a w
section P
variable{C:Ctx}{n:Nat}{Sa:Array Oper}{Q:Jc}{e:Env}{H:Heap}
theorem dj.nil(h:Q .normal e H):dj C n Sa Q [] e H:=λ_ _ L hE hH=>⟨e,H,L,Fr.refl _ _ _,hH,hE,h⟩
theorem dj.step{op:Op}
  (h:Ya C ⟨dst,op,ty,ra,ua,none⟩ e H (λlv H'=>dj C n Sa Q da (e.put dst lv) H') λch H'=>Q (.panic ch) e H')
  (hd:Sl n dst):dj C n Sa Q (⟨dst,op,ty,ra,ua,none⟩::da) e H:=λa w L hE hH=>by
 unfold wpList;rw[zp (by simp[Region.wanted])];have hs:=h a.eval w L hE.ev hH;refine .inl ?_;unfold Oper.wp;have left:∀ {w' v},Left C w L H w' v (λlv H'=>dj C n Sa Q da (e.put dst lv) H')->wpList C.P Sa (VL C n w L (keys H) Q) da (a.put dst v) w':=λh=>by obtain⟨lv,H',L',h1,h2,h3,h4⟩:=h;exact BB (λ_ _ _=>qj9 h1) _ _ _ (h4 _ _ L' ((hE.mono h1.ext).put hd h3) h2)
 have Xt:∀ {w' ch},ur C w L H w' (λH'=>Q (.panic ch) e H')->VL C n w L (keys H) Q (.panic ch) a w':=λh=>by obtain⟨H',L',h1,h2,h3⟩:=h;exact⟨e,H',L',h1,h2,hE.mono h1.ext,h3⟩
 generalize (execOp a.eval ⟨dst,op,ty,ra,ua,none⟩).run C.P w=r at hs ⊢;unfold mF at hs;split at hs;exact left hs;exact left hs;obtain⟨rfl,hs⟩:=hs;refine Calls.mono hs λe w' he=>?_
 cases e with
 |returned v=>exact left he
 |panicked ch=>exact Xt he
 |outgrown=>exact he.elim
 exact Xt hs;exact hs.elim
theorem dj.pure{op:Op}{lv:LV}
  (h:Pure C ⟨dst,op,ty,ra,ua,none⟩ e H lv) (hd:Sl n dst) (k:dj C n Sa Q da (e.put dst lv) H):dj C n Sa Q (⟨dst,op,ty,ra,ua,none⟩::da) e H:=
 dj.step (h.step k) hd
theorem xg.region{id:Nat}{l:List Oper}(h:dj C n l.toArray Q l e H):xg C n (.region id l.toArray false) Q e H:=λa w L hE hH=>wp_region_lit (h a w L hE hH)
theorem xg.ret(h:Q .ret e H):xg C n .ret Q e H:=λ_ _ L hE hH=>wp_ret ⟨e,H,L,Fr.refl _ _ _,hH,hE,h⟩
theorem xg.seq{x y:Code}(h:xg C n x (ve (λe H=>xg C n y Q e H) Q) e H):xg C n (.seq x y) Q e H:=λa w L hE hH=>by
 refine wp_seq (Go.wp_mono (h a w L hE hH) λex a' w' hq=>?_);obtain⟨e',H',L',h1,h2,h3,h4⟩:=hq
 cases ex with
 |normal=>exact Go.wp_mono (h4 a' w' L' h3 h2) λ_ _ _=>qj9 h1
 |exit id=>exact⟨e',H',L',h1,h2,h3,h4⟩
 |goto id=>exact⟨e',H',L',h1,h2,h3,h4⟩
 |ret=>exact⟨e',H',L',h1,h2,h3,h4⟩
 |panic ch=>exact⟨e',H',L',h1,h2,h3,h4⟩
 |outgrown=>exact⟨e',H',L',h1,h2,h3,h4⟩
theorem xg.block{id:Nat}{c:Code}(h:xg C n c (Oe id Q) e H):xg C n (.block id c) Q e H:=λa w L hE hH=>by
 refine wp_block (Go.wp_mono (h a w L hE hH) λex a' w' hq=>?_);obtain⟨e',H',L',h1,h2,h3,h4⟩:=hq
 cases ex with
 |exit YH=>simp only[Exit.inBlock,Oe] at h4 ⊢;split;rename_i hid;rw[zp hid] at h4;exact⟨e',H',L',h1,h2,h3,h4⟩;rename_i hid;rw[zn hid] at h4;exact⟨e',H',L',h1,h2,h3,h4⟩
 |normal=>exact⟨e',H',L',h1,h2,h3,h4⟩
 |goto id=>exact⟨e',H',L',h1,h2,h3,h4⟩
 |ret=>exact⟨e',H',L',h1,h2,h3,h4⟩
 |panic ch=>exact⟨e',H',L',h1,h2,h3,h4⟩
 |outgrown=>exact⟨e',H',L',h1,h2,h3,h4⟩
def fv(Q:Jc):Jc
 |.panic _,_,_=>False
 |x,e,H=>Q x e H
theorem xg.of(h:fb C n c (fv Q) e H):xg C n c Q e H:=λa w L hE hH=>by
 refine Go.wp_mono (h a w L hE hH) λex a' w' hq=>?_;obtain⟨e',H',L',h1,h2,h3,h4⟩:=hq
 cases ex with
 |panic ch=>exact h4.elim
 |normal=>exact⟨e',H',L',h1,h2,h3,h4⟩
 |exit id=>exact⟨e',H',L',h1,h2,h3,h4⟩
 |goto id=>exact⟨e',H',L',h1,h2,h3,h4⟩
 |ret=>exact⟨e',H',L',h1,h2,h3,h4⟩
 |outgrown=>exact⟨e',H',L',h1,h2,h3,h4⟩
theorem fv.normal{k:Env->Heap->Prop}(h:k e H):fv (ve k Q) .normal e H:=h
theorem fv.ret(h:Q .ret e H):fv Q .ret e H:=h
end P
def Lv(C:Ctx)(n:Nat)(rs:List ResultVar)(R:Ie->Heap->Prop):Jc
 |.normal,e,H|.ret,e,H=>CP C n rs R e.ds .returning e H
 |.panic ch,e,H=>CP C n rs R e.ds (.panicking ch) e H
 |_,_,_=>False
theorem o9{C:Ctx}{n:Nat}{fn:Func}{R:Ie->Heap->Prop}{w0:World}{L0:Live}{H0:Heap}(h3:fn.results.size<=3)(tmps:Array Value):∀ (ds:List Deferred) (u:FrameMode) (e:Env) (H:Heap) (w:World) (L:Live),tmps.size=n->(∀ i,xb w L (e.s i) (tmps.getD i undef))->Ta C w L H->Fr (keys H0) w0 L0 w L H ->
  CP C n fn.results.toList R ds u e H->Leaves C.P fn tmps (kA C w0 L0 H0 (λv=>R (.ret v)) λch=>R (.panic ch)) ds u w
 |[],.returning,e,H,w,L,hn,hv,hH,hF,h=>by obtain⟨vs,H',h1,h2,h5⟩:=h;obtain⟨v,r1,r2⟩:=JZ (a:={ tmps,defers:=e.ds }) ⟨hn,rfl,hv⟩ hH h1 h3;exact⟨v,r1,Dh vs,H',L,hF.qc h2,hH.qc h2,r2,h5⟩
 |[],.panicking ch,e,H,w,L,hn,hv,hH,hF,h=>by obtain⟨H',h2,h5⟩:=h;exact⟨H',L,hF.qc h2,hH.qc h2,h5⟩
 |[],.run,e,H,w,L,hn,hv,hH,hF,h=>h.elim
 |d::ds,u,e,H,w,L,hn,hv,hH,hF,h=>by obtain⟨hu,f,cap,H1,F,rfl,BI,hp,hc⟩:=h;refine⟨hu,.func f,cap,f,cap,rfl,by simp[invoke,V0],?_⟩;have gE:=hH.perm hp;have:=hc cap.toList w L (Wp _) gE.left;simp only[Array.toArray_toList] at this;refine CallsD.mono this ?_;rintro ex u' w' ⟨⟨v,rfl⟩,hx⟩;obtain⟨H',L',g1,g2,g3⟩:=ur.frame gE hx;exact o9 h3 tmps ds (settle u') e H' w' L' hn (λi=>(hv i).mono g1.ext _ _) g2 (hF.trans (g1.perm hp.symm)) g3
theorem Kn.mono{C:Ctx}{f:FuncId}{args:List LV}{u:FrameMode}{H:Heap}{R R':FrameMode->Heap->Prop}(h:Kn C f args u H R)(hr:∀ u H,R u H->R' u H):Kn C f args u H R':=λvs w L h1 h2=>
 CallsD.mono (h vs w L h1 h2) λ_ _ _ ⟨h3,h4⟩=>⟨h3,h4.mono (hr _)⟩
theorem ca.aw{f:FuncId}{fn:Func}{n:Nat}{args:List LV}{H:Heap}{R:Ie->Heap->Prop}(hf:C.P.funcs[f]? = some fn)(hb:fn.body=some c)(hn:fn.ntmps=n)(h3:Nat.ble fn.results.size 3=true)
  (hl:Nat.ble args.length n=true) (h:xg C n c (Lv C n fn.results.toList R) (vH args) H):ca C f args H R:=λvs w L hv hH=>by
 subst hn;have Rx:args.length<=fn.ntmps:=by simpa using hl
 have Hs:fn.results.size<=3:=by simpa using h3
 have na:=hv.length;refine calls_of_wp_defers hf hb (Go.wp_mono (h _ w L ⟨?_,rfl,λi=>?_⟩ hH) λex a' w' hq=>?_)
 simp;omega;exact nO;obtain⟨e',H',L',g1,g2,g3,g4⟩:=hq;have ret:∀ u,CP C fn.ntmps fn.results.toList R e'.ds u e' H'->Leaves C.P fn a'.tmps (kA C w L H (λv=>R (.ret v)) λch=>R (.panic ch)) a'.defers u w':=λu hu=>by rw[g3.ds];exact o9 Hs a'.tmps _ u e' H' w' L' g3.size g3.Gi g2 g1 hu
 cases ex with
 |normal=>exact ret _ g4
 |ret=>exact ret _ g4
 |panic ch=>exact ret _ g4
 |exit id=>exact g4.elim
 |goto id=>exact g4.elim
 |outgrown=>exact g4.elim
abbrev aH:=Exit->FrameMode->Env->Heap->Prop
def Gv(C:Ctx)(n:Nat)(c:Code)(Q:aH)(u:FrameMode)(e:Env)(H:Heap):Prop:=
 ∀ a w L (c0:Frame) cs,c0.mode=u->yc n a e w L->Ta C w L H ->
  c.wpS C.P (λx a' Ob w'=>∃ u' e' H' L',Ob={ c0 with mode:=u' }::cs/\Fr (keys H) w L w' L' H'/\Ta C w' L' H'/\QG n x a' e' w' L'/\Q x u' e' H') a (c0::cs) w
theorem LY{Q Q':Exit->Act->List Frame->World->Prop}{a:Act}{cs:List Frame}{w:World}(h:c.wpS P Q a cs w)(hq:∀ x a cs w,Q x a cs w->Q' x a cs w):c.wpS P Q' a cs w:=λb k h1 h2=>
 let ⟨e,a',Ob,w',q,r⟩:=h b k h1 h2
 ⟨e,a',Ob,w',hq _ _ _ _ q,r⟩
section S
variable{C:Ctx}{n:Nat}{Q:aH}{u:FrameMode}{e:Env}{H:Heap}
theorem Gv.of(h:fb C n c (λx e H=>Q x u e H) e H):Gv C n c Q u e H:=λa w L c0 cs hu hE hH=>by refine wpS_of_wp (Go.wp_mono (h a w L hE hH) λx a' w' hq=>?_);obtain⟨e',H',L',h1,h2,h3,h4⟩:=hq;exact⟨u,e',H',L',by subst hu;rfl,h1,h2,h3,h4⟩
theorem Gv.seq{x y:Code}(h:Gv C n x (λex u' e' H'=>match ex with|.normal=>Gv C n y Q u' e' H'|ex=>Q ex u' e' H') u e H):Gv C n (.seq x y) Q u e H:=λa w L c0 cs hu hE hH=>by
 refine wpS_seq (LY (h a w L c0 cs hu hE hH) λex a' Ob w' hq=>?_);obtain⟨u',e',H',L',rfl,h1,h2,h3,h4⟩:=hq
 cases ex with
 |normal=>refine LY (h4 a' w' L' { c0 with mode:=u' } cs rfl h3 h2) ?_;rintro ex a2 cs2 w2 ⟨u2,e2,H2,L2,rfl,g1,g2,g3,g4⟩;exact⟨u2,e2,H2,L2,rfl,h1.trans g1,g2,g3,g4⟩
 |exit id=>exact⟨u',e',H',L',rfl,h1,h2,h3,h4⟩
 |goto id=>exact⟨u',e',H',L',rfl,h1,h2,h3,h4⟩
 |ret=>exact⟨u',e',H',L',rfl,h1,h2,h3,h4⟩
 |panic ch=>exact⟨u',e',H',L',rfl,h1,h2,h3,h4⟩
 |outgrown=>exact⟨u',e',H',L',rfl,h1,h2,h3,h4⟩
def wM:FrameMode->Value×FrameMode
 |.panicking ({ v,recovered:=false,goexit:=false }::SH)=>(v,.panicking ({ v,recovered:=true }::SH))
 |u=>(.nilIface,u)
theorem qoZ{g:Option (Nat×Bool)}(w:World) :
  (execOp ρ ⟨dst,.call { callee:=.builtin .recover,args:=#[],argTypes:=#[] },ty,ra,ua,g⟩).run P w=.ok .recover w:=by
 rfl
theorem qoD(c0:Frame)(cs:List Frame):recoverD (c0::cs)=none/\wM c0.mode=(.nilIface,c0.mode)∨recoverD (c0::cs)=some ((wM c0.mode).1,{ c0 with mode:=(wM c0.mode).2 }::cs):=by
 obtain⟨fn,tmps,todo,defers,mode,kind,ro⟩:=c0;cases mode with
 |run=>exact .inl ⟨rfl,rfl⟩
 |returning=>exact .inl ⟨rfl,rfl⟩
 |panicking ch=>
  cases ch with
  |nil=>exact .inl ⟨rfl,rfl⟩
  |cons p SH=>obtain⟨v,r,g⟩:=p;cases r <;> cases g <;> first|exact .inl ⟨rfl,rfl⟩|exact .inr rfl
theorem Gv.recover{id t s:Nat}{ty Oo:TypeId}{ra pos':String}{ua MG:Array Edge}(ht:Nat.blt t n=true)(hs:Nat.blt s n=true)(h:Q .normal (wM u).2 ((e.Kc t (.atom (wM u).1)).Kc s (.atom (wM u).1)) H) :
  Gv C n (.region id #[⟨some t,.call { callee:=.builtin .recover,args:=#[],argTypes:=#[] },ty,ra,ua,none⟩,⟨some s,.assign (.tmp t),Oo,pos',MG,none⟩] false) Q u e H:=λa w L c0 cs hu hE hH=>by
 refine wpS_region ?_;have pS:∀ v,yc n (a.put (some t) v) (e.Kc t (.atom v)) w L:=λv=>hE.put (dst:=some t) (by simp only[Sl,mD];exact ht) zd
 have hev:∀ v,(a.put (some t) v).eval (.tmp t)=v:=λv=>by have:=(pS v).ev (.tmp t);simpa [Env.ev,Env.Kc,xb] using this
 have qq:∀ v,yc n ((a.put (some t) v).put (some s) v) ((e.Kc t (.atom v)).Kc s (.atom v)) w L:=λv=>(pS v).put (dst:=some s) (by simp only[Sl,mD];exact hs) zd
 have h1:∀ v A6,wpOpsS C.P #[⟨some t,.call { callee:=.builtin .recover,args:=#[],argTypes:=#[] },ty,ra,ua,none⟩,⟨some s,.assign (.tmp t),Oo,pos',MG,none⟩] (λx a' Ob w'=>∃ u' e' H' L',Ob={ c0 with mode:=u' }::cs/\Fr (keys H) w L w' L' H'/\Ta C w' L' H'/\QG n x a' e' w' L'/\Q x u' e' H') [1] (a.put (some t) v) A6 w
   ↔ (λx a' Ob w'=>∃ u' e' H' L',Ob={ c0 with mode:=u' }::cs/\Fr (keys H) w L w' L' H'/\Ta C w' L' H'/\QG n x a' e' w' L'/\Q x u' e' H') Exit.normal ((a.put (some t) v).put (some s) v) A6 w:=by
  intro v A6;have hr:(execOp (a.put (some t) v).eval ⟨some s,.assign (.tmp t),Oo,pos',MG,none⟩).run C.P w=.ok (.value ((a.put (some t) v).eval (.tmp t))) w:=rfl;simp only[wpOpsS,List.getElem?_toArray,dr,al,Region.wanted,if_true,hr,Oper.upon,hev]
 have h0:(execOp a.eval ⟨some t,.call { callee:=.builtin .recover,args:=#[],argTypes:=#[] },ty,ra,ua,none⟩).run C.P w=.ok .recover w:=qoZ w;have hl:List.range (#[(⟨some t,.call { callee:=.builtin .recover,args:=#[],argTypes:=#[] },ty,ra,ua,none⟩:Oper),⟨some s,.assign (.tmp t),Oo,pos',MG,none⟩]:Array Oper).size=[0,1]:=rfl;rw[hl,wpOpsS];simp only[List.getElem?_toArray,al,Region.wanted,if_true,h0];rcases qoD c0 cs with⟨h2,h3⟩|h2;simp only[h2];rw[h1];subst hu;rw[h3] at h;exact⟨c0.mode,_,H,L,rfl,Fr.refl _ _ _,hH,qq _,h⟩;simp only[h2];rw[h1];subst hu;exact⟨_,_,H,L,rfl,Fr.refl _ _ _,hH,qq _,h⟩
def qvN(R:FrameMode->Heap->Prop):aH
 |.normal,u,e,H|.ret,u,e,H=>e.ds=[]/\∃ H',HSub H' H/\R u H'
 |_,_,_,_=>False
theorem Kn.intro{f:FuncId}{fn:Func}{args:List LV}{R:FrameMode->Heap->Prop}(hf:C.P.funcs[f]? = some fn)(hb:fn.body=some c)(hn:fn.ntmps=n)(h3:fn.results=#[])
  (hl:Nat.ble args.length n=true) (h:Gv C n c (qvN R) u (vH args) H):Kn C f args u H R:=λvs w L hv hH=>by
 subst hn;have Rx:args.length<=fn.ntmps:=by simpa using hl
 have na:=hv.length;have nL:yc fn.ntmps { tmps:=vs.toArray++Array.replicate (fn.ntmps-vs.toArray.size) undef,defers:=[] } (vH args) w L:=by
  refine⟨?_,rfl,λi=>?_⟩
  simp;omega;exact nO
 refine callsD_of_wpS hf hb λc0 cs hu=>LY (h _ w L c0 cs hu nL hH) λex a' Ob w' hq=>?_;obtain⟨u',e',H',L',rfl,g1,g2,g3,g4⟩:=hq
 have fin:yc fn.ntmps a' e' w' L'->(e'.ds=[]/\∃ Bh,HSub Bh H'/\R u' Bh)->a'.defers=[]/\∃ q7,({ c0 with mode:=u' }::cs:List Frame)={ c0 with mode:=q7 }::cs/\∃ v,(results fn a'.tmps).run C.P w'=.ok v w'/\(∃ v',Ending.returned v=.returned v')/\ur C w L H w' (R q7):=λhE ⟨h1,Bh,h2,h4⟩=>
  ⟨hE.ds.trans h1,u',rfl,_,qqq h3 _ _,⟨_,rfl⟩,Bh,L',g1.qc h2,g2.qc h2,h4⟩
 cases ex with
 |normal=>exact fin g3 g4
 |ret=>exact fin g3 g4
 |panic ch=>exact g4.elim
 |exit id=>exact g4.elim
 |goto id=>exact g4.elim
 |outgrown=>exact g4.elim
end S
section defer
variable{C:Ctx}{n:Nat}{Sa:Array Oper}{Q:Jc}{e:Env}{H:Heap}
theorem dj.defer{dst:Option Nat}{fo:Operand}{f:FuncId}{ib:Array Value}{ty:TypeId}{ra:String}{ua:Array Edge}{da:List Oper}(hf:e.ev fo=.atom (.func (.func f) #[] ib))(hd:dst=none)
  (k:dj C n Sa Q da ⟨e.s,{ target:=.fn (.func f) ib,args:=#[] }::e.ds⟩ H):dj C n Sa Q (⟨dst,.defer { callee:=.value fo,args:=#[],argTypes:=#[] },ty,ra,ua,none⟩::da) e H:=λa w L hE hH=>by
 subst hd;have hv:=hE.ev fo;rw[hf] at hv;simp only[xb] at hv;have hr:(execOp a.eval ⟨none,.defer { callee:=.value fo,args:=#[],argTypes:=#[] },ty,ra,ua,none⟩).run C.P w=.ok (.defer { target:=.fn (.func f) ib,args:=#[] }) w:=by have h3:execOp a.eval ⟨none,.defer { callee:=.value fo,args:=#[],argTypes:=#[] },ty,ra,ua,none⟩=(do let d <-Deferred.ofValue (a.eval fo) ((#[]:Array Operand).map a.eval);Pure.pure (.defer d)):=rfl;rw[h3,hv];simp only[Deferred.ofValue,map_toArray,map_nil];rfl
 unfold wpList;rw[zp (by simp[Region.wanted])];refine .inl ?_;unfold Oper.wp;rw[hr];simp only[Oper.upon,Act.put];exact k _ w L ⟨hE.size,by show _::a.defers=_;rw[hE.ds],hE.Gi⟩ hH
end defer
inductive Ae (el:TypeId) (s:Nat):Value->List LV->Heap->Prop
 |nil:Ae el s (.slice none 0 0) [] []
 |row {b cap:Nat} {es spare:List LV} (hs:∀ v∈es,v.cells.length=s) (hc:es.length<=cap) (hl:es.length * s+spare.length=cap * s) :
   Ae el s (.slice (some ⟨b,0,none⟩) es.length cap) es [(b,.cells el (es.flatMap LV.cells++spare))]
section
variable{C:Ctx}{e:Env}{H:Heap}{x y:Operand}{dst:Option Nat}{ty:TypeId}{ra:String}{ua:Array Edge}{g:Option (Nat×Bool)}{K:LV->Heap->Prop}{X:List PanicEntry->Heap->Prop}
theorem qoh(hH:Ta C w L []){es:List LV}{xs da:List Value}(hr:oa w L (es.flatMap LV.cells) xs)(hs:∀ v∈es,v.cells.length=s)(hc:es.length<=cap)(hl:es.length * s+da.length=cap * s)
  (hk:∀ v' H',Ae el s v' es H'->K (.atom v') H') :
  Left C w L [] (World.push w (.cells (xs++da).toArray el)) (.slice (some ⟨w.heap.size,0,none⟩) es.length cap) K:=by
 have hx:=AH hH.wf (.cells (xs++da).toArray el) 0;have:=Uy hH (.cells (xs++da).toArray el) 0 [(w.heap.size,.cells el (es.flatMap LV.cells++da.map .atom))] (λp hp=>by
  simp only[mem_singleton] at hp;subst hp;exact⟨rfl,by simp[Live.Kc],xs++da,Fq,oa.append (hr.mono hx _ _) (Wp da)⟩) (by simp)
 exact⟨.atom _,_,_,this.1,this.2,zd,hk _ _ (Ae.row hs hc (by simpa using hl))⟩
theorem Ya.LG{sT xT:Nat} [ht:Oa C.P sT el s] [hr:xh C.P el s bytes]{e2 s2:Nat} [Gd:Oa C.P xT e2 s2]{v:Value}{ms:List LV}
  (hx:e.ev x=.atom v) (ha:Ae el s v es H) (hy:GL.elems (e.ev y)=some ms) (wA:∀ v∈ms,v.cells.length=s) (Dc:(ms.flatMap LV.cells).all yq=true) (Xa:(es.length+ms.length) * bytes<=140737488355328)
  (hk:∀ v' H',Ae el s v' (es++ms) H'->K (.atom v') H'):Ya C ⟨dst,.call { callee:=.builtin .append,args:=#[x,y],argTypes:=#[sT,xT] },ty,ra,ua,g⟩ e H K X:=by
 have h0:∀ (cs:Array Bool) (args:Array Value),builtin .append #[sT,xT] ty cs args=(do Pure.pure (.value (<-Builtin.append_ #[sT,xT] ty args))):=λ_ _=>rfl
 cases ha with
 |nil=>
  by_cases Fb:ms=[];subst Fb;exact Ya.Ol rfl ⟨e2,Gd.De⟩ hx hy (hk _ _ Ae.nil);intro ρ w L h hH;have qz:0<ms.length:=List.length_pos_iff.2 Fb;obtain⟨ay,cy,new,pz,SQ,bC,ZF,dw⟩:=iK (s:=s) (h y) hy wA;rw[pz] at dw;have na:∀ w':World,(Builtin.lenOf (.slice ay ms.length cy)).run C.P w'=.ok ms.length w':=λw'=>by simp[Builtin.lenOf]
  obtain⟨ff,da,r1,r2,r3⟩:=PH (ty:=ty) (P:=C.P) (w:=w) (sT:=sT) (xT:=xT) (a:=none) (len:=0) (cap:=0) (n:=ms.length) (xv:=.slice ay ms.length cy) (old:=[]) (new:=new) (.inr ⟨_,Gd.De⟩) na (λw' hw=>dw C.P w' hw)
   (λw' _=>by simp[Builtin.firstCells]) (by simpa using Xa) zo
  rw[Qr,h0];simp only[map_toArray,jd,map_nil,Ac,Zb h hx,pz,r3,ad,Yd,nil_append,zero_add];obtain⟨lv,H',L',g1,g2,g3,g4⟩:=qoh (K:=K) (el:=el) (es:=ms) (cap:=ff) (xs:=new) (da:=da) hH.drew (bC.mono (HH w L) _ _) wA zo (by
   rw[r2,<-add_mul];congr 1;omega) λv' H' h'=>hk v' H' h'
  exact⟨lv,H',L',g1.Re,g2,g3,g4⟩
 |row hs hc hl=>
  rename_i b cap spare;intro ρ w L h hH;obtain⟨Le,Of,tI,zs,oz,EK⟩:=hH.uc _ (Mo rfl);simp only at Le Of tI oz;obtain⟨ay,cy,new,pz,SQ,bC,ZF,dw⟩:=iK (s:=s) (h y) hy wA;rw[pz] at dw;have na:∀ w':World,(Builtin.lenOf (.slice ay ms.length cy)).run C.P w'=.ok ms.length w':=λw'=>by simp[Builtin.lenOf]
  have Mk:(es.flatMap LV.cells).length=es.length * s:=RD hs;have xN:zs.length=es.length * s+spare.length:=by rw[EK.length,Ga,Mk]
  have hzt:oa w L (es.flatMap LV.cells) (zs.take (es.length * s)):=by have:=EK.take (es.length * s);rwa [take_left' Mk] at this
  rw[Qr,h0];simp only[map_toArray,jd,map_nil,Ac,Zb h hx,pz];by_cases Te:es.length+ms.length<=cap;have Hd:=CV (ty:=ty) (P:=C.P) (w:=w) (sT:=sT) (xT:=xT) (s:=s) (a:=some ⟨b,0,none⟩) (len:=es.length) (cap:=cap) (n:=ms.length) (xv:=.slice ay ms.length cy) (new:=new) (.inr ⟨_,Gd.De⟩) na (λw' hw=>dw C.P w' hw) Te;have hmul:(es.length+ms.length) * s<=cap * s:=Nat.mul_le_mul_right _ Te;rw[add_mul] at hmul;obtain⟨w',r1,r2,r3,r4,r5,r6,r7⟩:=kK (P:=C.P) (b:=b) (off:=0+es.length * s) (t:=el) (fr:=(0,0)) new 0 w zs oz zo (λj _ _=>by simp) (YP bC Dc);rw[Hd];simp only[Cf,r1,ad,Yd];have he:0+es.length * s+0=es.length * s:=by omega
  rw[he] at r7;have Nq:new.length=ms.length * s:=ZF;have ai:oa w L (spare.drop (ms.length * s)) (zs.drop (es.length * s+new.length)):=by have:=EK.drop (es.length * s+new.length);rwa [List.drop_append,List.drop_eq_nil_of_le zo,nil_append,Mk,show es.length * s+new.length-es.length * s=ms.length * s by omega] at this
  refine sQ (v:=.slice (some ⟨b,0,none⟩) (es.length+ms.length) cap) (lv:=.atom (.slice (some ⟨b,0,none⟩) (es.length+ms.length) cap)) (K:=K) (Ob:=es.flatMap LV.cells++ms.flatMap LV.cells++spare.drop (ms.length * s)) hH r2 r3 r4 r5 r6 r7 ?_ (oa.append (oa.append hzt bC) ai) zd ?_;simp only[Ga,length_take,length_drop,Mk];omega;have hb:Ae el s (.slice (some ⟨b,0,none⟩) (es++ms).length cap) (es++ms) [(b,.cells el ((es++ms).flatMap LV.cells++spare.drop (ms.length * s)))]:=Ae.row (λv hv=>by
    rcases xj hv with hv|hv;exact hs v hv;exact wA v hv) (by rw[Ga];exact Te) (by
    rw[Ga,length_drop,add_mul];omega)
  rw[Ga,flatMap_append] at hb;exact hk _ _ hb;have hold:∀ w':World,w'.heap=w.heap->(Builtin.firstCells s es.length (.slice (some ⟨b,0,none⟩) es.length cap)).run C.P w'=.ok (zs.take (es.length * s)).toArray w':=λw' hw=>by
   have:=mN (P:=C.P) (w:=w') (b:=b) (off:=0) (es.length * s) 0 #[] (zs.take (es.length * s)) (by rw[length_take];omega) (λj x' hj=>by
    have GC:zs[j]? = some x':=by rw[List.getElem?_take] at hj;split at hj;exact hj;cases hj
    simp[World.cell?,hw,oz,GC])
   simp only[Builtin.firstCells,loadCells,this];simp
  obtain⟨ff,da,r1,r2,r3⟩:=PH (ty:=ty) (P:=C.P) (w:=w) (sT:=sT) (xT:=xT) (a:=some ⟨b,0,none⟩) (len:=es.length) (cap:=cap) (n:=ms.length) (xv:=.slice ay ms.length cy) (old:=zs.take (es.length * s)) (new:=new) (.inr ⟨_,Gd.De⟩) na (λw' hw=>dw C.P w' hw) hold Xa zo;rw[r3];simp only[ad,Yd];have YC:Ta C w L []:=hH.sub (List.nil_sublist _);obtain⟨lv,H',L',g1,g2,g3,g4⟩:=qoh (K:=K) (el:=el) (s:=s) (es:=es++ms) (cap:=ff) (xs:=zs.take (es.length * s)++new) (da:=da) YC.drew (by
    rw[flatMap_append];exact(oa.append hzt bC).mono (HH w L) _ _) (λv hv=>by
    rcases xj hv with hv|hv;exact hs v hv;exact wA v hv) (by rw[Ga];omega) (by
    rw[r2,Ga,<-add_mul];congr 1;omega) λv' H' h'=>hk v' H' h'
  rw[Ga] at g3;exact⟨lv,H',L',g1.Re.wide (by simp),g2,g3,g4⟩
theorem S.LG{sT xT el s bytes:Nat} [ht:Oa C.P sT el s] [hr:xh C.P el s bytes]{e2 s2:Nat} [Gd:Oa C.P xT e2 s2]{v:Value}{es ms:List LV}{HM F:Heap}
  (hx:e.ev x=.atom v) (hp:H.Perm (HM++F)) (ha:Ae el s v es HM) (hy:GL.elems (e.ev y)=some ms) (wA:∀ v∈ms,v.cells.length=s) (Dc:(ms.flatMap LV.cells).all yq=true) (Xa:(es.length+ms.length) * bytes<=140737488355328)
  (hk:∀ v' H',Ae el s v' (es++ms) H'->K (.atom v') (F++H')):Ya C ⟨dst,.call { callee:=.builtin .append,args:=#[x,y],argTypes:=#[sT,xT] },ty,ra,ua,g⟩ e H K X:=by
 refine Ya.Zc (K:=λlv H'=>∃ v' H2,lv=.atom v'/\H'=H2++F/\Ae el s v' (es++ms) H2) (Ya.frame hp (Ya.LG hx ha hy wA Dc Xa λv' H' h=>⟨v',H',rfl,rfl,h⟩)) ?_;rintro lv H' ⟨v',H2,rfl,rfl,h⟩;exact⟨_,F++H2,vR _,⟨[],by simpa using gi⟩,hk _ _ h⟩
theorem Pure.NB{j6 s2:Nat} [Oa C.P t j6 s2]{Hv:Heap}(hx:e.ev x=.atom v)(ha:Ae el s v es Hv):Pure C ⟨dst,.call { callee:=.builtin .len,args:=#[x],argTypes:=#[t] },ty,ra,ua,g⟩ e H (int .i64 es.length):=by
 cases ha with
 |nil=>exact Pure.To (m:=0) hx
 |row=>exact Pure.To hx
end
theorem qpU(P:List LV):∀ (Q:List LV) (f:Nat) (vs:List LV),ed (P++Q) (P.length+f) vs=P++ed Q f vs:=by
 induction P with
 |nil=>intro Q f vs;simp
 |cons p P ih=>
  intro Q f vs;have:(p::P).length+f=(P.length+f)+1:=by simp only[La];omega
  rw[this];show ed (p::(P++Q)) (P.length+f+1) vs=_;rw[ed,ih];try rfl
theorem TU:∀ (Q R:List LV) (f:Nat) (vs:List LV),f+vs.length<=Q.length->ed (Q++R) f vs=ed Q f vs++R
 |[],R,0,[],_=>by cases R <;> rfl
 |[],R,0,_::_,h=>by simp at h
 |[],R,f+1,_,h=>by simp at h
 |q::Q,R,0,[],_=>rfl
 |q::Q,R,0,v::vs,h=>by have ih:=TU Q R 0 vs (by simp only[La] at h ⊢;omega);show v::ed (Q++R) 0 vs=v::(ed Q 0 vs++R);rw[ih]
 |q::Q,R,f+1,vs,h=>by
  have ih:=TU Q R f vs (by simp only[La] at h ⊢;omega);cases vs with
  |nil=>show q::ed (Q++R) f []=q::(ed Q f []++R);rw[ih]
  |cons v vs=>show q::ed (Q++R) f (v::vs)=q::(ed Q f (v::vs)++R);rw[ih]
theorem quE{ls bs:List LV}{a:LV}(hs:∀ v∈ls,v.cells.length=s)(f m:Nat)(hf:f+m<=a.cells.length) :
  ((((ls++a::bs).flatMap LV.cells++spare).drop (ls.length * s+f)).take m)=(a.cells.drop f).take m:=by
 have h1:(ls.flatMap LV.cells).length=ls.length * s:=RD hs;rw[flatMap_append,flatMap_cons,Sc,Sc,List.drop_append,List.drop_eq_nil_of_le zo,nil_append,h1,show ls.length * s+f-ls.length * s=f by omega,List.drop_append_of_le_length zo,List.take_append_of_le_length (by rw[length_drop];omega)]
theorem qsd{ls bs:List LV}{a a':LV}{vs:List LV}(hs:∀ v∈ls,v.cells.length=s)(f:Nat)(hf:f+vs.length<=a.cells.length)(ha:a'.cells=ed a.cells f vs) :
  ed ((ls++a::bs).flatMap LV.cells++spare) (ls.length * s+f) vs=(ls++a'::bs).flatMap LV.cells++spare:=by
 have h1:(ls.flatMap LV.cells).length=ls.length * s:=RD hs;rw[flatMap_append,flatMap_cons,Sc,Sc,<-h1,qpU,TU _ _ _ _ hf,<-ha,flatMap_append,flatMap_cons,Sc,Sc]
section
variable{C:Ctx}{e:Env}{H:Heap}{x y:Operand}{dst:Option Nat}{ty:TypeId}{ra:String}{ua:Array Edge}{g:Option (Nat×Bool)}{K:LV->Heap->Prop}{X:List PanicEntry->Heap->Prop}
theorem Ae.addr{HM:Heap}(h:Ae el s v es HM)(Fb:es≠[]):∃ b cap spare,v=.slice (some ⟨b,0,none⟩) es.length cap/\HM=[(b,.cells el (es.flatMap LV.cells++spare))]/\es.length<=cap/\es.length * s+spare.length=cap * s:=by
 cases h with
 |nil=>exact absurd rfl Fb
 |row hs hc hl=>exact⟨_,_,_,rfl,rfl,hc,hl⟩
end
section settle
variable{C:Ctx}{n:Nat}{Q:Jc}{e:Env}{H F:Heap}
theorem GZ{es:List LV}(hs:∀ v∈es,v.cells.length=s)(hc:es.length<=cap)(hl:es.length * s+spare.length=cap * s)(hp:H.Perm ((b,.cells el (es.flatMap LV.cells++spare))::F))(hH:Ta C w L H) :
  Ta C w (L.Kc b (es.length * s)) ((b,.row (es.length * s))::F)/\Ext w L w (L.Kc b (es.length * s))/\xb w (L.Kc b (es.length * s)) (.app b cap s es) (.slice (some ⟨b,0,none⟩) es.length cap):=by
 have Xn:=hH.perm hp;obtain⟨Le,Of,tI,xs,td,Gd⟩:=Xn.uc _ mem_cons_self;simp only at Le Of tI td Gd;have Mk:(es.flatMap LV.cells).length=es.length * s:=RD hs;have P2:xs.length=cap * s:=by rw[Gd.length,Ga,Mk];exact hl
 have hx:Ext w L w (L.Kc b (es.length * s)):=⟨Jb _,λ_ _=>rfl,λ_ _ _=>rfl,λc=>by
  unfold Live.Kc;split;rename_i h;subst h;rw[tI];exact zero_le _;exact Jb _⟩
 have Fb:∀ p∈F,p.1≠b:=λp Xk he=>by have:=Xn.nodup;rw[jd,nodup_cons] at this;exact this.1 (qk ⟨p,Xk,he⟩)
 have hL:(L.Kc b (es.length * s)) b=es.length * s:=by unfold Live.Kc;rw[zp rfl]
 refine⟨⟨Xn.base,trivial,Xn.b0,λc hc=>?_,Xn.nodup,λp Xk=>?_⟩,hx,?_⟩;unfold Live.Kc;rw[zn zo];exact Xn.wf c hc;rcases zc.1 Xk with rfl|Xk;exact⟨Le,Of,hL,xs.toArray,el,(0,0),td,by simp only[size_toArray];omega,zero_le _⟩;obtain⟨g1,g2,g3⟩:=Xn.uc p (Pc _ Xk);exact⟨g1,g2,g3.XF hx rfl (by unfold Live.Kc;rw[zn (Fb p Xk)])⟩;simp only[xb];refine⟨trivial,hc,Qc.EQ hs ?_,el,xs.length,by simp[World.shape?,td],by omega⟩;have ht:=Gd.take (es.length * s);rw[take_left' Mk] at ht;refine Rb.ph (ht.mono hx _ _) (by rw[hL,length_take];omega) λj x hj=>?_
 have GC:xs[j]? = some x:=by rw[List.getElem?_take] at hj;split at hj;exact hj;cases hj
 simp only[World.cell?,td,zero_add];simpa using GC
theorem qou{es:List LV}(hs:∀ v∈es,v.cells.length=s)(hc:es.length<=cap)(hl:es.length * s+spare.length=cap * s)(hp:H.Perm ((b,.cells el (es.flatMap LV.cells++spare))::F))(hH:Ta C w L H)
  {x:Exit} {a:Act} {w':World} (h:lift C n w (L.Kc b (es.length * s)) (keys ((b,.row (es.length * s))::F)) Q x a w'):lift C n w L (keys H) Q x a w':=by
 obtain⟨e',H',L',h1,h2,h3,h4⟩:=h;have hx:=(GZ hs hc hl hp hH).2.1;have Wf:∀ c,c∈keys ((b,ma.row (es.length * s))::F)->c∈keys H:=λc hc=>by have:=((hp.map (·.1)).mem_iff (a:=c)).2 (by simpa using hc);exact this
 have hb:b∈keys H:=qk ⟨_,hp.mem_iff.2 mem_cons_self,rfl⟩;refine⟨e',H',L',⟨h1.os,h1.tape,h1.output,hx.trans h1.ext,λc hc hn=>h1.block c hc λk=>hn (Wf c k),λc hc hn=>?_,λp Xk=>(h1.oA p Xk).imp (Wf _) id⟩,h2,h3,h4⟩;rw[h1.Qi c hc (λk=>hn (Wf c k))];unfold Live.Kc;rw[zn (λhe=>hn (by rw[he];exact hb))]
theorem qpt{a:Act}{d:Nat}{es:List LV}(hs:∀ v∈es,v.cells.length=s)(hc:es.length<=cap)(hl:es.length * s+spare.length=cap * s)(hp:H.Perm ((b,.cells el (es.flatMap LV.cells++spare))::F))
  (hd:e.s d=.atom (.slice (some ⟨b,0,none⟩) es.length cap)) (hE:yc n a e w L) (hH:Ta C w L H):yc n a (e.Kc d (.app b cap s es)) w (L.Kc b (es.length * s)):=by
 obtain⟨_,hx,hr⟩:=GZ hs hc hl hp hH;refine⟨hE.size,hE.ds,λi=>?_⟩;have hv:=hE.Gi i;simp only[Env.Kc]
 cases hb:Nat.beq i d with
 |false=>exact hv.mono hx _ _
 |true=>have hi:=Nat.eq_of_beq_eq_true hb;subst hi;rw[hd] at hv;simp only[xb] at hv;rw[hv];exact hr
theorem fb.settle(d:Nat){HM:Heap}(hm:Ae el s v es HM)(hp:H.Perm (HM++F))(hd:e.s d=.atom v)(h:∀ v' H',Acc s v' es H' F->fb C n c Q (e.Kc d v') H'):fb C n c Q e H:=by
 cases hm with
 |nil=>have:=h Yb F Acc.nil;rw[Env.ji hd] at this;exact fb.perm (by simpa using hp) this
 |row hs hc hl=>exact λa w L hE hH=>Go.wp_mono (h _ _ Acc.row a w _ (qpt hs hc hl hp hd hE hH) (GZ hs hc hl hp hH).1) λ_ _ _=>qou hs hc hl hp hH
end settle
section
variable{C:Ctx}{e:Env}{H:Heap}{x y:Operand}{dst:Option Nat}{ty:TypeId}{ra:String}{ua:Array Edge}{g:Option (Nat×Bool)}{K:LV->Heap->Prop}{X:List PanicEntry->Heap->Prop}
theorem Pure.Vf [ht:Oa C.P t el s](hx:e.ev x=.atom (.slice (some ⟨b,off,none⟩) m cap))(hy:e.ev y=int k n)(h0:0<=n)(hn:n<m)(ho:off+n.toNat * s=o) :
  Pure C ⟨dst,.indexAddr t x y,ty,ra,ua,g⟩ e H (ptr b o):=ho▸Pure.Fj hx hy h0 hn
theorem Pure.Fx{lo hi:Option Operand}{es ms:List LV} [ht:Oa C.P t el s](hx:elems (e.ev x)=some es)
  (Bs:lF e lo 0 i) (IC:lF e hi es.length j) (h0:0<=i) (h1:i<=j) (h2:j<=es.length) (hs:∀ v∈es,v.cells.length=s) (he:(es.take j.toNat).drop i.toNat=ms) :
  Pure C ⟨dst,.slice t x lo hi none,ty,ra,ua,g⟩ e H (.list ms):=he▸Pure.Tr hx Bs IC h0 h1 h2 hs
end
theorem Ae.ph{es:List LV}(hs:∀ v∈es,v.cells.length=1)(hf:es.flatMap LV.cells=es)(hm:es.length=m)(hc:m<=cap)(hl:m+spare.length=cap) :
  Ae el 1 (.slice (some ⟨b,0,none⟩) m cap) es [(b,.cells el (es++spare))]:=by
 subst hm;have:=Ae.row (el:=el) (s:=1) (b:=b) (cap:=cap) (es:=es) (spare:=spare) hs hc zo;rwa [hf] at this
section
variable{C:Ctx}{n:Nat}{Q:Jc}{e:Env}{H F:Heap}
end
section
variable{C:Ctx}{e:Env}{H:Heap}{dst:Option Nat}{ty:TypeId}{ra:String}{ua:Array Edge}{g:Option (Nat×Bool)}{K:LV->Heap->Prop}{X:List PanicEntry->Heap->Prop}{x y:Operand}
theorem U0(Ah:P.underlying kt=some (.int kd))(b:Bool)(w:World):(Instr.checkKey b 10000 kt (.int k n)).run P w=.ok () w:=by have Om:Instr.checkKey b 10000 kt (.int k n)=Instr.checkKey b (9999+1) kt (.int k n):=rfl;rw[Om,Instr.checkKey];simp only[Ac,ye Ah,ad,Yd]
theorem S.Ki{t el:TypeId}(ht:C.P.underlying t=some (.map kt el))(Ah:C.P.underlying kt=some (.int kd)){es Cp:Array MapEntry}{F:Heap}{m z:Operand}(hm:e.ev m=.atom (.map (some b)))(hx:e.ev x=int k n)(hz:e.ev z=.atom v)
  (hp:xd (b,.obj (.map es qa)) H F) (Dl:Instr.findNow (.int kd) (.int k n) es.toList 0=some none) (he:es.push { key:=.int k n,val:=v,born:=qa }=Cp) (hk:K (.atom undef) ((b,.obj (.map Cp (qa+1)))::F)):Ya C ⟨dst,.insert t m x z,ty,ra,ua,g⟩ e H K X:=by
 subst he;refine Ya.mE hp λρ w L h hH=>?_;obtain⟨Le,Of,hl,td,Gd⟩:=hH.uc _ (Mo rfl);simp only at Le Of hl td Gd;have h3:execOp ρ ⟨dst,.insert t m x z,ty,ra,ua,g⟩=(do Instr.mapUpdate t (ρ m) (ρ x) (ρ z);Pure.pure .skip):=rfl
 have hf:(Instr.findKey kt (.int k n) es.toList).run C.P w=.ok none w:=by simp only[Instr.findKey,Ac,ye Ah,ad,Dl,Yd]
 have hc:=U0 (P:=C.P) (n:=n) (k:=k) Ah false w;have hg:(getObj b).run C.P w=.ok (.map es qa) w:=by simp only[getObj,Sem.run,td]
 rw[h3,Zb h hm,Zb h hx,Zb h hz];simp only[Instr.mapUpdate,Ac,ye ht,ad,hg,hc,hf];have hs:(setObj b (.map (es.push { key:=.int k n,val:=v,born:=qa }) (qa+1))).run C.P w=.ok () (Rh w b (.map (es.push { key:=.int k n,val:=v,born:=qa }) (qa+1))):=vQ td rfl;rw[hs];exact VP (w':=Rh w b (.map (es.push { key:=.int k n,val:=v,born:=qa }) (qa+1))) hH rfl rfl rfl rfl (by simp[Rh]) (λc hc=>aN hc) (VM Of) (λ_=>zd) hk
end
section
variable{C:Ctx}{e:Env}{H:Heap}{dst:Option Nat}{ty:TypeId}{ra:String}{ua:Array Edge}{g:Option (Nat×Bool)}{x y:Operand}
theorem Pure.Vv{t el:TypeId}(ht:C.P.underlying t=some (.map kt el))(Ah:C.P.underlying kt=some (.int kd)){j:Nat}{es:Array MapEntry}(hm:e.ev x=.atom (.map (some b)))(hx:e.ev y=int k n)
  (hb:(b,ma.obj (.map es qa))∈H) (hf:Instr.findNow (.int kd) (.int k n) es.toList 0=some (some (j,v))):Pure C ⟨dst,.lookup t x y true,ty,ra,ua,g⟩ e H (.tuple [.atom v,bool true]):=λρ w L h hH=>by
 obtain⟨_,_,_,td,_⟩:=hH.uc _ hb;simp only at td;refine⟨.tuple #[v,.bool true],?_,λw' ha=>?_⟩;simp only[xb];refine⟨[v,.bool true],rfl,?_⟩;simp only[oa];exact⟨_,_,rfl,zd,_,_,rfl,rfl,rfl⟩;have hw:w'.heap[b]? = some (.map es qa):=(ha.1 _ hb).trans td;have h3:execOp ρ ⟨dst,.lookup t x y true,ty,ra,ua,g⟩=(do Pure.pure (.value (<-Instr.lookup t (ρ x) (ρ y) true))):=rfl;have hg:(getObj b).run C.P w'=.ok (.map es qa) w':=by simp only[getObj,Sem.run,hw]
 rw[h3,Zb h hm,Zb h hx];have iW:(Instr.findKey kt (.int k n) es.toList).run C.P w'=.ok (some (j,v)) w':=by simp only[Instr.findKey,Ac,ye Ah,ad,hf,Yd]
 have hc:=U0 (P:=C.P) (n:=n) (k:=k) Ah;simp only[Instr.lookup,Ac,ye ht,ad,hg,Yd,hc,iW];rfl
theorem Pure.Vt{t el:TypeId}(ht:C.P.underlying t=some (.map kt el))(Ah:C.P.underlying kt=some (.int kd)){es:Array MapEntry}(hz:∀ w,(zeroValue el).run C.P w=.ok zv w)(hm:e.ev x=.atom (.map (some b)))(hx:e.ev y=int k n)
  (hb:(b,ma.obj (.map es qa))∈H) (hf:Instr.findNow (.int kd) (.int k n) es.toList 0=some none):Pure C ⟨dst,.lookup t x y true,ty,ra,ua,g⟩ e H (.tuple [.atom zv,bool false]):=λρ w L h hH=>by
 obtain⟨_,_,_,td,_⟩:=hH.uc _ hb;simp only at td;refine⟨.tuple #[zv,.bool false],?_,λw' ha=>?_⟩;simp only[xb];refine⟨[zv,.bool false],rfl,?_⟩;simp only[oa];exact⟨_,_,rfl,zd,_,_,rfl,rfl,rfl⟩;have hw:w'.heap[b]? = some (.map es qa):=(ha.1 _ hb).trans td;have h3:execOp ρ ⟨dst,.lookup t x y true,ty,ra,ua,g⟩=(do Pure.pure (.value (<-Instr.lookup t (ρ x) (ρ y) true))):=rfl;have hg:(getObj b).run C.P w'=.ok (.map es qa) w':=by simp only[getObj,Sem.run,hw]
 rw[h3,Zb h hm,Zb h hx];have iW:(Instr.findKey kt (.int k n) es.toList).run C.P w'=.ok none w':=by simp only[Instr.findKey,Ac,ye Ah,ad,hf,Yd]
 have hc:=U0 (P:=C.P) (n:=n) (k:=k) Ah;simp only[Instr.lookup,Ac,ye ht,ad,hg,Yd,hc,iW,hz];rfl
end
section
variable{C:Ctx}{n:Nat}{Q:Jc}{e:Env}{H:Heap}
theorem xg.qc{c:Code}{H':Heap}(s:HSub H' H)(h:xg C n c Q e H'):xg C n c Q e H:=λa w L hE hH=>
 Go.wp_mono (h a w L hE (hH.qc s)) λ_ _ _ ⟨e',H2,L',h1,h2,h3,h4⟩=>⟨e',H2,L',h1.wide s.keys,h2,h3,h4⟩
theorem xg.Zc{Q':Jc}(h:xg C n c Q e H)(hq:∀ x e H,Q x e H->Q' x e H):xg C n c Q' e H:=λa w L hE hH=>
 Go.wp_mono (h a w L hE hH) λ_ _ _ ⟨e',H2,L',h1,h2,h3,h4⟩=>⟨e',H2,L',h1,h2,h3,hq _ _ _ h4⟩
theorem xg.loop{c:Code}(I:Nat->Env->Heap->Prop)(k:Nat)(h0:I k e H)
  (round:∀ k e H,I k e H->xg C n c (ve (λe' H'=>∃ m,m<k/\I m e' H') Q) e H):xg C n (.loop c) Q e H:=λa w L hE hH=>by
 refine qjA (I:=λk a' w'=>∃ e' H' L',Fr (keys H) w L w' L' H'/\Ta C w' L' H'/\yc n a' e' w' L'/\I k e' H') (n:=k) ?_ ⟨e,H,L,Fr.refl _ _ _,hH,hE,h0⟩;rintro k a1 w1 ⟨e1,H1,L1,h1,h2,h3,h4⟩;refine Go.wp_mono (round k e1 H1 h4 a1 w1 L1 h3 h2) λex a' w' hq=>?_;obtain⟨e',H',L',g1,g2,g3,g4⟩:=hq
 cases ex with
 |normal=>obtain⟨m,hm,g4⟩:=g4;exact⟨m,hm,e',H',L',h1.trans g1,g2,g3,g4⟩
 |exit id=>exact⟨e',H',L',h1.trans g1,g2,g3,g4⟩
 |goto id=>exact⟨e',H',L',h1.trans g1,g2,g3,g4⟩
 |ret=>exact⟨e',H',L',h1.trans g1,g2,g3,g4⟩
 |panic ch=>exact⟨e',H',L',h1.trans g1,g2,g3,g4⟩
 |outgrown=>exact⟨e',H',L',h1.trans g1,g2,g3,g4⟩
theorem xg.IQ(I:Nat->List (Nat×LV)->Heap->Prop)(h0:∃ k l H0,I k l H0/\sx e l/\HSub H0 H)
  (round:∀ k l H,I k l H->∀ j:Env,j.ds=e.ds->xg C n c (ve (nX I k e.ds) Q) (Env.Aj j l) H):xg C n (.loop c) Q e H:=by
 obtain⟨k,l,H0,h0,h1,h2⟩:=h0;refine xg.qc h2 (xg.loop (λk e' H'=>∃ l H0,I k l H0/\sx e' l/\HSub H0 H'/\e'.ds=e.ds) k ⟨l,H0,h0,h1,Kb _,rfl⟩ ?_);rintro k e' H' ⟨l,H0,g0,g1,g2,g3⟩;have:=round k l H0 g0 e' g3;rw[Env.ue g1.mem] at this;refine xg.qc g2 (xg.Zc this ?_);rintro ex e2 H2 hq;cases ex with
 |normal=>obtain⟨m,l',H3,r1,r2,r3,r4,r5⟩:=hq;exact⟨m,r1,l',H3,r2,r3,r4,r5⟩
 |exit id=>exact hq
 |goto id=>exact hq
 |ret=>exact hq
 |panic ch=>exact hq
 |outgrown=>exact hq
end
section
variable{C:Ctx}{e:Env}{H:Heap}{x y:Operand}{dst:Option Nat}{ty:TypeId}{ra:String}{ua:Array Edge}{g:Option (Nat×Bool)}
theorem Pure.Xe{s d el:TypeId} [hs:Oa C.P s el 1] [he:Nh C.P el .u8] [hd:Um C.P d]{l:List UInt8}(hx:elems (e.ev x)=some (Vb l)):Pure C ⟨dst,.convert s d x,ty,ra,ua,g⟩ e H (str l):=by
 by_cases Fb:l=[];subst Fb;intro ρ w L h _;obtain⟨a,cap,hv,Ue,hr⟩:=(h x).elems hx;refine⟨_,zd,λw' ha=>?_⟩;have h0:execOp ρ ⟨dst,.convert s d x,ty,ra,ua,g⟩=(do Pure.pure (.value (<-convert s d (ρ x)))):=rfl;have na:(Vb []).length=0:=rfl
 have hc:(convert s d (.slice a 0 cap)).run C.P w'=.ok (.string ⟨#[]⟩) w':=by
  rw[run_convert_bytes_string w' s d el a 0 cap hs.De he.De hd.De];cases a with
  |none=>rfl
  |some a=>exact run_bytesToString w' a 0 cap [] (run_loadCells_list (P:=C.P) w' a [] λj v hj=>by cases hj)
 rw[h0,hv,na];simp only[Ac,hc,ad,Yd];exact Pure.nD hx Fb
end
class Mz (P:Program) (t:TypeId):Prop where
 De:P.underlying t=some (.struct (P.fieldsOf t))
 apart:P.stoodInHeld t=false
 guard:P.eqGuardType P.depth t=false
 fields : ∃ f0 f1 f2 : Field, (P.fieldsOf t).toList = [f0, f1, f2] ∧ (f0.name ≠ "_" ∧ f0.offset = 0 ∧ P.underlying f0.type = some .string) ∧ (f1.name ≠ "_" ∧ f1.offset = 1 ∧ P.underlying f1.type = some (.int .i64)) ∧ (f2.name ≠ "_" ∧ f2.offset = 2 ∧ P.underlying f2.type = some (.int .i64))
def JX (P : Program) (f : Field) (o : Nat) : Bool := f.name != "_" && f.offset == o && (match P.underlying f.type with | some .string => true | _ => false)
def OT (P : Program) (f : Field) (o : Nat) : Bool := f.name != "_" && f.offset == o && (match P.underlying f.type with | some (.int .i64) => true | _ => false)
def W7(P:Program)(t:TypeId):Bool:=(match P.underlying t with|some (.struct _)=>true|_=>false) && !P.stoodInHeld t && !P.eqGuardType P.depth t && (match (P.fieldsOf t).toList with|[f0,f1,f2]=>JX P f0 0 && OT P f1 1 && OT P f2 2|_=>false)
theorem qrB  {f : Field}  (h : JX P f o = true) : f.name ≠ "_" ∧ f.offset = o ∧ P.underlying f.type = some .string := by
 unfold JX at h;simp only[sd,bne_iff_ne,beq_iff_eq] at h;obtain⟨⟨h1,h2⟩,h3⟩:=h;refine⟨h1,h2,?_⟩;split at h3
 assumption
 cases h3
theorem qnt  {f : Field}  (h : OT P f o = true) : f.name ≠ "_" ∧ f.offset = o ∧ P.underlying f.type = some (.int .i64) := by
 unfold OT at h;simp only[sd,bne_iff_ne,beq_iff_eq] at h;obtain⟨⟨h1,h2⟩,h3⟩:=h;refine⟨h1,h2,?_⟩;split at h3
 assumption
 cases h3
theorem Mz.of{t:TypeId}(h:W7 P t=true):Mz P t:=by unfold W7 at h;simp only[sd,Bool.not_eq_true'] at h;obtain⟨⟨⟨h1,h2⟩,h3⟩,h4⟩:=h;refine⟨?_,h2,h3,?_⟩;split at h1;rename_i fs hu;rw[hu];simp[Program.fieldsOf,hu];cases h1;split at h4;rename_i f0 f1 f2 hf;simp only[sd] at h4;exact⟨f0,f1,f2,hf,qrB h4.1.1,qnt h4.1.2,qnt h4.2⟩;cases h4
theorem A0{t:TypeId}{d:TypeDesc}(hu:P.underlying t=some d)(hp:d=.string∨d=.int .i64){xs:Array Value}(hx:xs[off]? = some v)(w:World):(part t xs off).run P w=.ok v w:=
 run_part_plain w (by rcases hp with rfl|rfl <;> simp[Program.plainKey,hu]) hx
theorem qnp{t:TypeId}(hu:P.underlying t=some .string)(d:Nat)(a b:List UInt8)(w:World):(Op.equalIn (d+1) t (.string ⟨a.toArray⟩) (.string ⟨b.toArray⟩)).run P w=.ok (decide (a=b)) w:=by simp only[Op.equalIn,Ac,ye hu,ad,Yd];rw[beq_toListBytes,ByteArray.toList_eq,ByteArray.toList_eq];congr 1;by_cases h:a=b <;> simp[h]
theorem RU{t:TypeId}(hu:P.underlying t=some (.int .i64))(d:Nat)(a b:Int)(w:World):(Op.equalIn (d+1) t (.int .i64 a) (.int .i64 b)).run P w=.ok (decide (a=b)) w:=by simp only[Op.equalIn,Ac,ye hu,ad,Yd,if_true];congr 1
theorem qtY{t:TypeId} [h:Mz P t](a b:List UInt8)(x y u v:Int)(w:World) :
  (Op.equal t (.agg #[.string ⟨a.toArray⟩,.int .i64 x,.int .i64 u]) (.agg #[.string ⟨b.toArray⟩,.int .i64 y,.int .i64 v])).run P w=.ok (decide (a=b/\x=y/\u=v)) w:=by
 obtain⟨f0,f1,f2,hf,⟨n0,o0,u0⟩,⟨n1,o1,u1⟩,⟨n2,o2,u2⟩⟩:=h.fields;rw[gV,run_equalIn_struct w 9999 t _ _ h.De h.apart,hf];have p0:∀ (s:List UInt8) (i j:Int),(part f0.type #[.string ⟨s.toArray⟩,.int .i64 i,.int .i64 j] f0.offset).run P w=.ok (.string ⟨s.toArray⟩) w:=λs i j=>A0 u0 (.inl rfl) (by rw[o0];try rfl) w;have p1:∀ (s:List UInt8) (i j:Int),(part f1.type #[.string ⟨s.toArray⟩,.int .i64 i,.int .i64 j] f1.offset).run P w=.ok (.int .i64 i) w:=λs i j=>A0 u1 (.inr rfl) (by rw[o1];try rfl) w;have p2:∀ (s:List UInt8) (i j:Int),(part f2.type #[.string ⟨s.toArray⟩,.int .i64 i,.int .i64 j] f2.offset).run P w=.ok (.int .i64 j) w:=λs i j=>A0 u2 (.inr rfl) (by rw[o2];try rfl) w;have e0:=qnp u0 9998 a b w;have e1:=RU u1 9998 x y w;have e2:=RU u2 9998 u v w;have q1:∀ a b:Int,(Op.equalIn 9999 f1.type (.int .i64 a) (.int .i64 b)).run P w=.ok (decide (a=b)) w:=λa b=>RU u1 9998 a b w;have q2:∀ a b:Int,(Op.equalIn 9999 f2.type (.int .i64 a) (.int .i64 b)).run P w=.ok (decide (a=b)) w:=λa b=>RU u2 9998 a b w;have q0:(Op.equalIn 9999 f0.type (.string ⟨a.toArray⟩) (.string ⟨b.toArray⟩)).run P w=.ok (decide (a=b)) w:=qnp u0 9998 a b w;simp only[Op.eqFields,n0,n1,n2,ne_eq,not_false_eq_true,if_true,Ac,p0,q0,ad]
 by_cases ha:a=b;simp only[ha,decide_true,Bool.not_true,Uk,if_false,Ac,p1,q1,ad,true_and];by_cases hx:x=y;simp only[hx,decide_true,Bool.not_true,Uk,if_false,Ac,p2,q2,ad,true_and];by_cases hu:u=v;simp[hu];simp[hu];simp[hx];simp[ha]
section
variable{C:Ctx}{e:Env}{H:Heap}{dst:Option Nat}{ty:TypeId}{ra:String}{ua:Array Edge}{g:Option (Nat×Bool)}{x y:Operand}
theorem x8(h:∀ x,xb w L (e.ev x) (ρ x)){x:Operand}{a:List UInt8}(hx:e.ev x=.agg [str a,int .i64 i,int .i64 j]):ρ x=.agg #[.string ⟨a.toArray⟩,.int .i64 i,.int .i64 j]:=by have hv:=h x;rw[hx] at hv;simp only[xb,oa,str,int] at hv;obtain⟨vs,h1,v0,r0,e0,rfl,v1,r1,e1,rfl,v2,r2,e2,rfl,e3⟩:=hv;rw[h1,e0,e1,e2,e3]
theorem Pure.ES{t:TypeId} [h:Mz C.P t]{a b:List UInt8}{k l:Int}(hx:e.ev x=.agg [str a,int .i64 i,int .i64 j])(hy:e.ev y=.agg [str b,int .i64 k,int .i64 l]) :
  Pure C ⟨dst,.binOp .eql t x y yT,ty,ra,ua,g⟩ e H (bool (decide (a=b/\i=k/\j=l))):=
 .Wa λρ _ _ hr=>⟨_,zd,λw'=>by
  have h1:=x8 hr hx;have h2:=x8 hr hy;have he:(eqGuard .eql t x y (.agg #[.string ⟨a.toArray⟩,.int .i64 i,.int .i64 j]) (.agg #[.string ⟨b.toArray⟩,.int .i64 k,.int .i64 l])).run C.P w'=.ok () w':=by simp[eqGuard,h.guard]
  have hb:binOp .eql t (.agg #[.string ⟨a.toArray⟩,.int .i64 i,.int .i64 j]) (.agg #[.string ⟨b.toArray⟩,.int .i64 k,.int .i64 l])=(do Pure.pure (.bool (<-Op.equal t (.agg #[.string ⟨a.toArray⟩,.int .i64 i,.int .i64 j]) (.agg #[.string ⟨b.toArray⟩,.int .i64 k,.int .i64 l])))):=rfl;simp only[execOp,h1,h2,he,hb,Ac,Yd,ad,qtY]⟩
theorem Pure.CL{t:TypeId} [h:Mz C.P t]{a b:List UInt8}{k l:Int}(hx:e.ev x=.agg [str a,int .i64 i,int .i64 j])(hy:e.ev y=.agg [str b,int .i64 k,int .i64 l])(h1:a=b)(h2:i=k)(h3:j=l) :
  Pure C ⟨dst,.binOp .eql t x y yT,ty,ra,ua,g⟩ e H (bool true):=by
 have:=Pure.ES (C:=C) (H:=H) (dst:=dst) (ty:=ty) (ra:=ra) (ua:=ua) (g:=g) (t:=t) (yT:=yT) hx hy;rwa [Nf ⟨h1,h2,h3⟩] at this
end
section
variable{C:Ctx}{e:Env}{H:Heap}{dst:Option Nat}{ty:TypeId}{ra:String}{ua:Array Edge}{g:Option (Nat×Bool)}{K:LV->Heap->Prop}{X:List PanicEntry->Heap->Prop}{x y:Operand}
theorem S.RE{s d el:TypeId} [hs:Um C.P s] [hd:Oa C.P d el 1] [he:Nh C.P el .u8]{l:List UInt8}(hx:e.ev x=str l)
  (hk:∀ b cap spare,l.length<=cap->K (.atom (.slice (some ⟨b,0,none⟩) l.length cap)) ((b,.Bz el (Vb l++spare))::H)):Ya C ⟨dst,.convert s d x,ty,ra,ua,g⟩ e H K X:=by
 refine Ya.Iz λρ w L h hH=>?_;have h0:execOp ρ ⟨dst,.convert s d x,ty,ra,ua,g⟩=(do Pure.pure (.value (<-convert s d (ρ x)))):=rfl;have Hd:=run_bytes_of_string (P:=C.P) w s d el ⟨l.toArray⟩ hs.De hd.De he.De;rw[uH] at Hd;obtain⟨cap,hc⟩:∃ cap,grownCap w l.length 0 el=cap:=⟨_,rfl⟩;have hle:l.length<=cap:=by rw[<-hc];simp[grownCap,Question.cut]
 rw[hc] at Hd;obtain⟨sp,Bo⟩:∃ sp:List Value,bytesRow ⟨l.toArray⟩ cap=(l.map (λb=>Value.int .u8 b.toNat)++sp).toArray:=⟨List.replicate (cap-l.length) (.int .u8 0),by simp[bytesRow,uH]⟩;rw[Bo] at Hd;obtain⟨xs,N2⟩:∃ xs:List Value,l.map (λb=>Value.int .u8 b.toNat)++sp=xs:=⟨_,rfl⟩;have Tn:∀ (w:World) (L:Live),oa w L (Vb l++sp.map .atom) xs:=λw L=>by have:=Wp (w:=w) (L:=L) xs;rw[<-N2,Je,List.map_map] at this;rw[<-N2];exact this
 rw[N2] at Hd;rw[h0,Zb h hx,Ac,Hd];have:=Uy (C:=C) hH.drew (.cells xs.toArray el (xs.toArray.size,xs.toArray.size+1)) 0 [(w.heap.size,.Bz el (Vb l++sp.map .atom))] (λp hp=>by
  simp only[mem_singleton] at hp;subst hp;refine⟨rfl,zp rfl,xs,(xs.toArray.size,xs.toArray.size+1),?_,by simp,Tn _ _⟩;exact Fq (w:=w)) (by simp)
 exact⟨_,_,_,this.1.Re,this.2,zd,hk _ _ _ hle⟩
theorem qpo{w':World}{t:TypeId}{Ob:List LV}{OA:List Value}{fr:Nat×Nat}(hH:Ta C w L [(b,.Bz t cs)])(h1:w'.os=w.os)(h2:w'.tape=w.tape)(h3:w'.output=w.output)
  (h4:w'.heap.size=w.heap.size) (h5:∀ c,c≠b->w'.heap[c]? = w.heap[c]?) (h6:w'.heap[b]? = some (.cells OA.toArray t fr)) (vL:OA.length<=fr.1) (h7:OA.length=cs.length)
  (h8:oa w L Ob OA) {v:Value} {lv:LV} (hv:xb w L lv v) (hk:K lv [(b,.Bz t Ob)]):Left C w L [(b,.Bz t cs)] w' v K:=by
 obtain⟨Le,Of,hl,xs,fr0,td,ZH,Gd⟩:=hH.uc _ (Mo rfl);simp only at Le Of hl td Gd;have hx:Ext w L w' L:=by
  refine⟨by rw[h4];exact Jb _,λc hc=>?_,λc i hi=>?_,λ_=>Jb _⟩
  by_cases he:c=b;subst he;simp only[World.shape?,td,h6];rw[size_toArray,size_toArray,h7,Gd.length];exact BF (h5 c he);exact uE
 refine⟨lv,[(b,.Bz t Ob)],L,⟨h1,h2,h3,hx,λc hc hn=>h5 c (by simpa using hn),λ_ _ _=>rfl,λp hp=>.inl (by simp only[mem_singleton] at hp;subst hp;simp)⟩,
  ⟨?_,hH.ui,by rw[h4];exact hH.b0,by rw[h4];exact hH.wf,by simp,λp hp=>?_⟩,hv.mono hx _ _,hk⟩
 exact hH.base.trans ⟨h1,h2,h3,by rw[h4];exact Jb _,λc hc=>h5 c zo⟩;simp only[mem_singleton] at hp;subst hp;exact⟨Le,by rw[h4];exact Of,hl,OA,fr,h6,vL,h8.mono hx _ _⟩
theorem S.oJ{n:Nat} [ht:Wq C.P t n]{Oo:Nat}{vs Ob:List LV}{F:Heap}(hx:e.ev x=ptr b off)(hp:xd (b,.Bz Oo cs) H F)(hy:(e.ev y).cells? = some vs)(hn:vs.length=n)(hl:off+n<=cs.length)(Dc:vs.all yq=true)
  (hc:ed cs off vs=Ob) (hk:K (.atom undef) ((b,.Bz Oo Ob)::F)):Ya C ⟨dst,.store t x y,ty,ra,ua,g⟩ e H K X:=by
 subst hc;refine Ya.mE hp λρ w L h hH=>?_;obtain⟨Le,Of,uz,xs,fr,td,ZH,Gd⟩:=hH.uc _ (Mo rfl);simp only at Le Of uz td Gd;have hr:=(h y).cells hy;have Cl:=hr.length;have P2:=Gd.length;obtain⟨i,hi,ld⟩:=ht.size;obtain⟨w',r1,r2,r3,r4,r5,r6,r7⟩:=kK (P:=C.P) (off:=off) (ρ y).cells.toList 0 w xs td zo (λj h1 h2 h3=>by omega) (YP hr Dc);have h3:execOp ρ ⟨dst,.store t x y,ty,ra,ua,g⟩=(do Instr.storeAt t (ρ x) (ρ y);Pure.pure .skip):=rfl;have hs:(ρ y).cells.size=n:=by rw[<-hn,<-Cl];simp
 rw[h3,Zb h hx];simp only[Instr.storeAt,Instr.sureAddr,Ac,Yd,ad,storeVar,Ot hi,ld,hs,ne_eq,not_true_eq_false,if_false];rw[r1];refine qpo hH r2 r3 r4 r5 r6 r7 ?_ ?_ ?_ zd hk;simp;omega;simp;omega;rw[mH cs off vs zo];rw[Cl,Nat.add_zero];exact((Gd.take off).append hr).append (Gd.drop _)
end
section shut
variable{C:Ctx}{n:Nat}{Q:Jc}{e:Env}{H F:Heap}
theorem qvW{vs:List Value}(Ue:vs.length<=cap)(hp:xd (b,.Bz el (vs.map .atom++spare)) H F)(hH:Ta C w L H) :
  Ta C w (L.Kc b vs.length) F/\Ext w L w (L.Kc b vs.length)/\xb w (L.Kc b vs.length) (.list (vs.map .atom)) (.slice (some ⟨b,0,none⟩) vs.length cap):=by
 have Xn:=hH.perm hp;obtain⟨Le,Of,hl,xs,fr,td,ZH,Gd⟩:=Xn.uc _ mem_cons_self;simp only at Le Of hl td Gd;have hx:Ext w L w (L.Kc b vs.length):=⟨Jb _,λ_ _=>rfl,λ_ _ _=>rfl,λc=>by
  unfold Live.Kc;split;rename_i h;subst h;rw[hl];exact zero_le _;exact Jb _⟩
 have Fb:∀ p∈F,p.1≠b:=λp Xk he=>by have:=Xn.nodup;rw[jd,nodup_cons] at this;exact this.1 (qk ⟨p,Xk,he⟩)
 refine⟨⟨Xn.base,trivial,Xn.b0,λc hc=>?_,?_,λp Xk=>?_⟩,hx,?_⟩;unfold Live.Kc;rw[zn zo];exact Xn.wf c hc;have:=Xn.nodup;rw[jd,nodup_cons] at this;exact this.2;obtain⟨g1,g2,g3⟩:=Xn.uc p (Pc _ Xk);exact⟨g1,g2,g3.XF hx rfl (by unfold Live.Kc;rw[zn (Fb p Xk)])⟩;have hL:(L.Kc b vs.length) b=vs.length:=by unfold Live.Kc;rw[zp rfl]
 have na:(vs.map LV.atom).length=vs.length:=Db _;have ht:oa w L (vs.map .atom) (xs.take vs.length):=by have:=Gd.take vs.length;rwa [take_left' na] at this
 have htv:xs.take vs.length=vs:=oa.atoms ht;simp only[xb];refine⟨some ⟨b,0,none⟩,cap,by rw[na],by rw[na];exact Ue,λ_=>⟨b,0,1,rfl,?_⟩⟩
 have qu:∀ l:List Value,(l.map LV.atom).flatMap LV.cells=l.map LV.atom:=λl=>by
  induction l with
  |nil=>rfl
  |cons a l ih=>simp only[jd,flatMap_cons,ih];rfl
 refine Qc.EQ (λv hv=>?_) ?_;obtain⟨a,_,rfl⟩:=Qh hv;rfl;rw[qu];refine Rb.ph (Wp vs) (by rw[hL];omega) λj x hj=>?_
 have GC:xs[j]? = some x:=by rw[<-htv,List.getElem?_take] at hj;split at hj;exact hj;cases hj
 simp only[World.cell?,td,zero_add];simpa using GC
theorem fb.EG(d:Nat){vs:List Value}(Ue:vs.length<=cap)(hp:xd (b,.Bz el (vs.map .atom++spare)) H F)(hd:e.s d=.atom (.slice (some ⟨b,0,none⟩) vs.length cap))(h:fb C n c Q (e.Kc d (.list (vs.map .atom))) F):fb C n c Q e H:=λa w L hE hH=>by
 obtain⟨k1,hx,hr⟩:=qvW Ue hp hH;have qq:yc n a (e.Kc d (.list (vs.map .atom))) w (L.Kc b vs.length):=by
  refine⟨hE.size,hE.ds,λi=>?_⟩;have hv:=hE.Gi i;simp only[Env.Kc]
  cases hb:Nat.beq i d with
  |false=>exact hv.mono hx _ _
  |true=>have hi:=Nat.eq_of_beq_eq_true hb;subst hi;rw[hd] at hv;simp only[xb] at hv;rw[hv];exact hr
 refine Go.wp_mono (h a w _ qq k1) λx a' w' hl=>?_;obtain⟨e',H',L',h1,h2,h3,h4⟩:=hl
 have Wf:∀ c,c∈keys F->c∈keys H:=λc hc=>by obtain⟨p,Xk,rfl⟩:=Qh hc;exact List.mem_map_of_mem (hp.mem_iff.2 (Pc _ Xk))
 have hb:b∈keys H:=qk ⟨_,hp.mem_iff.2 mem_cons_self,rfl⟩;refine⟨e',H',L',⟨h1.os,h1.tape,h1.output,hx.trans h1.ext,λc hc hn=>h1.block c hc λk=>hn (Wf c k),λc hc hn=>?_,λp Xk=>(h1.oA p Xk).imp (Wf _) id⟩,h2,h3,h4⟩;rw[h1.Qi c hc (λk=>hn (Wf c k))];unfold Live.Kc;rw[zn (λhe=>hn (by rw[he];exact hb))]
end shut
theorem qjZ(zs:List Value):∀ n:Nat,(List.range (n * zs.length)).map (λi=>zs.toArray[i % zs.toArray.size]!)=(List.replicate n zs).flatten
 |0=>by simp
 |n+1=>by
  rw[add_mul,Nat.one_mul,List.range_add,Je,qjZ zs n,List.replicate_succ',List.flatten_append,List.flatten_singleton,List.map_map];congr 1;refine List.ext_getElem (by simp) λi h1 h2=>?_;simp only[List.getElem_map,List.getElem_range,Function.comp,size_toArray]
  have:(n * zs.length+i) % zs.length=i:=by rw[mul_comm,Nat.mul_add_mod];exact Nat.mod_eq_of_lt h2
  rw[this];simp[h2]
section
variable{C:Ctx}{e:Env}{H:Heap}{dst:Option Nat}{ty:TypeId}{ra:String}{ua:Array Edge}{g:Option (Nat×Bool)}{K:LV->Heap->Prop}{X:List PanicEntry->Heap->Prop}{x y:Operand}
theorem S.PB{zs:List Value} [ht:Oa C.P t el s] [hr:xh C.P el s bytes] [hz:Og C.P el zs]{n:Nat}(hx:e.ev x=int k n)(hy:e.ev y=int k2 n)(Co:0<n)(hz0:0<zs.length)(hb:bytes * n<=100000000000)(hn:n<=100000000000)
  (hk:∀ v H',Ae el s v (List.replicate n (.agg (zs.map .atom))) H'->K (.atom v) (H'++H)):Ya C ⟨dst,.makeSlice t x y,ty,ra,ua,g⟩ e H K X:=by
 refine Ya.Iz λρ w L h hH=>?_;have h3:execOp ρ ⟨dst,.makeSlice t x y,ty,ra,ua,g⟩=(do Pure.pure (.value (<-Instr.makeSlice t (ρ x) (ρ y)))):=rfl;obtain⟨i,z,hi,hs,RC,Le,aC,uN⟩:=hr.out;obtain⟨i',z',Ff,bw,Il,jI⟩:=hz.out;rw[hi] at Ff;obtain rfl:=Option.some.inj Ff;rw[aC] at bw;obtain rfl:=Option.some.inj bw;have iG:zs.length=s:=by rw[<-jI,hs]
 have wn:IntKind.i64.wrap (n:Int)=n:=Nt zo;have n1:¬ ((n:Int)<0):=by omega
 have n2:¬ ((281474976710656:Int)<(i.bytes:Int) * n):=by
  rw[RC];have:((bytes * n:Nat):Int)<=100000000000:=by omega
  rw[Int.natCast_mul] at this;omega
 have n3:¬ (n * i.bytes > roomBytes):=by rw[RC,mul_comm];unfold roomBytes;omega
 have qu:∀ m,((List.replicate m (LV.agg (zs.map .atom))).flatMap LV.cells)=((List.replicate m zs).flatten).map .atom:=by
  intro m;induction m with
  |zero=>rfl
  |succ m ih=>rw[List.replicate_succ,List.replicate_succ,flatMap_cons,List.flatten_cons,Je,ih];try rfl
 have Hd:(Instr.makeSlice t (.int k n) (.int k2 n)).run C.P w=.ok (.slice (some ⟨w.heap.size,0,none⟩) n n) (World.push w (.cells ((List.replicate n zs).flatten).toArray el)):=by
  have Lx:=qjZ zs n;rw[iG] at Lx;have h0:n * s≠0:=by have:=Nat.mul_pos Co (iG▸hz0);omega
  have e1:(Array.range (n * s)).map (λi=>zs.toArray[i % zs.toArray.size]!)=((List.replicate n zs).flatten).toArray:=by rw[<-Lx,<-List.toArray_range,map_toArray]
  have A4:n≠0:=by omega
  have M3:s≠0:=by omega
  simp only[size_toArray] at e1;simp[Instr.makeSlice,ye ht.De,asInt,asIntOf,kN hi,Ot hi,hs,wn,n1,n2,n3,h0,A4,M3,zeroValue,aC,Il,newRow,askRoom,newObj,World.push,Ac,Yd];simp at e1;rw[e1];try rfl
 rw[h3,Zb h hx,Zb h hy,Ac,Hd];have hm:∀ b,Ae el s (.slice (some ⟨b,0,none⟩) n n) (List.replicate n (.agg (zs.map .atom))) [(b,.cells el (((List.replicate n zs).flatten).map .atom))]:=λb=>by have:=Ae.row (el:=el) (s:=s) (b:=b) (cap:=n) (es:=List.replicate n (.agg (zs.map .atom))) (spare:=[]) (λv hv=>by rw[List.eq_of_mem_replicate hv];simp[LV.cells,iG]) (by simp) (by simp);rw[List.length_replicate,qu,de] at this;exact this
 have:=Uy hH (.cells ((List.replicate n zs).flatten).toArray el) 0 [(w.heap.size,.cells el (((List.replicate n zs).flatten).map .atom))] (λp hp=>by
  simp only[mem_singleton] at hp;subst hp;exact⟨rfl,by simp[Live.Kc],(List.replicate n zs).flatten,Fq,Wp _⟩) (by simp)
 exact⟨_,_,_,this.1,this.2,zd,hk _ _ (hm _)⟩
end
section
variable{C:Ctx}{e:Env}{H:Heap}{dst:Option Nat}{ty:TypeId}{ra:String}{ua:Array Edge}{g:Option (Nat×Bool)}{x y:Operand}{k:IntKind}
theorem Pure.nz{i:TypeInfo}(hu:C.P.underlying t=some (.array len el))(hi:C.P.info? el=some i)(hx:e.ev x=.ref cs)(hy:e.ev y=int k n)(h0:0<=n)(hn:n<len) :
  Pure C ⟨dst,.indexAddr t x y,ty,ra,ua,g⟩ e H (.ref (cs.drop (n.toNat * i.size))):=.Wa λρ w L h=>by
 have hv:=h x;rw[hx] at hv;simp only[xb] at hv;obtain⟨b,off,hv,hr⟩:=hv;refine⟨.pointer (some ⟨b,off+n.toNat * i.size,none⟩),by simp only[xb];exact⟨b,_,rfl,hr.drop _⟩,λw'=>?_⟩;have h3:execOp ρ ⟨dst,.indexAddr t x y,ty,ra,ua,g⟩=(do Pure.pure (.value (<-Instr.indexAt t (ρ x) (ρ y)))):=rfl;rw[h3,hv,Zb h hy];have hc:0<=n/\n<(len:Int):=⟨h0,hn⟩;simp[Instr.indexAt,asIntOf,ye hu,Instr.sureAddr,hc,Ot hi,Cf]
end
class Xq (P:Program) (t:TypeId) (el len s:outParam Nat):Prop where
 hu:P.underlying t=some (.array len el)
 hs:∃ i,P.info? el=some i/\i.size=s
theorem Xq.of(h:P.underlying t=some (.array len el))(g:(P.info? el).map (·.size)=some s):Xq P t el len s:=⟨h,by
 cases hi:P.info? el with
 |none=>rw[hi] at g;cases g
 |some i=>
  rw[hi] at g;injection g with g;exact⟨i,rfl,g⟩⟩
theorem qmX{w:World}{L:Live}{pl:List (Nat×Nat)}{place:Nat->Option (Nat×Nat)}(hp:∀ i x,pl[i]? = some x->place i=some x):∀ {parts:List (Nat×LV)} {vs:List (Nat×Value)} {cells:List LV} {xs:List Value} {cs:List LV},
  oa w L cells xs->parts.map (·.1)=vs.map (·.1)->oa w L (parts.map (·.2)) (vs.map (·.2))->xD pl cells parts=some cs->∃ ys:List Value,Instr.fill place xs.toArray vs=some ys.toArray/\oa w L cs ys
 |[],[],cells,xs,cs,h,_,_,hf=>by simp only[xD,jm] at hf;subst hf;exact⟨xs,rfl,h⟩
 |[],_::_,_,_,_,_,h,_,_=>by simp at h
 |_::_,[],_,_,_,_,h,_,_=>by simp at h
 |(i,lv)::parts,(i',v)::vs,cells,xs,cs,h,h1,h2,hf=>by
  simp only[jd,List.cons.injEq] at h1;obtain⟨rfl,h1⟩:=h1;simp only[jd,oa] at h2;obtain⟨y,ys,he,h2,h3⟩:=h2;simp only[List.cons.injEq] at he;obtain⟨rfl,rfl⟩:=he;simp only[xD] at hf;split at hf;rename_i off size KO Un W2;split at hf;rename_i hc;have hr:=h2.cells W2;have hl:=hr.length;have wC:=h.length;simp only[Instr.fill,hp _ _ Un];have ld:v.cells.size=KO.length:=by simpa using hl
  rw[zn (by simp[ld,wC];omega)];have he:(v.cells.zipIdx.foldl (λcs (c,j)=>cs.setIfInBounds (off+j) c) xs.toArray)=(xs.take off++v.cells.toList++xs.drop (off+KO.length)).toArray:=by rw[<-Array.foldl_toList,Array.toList_zipIdx];have:=LU off v.cells.toList 0 xs (by simp[ld,wC];omega);rw[Nat.add_zero] at this;rw[this];simp[ld]
  rw[he];refine qmX hp ?_ h1 h3 hf;rw[mH _ _ _ hc.2];exact((h.take off).append hr).append (h.drop _);cases hf;cases hf
section
variable{C:Ctx}{e:Env}{H:Heap}{dst:Option Nat}{ty:TypeId}{ra:String}{ua:Array Edge}{g:Option (Nat×Bool)}{x y:Operand}{k:IntKind}
theorem Pure.FV [h:Xq C.P t el len s]{i q:Nat}(hx:e.ev x=ptr b off)(hy:e.ev y=int k n)(hn:n=(i:Int))(hi:i<len)(hq:off+i * s=q):Pure C ⟨dst,.indexAddr t x y,ty,ra,ua,g⟩ e H (ptr b q):=by obtain⟨ti,h1,h2⟩:=h.hs;have:=Pure.ZB (C:=C) (H:=H) (dst:=dst) (ty:=ty) (ra:=ra) (ua:=ua) (g:=g) h.hu h1 hx hy zo zo;rw[h2,hn,Int.toNat_natCast,hq] at this;exact this
theorem Pure.YF [h:Xq C.P t el len s]{i:Nat}(hx:e.ev x=.ref cs)(hy:e.ev y=int k n)(hn:n=(i:Int))(hi:i<len):Pure C ⟨dst,.indexAddr t x y,ty,ra,ua,g⟩ e H (.ref (cs.drop (i * s))):=by obtain⟨ti,h1,h2⟩:=h.hs;have:=Pure.nz (C:=C) (H:=H) (dst:=dst) (ty:=ty) (ra:=ra) (ua:=ua) (g:=g) h.hu h1 hx hy zo zo;rw[h2,hn,Int.toNat_natCast] at this;exact this
theorem Pure.qD [hA:Xq C.P t el len s]{zs:List Value} [hz:Og C.P t zs](parts:List (Nat×Operand))
  (h:xD ((List.range len).map λi=>(i * s,s)) (zs.map .atom) (parts.map λp=>(p.1,e.ev p.2))=some cs):Pure C ⟨dst,.build t parts.toArray,ty,ra,ua,g⟩ e H (.agg cs):=.Wa λρ w L hρ=>by
 obtain⟨ti,h1,h2⟩:=hA.hs;have hp:∀ i x,((List.range len).map λi=>(i * s,s))[i]? = some x->(λi=>some (i * s,s):Nat->Option (Nat×Nat)) i=some x:=λi x hx=>by rw[List.getElem?_map] at hx;by_cases hi:i<len;rw[List.getElem?_range hi] at hx;simpa using hx;rw[List.getElem?_eq_none (by simpa using hi)] at hx;cases hx
 have P3:=tM hρ (parts.map (·.2));have:=qmX hp (w:=w) (L:=L) (parts:=parts.map λp=>(p.1,e.ev p.2)) (vs:=parts.map λp=>(p.1,ρ p.2)) (Wp zs) (by simp[Function.comp_def]) (by simpa [Function.comp_def] using P3) h;obtain⟨ys,k1,k2⟩:=this;refine⟨.agg ys.toArray,by simp only[xb];exact⟨ys,rfl,k2⟩,λw'=>?_⟩;obtain⟨v,hv,hc⟩:=tU (P:=C.P) (t:=t) w';have h3:execOp ρ ⟨dst,.build t parts.toArray,ty,ra,ua,g⟩=(do Pure.pure (.value (<-Instr.build t (parts.toArray.map λ(i,x)=>(i,ρ x))))):=rfl;rw[h3];simp only[Instr.build,Ac,hv,ad,ye hA.hu w',Ot h1,h2,hc,map_toArray];rw[k1]
 try rfl
end
end Go.GL
namespace Go.ia
@[reducible] def cv(c:UInt8):Int:=(c.toNat:Int)
def me(c:UInt8):Bool:=decide (48<=cv c) && decide (cv c<=57)
def tl(c:UInt8):Bool:=decide (97<=cv c) && decide (cv c<=122)
def Ni(c:UInt8):Bool:=tl c || me c || decide (cv c=95)
def pX(c:UInt8):Bool:=!decide (cv c=10)
def sM(c:UInt8):Bool:=decide (cv c=32) || decide (cv c=9) || decide (cv c=10)
structure Tok where
 kind:Int
 text:List UInt8
 line:Int
 deriving DecidableEq,Inhabited
theorem qgE{p:UInt8->Bool}{s:List UInt8}{m:Nat}(hm:m<s.length)(h:s.takeWhile p=s.take m++(s.drop m).takeWhile p) :
  (p s[m]=true->s.takeWhile p=s.take (m+1)++(s.drop (m+1)).takeWhile p)/\(p s[m]=false->s.takeWhile p=s.take m):=by
 have h1:s.drop m=s[m]::s.drop (m+1):=List.drop_eq_getElem_cons hm;constructor;intro hp;rw[h,h1,List.takeWhile_cons_of_pos hp,List.take_succ_eq_append_getElem hm];simp only[Sc,List.singleton_append];intro hp;rw[h,h1,List.takeWhile_cons_of_neg (by simp[hp])];simp
theorem qmh{p:UInt8->Bool}{s:List UInt8}{m:Nat}(hm:s.length<=m)(h:s.takeWhile p=s.take m++(s.drop m).takeWhile p):s.takeWhile p=s.take m:=by rw[h,List.drop_eq_nil_of_le hm];simp
def Tu(s:List UInt8):Nat:=if [47,47].isPrefixOf s then (s.takeWhile pX).length else (s.takeWhile sM).length
end Go.ia
namespace Go.ia
def qyH:Tok:=⟨0,[],0⟩
abbrev Kw:=Tok×Nat×Int
def Sp(e:Int):Kw:=(qyH,0,e)
def OJ(s:List UInt8)(n:Nat):Bool:=match s[n]? with
 |some c=>tl c || decide (cv c=95)
 |none=>false
def ZJ(s:List UInt8):Kw:=
 if OJ s (s.takeWhile me).length then Sp 3 else
  match Go.Lib.parseUintB 32 (s.takeWhile me) with
  |.ok u=>(⟨1,Go.Lib.decDigits u,0⟩,(s.takeWhile me).length,0)
  |_=>Sp 2
def YJ:List UInt8->Kw
 |_::b::c::_=>if (!decide (cv c=39)) || decide (cv b<32) || decide (126<cv b) || decide (cv b=39) || decide (cv b=92) then Sp 3 else (⟨1,Go.Lib.decDigits b.toNat,0⟩,3,0)
 |_=>Sp 3
def LD:List (List UInt8):=[[97,114,114,97,121],[101,108,115,101],[102,117,110,99],[104,97,108,116],[105,102],[114,101,116,117,114,110],[118,97,114],[119,104,105,108,101]]
def kl:List (List UInt8):=[[38,38],[124,124],[61,61],[33,61],[60,61],[62,61],[60],[62],[94],[43],[45],[42],[47],[37],[33],[61],[40],[41],[123],[125],[91],[93],[44],[59]]
def LJ(s:List UInt8):Kw:=
 if 24<(s.takeWhile Ni).length then Sp 7 else (⟨if LD.contains (s.takeWhile Ni) then 3 else 2,s.takeWhile Ni,0⟩,(s.takeWhile Ni).length,0)
def DM(s:List UInt8):Kw:=match kl.find? (λx=>x.isPrefixOf s) with
 |some x=>(⟨4,x,0⟩,x.length,0)
 |none=>Sp 3
def uk(s:List UInt8):Kw:=match s with
 |[]=>Sp 3
 |c::_=>if me c then ZJ s else if tl c then LJ s else if decide (cv c=39) then YJ s else DM s
def Ik:Nat->List UInt8->Int->Except (Int×Int) (List Tok)
 |0,_,_=>.ok []
 |Aa+1,s,line=>
  if s=[] then .ok [] else
  if Tu s=0 then
   if (uk s).2.2≠0 then .error (line,(uk s).2.2)
   else (Ik Aa (s.drop (uk s).2.1) (line+((s.take (uk s).2.1).count 10:Nat))).map ({ (uk s).1 with line:=line }::·)
  else Ik Aa (s.drop (Tu s)) (line+((s.take (Tu s)).count 10:Nat))
theorem D1(p:UInt8->Bool)(s:List UInt8):(s.takeWhile p).length<=s.length:=(List.takeWhile_prefix p).length_le
theorem qmv(s:List UInt8)(h:(uk s).2.2=0):0<(uk s).2.1/\(uk s).2.1<=s.length:=by
 match s with
 |[]=>simp[uk,Sp] at h
 |c::r=>
  simp only[uk] at h ⊢;split at h <;> rename_i hc;rw[zp hc];unfold ZJ at h ⊢;split at h;simp[Sp] at h
  rename_i hw;rw[zn hw];split at h;rename_i u hu;refine⟨?_,D1 _ _⟩;rw[List.takeWhile_cons_of_pos hc];simp;simp[Sp] at h;rw[zn hc];split at h <;> rename_i hl;rw[zp hl];unfold LJ at h ⊢;split at h;simp[Sp] at h
  rename_i hw;rw[zn hw];refine⟨?_,D1 _ _⟩;rw[List.takeWhile_cons_of_pos (by simp[Ni,hl])];simp;rw[zn hl];split at h <;> rename_i hq;rw[zp hq];unfold YJ at h ⊢;split at h;split at h;simp[Sp] at h
  rename_i hx;rename_i xG;rw[zn hx,xG];simp;simp[Sp] at h;rw[zn hq];unfold DM at h ⊢;split at h;rename_i x hx;have h1:=List.find?_some hx;have h2:=List.mem_of_find?_eq_some hx;refine⟨?_,(List.isPrefixOf_iff_prefix.1 h1).length_le⟩;have:∀ x∈kl,0<x.length:=by decide
  exact this x h2;simp[Sp] at h
theorem qrs(s:List UInt8):Tu s<=s.length:=by unfold Tu;split <;> exact D1 _ _
inductive Jj (A:Type) where
 |ok (v:A) (at' op:Nat)
 |err (line e:Int)
def QM(T:List Tok)(i:Nat):Int:=match T[min i (T.length-1)]? with
 |some t=>t.line
 |none=>1
def jM{A:Type}(T:List Tok)(i:Nat):Jj A:=.err (QM T i) 3
def nf(T:List Tok)(i:Nat)(xs:List (List UInt8)):Bool:=match T[i]? with
 |some t=>(decide (t.kind=3) || decide (t.kind=4)) && xs.contains t.text
 |none=>false
def Gr(T:List Tok)(k:Int)(i op:Nat):Jj (List UInt8):=match T[i]? with
 |some t=>if t.kind=k then .ok t.text (i+1) op else jM T i
 |none=>jM T i
def yv(T:List Tok)(x:List UInt8)(i op:Nat):Jj Unit:=if nf T i [x] then .ok () (i+1) op else jM T i
def Mr(T:List Tok)(x:List UInt8)(i op:Nat):Jj Unit:=
 if nf T i [x] then (if 100<=op then .err (QM T i) 6 else .ok () (i+1) (op+1)) else jM T i
def Jj.bind{A B:Type}(r:Jj A)(f:A->Nat->Nat->Jj B):Jj B:=match r with
 |.ok v i op=>f v i op
 |.err l e=>.err l e
def Lu(s:List UInt8):Nat:=match Go.Lib.parseUintB 32 s with
 |.ok u=>u
 |_=>0
end Go.ia
namespace Go.ia
inductive Ex where
 |mk (op:List UInt8) (num:Nat) (name:List UInt8) (args:List Ex)
 deriving Inhabited
inductive Sm where
 |mk (kind:Int) (name:List UInt8) (index value:List Ex) (Ua Cb:List Sm)
 deriving Inhabited
structure Pb where
 name:List UInt8
 params:List (List UInt8)
 locals:List (List UInt8)
 body:List Sm
 deriving Inhabited
structure Ar where
 name:List UInt8
 size:Nat
 deriving Inhabited
structure Pr where
 vars:List (List UInt8)
 ba:List Ar
 funcs:List Pb
 deriving Inhabited
def yi:Nat->List (List UInt8)
 |0=>[[124,124]]
 |1=>[[38,38]]
 |2=>[[61,61],[33,61],[60],[62],[60,61],[62,61]]
 |3=>[[94]]
 |4=>[[43],[45]]
 |5=>[[42],[47],[37]]
 |_=>[]
abbrev OR(A:Type):=Option (Jj A)
def Sd{A B:Type}(r:OR A)(f:A->Nat->Nat->OR B):OR B:=match r with
 |none=>none
 |some (.ok v i op)=>f v i op
 |some (.err l e)=>some (.err l e)
def bH(T:List Tok)(i:Nat):List UInt8:=match T[i]? with
 |some t=>t.text
 |none=>[]
def VT(T:List Tok)(i:Nat):Int:=match T[i]? with
 |some t=>t.kind
 |none=>0
def gl(T:List Tok)(x:List UInt8)(i op:Nat):Jj Unit:=(yv T x i op).bind λ_ i' Qa=>.ok () i' (Qa-1)
def tH(T:List Tok)(i op:Nat):Jj Nat:=(Gr T 1 i op).bind λs i' Qa=>.ok (Lu s) i' Qa
def nA(T:List Tok):Nat->List (List UInt8)->Nat->Nat->OR (List (List UInt8))
 |0,_,_,_=>none
 |f+1,acc,i,op=>if nf T i [[44]] then Sd (some (Gr T 2 (i+1) op)) λs i' Qa=>nA T f (acc++[s]) i' Qa else some (.ok acc i op)
def dH(T:List Tok)(f:Nat)(i op:Nat):OR (List (List UInt8)):=Sd (some (Gr T 2 i op)) λs i' Qa=>nA T f [s] i' Qa
def Ag:List UInt8:=[110,101,103]
def jg:List UInt8:=[110,111,116]
def tf:List UInt8:=[110,117,109]
def Bj:List UInt8:=[101,108,101,109]
def eg:List UInt8:=[99,97,108,108]
def Uf:List UInt8:=[118,97,114]
mutual
def Eg(T:List Tok):Nat->Nat->Nat->Nat->OR Ex
 |0,_,_,_=>none
 |f+1,k,i,op=>if k=6 then Ry T f i op else Sd (Eg T f (k+1) i op) λe i' Qa=>zD T f k e i' Qa
def zD(T:List Tok):Nat->Nat->Ex->Nat->Nat->OR Ex
 |0,_,_,_,_=>none
 |f+1,k,e,i,op=>
  if nf T i (yi k) then Sd (Eg T f (k+1) (i+1) op) λe2 i' Qa=>
   if k=2 then some (.ok (.mk (bH T i) 0 [] [e,e2]) i' Qa) else zD T f k (.mk (bH T i) 0 [] [e,e2]) i' Qa
  else some (.ok e i op)
def Ry(T:List Tok):Nat->Nat->Nat->OR Ex
 |0,_,_=>none
 |f+1,i,op=>
  if nf T i [[45]] then Sd (some (Mr T [45] i op)) λ_ i' Qa=>Sd (Ry T f i' Qa) λe i' Qa=>some (.ok (.mk Ag 0 [] [e]) i' (Qa-1))
  else if nf T i [[33]] then Sd (some (Mr T [33] i op)) λ_ i' Qa=>Sd (Ry T f i' Qa) λe i' Qa=>some (.ok (.mk jg 0 [] [e]) i' (Qa-1))
  else aF T f i op
def aF(T:List Tok):Nat->Nat->Nat->OR Ex
 |0,_,_=>none
 |f+1,i,op=>
  if nf T i [[40]] then Sd (some (Mr T [40] i op)) λ_ i' Qa=>Sd (Eg T f 0 i' Qa) λe i' Qa=>Sd (some (gl T [41] i' Qa)) λ_ i' Qa=>some (.ok e i' Qa)
  else if VT T i=1 then Sd (some (tH T i op)) λn i' Qa=>some (.ok (.mk tf n [] []) i' Qa)
  else Sd (some (Gr T 2 i op)) λs i' Qa=>
   if nf T i' [[91]] then Sd (lB T f i' Qa) λe i' Qa=>some (.ok (.mk Bj 0 s [e]) i' Qa)
   else if nf T i' [[40]] then Sd (AD T f i' Qa) λl i' Qa=>some (.ok (.mk eg 0 s l) i' Qa)
   else some (.ok (.mk Uf 0 s []) i' Qa)
def lB(T:List Tok):Nat->Nat->Nat->OR Ex
 |0,_,_=>none
 |f+1,i,op=>Sd (some (Mr T [91] i op)) λ_ i' Qa=>Sd (Eg T f 0 i' Qa) λe i' Qa=>Sd (some (gl T [93] i' Qa)) λ_ i' Qa=>some (.ok e i' Qa)
def AD(T:List Tok):Nat->Nat->Nat->OR (List Ex)
 |0,_,_=>none
 |f+1,i,op=>Sd (some (Mr T [40] i op)) λ_ i' Qa=>Sd (yB T f [] i' Qa) λl i' Qa=>Sd (some (gl T [41] i' Qa)) λ_ i' Qa=>some (.ok l i' Qa)
def yB(T:List Tok):Nat->List Ex->Nat->Nat->OR (List Ex)
 |0,_,_,_=>none
 |f+1,acc,i,op=>
  if nf T i [[41]] then some (.ok acc i op)
  else Sd (some (if acc=[] then .ok () i op else yv T [44] i op)) λ_ i' Qa=>Sd (Eg T f 0 i' Qa) λe i' Qa=>yB T f (acc++[e]) i' Qa
end
def MQ:List UInt8:=[105,102]
def Y8:List UInt8:=[101,108,115,101]
def W9:List UInt8:=[119,104,105,108,101]
def qqw:List UInt8:=[114,101,116,117,114,110]
def A8:List UInt8:=[104,97,108,116]
def cP:List UInt8:=[118,97,114]
def P':List UInt8:=[97,114,114,97,121]
def Q8:List UInt8:=[102,117,110,99]
mutual
def jB(T:List Tok):Nat->Nat->Nat->OR (List Sm)
 |0,_,_=>none
 |f+1,i,op=>Sd (some (Mr T [123] i op)) λ_ i' Qa=>Sd (Sy T f [] i' Qa) λl i' Qa=>Sd (some (gl T [125] i' Qa)) λ_ i' Qa=>some (.ok l i' Qa)
def Sy(T:List Tok):Nat->List Sm->Nat->Nat->OR (List Sm)
 |0,_,_,_=>none
 |f+1,acc,i,op=>if nf T i [[125]] then some (.ok acc i op) else Sd (YE T f i op) λs i' Qa=>Sy T f (acc++[s]) i' Qa
def YE(T:List Tok):Nat->Nat->Nat->OR Sm
 |0,_,_=>none
 |f+1,i,op=>
  if nf T i [MQ] then Sd (Eg T f 0 (i+1) op) λe i' Qa=>Sd (jB T f i' Qa) λth i' Qa=>
   if nf T i' [Y8] then Sd (jB T f (i'+1) Qa) λel i' Qa=>some (.ok (.mk 3 [] [] [e] th el) i' Qa) else some (.ok (.mk 3 [] [] [e] th []) i' Qa)
  else if nf T i [W9] then Sd (Eg T f 0 (i+1) op) λe i' Qa=>Sd (jB T f i' Qa) λth i' Qa=>some (.ok (.mk 4 [] [] [e] th []) i' Qa)
  else Sd (nF T f i op) λs i' Qa=>Sd (some (yv T [59] i' Qa)) λ_ i' Qa=>some (.ok s i' Qa)
def nF(T:List Tok):Nat->Nat->Nat->OR Sm
 |0,_,_=>none
 |f+1,i,op=>
  if nf T i [qqw] then Sd (Eg T f 0 (i+1) op) λe i' Qa=>some (.ok (.mk 5 [] [] [e] [] []) i' Qa)
  else if nf T i [A8] then some (.ok (.mk 7 [] [] [] [] []) (i+1) op)
  else Sd (some (Gr T 2 i op)) λs i' Qa=>
   if nf T i' [[40]] then Sd (AD T f i' Qa) λl i' Qa=>some (.ok (.mk 6 [] [] [.mk eg 0 s l] [] []) i' Qa)
   else if nf T i' [[91]] then Sd (lB T f i' Qa) λx i' Qa=>Sd (some (yv T [61] i' Qa)) λ_ i' Qa=>Sd (Eg T f 0 i' Qa) λe i' Qa=>some (.ok (.mk 2 s [x] [e] [] []) i' Qa)
   else Sd (some (yv T [61] i' Qa)) λ_ i' Qa=>Sd (Eg T f 0 i' Qa) λe i' Qa=>some (.ok (.mk 1 s [] [e] [] []) i' Qa)
end
def Cv(T:List Tok):Nat->List (List UInt8)->Nat->Nat->OR (List (List UInt8))
 |0,_,_,_=>none
 |f+1,acc,i,op=>if nf T i [cP] then Sd (dH T f (i+1) op) λl i' Qa=>Sd (some (yv T [59] i' Qa)) λ_ i' Qa=>Cv T f (acc++l) i' Qa else some (.ok acc i op)
def xJ(T:List Tok)(f:Nat)(i op:Nat):OR Pb:=
 Sd (some (Gr T 2 i op)) λnm i' Qa=>Sd (some (Mr T [40] i' Qa)) λ_ i' Qa=>
 Sd (if nf T i' [[41]] then some (.ok [] i' Qa) else dH T f i' Qa) λps i' Qa=>Sd (some (gl T [41] i' Qa)) λ_ i' Qa=>
 Sd (some (Mr T [123] i' Qa)) λ_ i' Qa=>Sd (Cv T f [] i' Qa) λls i' Qa=>Sd (Sy T f [] i' Qa) λb i' Qa=>
 Sd (some (gl T [125] i' Qa)) λ_ i' Qa=>some (.ok ⟨nm,ps,ls,b⟩ i' Qa)
def HJ(T:List Tok)(i op:Nat):OR Ar:=
 Sd (some (Gr T 2 i op)) λnm i' Qa=>Sd (some (Mr T [91] i' Qa)) λ_ i' Qa=>Sd (some (tH T i' Qa)) λn i' Qa=>
 Sd (some (gl T [93] i' Qa)) λ_ i' Qa=>Sd (some (yv T [59] i' Qa)) λ_ i' Qa=>some (.ok ⟨nm,n⟩ i' Qa)
def yD(T:List Tok):Nat->Pr->Nat->Nat->OR Pr
 |0,_,_,_=>none
 |f+1,p,i,op=>
  if T.length<=i then some (.ok p i op)
  else if nf T i [cP] then Sd (Cv T f [] i op) λl i' Qa=>yD T f { p with vars:=p.vars++l } i' Qa
  else if nf T i [P'] then Sd (HJ T (i+1) op) λa i' Qa=>yD T f { p with ba:=p.ba++[a] } i' Qa
  else if nf T i [Q8] then Sd (xJ T f (i+1) op) λa i' Qa=>yD T f { p with funcs:=p.funcs++[a] } i' Qa
  else some (jM T i)
def vi:Ex->List UInt8|.mk o _ _ _=>o
def Hr:Ex->Nat|.mk _ n _ _=>n
def Lr:Ex->List UInt8|.mk _ _ n _=>n
def I8:Sm->Int|.mk k _ _ _ _ _=>k
def R8:Sm->List UInt8|.mk _ n _ _ _ _=>n
def V':Sm->List Ex|.mk _ _ i _ _ _=>i
def E9:Sm->List Ex|.mk _ _ _ v _ _=>v
end Go.ia
