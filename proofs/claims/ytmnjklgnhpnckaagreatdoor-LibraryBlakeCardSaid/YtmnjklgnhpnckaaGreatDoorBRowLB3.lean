import Derived.StillTail
import Derived.Recover
import Derived.Laws.StructEq
import Derived.ChangeKeysEq
import Derived.Lib.ParseIntB
import Derived.Lib.ItoaNum
import Derived.Test.YtmnjklgnhpnckaaGreatDoorBRowLB2
set_option linter.unusedVariables false
set_option linter.unusedSimpArgs false
set_option maxRecDepth 100000
set_option maxHeartbeats 4000000
open List (map_toArray map_nil)
open Nat (zero_le add_mul)
namespace Go.GL
open Go.RowKit
variable{C:Ctx}{L:Live}{P:Program}{Q:uc}{a i j n:Int}{ka:Array Edge}{b bytes cap clock el m o off s:Nat}{c:Code}{cs es:List LV}{dst:Option Nat}{k kd:IntKind}{kt t ty u xT yT:TypeId}{pos:String}{rest:List Oper}{v zv:Value}{w:World}{ρ:Operand->Value}
section
variable{C:Ctx}{e:Env}{H:Heap}{dst:Option Nat}{ty:TypeId}{pos:String}{ka:Array Edge}{g:Option (Nat×Bool)}{xT yT:TypeId}{x y:Operand}{k k2:IntKind}{a b:Int}
theorem ZL{op:BinOp}{x y:Operand}{k2:IntKind}{b:Int}(hx:ρ x=.int k a)(hy:ρ y=.int k2 b){s:Sem Value}
  (h:(binOp op xT (.int k a) (.int k2 b))=s) {v:Value} (hv:∀ w,s.run P w=.ok v w) (w:World):(execOp ρ ⟨dst,.binOp op xT x y yT,ty,pos,ka,g⟩).run P w=.ok (.value v) w:=by
 subst h;have he:eqGuard op xT x y (.int k a) (.int k2 b)=Pure.pure ():=by unfold eqGuard;cases op <;> rfl
 simp only[execOp,hx,hy,he,wc,Ed,Sc,hv]
theorem Pure.sO(hx:e.ev x=int k a)(hy:e.ev y=int k b)(hb:b≠0):Pure C ⟨dst,.binOp .quo xT x y yT,ty,pos,ka,g⟩ e H (int k (k.wrap (a.tdiv b))):=
 .Ja λ_ _ _ h=>⟨_,Zc,ZL (Rb h hx) (Rb h hy) (s:=Op.intDiv .quo k a b) (by simp only[binOp,ne_eq,not_true_eq_false,if_false]) (λ_=>by simp only[Op.intDiv,zn hb,Ed])⟩
theorem Pure.oO(hx:e.ev x=int k a)(hy:e.ev y=int k b)(hb:b≠0):Pure C ⟨dst,.binOp .rem xT x y yT,ty,pos,ka,g⟩ e H (int k (a.tmod b)):=
 .Ja λ_ _ _ h=>⟨_,Zc,ZL (Rb h hx) (Rb h hy) (s:=Op.intDiv .rem k a b) (by simp only[binOp,ne_eq,not_true_eq_false,if_false]) (λ_=>by simp only[Op.intDiv,zn hb,Ed])⟩
theorem Pure.shr(hx:e.ev x=int k a)(hy:e.ev y=int k2 b)(hb:0<=b):Pure C ⟨dst,.binOp .shr xT x y yT,ty,pos,ka,g⟩ e H (int k (a.fdiv (2 ^ min b.toNat k.bits))):=
 .Ja λ_ _ _ h=>⟨_,Zc,ZL (Rb h hx) (Rb h hy) (s:=Op.shift .shr k a k2 b) (by simp only[binOp]) (λ_=>by simp only[Op.shift,zn (Int.not_lt.2 hb),Ed])⟩
theorem Pure.jO(hx:e.ev x=int k a)(hy:e.ev y=int k2 b)(hb:0<=b):Pure C ⟨dst,.binOp .shl xT x y yT,ty,pos,ka,g⟩ e H (int k (k.wrap (a * 2 ^ min b.toNat k.bits))):=
 .Ja λ_ _ _ h=>⟨_,Zc,ZL (Rb h hx) (Rb h hy) (s:=Op.shift .shl k a k2 b) (by simp only[binOp]) (λ_=>by simp only[Op.shift,zn (Int.not_lt.2 hb),Ed])⟩
theorem Pure.orW(hx:e.ev x=int k a)(hy:e.ev y=int k b):Pure C ⟨dst,.binOp .or xT x y yT,ty,pos,ka,g⟩ e H (int k (k.wrap ((BitVec.ofInt k.bits a ||| BitVec.ofInt k.bits b).toNat:Nat))):=
 .Ja λ_ _ _ h=>⟨_,Zc,ZL (Rb h hx) (Rb h hy) (s:=Op.intBits .or k a b) (by simp only[binOp,ne_eq,not_true_eq_false,if_false]) λ_=>rfl⟩
theorem Pure.oo(hx:e.ev x=int k a)(hy:e.ev y=int k b):Pure C ⟨dst,.binOp .xor xT x y yT,ty,pos,ka,g⟩ e H (int k (k.wrap ((BitVec.ofInt k.bits a ^^^ BitVec.ofInt k.bits b).toNat:Nat))):=
 .Ja λ_ _ _ h=>⟨_,Zc,ZL (Rb h hx) (Rb h hy) (s:=Op.intBits .xor k a b) (by simp only[binOp,ne_eq,not_true_eq_false,if_false]) λ_=>rfl⟩
theorem Pure.aB{t len:Nat}{i:TypeInfo}(hu:C.P.underlying t=some (.array len el))(hi:C.P.info? el=some i){bl:Nat}(hx:e.ev x=ptr bl off)(hy:e.ev y=int k n)(h0:0<=n)(hn:n<len) :
  Pure C ⟨dst,.indexAddr t x y,ty,pos,ka,g⟩ e H (ptr bl (off+n.toNat * i.size)):=.Ja λρ w L h=>⟨_,Zc,λw'=>by
 have h3:execOp ρ ⟨dst,.indexAddr t x y,ty,pos,ka,g⟩=(do Pure.pure (.value (<-Instr.indexAt t (ρ x) (ρ y)))):=rfl;rw[h3,Rb h hx,Rb h hy];have hc:0<=n/\n<(len:Int):=⟨h0,hn⟩;simp[Instr.indexAt,asIntOf,ie hu,Instr.sureAddr,hc,zy hi,Gf]⟩
end
theorem qiV{P:Program}{md:Region.Mode}{ops:Array Oper}{Q:Exit->Act->World->Prop}{S S':World->Prop}(hS:∀ w,S' w->S w):∀ (ua:Nat) (listed:Array Bool) (a:Act) (w:World),
  wpAnyH P md ops Q S' ua listed a w->wpAnyH P md ops Q S ua listed a w
 |0,_,_,_,k=>k
 |ua+1,_,_,_,k=>⟨k.1,λi hi=>wpOp_mono (λa' w' h=>⟨hS _ h.1,qiV hS ua _ a' w' h.2⟩) (k.2 i hi)⟩
theorem Tf.any{n:Nat}{ops:Array Oper}{HF:Heap}{ua:Nat}{listed:Array Bool}{e:Env}{H:Heap}(HF':Heap)(hs:∀ p∈HF,p∈HF')(h:Eb C n ops Q HF' ua listed e H):Tf C n ops Q HF ua listed e H:=λw0 L0 a w L hL hA _ hE hH=>
 qiV (λw' AM=>⟨λp hp=>(AM.1 p (hs p hp)).trans (hA.1 p hp),λb i hi=>(AM.2 b i (Nat.lt_of_lt_of_le hi (hL b))).trans (hA.2 b i hi)⟩) _ _ _ _ (h a w L hE hH)
def LS(C:Ctx)(n:Nat)(ops:Array Oper)(K:Env->Prop)(rest:List Oper)(e:Env)(H:Heap):Prop:=
 ∀ a w L,nc n a e w L->Ma C w L H->wpStill C.P ops w (λa'=>∃ e',nc n a' e' w L/\K e') rest a
section still
variable{C:Ctx}{n:Nat}{ops:Array Oper}{K:Env->Prop}{e:Env}{H:Heap}{dst:Option Nat}{op:Op}{ty:TypeId}{pos:String}{ka:Array Edge}{rest:List Oper}
theorem LS.nil(h:K e):LS C n ops K [] e H:=λ_ _ _ hE _=>⟨e,hE,h⟩
theorem qtZ{Q:Act->Prop}{a:Act}{o:Oper}(hg:Region.wanted o (yielded ops a.tmps)=true)(h:(execOp a.eval o).run P w=.ok (.value v) w)(k:wpStill P ops w Q rest (a.put o.dst v)):wpStill P ops w Q (o::rest) a:=by unfold wpStill;rw[zp hg];unfold Oper.still;rw[h];exact⟨rfl,k⟩
theorem lP{lv:LV}(h:Pure C ⟨dst,op,ty,pos,ka,none⟩ e H lv)(hd:Fl n dst)(k:LS C n ops K rest (e.put dst lv) H):LS C n ops K (⟨dst,op,ty,pos,ka,none⟩::rest) e H:=λa w L hE hH=>by obtain⟨v,hv,hr⟩:=h a.eval w L hE.ev hH;exact qtZ (by simp[Region.wanted]) (hr w (Zp.refl _ _ _)) (k _ w L (hE.put hd hv) hH)
theorem PZ{P:Program}{w:World}{Q Q':Act->Prop}(h:∀ a,Q a->Q' a):∀ (l:List Oper) (a:Act),wpStill P ops w Q l a->wpStill P ops w Q' l a
 |[],a,k=>h a k
 |o::l,a,k=>by unfold wpStill at k ⊢;split at k;rename_i hw;rw[zp hw];exact Oper.still_mono (λa=>PZ h l a) k;rename_i hw;rw[zn hw];exact PZ h l _ k
theorem Qa.tail [hm:Qr C.P] {id:Nat} {l:List Oper}  (m:Nat) (hB:Region.lexTailB .any l.toArray m=true) (h:LS C n l.toArray (λe'=>wa C n l.toArray Q (l.drop m) e' H) (l.take m) e H):Qa C n (.region id l.toArray true) Q e H:=λa w L hE hH=>by refine wp_region_still_tail m hm.out hB ?_;refine PZ (λa' h'=>?_) _ _ (h a w.drew L (hE.mono (HG w L)) hH.drew);obtain⟨e',G5,hk⟩:=h';refine GA (λx a2 w' hq=>?_) _ _ _ (hk a' w.drew L G5 hH.drew);obtain⟨e2,H',L',h1,h2,h3,h4⟩:=hq;exact⟨e2,H',L',h1.Ve,h2,h3,h4⟩
end still
@[reducible] def yW(b n:Nat):LV:=.atom (.slice (some ⟨b,0,none⟩) n n)
section
variable{C:Ctx}{e:Env}{H:Heap}{dst:Option Nat}{ty:TypeId}{pos:String}{ka:Array Edge}{g:Option (Nat×Bool)}{K:LV->Heap->Prop}{X:List PanicEntry->Heap->Prop}{x y:Operand}
theorem qrZ(n:Nat)(z:Value):(Array.range n).map (λi=>(if n * 1=0 then #[] else #[z])[i % (if n * 1=0 then (#[]:Array Value) else #[z]).size]!)=(List.replicate n z).toArray:=by rcases Nat.eq_zero_or_pos n with rfl|hn;simp;rw[zn zo];apply Array.ext;simp;intro i h1 h2;simp[Nat.mod_one]
theorem S.Uw{t:Nat} [ht:Ea C.P t el 1] [hr:Kh C.P el 1 bytes] [hz:Dh C.P el [zv]]{n:Nat}{k2:IntKind}(hx:e.ev x=int k n)(hy:e.ev y=int k2 n)(hb:bytes * n<=100000000000)(hn:n<=100000000000)
  (hk:∀ b,K (yW b n) ((b,.cells el (List.replicate n (.atom zv)))::H)):Ra C ⟨dst,.makeSlice t x y,ty,pos,ka,g⟩ e H K X:=by
 refine Ra.mD λρ w L h hH=>?_;have h3:execOp ρ ⟨dst,.makeSlice t x y,ty,pos,ka,g⟩=(do Pure.pure (.value (<-Instr.makeSlice t (ρ x) (ρ y)))):=rfl;obtain⟨i,z,hi,hs,hby,Ze,pQ,qV⟩:=hr.out;obtain⟨i',z',xi,TE,Kn,CQ⟩:=hz.out;rw[hi] at xi;obtain rfl:=Option.some.inj xi;rw[pQ] at TE;obtain rfl:=Option.some.inj TE;have wn:IntKind.i64.wrap (n:Int)=n:=xy zo;have n1:¬ ((n:Int)<0):=by omega
 have n2:¬ ((281474976710656:Int)<(i.bytes:Int) * n):=by
  rw[hby];have:((bytes * n:Nat):Int)<=100000000000:=by omega
  rw[Int.natCast_mul] at this;omega
 have n3:¬ (n * i.bytes > roomBytes):=by rw[hby,Nat.mul_comm];unfold roomBytes;omega
 have Ge:(Instr.makeSlice t (.int k n) (.int k2 n)).run C.P w=.ok (.slice (some ⟨w.heap.size,0,none⟩) n n) (World.push w (.cells (List.replicate n zv).toArray el)):=by
  have YJ:=qrZ n zv;by_cases h0:n=0
  ·subst h0;have wz:IntKind.i64.wrap 0=0:=xy zo;simp[Instr.makeSlice,ie ht.De,asInt,asIntOf,kV hi,zy hi,hs,wz,newRow,askRoom,roomBytes,newObj,World.push,wc,Ed];have e0:(Array.range 0).map (λ_=>(default:Value))=#[]:=by simp
   rw[e0];try rfl
  simp only[Nat.mul_one,h0,if_false] at YJ;simp[Instr.makeSlice,ie ht.De,asInt,asIntOf,kV hi,zy hi,hs,wn,n1,n2,n3,h0,zeroValue,pQ,Kn,newRow,askRoom,newObj,World.push,wc,Ed,YJ];simp at YJ;rw[YJ];try rfl
 rw[h3,Rb h hx,Rb h hy,wc,Ge];have Qv:la w L (List.replicate n (.atom zv)) (List.replicate n zv):=by have:=Wq (w:=w) (L:=L) (List.replicate n zv);rwa [List.map_replicate] at this
 have Cn:=KG hH.wf (.cells (List.replicate n zv).toArray el) 0;have:=DC hH (.cells (List.replicate n zv).toArray el) 0 [(w.heap.size,.cells el (List.replicate n (.atom zv)))] (λp hp=>by
  simp only[List.mem_singleton] at hp;subst hp;exact⟨rfl,by simp[Live.Sd],List.replicate n zv,xu,Qv.mono Cn _ _⟩) (by simp)
 exact⟨_,_,_,this.1,this.2,Zc,hk _⟩
theorem Pure.ZA{t:Nat} [ht:Ea C.P t el s](hx:e.ev x=.atom (.slice (some ⟨b,off,none⟩) m cap))(hy:e.ev y=int k n)(h0:0<=n)(hn:n<m) :
  Pure C ⟨dst,.indexAddr t x y,ty,pos,ka,g⟩ e H (ptr b (off+n.toNat * s)):=.Ja λρ w L h=>by
 obtain⟨i,hi,gd⟩:=ht.size;refine⟨_,Zc,λw'=>?_⟩;have h3:execOp ρ ⟨dst,.indexAddr t x y,ty,pos,ka,g⟩=(do Pure.pure (.value (<-Instr.indexAt t (ρ x) (ρ y)))):=rfl;rw[h3,Rb h hx,Rb h hy];have hc:0<=n/\n<(m:Int):=⟨h0,hn⟩;simp[Instr.indexAt,asIntOf,ie ht.De,hc,zy hi,Gf,gd]
theorem Pure.Ru{t:Nat} [Ea C.P t el s]{a:Option Addr}(hx:e.ev x=.atom (.slice a m cap)):Pure C ⟨dst,.call { callee:=.builtin .len,args:=#[x],argTypes:=#[t] },ty,pos,ka,g⟩ e H (int .i64 m):=
 .Ja λρ _ _ h=>⟨_,Zc,λw'=>by
  have hu:=ie (P:=C.P) (Ea.De (t:=t)) w';rw[Vq,dV];simp[Builtin.len_,hu,goInt,Rb h hx]⟩
end
section shut
variable{C:Ctx}{n:Nat}{Q:uc}{e:Env}{H F:Heap}
end shut
section
variable{C:Ctx}{n:Nat}{ops:Array Oper}{Q:uc}{HF:Heap}{ua:Nat}{listed:Array Bool}{e:Env}{H F:Heap}{i:Nat}{dst:Option Nat}{op:Op}{ty:TypeId}{pos:String}{ka:Array Edge}
theorem t2(i j:Nat)(hr:Region.ready .any ops listed=[i,j])(h:Rh C n ops Q HF ua listed e H i)(h':Rh C n ops Q HF ua listed e H j):Tf C n ops Q HF (ua+1) listed e H:=Tp hr h h'
end
section
variable{C:Ctx}{e:Env}{H:Heap}{dst:Option Nat}{ty:TypeId}{pos:String}{ka:Array Edge}{g:Option (Nat×Bool)}{K:LV->Heap->Prop}{X:List PanicEntry->Heap->Prop}{x y:Operand}
theorem qkl{t:Nat} [h:Ea P t el s](a:Option Addr)(n m:Nat)(w:World):(Op.equal t (.slice a n m) (.slice none 0 0)).run P w=.ok a.isNone w:=by rw[PU,Op.equalIn];try cases a <;> simp only[wc,ie h.De,Sc,Ed] <;> rfl
theorem S.kA{t yT:Nat} [ht:Ea C.P t el s](hx:elems (e.ev x)=some es)(hk:∀ b,(b=true->es=[])->K (bool b) H):Ra C ⟨dst,.binOp .eql t x (.const (.slice none 0 0)) yT,ty,pos,ka,g⟩ e H K X:=λρ w L h hH=>by
 obtain⟨a,cap,hv,hc,hr⟩:=(h x).elems hx;have h2:=Rb h (x:=.const (.slice none 0 0)) rfl;have he:eqGuard .eql t x (.const (.slice none 0 0)) (.slice a es.length cap) (.slice none 0 0)=Pure.pure ():=by simp[eqGuard]
 have hb:binOp .eql t (.slice a es.length cap) (.slice none 0 0)=(do Pure.pure (.bool (<-Op.equal t (.slice a es.length cap) (.slice none 0 0)))):=rfl;have Ge:(execOp ρ ⟨dst,.binOp .eql t x (.const (.slice none 0 0)) yT,ty,pos,ka,g⟩).run C.P w=.ok (.value (.bool a.isNone)) w:=by simp only[execOp,hv,h2,he,hb,wc,Ed,Sc,qkl]
 rw[Ge];refine⟨bool a.isNone,H,L,Fr.refl _ _ _,hH,Zc,hk _ λhn=>?_⟩
 cases a with
 |some a=>cases hn
 |none=>
  cases es with
  |nil=>rfl
  |cons v es=>obtain⟨b,off,k,h3,_⟩:=hr (by simp);cases h3
theorem Pure.mA{t:Nat} [Ea C.P t el s]{a:Option Addr}(hx:e.ev x=.atom (.slice a m cap)):Pure C ⟨dst,.call { callee:=.builtin .cap,args:=#[x],argTypes:=#[t] },ty,pos,ka,g⟩ e H (int .i64 cap):=
 .Ja λρ _ _ h=>⟨_,Zc,λw'=>by
  have hu:=ie (P:=C.P) (Ea.De (t:=t)) w';have h0:∀ (cs:Array Bool) (args:Array Value),builtin .cap #[t] ty cs args=(do Pure.pure (.value (<-Builtin.cap_ #[t] ty args))):=λ_ _=>rfl;rw[Vq,h0]
  simp[Builtin.cap_,hu,goInt,Rb h hx]⟩
theorem Pure.Sk{t:Nat} [ht:Ea C.P t el s]{a:Option Addr}{n:Nat}{hi:Operand}(hx:e.ev x=.atom (.slice a m cap))(hh:e.ev hi=int k n)(hn:n<=cap) :
  Pure C ⟨dst,.slice t x none (some hi) none,ty,pos,ka,g⟩ e H (.atom (.slice a n cap)):=.Ja λρ w L h=>by
 obtain⟨ti,Q1,gd⟩:=ht.size;refine⟨_,Zc,λw'=>?_⟩;have hb:=WZ (P:=C.P) (w':=w') (len:=m) (cap:=cap) (lo:=none) (hi:=some hi) (i:=0) (j:=n) h true rfl ⟨k,hh⟩ zo zo zo;have h3:execOp ρ ⟨dst,.slice t x none (some hi) none,ty,pos,ka,g⟩=(do Pure.pure (.value (<-Instr.sliceAt t (ρ x) none (some (ρ hi)) none))):=rfl;rw[h3,Rb h hx];simp only[Option.map_none,Option.map_some] at hb;simp only[Instr.sliceAt,Instr.slice,wc,ie (P:=C.P) ht.De w',Sc,Ed,hb,zy Q1,gd]
 have ha:∀ a:Addr,a.add 0=a:=λa=>by obtain⟨b,o,sp⟩:=a;unfold Addr.add;cases sp <;> simp
 simp[ha]
theorem S.jC{sT xT:Nat} [ht:Ea C.P sT el 1] [hr:Kh C.P el 1 bytes] [hz:Dh C.P el [zv]] [S3:ai C.P xT .i64]{n:Nat}(hx:e.ev x=Ob)(hy:e.ev y=int .i64 n)(hn:0<n)(Na:n * bytes<=140737488355328)
  (hk:∀ b cap,n<=cap->K (.atom (.slice (some ⟨b,0,none⟩) n cap)) ((b,.cells el (List.replicate cap (.atom zv)))::H)) :
  Ra C ⟨dst,.call { callee:=.builtin .append,args:=#[x,y],argTypes:=#[sT,xT] },ty,pos,ka,g⟩ e H K X:=by
 refine Ra.mD λρ w L h hH=>?_;have h0:∀ (cs:Array Bool) (args:Array Value),builtin .append #[sT,xT] ty cs args=(do Pure.pure (.value (<-Builtin.append_ #[sT,xT] ty args))):=λ_ _=>rfl;obtain⟨i,z,hi,hs,hb,Ze,pQ,qV⟩:=hr.out;obtain⟨i',z',xi,TE,Kn,CQ⟩:=hz.out;rw[hi] at xi;obtain rfl:=Option.some.inj xi;rw[pQ] at TE;obtain rfl:=Option.some.inj TE;have hmul:n<=n * bytes:=Nat.le_mul_of_pos_right _ Ze;have wn:IntKind.i64.wrap (n:Int)=n:=xy zo;have n1:¬ ((n:Int)<0):=by omega
 have n2:¬ ((281474976710656:Int)<(n:Int) * (i.bytes:Int)):=by
  rw[hb];have:((n * bytes:Nat):Int)<=140737488355328:=by omega
  rw[Int.natCast_mul] at this;omega
 have DK:¬ (9223372036854775807<(n:Int)):=by omega
 have de:=growslice_fits (bytes:=bytes) (need:=n) (old:=0) hn Na;have EK:¬ (281474976710656<Builtin.nextslicecap n 0 * i.bytes):=by rw[hb];omega
 have Mt:¬ n=0:=by omega
 have My:∀ m,(Builtin.zeroCells #[zv] m)=(List.replicate m zv).toArray:=λm=>by unfold Builtin.zeroCells;apply Array.ext;simp;intro j h1 h2;simp[Nat.mod_one]
 have Jh:n<=grownCap w n 0 el:=by simp[grownCap,Question.cut]
 have Ge:(Builtin.append_ #[sT,xT] ty #[.slice none 0 0,.int .i64 n]).run C.P w=.ok (.slice (some ⟨w.heap.size,0,none⟩) n (grownCap w n 0 el)) (World.push w.drew (.cells (List.replicate (grownCap w n 0 el) zv).toArray el)):=by simp[Builtin.append_,ie ht.De,ie S3.De,sizeOf,typeInfo,zeroValue,hi,hs,pQ,Kn,asInt,asIntOf,wn,n1,n2,Mt,DK,EK,Question.forced,newRow,grownCap,Builtin.firstCells,My];show World.push w.drew _=World.push w.drew _;congr 2;apply Array.ext';have:=Jh;unfold grownCap at this;congr 2;omega
 rw[Vq,h0];simp only[map_toArray,jd,map_nil,wc,Rb h hx,Rb h hy,Ge,Sc,Ed];have hHd:=hH.drew;have Qv:la w.drew L (List.replicate (grownCap w n 0 el) (.atom zv)) (List.replicate (grownCap w n 0 el) zv):=by have:=Wq (w:=w.drew) (L:=L) (List.replicate (grownCap w n 0 el) zv);rwa [List.map_replicate] at this
 have Cn:=KG hHd.wf (.cells (List.replicate (grownCap w n 0 el) zv).toArray el) 0;have:=DC hHd (.cells (List.replicate (grownCap w n 0 el) zv).toArray el) 0 [(w.heap.size,.cells el (List.replicate (grownCap w n 0 el) (.atom zv)))] (λp hp=>by
  simp only[List.mem_singleton] at hp;subst hp;exact⟨rfl,by simp[Live.Sd],List.replicate (grownCap w n 0 el) zv,xu,Qv.mono Cn _ _⟩) (by simp)
 exact⟨_,_,_,this.1.Ve,this.2,Zc,hk _ _ Jh⟩
end
section opened
variable{C:Ctx}{n:Nat}{Q:uc}{e:Env}{H F:Heap}
theorem qvY(hp:zd (b,.cells el cs) H F)(hH:Ma C w L H)(hl:∀ k cap,cap * k<=cs.length->∃ e s,w.shape? b=some (e,s)/\cap * k<=s):Ma C w L ((b,.row 0)::F):=by have xF:=hH.perm hp;obtain⟨Ze,nh,WQ,xs,ae,je⟩:=xF.qc _ List.mem_cons_self;simp only at Ze nh WQ ae je;refine⟨xF.base,xF.Bi,xF.b0,xF.wf,xF.nodup,λp Jz=>?_⟩;rcases lc.1 Jz with rfl|Jz;exact⟨Ze,nh,WQ,_,_,_,ae,zero_le _,zero_le _⟩;exact xF.qc p (Gc _ Jz)
theorem qpI(hp:zd (b,.cells el cs) H F)(hH:Ma C w L H):w.shape? b=some (el,cs.length):=by have xF:=hH.perm hp;obtain⟨Ze,nh,WQ,xs,ae,je⟩:=xF.qc _ List.mem_cons_self;simp only at ae;simp only[World.shape?,ae];rw[List.size_toArray,je.length]
theorem wa.QD{ops:Array Oper}(d k:Nat)(hp:zd (b,.cells el cs) H F)(hd:e.s d=.atom (.slice (some ⟨b,0,none⟩) 0 cap))(hc:cap * k<=cs.length)(h:wa C n ops Q rest (e.Sd d (.app b cap k [])) ((b,.row 0)::F)):wa C n ops Q rest e H:=λa w L hE hH=>by
 have hs:=qpI hp hH;have hk:∀ x,x∈keys ((b,ga.row 0)::F)->x∈keys H:=λx hx=>by have:=((hp.map (·.1)).mem_iff (a:=x)).2 (by simpa using hx);exact this
 refine GA (λ_ _ _=>NU hk) _ _ _ (h a w L ⟨hE.size,hE.ds,λi=>?_⟩ (qvY hp hH λk2 aS h2=>⟨_,_,hs,h2⟩));have hv:=hE.dj i;simp only[Env.Sd]
 cases hb:Nat.beq i d with
 |false=>exact hv
 |true=>have hi:=Nat.eq_of_beq_eq_true hb;subst hi;rw[hd] at hv;simp only[wb] at hv;rw[hv];show wb w L (.app b cap k []) _;simp only[wb];refine⟨rfl,zero_le _,?_,_,_,hs,hc⟩;simp only[cd]
end opened
section
variable{C:Ctx}{e:Env}{H:Heap}{dst:Option Nat}{ty:TypeId}{pos:String}{ka:Array Edge}{g:Option (Nat×Bool)}{K:LV->Heap->Prop}{X:List PanicEntry->Heap->Prop}{x y z:Operand}{k:IntKind}
theorem qv4(a b:Nat):(if (a:Int)<(b:Int) then (b:Int) else (a:Int))=((max a b:Nat):Int):=by split <;> omega
theorem Pure.max2{a b:Nat}(hx:e.ev x=int k (a:Int))(hy:e.ev y=int k (b:Int)){t u:TypeId}:Pure C ⟨dst,.call { callee:=.builtin .max,args:=#[x,y],argTypes:=#[t,u] },ty,pos,ka,g⟩ e H (int k ((max a b:Nat):Int)):=
 .Ja λρ _ _ h=>⟨_,Zc,λw'=>by
  have h0:∀ (cs:Array Bool) (args:Array Value),builtin .max #[t,u] ty cs args=(do Pure.pure (.value (<-Builtin.max_ #[t,u] ty args))):=λ_ _=>rfl;rw[Vq,h0];have:=qv4 a b;simp[Builtin.max_,Builtin.max2,Rb h hx,Rb h hy]
  split <;> omega⟩
theorem Pure.J0{a c:Nat}(hx:e.ev x=int k (a:Int))(hy:e.ev y=int k (b:Int))(hz:e.ev z=int k (c:Int)){v:TypeId}:Pure C ⟨dst,.call { callee:=.builtin .max,args:=#[x,y,z],argTypes:=#[t,u,v] },ty,pos,ka,g⟩ e H (int k ((max (max a b) c:Nat):Int)):=
 .Ja λρ _ _ h=>⟨_,Zc,λw'=>by
  have h0:∀ (cs:Array Bool) (args:Array Value),builtin .max #[t,u,v] ty cs args=(do Pure.pure (.value (<-Builtin.max_ #[t,u,v] ty args))):=λ_ _=>rfl;rw[Vq,h0];simp[Builtin.max_,Builtin.max2,Rb h hx,Rb h hy,Rb h hz]
  repeat' split
  all_goals omega⟩
theorem Pure.pj{A B:Int}(a b:Nat)(hx:e.ev x=int k A)(hy:e.ev y=int k B)(ha:A=(a:Int))(hb:B=(b:Int)):Pure C ⟨dst,.call { callee:=.builtin .max,args:=#[x,y],argTypes:=#[t,u] },ty,pos,ka,g⟩ e H (int k ((max a b:Nat):Int)):=by subst ha hb;exact Pure.max2 hx hy
theorem Pure.mq{A B D:Int}(a b d:Nat)(hx:e.ev x=int k A)(hy:e.ev y=int k B)(hz:e.ev z=int k D)(ha:A=(a:Int))(hb:B=(b:Int))(hd:D=(d:Int)){v:TypeId}:Pure C ⟨dst,.call { callee:=.builtin .max,args:=#[x,y,z],argTypes:=#[t,u,v] },ty,pos,ka,g⟩ e H (int k ((max (max a b) d:Nat):Int)):=by subst ha hb hd;exact Pure.J0 hx hy hz
theorem Pure.RR{b:Int}(h:a=b)(hx:e.ev x=int k a)(hy:e.ev y=int k b):Pure C ⟨dst,.binOp .eql xT x y yT,ty,pos,ka,g⟩ e H (bool true):=by have:=Pure.eql (C:=C) (H:=H) (dst:=dst) (ty:=ty) (pos:=pos) (ka:=ka) (g:=g) (xT:=xT) (yT:=yT) hx hy;rwa [Vg h] at this
theorem Pure.SR{b:Int}(h:¬ a=b)(hx:e.ev x=int k a)(hy:e.ev y=int k b):Pure C ⟨dst,.binOp .eql xT x y yT,ty,pos,ka,g⟩ e H (bool false):=by have:=Pure.eql (C:=C) (H:=H) (dst:=dst) (ty:=ty) (pos:=pos) (ka:=ka) (g:=g) (xT:=xT) (yT:=yT) hx hy;rwa [decide_eq_false h] at this
def Sn(m:KV)(l:List (List UInt8)):Prop:=∀ k,db m k=if k∈l then some (bool true) else none
theorem Sn.nil:Sn [] []:=λk=>by simp[db]
theorem Sn.add{m:KV}{l:List (List UInt8)}(h:Sn m l)(s:List UInt8):Sn (rc m s (bool true)) (l++[s]):=λk=>by
 rw[qm,h k];by_cases h1:s=k;rw[zp h1,zp (by rw[h1];simp)];rw[zn h1];by_cases h2:k∈l;rw[zp h2,zp (List.mem_append_left _ h2)];rw[zn h2,zn (by
  intro h3;rcases vj h3 with h3|h3;exact h2 h3;exact h1 (cj h3).symm)]
theorem Pure.lg{el:TypeId} [h:On C.P t el zv (bool false)]{m:KV}{l:List (List UInt8)}{s:List UInt8}(hm:e.ev x=.atom (.map (some b)))(hx:e.ev y=str s)(hb:(b,.map (ye m) clock)∈H)(hs:Sn m l) :
  Pure C ⟨dst,.lookup t x y false,ty,pos,ka,g⟩ e H (bool (decide (s∈l))):=by
 by_cases h1:s∈l;rw[Vg h1];exact Pure.nH hm hx hb (by rw[hs s,zp h1]);rw[decide_eq_false h1];exact Pure.MJ hm hx hb (by rw[hs s,zn h1])
end
def qn(C:Ctx)(f:FuncId)(args:List LV)(u:FrameMode)(H:Heap)(R:FrameMode->Heap->Prop):Prop:=
 ∀ (vs:List Value) w L,la w L args vs->Ma C w L H->CallsD C.P f vs.toArray u w λe u' w'=>(∃ v,e=.returned v)/\Iq C w L H w' (R u')
def RO(C:Ctx)(n:Nat)(rs:List ResultVar)(R:re->Heap->Prop):List Deferred->FrameMode->Env->Heap->Prop
 |[],.returning,e,H=>∃ vs H',Zl C n e H rs vs/\HSub H' H/\R (.ret (qh vs)) H'
 |[],.panicking ch,_,H=>∃ H',HSub H' H/\R (.panic ch) H'
 |[],.run,_,_=>False
 |d::ds,u,e,H=>u≠.run/\∃ f cap H1 F,d={ target:=.fn (.func f) cap,args:=#[] }/\Gb C.P f/\H.Perm (H1++F) /\
   qn C f (cap.toList.map .atom) u H1 λu' H'=>RO C n rs R ds (settle u') e (H'++F)
def ZK(C:Ctx)(n:Nat)(w:World)(L:Live)(K:List Nat)(Q:uc):Exit->Act->World->Prop:=
 λx a' w'=>∃ e' H' L',Fr K w L w' L' H'/\Ma C w' L' H'/\nc n a' e' w' L'/\Q x e' H'
theorem qkf{n:Nat}{w1:World}{L1:Live}{K:List Nat}{H1:Heap}(f:Fr K w L w1 L1 H1){x:Exit}{a:Act}{w':World}
  (k:ZK C n w1 L1 (keys H1) Q x a w'):ZK C n w L K Q x a w':=
 let ⟨e',H',L',h1,h2,h3,h4⟩:=k
 ⟨e',H',L',f.trans h1,h2,h3,h4⟩
def Ii(C:Ctx)(n:Nat)(ops:Array Oper)(Q:uc)(rest:List Oper)(e:Env)(H:Heap):Prop:=
 ∀ a w L,nc n a e w L->Ma C w L H->wpList C.P ops (ZK C n w L (keys H) Q) rest a w
def ng(C:Ctx)(n:Nat)(c:Code)(Q:uc)(e:Env)(H:Heap):Prop:=
 ∀ a w L,nc n a e w L->Ma C w L H->c.wp C.P (ZK C n w L (keys H) Q) a w
section P
variable{C:Ctx}{n:Nat}{ops:Array Oper}{Q:uc}{e:Env}{H:Heap}
theorem Ii.nil(h:Q .normal e H):Ii C n ops Q [] e H:=λ_ _ L hE hH=>⟨e,H,L,Fr.refl _ _ _,hH,hE,h⟩
theorem Ii.step{op:Op}
  (h:Ra C ⟨dst,op,ty,pos,ka,none⟩ e H (λlv H'=>Ii C n ops Q rest (e.put dst lv) H') λch H'=>Q (.panic ch) e H')
  (hd:Fl n dst):Ii C n ops Q (⟨dst,op,ty,pos,ka,none⟩::rest) e H:=λa w L hE hH=>by
 unfold wpList;rw[zp (by simp[Region.wanted])];have hs:=h a.eval w L hE.ev hH;refine .inl ?_;unfold Oper.wp;have left:∀ {w' v},Left C w L H w' v (λlv H'=>Ii C n ops Q rest (e.put dst lv) H')->wpList C.P ops (ZK C n w L (keys H) Q) rest (a.put dst v) w':=λh=>by obtain⟨lv,H',L',h1,h2,h3,h4⟩:=h;exact GA (λ_ _ _=>qkf h1) _ _ _ (h4 _ _ L' ((hE.mono h1.ext).put hd h3) h2)
 have qt:∀ {w' ch},Iq C w L H w' (λH'=>Q (.panic ch) e H')->ZK C n w L (keys H) Q (.panic ch) a w':=λh=>by obtain⟨H',L',h1,h2,h3⟩:=h;exact⟨e,H',L',h1,h2,hE.mono h1.ext,h3⟩
 generalize (execOp a.eval ⟨dst,op,ty,pos,ka,none⟩).run C.P w=r at hs ⊢;unfold jE at hs;split at hs;exact left hs;exact left hs;obtain⟨rfl,hs⟩:=hs;refine Calls.mono hs λe w' he=>?_
 cases e with
 |returned v=>exact left he
 |panicked ch=>exact qt he
 |outgrown=>exact he.elim
 exact qt hs;exact hs.elim
theorem Ii.pure{op:Op}{lv:LV}
  (h:Pure C ⟨dst,op,ty,pos,ka,none⟩ e H lv) (hd:Fl n dst) (k:Ii C n ops Q rest (e.put dst lv) H):Ii C n ops Q (⟨dst,op,ty,pos,ka,none⟩::rest) e H:=
 Ii.step (h.step k) hd
theorem ng.region{id:Nat}{l:List Oper}(h:Ii C n l.toArray Q l e H):ng C n (.region id l.toArray false) Q e H:=λa w L hE hH=>wp_region_lit (h a w L hE hH)
theorem ng.ret(h:Q .ret e H):ng C n .ret Q e H:=λ_ _ L hE hH=>wp_ret ⟨e,H,L,Fr.refl _ _ _,hH,hE,h⟩
theorem ng.seq{x y:Code}(h:ng C n x (Ud (λe H=>ng C n y Q e H) Q) e H):ng C n (.seq x y) Q e H:=λa w L hE hH=>by
 refine wp_seq (Go.wp_mono (h a w L hE hH) λex a' w' hq=>?_);obtain⟨e',H',L',h1,h2,h3,h4⟩:=hq
 cases ex with
 |normal=>exact Go.wp_mono (h4 a' w' L' h3 h2) λ_ _ _=>qkf h1
 |exit id=>exact⟨e',H',L',h1,h2,h3,h4⟩
 |goto id=>exact⟨e',H',L',h1,h2,h3,h4⟩
 |ret=>exact⟨e',H',L',h1,h2,h3,h4⟩
 |panic ch=>exact⟨e',H',L',h1,h2,h3,h4⟩
 |outgrown=>exact⟨e',H',L',h1,h2,h3,h4⟩
theorem ng.block{id:Nat}{c:Code}(h:ng C n c (xe id Q) e H):ng C n (.block id c) Q e H:=λa w L hE hH=>by
 refine wp_block (Go.wp_mono (h a w L hE hH) λex a' w' hq=>?_);obtain⟨e',H',L',h1,h2,h3,h4⟩:=hq
 cases ex with
 |exit qH=>simp only[Exit.inBlock,xe] at h4 ⊢;split;rename_i hid;rw[zp hid] at h4;exact⟨e',H',L',h1,h2,h3,h4⟩;rename_i hid;rw[zn hid] at h4;exact⟨e',H',L',h1,h2,h3,h4⟩
 |normal=>exact⟨e',H',L',h1,h2,h3,h4⟩
 |goto id=>exact⟨e',H',L',h1,h2,h3,h4⟩
 |ret=>exact⟨e',H',L',h1,h2,h3,h4⟩
 |panic ch=>exact⟨e',H',L',h1,h2,h3,h4⟩
 |outgrown=>exact⟨e',H',L',h1,h2,h3,h4⟩
def Gu(Q:uc):uc
 |.panic _,_,_=>False
 |x,e,H=>Q x e H
theorem ng.of(h:Qa C n c (Gu Q) e H):ng C n c Q e H:=λa w L hE hH=>by
 refine Go.wp_mono (h a w L hE hH) λex a' w' hq=>?_;obtain⟨e',H',L',h1,h2,h3,h4⟩:=hq
 cases ex with
 |panic ch=>exact h4.elim
 |normal=>exact⟨e',H',L',h1,h2,h3,h4⟩
 |exit id=>exact⟨e',H',L',h1,h2,h3,h4⟩
 |goto id=>exact⟨e',H',L',h1,h2,h3,h4⟩
 |ret=>exact⟨e',H',L',h1,h2,h3,h4⟩
 |outgrown=>exact⟨e',H',L',h1,h2,h3,h4⟩
theorem Gu.normal{k:Env->Heap->Prop}(h:k e H):Gu (Ud k Q) .normal e H:=h
theorem Gu.ret(h:Q .ret e H):Gu Q .ret e H:=h
end P
def qv(C:Ctx)(n:Nat)(rs:List ResultVar)(R:re->Heap->Prop):uc
 |.normal,e,H|.ret,e,H=>RO C n rs R e.ds .returning e H
 |.panic ch,e,H=>RO C n rs R e.ds (.panicking ch) e H
 |_,_,_=>False
theorem T9{C:Ctx}{n:Nat}{fn:Func}{R:re->Heap->Prop}{w0:World}{L0:Live}{H0:Heap}(h3:fn.results.size<=3)(tmps:Array Value):∀ (ds:List Deferred) (u:FrameMode) (e:Env) (H:Heap) (w:World) (L:Live),tmps.size=n->(∀ i,wb w L (e.s i) (tmps.getD i undef))->Ma C w L H->Fr (keys H0) w0 L0 w L H ->
  RO C n fn.results.toList R ds u e H->Leaves C.P fn tmps (Bz C w0 L0 H0 (λv=>R (.ret v)) λch=>R (.panic ch)) ds u w
 |[],.returning,e,H,w,L,hn,hv,hH,hF,h=>by obtain⟨vs,H',h1,h2,h5⟩:=h;obtain⟨v,r1,r2⟩:=jZ (a:={ tmps,defers:=e.ds }) ⟨hn,rfl,hv⟩ hH h1 h3;exact⟨v,r1,qh vs,H',L,hF.Zb h2,hH.Zb h2,r2,h5⟩
 |[],.panicking ch,e,H,w,L,hn,hv,hH,hF,h=>by obtain⟨H',h2,h5⟩:=h;exact⟨H',L,hF.Zb h2,hH.Zb h2,h5⟩
 |[],.run,e,H,w,L,hn,hv,hH,hF,h=>h.elim
 |d::ds,u,e,H,w,L,hn,hv,hH,hF,h=>by obtain⟨hu,f,cap,H1,F,rfl,MH,hp,hc⟩:=h;refine⟨hu,.func f,cap,f,cap,rfl,by simp[invoke,RZ],?_⟩;have gD:=hH.perm hp;have:=hc cap.toList w L (Wq _) gD.left;simp only[Array.toArray_toList] at this;refine CallsD.mono this ?_;rintro ex u' w' ⟨⟨v,rfl⟩,hx⟩;obtain⟨H',L',g1,g2,g3⟩:=Iq.frame gD hx;exact T9 h3 tmps ds (settle u') e H' w' L' hn (λi=>(hv i).mono g1.ext _ _) g2 (hF.trans (g1.perm hp.symm)) g3
theorem qn.mono{C:Ctx}{f:FuncId}{args:List LV}{u:FrameMode}{H:Heap}{R R':FrameMode->Heap->Prop}(h:qn C f args u H R)(hr:∀ u H,R u H->R' u H):qn C f args u H R':=λvs w L h1 h2=>
 CallsD.mono (h vs w L h1 h2) λ_ _ _ ⟨h3,h4⟩=>⟨h3,h4.mono (hr _)⟩
theorem ca.Nv{f:FuncId}{fn:Func}{n:Nat}{args:List LV}{H:Heap}{R:re->Heap->Prop}(hf:C.P.funcs[f]? = some fn)(hb:fn.body=some c)(hn:fn.ntmps=n)(h3:Nat.ble fn.results.size 3=true)
  (hl:Nat.ble args.length n=true) (h:ng C n c (qv C n fn.results.toList R) (yG args) H):ca C f args H R:=λvs w L hv hH=>by
 subst hn;have kx:args.length<=fn.ntmps:=by simpa using hl
 have Gr:fn.results.size<=3:=by simpa using h3
 have hlen:=hv.length;refine calls_of_wp_defers hf hb (Go.wp_mono (h _ w L ⟨?_,rfl,λi=>?_⟩ hH) λex a' w' hq=>?_)
 simp;omega;exact uN;obtain⟨e',H',L',g1,g2,g3,g4⟩:=hq;have ret:∀ u,RO C fn.ntmps fn.results.toList R e'.ds u e' H'->Leaves C.P fn a'.tmps (Bz C w L H (λv=>R (.ret v)) λch=>R (.panic ch)) a'.defers u w':=λu hu=>by rw[g3.ds];exact T9 Gr a'.tmps _ u e' H' w' L' g3.size g3.dj g2 g1 hu
 cases ex with
 |normal=>exact ret _ g4
 |ret=>exact ret _ g4
 |panic ch=>exact ret _ g4
 |exit id=>exact g4.elim
 |goto id=>exact g4.elim
 |outgrown=>exact g4.elim
abbrev fG:=Exit->FrameMode->Env->Heap->Prop
def fv(C:Ctx)(n:Nat)(c:Code)(Q:fG)(u:FrameMode)(e:Env)(H:Heap):Prop:=
 ∀ a w L (c0:Frame) cs,c0.mode=u->nc n a e w L->Ma C w L H ->
  c.wpS C.P (λx a' Ab w'=>∃ u' e' H' L',Ab={ c0 with mode:=u' }::cs/\Fr (keys H) w L w' L' H'/\Ma C w' L' H'/\TF n x a' e' w' L'/\Q x u' e' H') a (c0::cs) w
theorem fY{Q Q':Exit->Act->List Frame->World->Prop}{a:Act}{cs:List Frame}{w:World}(h:c.wpS P Q a cs w)(hq:∀ x a cs w,Q x a cs w->Q' x a cs w):c.wpS P Q' a cs w:=λb k h1 h2=>
 let ⟨e,a',Ab,w',q,r⟩:=h b k h1 h2
 ⟨e,a',Ab,w',hq _ _ _ _ q,r⟩
section S
variable{C:Ctx}{n:Nat}{Q:fG}{u:FrameMode}{e:Env}{H:Heap}
theorem fv.of(h:Qa C n c (λx e H=>Q x u e H) e H):fv C n c Q u e H:=λa w L c0 cs hu hE hH=>by refine wpS_of_wp (Go.wp_mono (h a w L hE hH) λx a' w' hq=>?_);obtain⟨e',H',L',h1,h2,h3,h4⟩:=hq;exact⟨u,e',H',L',by subst hu;rfl,h1,h2,h3,h4⟩
theorem fv.seq{x y:Code}(h:fv C n x (λex u' e' H'=>match ex with|.normal=>fv C n y Q u' e' H'|ex=>Q ex u' e' H') u e H):fv C n (.seq x y) Q u e H:=λa w L c0 cs hu hE hH=>by
 refine wpS_seq (fY (h a w L c0 cs hu hE hH) λex a' Ab w' hq=>?_);obtain⟨u',e',H',L',rfl,h1,h2,h3,h4⟩:=hq
 cases ex with
 |normal=>refine fY (h4 a' w' L' { c0 with mode:=u' } cs rfl h3 h2) ?_;rintro ex a2 cs2 w2 ⟨u2,e2,H2,L2,rfl,g1,g2,g3,g4⟩;exact⟨u2,e2,H2,L2,rfl,h1.trans g1,g2,g3,g4⟩
 |exit id=>exact⟨u',e',H',L',rfl,h1,h2,h3,h4⟩
 |goto id=>exact⟨u',e',H',L',rfl,h1,h2,h3,h4⟩
 |ret=>exact⟨u',e',H',L',rfl,h1,h2,h3,h4⟩
 |panic ch=>exact⟨u',e',H',L',rfl,h1,h2,h3,h4⟩
 |outgrown=>exact⟨u',e',H',L',rfl,h1,h2,h3,h4⟩
def KL:FrameMode->Value×FrameMode
 |.panicking ({ v,recovered:=false,goexit:=false }::eH)=>(v,.panicking ({ v,recovered:=true }::eH))
 |u=>(.nilIface,u)
theorem qo6{g:Option (Nat×Bool)}(w:World) :
  (execOp ρ ⟨dst,.call { callee:=.builtin .recover,args:=#[],argTypes:=#[] },ty,pos,ka,g⟩).run P w=.ok .recover w:=by
 rfl
theorem qoM(c0:Frame)(cs:List Frame):recoverD (c0::cs)=none/\KL c0.mode=(.nilIface,c0.mode)∨recoverD (c0::cs)=some ((KL c0.mode).1,{ c0 with mode:=(KL c0.mode).2 }::cs):=by
 obtain⟨fn,tmps,todo,defers,mode,kind,ro⟩:=c0;cases mode with
 |run=>exact .inl ⟨rfl,rfl⟩
 |returning=>exact .inl ⟨rfl,rfl⟩
 |panicking ch=>
  cases ch with
  |nil=>exact .inl ⟨rfl,rfl⟩
  |cons p eH=>obtain⟨v,r,g⟩:=p;cases r <;> cases g <;> first|exact .inl ⟨rfl,rfl⟩|exact .inr rfl
theorem fv.recover{id t s:Nat}{ty Wp:TypeId}{pos pos':String}{ka PF:Array Edge}(ht:Nat.blt t n=true)(hs:Nat.blt s n=true)(h:Q .normal (KL u).2 ((e.Sd t (.atom (KL u).1)).Sd s (.atom (KL u).1)) H) :
  fv C n (.region id #[⟨some t,.call { callee:=.builtin .recover,args:=#[],argTypes:=#[] },ty,pos,ka,none⟩,⟨some s,.assign (.tmp t),Wp,pos',PF,none⟩] false) Q u e H:=λa w L c0 cs hu hE hH=>by
 refine wpS_region ?_;have DR:∀ v,nc n (a.put (some t) v) (e.Sd t (.atom v)) w L:=λv=>hE.put (dst:=some t) (by simp only[Fl,aC];exact ht) Zc
 have hev:∀ v,(a.put (some t) v).eval (.tmp t)=v:=λv=>by have:=(DR v).ev (.tmp t);simpa [Env.ev,Env.Sd,wb] using this
 have Er:∀ v,nc n ((a.put (some t) v).put (some s) v) ((e.Sd t (.atom v)).Sd s (.atom v)) w L:=λv=>(DR v).put (dst:=some s) (by simp only[Fl,aC];exact hs) Zc
 have h1:∀ v J6,wpOpsS C.P #[⟨some t,.call { callee:=.builtin .recover,args:=#[],argTypes:=#[] },ty,pos,ka,none⟩,⟨some s,.assign (.tmp t),Wp,pos',PF,none⟩] (λx a' Ab w'=>∃ u' e' H' L',Ab={ c0 with mode:=u' }::cs/\Fr (keys H) w L w' L' H'/\Ma C w' L' H'/\TF n x a' e' w' L'/\Q x u' e' H') [1] (a.put (some t) v) J6 w
   ↔ (λx a' Ab w'=>∃ u' e' H' L',Ab={ c0 with mode:=u' }::cs/\Fr (keys H) w L w' L' H'/\Ma C w' L' H'/\TF n x a' e' w' L'/\Q x u' e' H') Exit.normal ((a.put (some t) v).put (some s) v) J6 w:=by
  intro v J6;have hr:(execOp (a.put (some t) v).eval ⟨some s,.assign (.tmp t),Wp,pos',PF,none⟩).run C.P w=.ok (.value ((a.put (some t) v).eval (.tmp t))) w:=rfl;simp only[wpOpsS,List.getElem?_toArray,Ls,Ql,Region.wanted,if_true,hr,Oper.upon,hev]
 have h0:(execOp a.eval ⟨some t,.call { callee:=.builtin .recover,args:=#[],argTypes:=#[] },ty,pos,ka,none⟩).run C.P w=.ok .recover w:=qo6 w;have hl:List.range (#[(⟨some t,.call { callee:=.builtin .recover,args:=#[],argTypes:=#[] },ty,pos,ka,none⟩:Oper),⟨some s,.assign (.tmp t),Wp,pos',PF,none⟩]:Array Oper).size=[0,1]:=rfl;rw[hl,wpOpsS];simp only[List.getElem?_toArray,Ql,Region.wanted,if_true,h0];rcases qoM c0 cs with⟨h2,h3⟩|h2;simp only[h2];rw[h1];subst hu;rw[h3] at h;exact⟨c0.mode,_,H,L,rfl,Fr.refl _ _ _,hH,Er _,h⟩;simp only[h2];rw[h1];subst hu;exact⟨_,_,H,L,rfl,Fr.refl _ _ _,hH,Er _,h⟩
def qvQ(R:FrameMode->Heap->Prop):fG
 |.normal,u,e,H|.ret,u,e,H=>e.ds=[]/\∃ H',HSub H' H/\R u H'
 |_,_,_,_=>False
theorem qn.intro{f:FuncId}{fn:Func}{args:List LV}{R:FrameMode->Heap->Prop}(hf:C.P.funcs[f]? = some fn)(hb:fn.body=some c)(hn:fn.ntmps=n)(h3:fn.results=#[])
  (hl:Nat.ble args.length n=true) (h:fv C n c (qvQ R) u (yG args) H):qn C f args u H R:=λvs w L hv hH=>by
 subst hn;have kx:args.length<=fn.ntmps:=by simpa using hl
 have hlen:=hv.length;have xK:nc fn.ntmps { tmps:=vs.toArray++Array.replicate (fn.ntmps-vs.toArray.size) undef,defers:=[] } (yG args) w L:=by
  refine⟨?_,rfl,λi=>?_⟩
  simp;omega;exact uN
 refine callsD_of_wpS hf hb λc0 cs hu=>fY (h _ w L c0 cs hu xK hH) λex a' Ab w' hq=>?_;obtain⟨u',e',H',L',rfl,g1,g2,g3,g4⟩:=hq
 have fin:nc fn.ntmps a' e' w' L'->(e'.ds=[]/\∃ ph,HSub ph H'/\R u' ph)->a'.defers=[]/\∃ G7,({ c0 with mode:=u' }::cs:List Frame)={ c0 with mode:=G7 }::cs/\∃ v,(results fn a'.tmps).run C.P w'=.ok v w'/\(∃ v',Ending.returned v=.returned v')/\Iq C w L H w' (R G7):=λhE ⟨h1,ph,h2,h4⟩=>
  ⟨hE.ds.trans h1,u',rfl,_,qqn h3 _ _,⟨_,rfl⟩,ph,L',g1.Zb h2,g2.Zb h2,h4⟩
 cases ex with
 |normal=>exact fin g3 g4
 |ret=>exact fin g3 g4
 |panic ch=>exact g4.elim
 |exit id=>exact g4.elim
 |goto id=>exact g4.elim
 |outgrown=>exact g4.elim
end S
section defer
variable{C:Ctx}{n:Nat}{ops:Array Oper}{Q:uc}{e:Env}{H:Heap}
theorem Ii.defer{dst:Option Nat}{fo:Operand}{f:FuncId}{Ua:Array Value}{ty:TypeId}{pos:String}{ka:Array Edge}{rest:List Oper}(hf:e.ev fo=.atom (.func (.func f) #[] Ua))(hd:dst=none)
  (k:Ii C n ops Q rest ⟨e.s,{ target:=.fn (.func f) Ua,args:=#[] }::e.ds⟩ H):Ii C n ops Q (⟨dst,.defer { callee:=.value fo,args:=#[],argTypes:=#[] },ty,pos,ka,none⟩::rest) e H:=λa w L hE hH=>by
 subst hd;have hv:=hE.ev fo;rw[hf] at hv;simp only[wb] at hv;have hr:(execOp a.eval ⟨none,.defer { callee:=.value fo,args:=#[],argTypes:=#[] },ty,pos,ka,none⟩).run C.P w=.ok (.defer { target:=.fn (.func f) Ua,args:=#[] }) w:=by have h3:execOp a.eval ⟨none,.defer { callee:=.value fo,args:=#[],argTypes:=#[] },ty,pos,ka,none⟩=(do let d <-Deferred.ofValue (a.eval fo) ((#[]:Array Operand).map a.eval);Pure.pure (.defer d)):=rfl;rw[h3,hv];simp only[Deferred.ofValue,map_toArray,map_nil];rfl
 unfold wpList;rw[zp (by simp[Region.wanted])];refine .inl ?_;unfold Oper.wp;rw[hr];simp only[Oper.upon,Act.put];exact k _ w L ⟨hE.size,by show _::a.defers=_;rw[hE.ds],hE.dj⟩ hH
end defer
inductive jf (el:TypeId) (s:Nat):Value->List LV->Heap->Prop
 |nil:jf el s (.slice none 0 0) [] []
 |row {b cap:Nat} {es spare:List LV} (hs:∀ v∈es,v.cells.length=s) (hc:es.length<=cap) (hl:es.length * s+spare.length=cap * s) :
   jf el s (.slice (some ⟨b,0,none⟩) es.length cap) es [(b,.cells el (es.flatMap LV.cells++spare))]
section
variable{C:Ctx}{e:Env}{H:Heap}{x y:Operand}{dst:Option Nat}{ty:TypeId}{pos:String}{ka:Array Edge}{g:Option (Nat×Bool)}{K:LV->Heap->Prop}{X:List PanicEntry->Heap->Prop}
theorem qop(hH:Ma C w L []){es:List LV}{xs rest:List Value}(hr:la w L (es.flatMap LV.cells) xs)(hs:∀ v∈es,v.cells.length=s)(hc:es.length<=cap)(hl:es.length * s+rest.length=cap * s)
  (hk:∀ v' H',jf el s v' es H'->K (.atom v') H') :
  Left C w L [] (World.push w (.cells (xs++rest).toArray el)) (.slice (some ⟨w.heap.size,0,none⟩) es.length cap) K:=by
 have hx:=KG hH.wf (.cells (xs++rest).toArray el) 0;have:=DC hH (.cells (xs++rest).toArray el) 0 [(w.heap.size,.cells el (es.flatMap LV.cells++rest.map .atom))] (λp hp=>by
  simp only[List.mem_singleton] at hp;subst hp;exact⟨rfl,by simp[Live.Sd],xs++rest,xu,la.append (hr.mono hx _ _) (Wq rest)⟩) (by simp)
 exact⟨.atom _,_,_,this.1,this.2,Zc,hk _ _ (jf.row hs hc (by simpa using hl))⟩
theorem Ra.NF{sT xT:Nat} [ht:Ea C.P sT el s] [hr:Kh C.P el s bytes]{e2 s2:Nat} [je:Ea C.P xT e2 s2]{v:Value}{ms:List LV}
  (hx:e.ev x=.atom v) (ha:jf el s v es H) (hy:GL.elems (e.ev y)=some ms) (Au:∀ v∈ms,v.cells.length=s) (xc:(ms.flatMap LV.cells).all Tq=true) (Na:(es.length+ms.length) * bytes<=140737488355328)
  (hk:∀ v' H',jf el s v' (es++ms) H'->K (.atom v') H'):Ra C ⟨dst,.call { callee:=.builtin .append,args:=#[x,y],argTypes:=#[sT,xT] },ty,pos,ka,g⟩ e H K X:=by
 have h0:∀ (cs:Array Bool) (args:Array Value),builtin .append #[sT,xT] ty cs args=(do Pure.pure (.value (<-Builtin.append_ #[sT,xT] ty args))):=λ_ _=>rfl
 cases ha with
 |nil=>
  by_cases ub:ms=[];subst ub;exact Ra.Cl rfl ⟨e2,je.De⟩ hx hy (hk _ _ jf.nil);intro ρ w L h hH;have Py:0<ms.length:=List.length_pos_iff.2 ub;obtain⟨ay,cy,new,Ny,qQ,dB,rH,Ov⟩:=uJ (s:=s) (h y) hy Au;rw[Ny] at Ov;have hlen:∀ w':World,(Builtin.lenOf (.slice ay ms.length cy)).run C.P w'=.ok ms.length w':=λw'=>by simp[Builtin.lenOf]
  obtain⟨Pe,rest,r1,r2,r3⟩:=cH (ty:=ty) (P:=C.P) (w:=w) (sT:=sT) (xT:=xT) (a:=none) (len:=0) (cap:=0) (n:=ms.length) (xv:=.slice ay ms.length cy) (old:=[]) (new:=new) (.inr ⟨_,je.De⟩) hlen (λw' hw=>Ov C.P w' hw)
   (λw' _=>by simp[Builtin.firstCells]) (by simpa using Na) zo
  rw[Vq,h0];simp only[map_toArray,jd,map_nil,wc,Rb h hx,Ny,r3,Sc,Ed,List.nil_append,Nat.zero_add];obtain⟨lv,H',L',g1,g2,g3,g4⟩:=qop (K:=K) (el:=el) (es:=ms) (cap:=Pe) (xs:=new) (rest:=rest) hH.drew (dB.mono (HG w L) _ _) Au zo (by
   rw[r2,<-add_mul];congr 1;omega) λv' H' h'=>hk v' H' h'
  exact⟨lv,H',L',g1.Ve,g2,g3,g4⟩
 |row hs hc hl=>
  rename_i b cap spare;intro ρ w L h hH;obtain⟨Ze,nh,WQ,zs,My,RJ⟩:=hH.qc _ (Cp rfl);simp only at Ze nh WQ My;obtain⟨ay,cy,new,Ny,qQ,dB,rH,Ov⟩:=uJ (s:=s) (h y) hy Au;rw[Ny] at Ov;have hlen:∀ w':World,(Builtin.lenOf (.slice ay ms.length cy)).run C.P w'=.ok ms.length w':=λw'=>by simp[Builtin.lenOf]
  have Dn:(es.flatMap LV.cells).length=es.length * s:=iM hs;have yM:zs.length=es.length * s+spare.length:=by rw[RJ.length,ya,Dn]
  have hzt:la w L (es.flatMap LV.cells) (zs.take (es.length * s)):=by have:=RJ.take (es.length * s);rwa [List.take_left' Dn] at this
  rw[Vq,h0];simp only[map_toArray,jd,map_nil,wc,Rb h hx,Ny];by_cases Pt:es.length+ms.length<=cap;have Ge:=lV (ty:=ty) (P:=C.P) (w:=w) (sT:=sT) (xT:=xT) (s:=s) (a:=some ⟨b,0,none⟩) (len:=es.length) (cap:=cap) (n:=ms.length) (xv:=.slice ay ms.length cy) (new:=new) (.inr ⟨_,je.De⟩) hlen (λw' hw=>Ov C.P w' hw) Pt;have hmul:(es.length+ms.length) * s<=cap * s:=Nat.mul_le_mul_right _ Pt;rw[add_mul] at hmul;obtain⟨w',r1,r2,r3,r4,r5,r6,r7⟩:=uM (P:=C.P) (b:=b) (off:=0+es.length * s) (t:=el) (fr:=(0,0)) new 0 w zs My zo (λj _ _=>by simp) (uU dB xc);rw[Ge];simp only[Gf,r1,Sc,Ed];have he:0+es.length * s+0=es.length * s:=by omega
  rw[he] at r7;have nq:new.length=ms.length * s:=rH;have Lh:la w L (spare.drop (ms.length * s)) (zs.drop (es.length * s+new.length)):=by have:=RJ.drop (es.length * s+new.length);rwa [List.drop_append,List.drop_eq_nil_of_le zo,List.nil_append,Dn,show es.length * s+new.length-es.length * s=ms.length * s by omega] at this
  refine SP (v:=.slice (some ⟨b,0,none⟩) (es.length+ms.length) cap) (lv:=.atom (.slice (some ⟨b,0,none⟩) (es.length+ms.length) cap)) (K:=K) (Ab:=es.flatMap LV.cells++ms.flatMap LV.cells++spare.drop (ms.length * s)) hH r2 r3 r4 r5 r6 r7 ?_ (la.append (la.append hzt dB) Lh) Zc ?_;simp only[ya,List.length_take,List.length_drop,Dn];omega;have hb:jf el s (.slice (some ⟨b,0,none⟩) (es++ms).length cap) (es++ms) [(b,.cells el ((es++ms).flatMap LV.cells++spare.drop (ms.length * s)))]:=jf.row (λv hv=>by
    rcases vj hv with hv|hv;exact hs v hv;exact Au v hv) (by rw[ya];exact Pt) (by
    rw[ya,List.length_drop,add_mul];omega)
  rw[ya,List.flatMap_append] at hb;exact hk _ _ hb;have hold:∀ w':World,w'.heap=w.heap->(Builtin.firstCells s es.length (.slice (some ⟨b,0,none⟩) es.length cap)).run C.P w'=.ok (zs.take (es.length * s)).toArray w':=λw' hw=>by
   have:=vM (P:=C.P) (w:=w') (b:=b) (off:=0) (es.length * s) 0 #[] (zs.take (es.length * s)) (by rw[List.length_take];omega) (λj x' hj=>by
    have jK:zs[j]? = some x':=by rw[List.getElem?_take] at hj;split at hj;exact hj;cases hj
    simp[World.cell?,hw,My,jK])
   simp only[Builtin.firstCells,loadCells,this];simp
  obtain⟨Pe,rest,r1,r2,r3⟩:=cH (ty:=ty) (P:=C.P) (w:=w) (sT:=sT) (xT:=xT) (a:=some ⟨b,0,none⟩) (len:=es.length) (cap:=cap) (n:=ms.length) (xv:=.slice ay ms.length cy) (old:=zs.take (es.length * s)) (new:=new) (.inr ⟨_,je.De⟩) hlen (λw' hw=>Ov C.P w' hw) hold Na zo;rw[r3];simp only[Sc,Ed];have PB:Ma C w L []:=hH.sub (List.nil_sublist _);obtain⟨lv,H',L',g1,g2,g3,g4⟩:=qop (K:=K) (el:=el) (s:=s) (es:=es++ms) (cap:=Pe) (xs:=zs.take (es.length * s)++new) (rest:=rest) PB.drew (by
    rw[List.flatMap_append];exact(la.append hzt dB).mono (HG w L) _ _) (λv hv=>by
    rcases vj hv with hv|hv;exact hs v hv;exact Au v hv) (by rw[ya];omega) (by
    rw[r2,ya,<-add_mul];congr 1;omega) λv' H' h'=>hk v' H' h'
  rw[ya] at g3;exact⟨lv,H',L',g1.Ve.wide (by simp),g2,g3,g4⟩
theorem S.NF{sT xT el s bytes:Nat} [ht:Ea C.P sT el s] [hr:Kh C.P el s bytes]{e2 s2:Nat} [je:Ea C.P xT e2 s2]{v:Value}{es ms:List LV}{HM F:Heap}
  (hx:e.ev x=.atom v) (hp:H.Perm (HM++F)) (ha:jf el s v es HM) (hy:GL.elems (e.ev y)=some ms) (Au:∀ v∈ms,v.cells.length=s) (xc:(ms.flatMap LV.cells).all Tq=true) (Na:(es.length+ms.length) * bytes<=140737488355328)
  (hk:∀ v' H',jf el s v' (es++ms) H'->K (.atom v') (F++H')):Ra C ⟨dst,.call { callee:=.builtin .append,args:=#[x,y],argTypes:=#[sT,xT] },ty,pos,ka,g⟩ e H K X:=by
 refine Ra.Oc (K:=λlv H'=>∃ v' H2,lv=.atom v'/\H'=H2++F/\jf el s v' (es++ms) H2) (Ra.frame hp (Ra.NF hx ha hy Au xc Na λv' H' h=>⟨v',H',rfl,rfl,h⟩)) ?_;rintro lv H' ⟨v',H2,rfl,rfl,h⟩;exact⟨_,F++H2,vR _,⟨[],by simpa using Nh⟩,hk _ _ h⟩
theorem Pure.QA{t C6 s2:Nat} [Ea C.P t C6 s2]{Hv:Heap}(hx:e.ev x=.atom v)(ha:jf el s v es Hv):Pure C ⟨dst,.call { callee:=.builtin .len,args:=#[x],argTypes:=#[t] },ty,pos,ka,g⟩ e H (int .i64 es.length):=by
 cases ha with
 |nil=>exact Pure.Ru (m:=0) hx
 |row=>exact Pure.Ru hx
end
theorem qvm(P:List LV):∀ (Q:List LV) (f:Nat) (vs:List LV),Kd (P++Q) (P.length+f) vs=P++Kd Q f vs:=by
 induction P with
 |nil=>intro Q f vs;simp
 |cons p P ih=>
  intro Q f vs;have:(p::P).length+f=(P.length+f)+1:=by simp only[Ba];omega
  rw[this];show Kd (p::(P++Q)) (P.length+f+1) vs=_;rw[Kd,ih];try rfl
section
variable{C:Ctx}{e:Env}{H:Heap}{x y:Operand}{dst:Option Nat}{ty:TypeId}{pos:String}{ka:Array Edge}{g:Option (Nat×Bool)}{K:LV->Heap->Prop}{X:List PanicEntry->Heap->Prop}
theorem jf.addr{HM:Heap}(h:jf el s v es HM)(ub:es≠[]):∃ b cap spare,v=.slice (some ⟨b,0,none⟩) es.length cap/\HM=[(b,.cells el (es.flatMap LV.cells++spare))]/\es.length<=cap/\es.length * s+spare.length=cap * s:=by
 cases h with
 |nil=>exact absurd rfl ub
 |row hs hc hl=>exact⟨_,_,_,rfl,rfl,hc,hl⟩
end
section settle
variable{C:Ctx}{n:Nat}{Q:uc}{e:Env}{H F:Heap}
end settle
section
variable{C:Ctx}{e:Env}{H:Heap}{x y:Operand}{dst:Option Nat}{ty:TypeId}{pos:String}{ka:Array Edge}{g:Option (Nat×Bool)}{K:LV->Heap->Prop}{X:List PanicEntry->Heap->Prop}
theorem Pure.OD{lo hi:Option Operand}{l m:List UInt8} [hT:Bm C.P xT](hx:e.ev x=str l)
  (Qp:CA e lo 0 i) (Vy:CA e hi l.length j) (h0:0<=i) (h1:i<=j) (h2:j<=l.length) (he:(l.take j.toNat).drop i.toNat=m) :
  Pure C ⟨dst,.slice xT x lo hi none,ty,pos,ka,g⟩ e H (str m):=he▸Pure.gj hx Qp Vy h0 h1 h2
theorem Pure.Cf{t:Nat} [ht:Ea C.P t el s](hx:e.ev x=.atom (.slice (some ⟨b,off,none⟩) m cap))(hy:e.ev y=int k n)(h0:0<=n)(hn:n<m)(ho:off+n.toNat * s=o) :
  Pure C ⟨dst,.indexAddr t x y,ty,pos,ka,g⟩ e H (ptr b o):=ho▸Pure.ZA hx hy h0 hn
theorem Pure.Ww{t:Nat}{lo hi:Option Operand}{es ms:List LV} [ht:Ea C.P t el s](hx:elems (e.ev x)=some es)
  (Qp:CA e lo 0 i) (Vy:CA e hi es.length j) (h0:0<=i) (h1:i<=j) (h2:j<=es.length) (hs:∀ v∈es,v.cells.length=s) (he:(es.take j.toNat).drop i.toNat=ms) :
  Pure C ⟨dst,.slice t x lo hi none,ty,pos,ka,g⟩ e H (.list ms):=he▸Pure.Zq hx Qp Vy h0 h1 h2 hs
end
theorem jf.nj{es spare:List LV}(hs:∀ v∈es,v.cells.length=1)(hf:es.flatMap LV.cells=es)(hm:es.length=m)(hc:m<=cap)(hl:m+spare.length=cap) :
  jf el 1 (.slice (some ⟨b,0,none⟩) m cap) es [(b,.cells el (es++spare))]:=by
 subst hm;have:=jf.row (el:=el) (s:=1) (b:=b) (cap:=cap) (es:=es) (spare:=spare) hs hc zo;rwa [hf] at this
section
variable{C:Ctx}{n:Nat}{Q:uc}{e:Env}{H F:Heap}
end
section
variable{C:Ctx}{e:Env}{H:Heap}{dst:Option Nat}{ty:TypeId}{pos:String}{ka:Array Edge}{g:Option (Nat×Bool)}{K:LV->Heap->Prop}{X:List PanicEntry->Heap->Prop}{x y:Operand}
theorem QZ(mh:P.underlying kt=some (.int kd))(b:Bool)(w:World):(Instr.checkKey b 10000 kt (.int k n)).run P w=.ok () w:=by have Fs:Instr.checkKey b 10000 kt (.int k n)=Instr.checkKey b (9999+1) kt (.int k n):=rfl;rw[Fs,Instr.checkKey];simp only[wc,ie mh,Sc,Ed]
theorem S.wi{el:TypeId}(ht:C.P.underlying t=some (.map kt el))(mh:C.P.underlying kt=some (.int kd)){es Ro:Array MapEntry}{F:Heap}{m z:Operand}(hm:e.ev m=.atom (.map (some b)))(hx:e.ev x=int k n)(hz:e.ev z=.atom v)
  (hp:zd (b,.obj (.map es clock)) H F) (jl:Instr.findNow (.int kd) (.int k n) es.toList 0=some none) (he:es.push { key:=.int k n,val:=v,born:=clock }=Ro) (hk:K (.atom undef) ((b,.obj (.map Ro (clock+1)))::F)):Ra C ⟨dst,.insert t m x z,ty,pos,ka,g⟩ e H K X:=by
 subst he;refine Ra.KK hp λρ w L h hH=>?_;obtain⟨Ze,nh,hl,ae,je⟩:=hH.qc _ (Cp rfl);simp only at Ze nh hl ae je;have h3:execOp ρ ⟨dst,.insert t m x z,ty,pos,ka,g⟩=(do Instr.mapUpdate t (ρ m) (ρ x) (ρ z);Pure.pure .skip):=rfl
 have hf:(Instr.findKey kt (.int k n) es.toList).run C.P w=.ok none w:=by simp only[Instr.findKey,wc,ie mh,Sc,jl,Ed]
 have hc:=QZ (P:=C.P) (n:=n) (k:=k) mh false w;have hg:(getObj b).run C.P w=.ok (.map es clock) w:=by simp only[getObj,Sem.run,ae]
 rw[h3,Rb h hm,Rb h hx,Rb h hz];simp only[Instr.mapUpdate,wc,ie ht,Sc,hg,hc,hf];have hs:(setObj b (.map (es.push { key:=.int k n,val:=v,born:=clock }) (clock+1))).run C.P w=.ok () (Eh w b (.map (es.push { key:=.int k n,val:=v,born:=clock }) (clock+1))):=VP ae rfl;rw[hs];exact AP (w':=Eh w b (.map (es.push { key:=.int k n,val:=v,born:=clock }) (clock+1))) hH rfl rfl rfl rfl (by simp[Eh]) (λc hc=>oM hc) (bM nh) (λ_=>Zc) hk
end
section
variable{C:Ctx}{e:Env}{H:Heap}{dst:Option Nat}{ty:TypeId}{pos:String}{ka:Array Edge}{g:Option (Nat×Bool)}{x y:Operand}
theorem Pure.Iv{el:TypeId}(ht:C.P.underlying t=some (.map kt el))(mh:C.P.underlying kt=some (.int kd)){j:Nat}{es:Array MapEntry}(hm:e.ev x=.atom (.map (some b)))(hx:e.ev y=int k n)
  (hb:(b,ga.obj (.map es clock))∈H) (hf:Instr.findNow (.int kd) (.int k n) es.toList 0=some (some (j,v))):Pure C ⟨dst,.lookup t x y true,ty,pos,ka,g⟩ e H (.tuple [.atom v,bool true]):=λρ w L h hH=>by
 obtain⟨_,_,_,ae,_⟩:=hH.qc _ hb;simp only at ae;refine⟨.tuple #[v,.bool true],?_,λw' ha=>?_⟩;simp only[wb];refine⟨[v,.bool true],rfl,?_⟩;simp only[la];exact⟨_,_,rfl,Zc,_,_,rfl,rfl,rfl⟩;have hw:w'.heap[b]? = some (.map es clock):=(ha.1 _ hb).trans ae;have h3:execOp ρ ⟨dst,.lookup t x y true,ty,pos,ka,g⟩=(do Pure.pure (.value (<-Instr.lookup t (ρ x) (ρ y) true))):=rfl;have hg:(getObj b).run C.P w'=.ok (.map es clock) w':=by simp only[getObj,Sem.run,hw]
 rw[h3,Rb h hm,Rb h hx];have JV:(Instr.findKey kt (.int k n) es.toList).run C.P w'=.ok (some (j,v)) w':=by simp only[Instr.findKey,wc,ie mh,Sc,hf,Ed]
 have hc:=QZ (P:=C.P) (n:=n) (k:=k) mh;simp only[Instr.lookup,wc,ie ht,Sc,hg,Ed,hc,JV];rfl
theorem Pure.ot{el:TypeId}(ht:C.P.underlying t=some (.map kt el))(mh:C.P.underlying kt=some (.int kd)){es:Array MapEntry}(hz:∀ w,(zeroValue el).run C.P w=.ok zv w)(hm:e.ev x=.atom (.map (some b)))(hx:e.ev y=int k n)
  (hb:(b,ga.obj (.map es clock))∈H) (hf:Instr.findNow (.int kd) (.int k n) es.toList 0=some none):Pure C ⟨dst,.lookup t x y true,ty,pos,ka,g⟩ e H (.tuple [.atom zv,bool false]):=λρ w L h hH=>by
 obtain⟨_,_,_,ae,_⟩:=hH.qc _ hb;simp only at ae;refine⟨.tuple #[zv,.bool false],?_,λw' ha=>?_⟩;simp only[wb];refine⟨[zv,.bool false],rfl,?_⟩;simp only[la];exact⟨_,_,rfl,Zc,_,_,rfl,rfl,rfl⟩;have hw:w'.heap[b]? = some (.map es clock):=(ha.1 _ hb).trans ae;have h3:execOp ρ ⟨dst,.lookup t x y true,ty,pos,ka,g⟩=(do Pure.pure (.value (<-Instr.lookup t (ρ x) (ρ y) true))):=rfl;have hg:(getObj b).run C.P w'=.ok (.map es clock) w':=by simp only[getObj,Sem.run,hw]
 rw[h3,Rb h hm,Rb h hx];have JV:(Instr.findKey kt (.int k n) es.toList).run C.P w'=.ok none w':=by simp only[Instr.findKey,wc,ie mh,Sc,hf,Ed]
 have hc:=QZ (P:=C.P) (n:=n) (k:=k) mh;simp only[Instr.lookup,wc,ie ht,Sc,hg,Ed,hc,JV,hz];rfl
end
section
variable{C:Ctx}{n:Nat}{Q:uc}{e:Env}{H:Heap}
theorem ng.Zb{c:Code}{H':Heap}(s:HSub H' H)(h:ng C n c Q e H'):ng C n c Q e H:=λa w L hE hH=>
 Go.wp_mono (h a w L hE (hH.Zb s)) λ_ _ _ ⟨e',H2,L',h1,h2,h3,h4⟩=>⟨e',H2,L',h1.wide s.keys,h2,h3,h4⟩
theorem ng.Oc{Q':uc}(h:ng C n c Q e H)(hq:∀ x e H,Q x e H->Q' x e H):ng C n c Q' e H:=λa w L hE hH=>
 Go.wp_mono (h a w L hE hH) λ_ _ _ ⟨e',H2,L',h1,h2,h3,h4⟩=>⟨e',H2,L',h1,h2,h3,hq _ _ _ h4⟩
theorem ng.loop{c:Code}(I:Nat->Env->Heap->Prop)(k:Nat)(h0:I k e H)
  (round:∀ k e H,I k e H->ng C n c (Ud (λe' H'=>∃ m,m<k/\I m e' H') Q) e H):ng C n (.loop c) Q e H:=λa w L hE hH=>by
 refine qjM (I:=λk a' w'=>∃ e' H' L',Fr (keys H) w L w' L' H'/\Ma C w' L' H'/\nc n a' e' w' L'/\I k e' H') (n:=k) ?_ ⟨e,H,L,Fr.refl _ _ _,hH,hE,h0⟩;rintro k a1 w1 ⟨e1,H1,L1,h1,h2,h3,h4⟩;refine Go.wp_mono (round k e1 H1 h4 a1 w1 L1 h3 h2) λex a' w' hq=>?_;obtain⟨e',H',L',g1,g2,g3,g4⟩:=hq
 cases ex with
 |normal=>obtain⟨m,hm,g4⟩:=g4;exact⟨m,hm,e',H',L',h1.trans g1,g2,g3,g4⟩
 |exit id=>exact⟨e',H',L',h1.trans g1,g2,g3,g4⟩
 |goto id=>exact⟨e',H',L',h1.trans g1,g2,g3,g4⟩
 |ret=>exact⟨e',H',L',h1.trans g1,g2,g3,g4⟩
 |panic ch=>exact⟨e',H',L',h1.trans g1,g2,g3,g4⟩
 |outgrown=>exact⟨e',H',L',h1.trans g1,g2,g3,g4⟩
theorem ng.jQ(I:Nat->List (Nat×LV)->Heap->Prop)(h0:∃ k l H0,I k l H0/\Yr e l/\HSub H0 H)
  (round:∀ k l H,I k l H->∀ j:Env,j.ds=e.ds->ng C n c (Ud (NW I k e.ds) Q) (Env.Nf j l) H):ng C n (.loop c) Q e H:=by
 obtain⟨k,l,H0,h0,h1,h2⟩:=h0;refine ng.Zb h2 (ng.loop (λk e' H'=>∃ l H0,I k l H0/\Yr e' l/\HSub H0 H'/\e'.ds=e.ds) k ⟨l,H0,h0,h1,Tb _,rfl⟩ ?_);rintro k e' H' ⟨l,H0,g0,g1,g2,g3⟩;have:=round k l H0 g0 e' g3;rw[Env.sd g1.mem] at this;refine ng.Zb g2 (ng.Oc this ?_);rintro ex e2 H2 hq;cases ex with
 |normal=>obtain⟨m,l',H3,r1,r2,r3,r4,r5⟩:=hq;exact⟨m,r1,l',H3,r2,r3,r4,r5⟩
 |exit id=>exact hq
 |goto id=>exact hq
 |ret=>exact hq
 |panic ch=>exact hq
 |outgrown=>exact hq
end
section
variable{C:Ctx}{e:Env}{H:Heap}{x y:Operand}{dst:Option Nat}{ty:TypeId}{pos:String}{ka:Array Edge}{g:Option (Nat×Bool)}
theorem Pure.vq{s d el:TypeId} [hs:Ea C.P s el 1] [he:ai C.P el .u8] [hd:Bm C.P d]{l:List UInt8}(hx:elems (e.ev x)=some (Qe l)):Pure C ⟨dst,.convert s d x,ty,pos,ka,g⟩ e H (str l):=by
 by_cases ub:l=[];subst ub;intro ρ w L h _;obtain⟨a,cap,hv,Jh,hr⟩:=(h x).elems hx;refine⟨_,Zc,λw' ha=>?_⟩;have h0:execOp ρ ⟨dst,.convert s d x,ty,pos,ka,g⟩=(do Pure.pure (.value (<-convert s d (ρ x)))):=rfl;have hlen:(Qe []).length=0:=rfl
 have hc:(convert s d (.slice a 0 cap)).run C.P w'=.ok (.string ⟨#[]⟩) w':=by
  rw[run_convert_bytes_string w' s d el a 0 cap hs.De he.De hd.De];cases a with
  |none=>rfl
  |some a=>exact run_bytesToString w' a 0 cap [] (run_loadCells_list (P:=C.P) w' a [] λj v hj=>by cases hj)
 rw[h0,hv,hlen];simp only[wc,hc,Sc,Ed];exact Pure.dC hx ub
end
class kz (P:Program) (t:TypeId):Prop where
 De:P.underlying t=some (.struct (P.fieldsOf t))
 apart:P.stoodInHeld t=false
 guard:P.eqGuardType P.depth t=false
 fields : ∃ f0 f1 f2 : Field, (P.fieldsOf t).toList = [f0, f1, f2] ∧ (f0.name ≠ "_" ∧ f0.offset = 0 ∧ P.underlying f0.type = some .string) ∧ (f1.name ≠ "_" ∧ f1.offset = 1 ∧ P.underlying f1.type = some (.int .i64)) ∧ (f2.name ≠ "_" ∧ f2.offset = 2 ∧ P.underlying f2.type = some (.int .i64))
def lX (P : Program) (f : Field) (o : Nat) : Bool := f.name != "_" && f.offset == o && (match P.underlying f.type with | some .string => true | _ => false)
def eT (P : Program) (f : Field) (o : Nat) : Bool := f.name != "_" && f.offset == o && (match P.underlying f.type with | some (.int .i64) => true | _ => false)
def C8(P:Program)(t:TypeId):Bool:=(match P.underlying t with|some (.struct _)=>true|_=>false) && !P.stoodInHeld t && !P.eqGuardType P.depth t && (match (P.fieldsOf t).toList with|[f0,f1,f2]=>lX P f0 0 && eT P f1 1 && eT P f2 2|_=>false)
theorem qrA  {f : Field}  (h : lX P f o = true) : f.name ≠ "_" ∧ f.offset = o ∧ P.underlying f.type = some .string := by
 unfold lX at h;simp only[Yc,bne_iff_ne,beq_iff_eq] at h;obtain⟨⟨h1,h2⟩,h3⟩:=h;refine⟨h1,h2,?_⟩;split at h3
 assumption
 cases h3
theorem qnE  {f : Field}  (h : eT P f o = true) : f.name ≠ "_" ∧ f.offset = o ∧ P.underlying f.type = some (.int .i64) := by
 unfold eT at h;simp only[Yc,bne_iff_ne,beq_iff_eq] at h;obtain⟨⟨h1,h2⟩,h3⟩:=h;refine⟨h1,h2,?_⟩;split at h3
 assumption
 cases h3
theorem kz.of(h:C8 P t=true):kz P t:=by unfold C8 at h;simp only[Yc,Bool.not_eq_true'] at h;obtain⟨⟨⟨h1,h2⟩,h3⟩,h4⟩:=h;refine⟨?_,h2,h3,?_⟩;split at h1;rename_i fs hu;rw[hu];simp[Program.fieldsOf,hu];cases h1;split at h4;rename_i f0 f1 f2 hf;simp only[Yc] at h4;exact⟨f0,f1,f2,hf,qrA h4.1.1,qnE h4.1.2,qnE h4.2⟩;cases h4
theorem HZ{d:TypeDesc}(hu:P.underlying t=some d)(hp:d=.string∨d=.int .i64){xs:Array Value}(hx:xs[off]? = some v)(w:World):(part t xs off).run P w=.ok v w:=
 run_part_plain w (by rcases hp with rfl|rfl <;> simp[Program.plainKey,hu]) hx
theorem qnA(hu:P.underlying t=some .string)(d:Nat)(a b:List UInt8)(w:World):(Op.equalIn (d+1) t (.string ⟨a.toArray⟩) (.string ⟨b.toArray⟩)).run P w=.ok (decide (a=b)) w:=by simp only[Op.equalIn,wc,ie hu,Sc,Ed];rw[beq_toListBytes,ByteArray.toList_eq,ByteArray.toList_eq];congr 1;by_cases h:a=b <;> simp[h]
theorem yU(hu:P.underlying t=some (.int .i64))(d:Nat)(a b:Int)(w:World):(Op.equalIn (d+1) t (.int .i64 a) (.int .i64 b)).run P w=.ok (decide (a=b)) w:=by simp only[Op.equalIn,wc,ie hu,Sc,Ed,if_true];congr 1
theorem qtU [h:kz P t](a b:List UInt8)(x y u v:Int)(w:World) :
  (Op.equal t (.agg #[.string ⟨a.toArray⟩,.int .i64 x,.int .i64 u]) (.agg #[.string ⟨b.toArray⟩,.int .i64 y,.int .i64 v])).run P w=.ok (decide (a=b/\x=y/\u=v)) w:=by
 obtain⟨f0,f1,f2,hf,⟨n0,o0,u0⟩,⟨n1,o1,u1⟩,⟨n2,o2,u2⟩⟩:=h.fields;rw[PU,run_equalIn_struct w 9999 t _ _ h.De h.apart,hf];have p0:∀ (s:List UInt8) (i j:Int),(part f0.type #[.string ⟨s.toArray⟩,.int .i64 i,.int .i64 j] f0.offset).run P w=.ok (.string ⟨s.toArray⟩) w:=λs i j=>HZ u0 (.inl rfl) (by rw[o0];try rfl) w;have p1:∀ (s:List UInt8) (i j:Int),(part f1.type #[.string ⟨s.toArray⟩,.int .i64 i,.int .i64 j] f1.offset).run P w=.ok (.int .i64 i) w:=λs i j=>HZ u1 (.inr rfl) (by rw[o1];try rfl) w;have p2:∀ (s:List UInt8) (i j:Int),(part f2.type #[.string ⟨s.toArray⟩,.int .i64 i,.int .i64 j] f2.offset).run P w=.ok (.int .i64 j) w:=λs i j=>HZ u2 (.inr rfl) (by rw[o2];try rfl) w;have e0:=qnA u0 9998 a b w;have e1:=yU u1 9998 x y w;have e2:=yU u2 9998 u v w;have q1:∀ a b:Int,(Op.equalIn 9999 f1.type (.int .i64 a) (.int .i64 b)).run P w=.ok (decide (a=b)) w:=λa b=>yU u1 9998 a b w;have q2:∀ a b:Int,(Op.equalIn 9999 f2.type (.int .i64 a) (.int .i64 b)).run P w=.ok (decide (a=b)) w:=λa b=>yU u2 9998 a b w;have q0:(Op.equalIn 9999 f0.type (.string ⟨a.toArray⟩) (.string ⟨b.toArray⟩)).run P w=.ok (decide (a=b)) w:=qnA u0 9998 a b w;simp only[Op.eqFields,n0,n1,n2,ne_eq,not_false_eq_true,if_true,wc,p0,q0,Sc]
 by_cases ha:a=b;simp only[ha,decide_true,Bool.not_true,gk,if_false,wc,p1,q1,Sc,true_and];by_cases hx:x=y;simp only[hx,decide_true,Bool.not_true,gk,if_false,wc,p2,q2,Sc,true_and];by_cases hu:u=v;simp[hu];simp[hu];simp[hx];simp[ha]
section
variable{C:Ctx}{e:Env}{H:Heap}{dst:Option Nat}{ty:TypeId}{pos:String}{ka:Array Edge}{g:Option (Nat×Bool)}{x y:Operand}
theorem L8(h:∀ x,wb w L (e.ev x) (ρ x)){x:Operand}{a:List UInt8}(hx:e.ev x=.agg [str a,int .i64 i,int .i64 j]):ρ x=.agg #[.string ⟨a.toArray⟩,.int .i64 i,.int .i64 j]:=by have hv:=h x;rw[hx] at hv;simp only[wb,la,str,int] at hv;obtain⟨vs,h1,v0,r0,e0,rfl,v1,r1,e1,rfl,v2,r2,e2,rfl,e3⟩:=hv;rw[h1,e0,e1,e2,e3]
theorem Pure.TR [h:kz C.P t]{a b:List UInt8}{k l:Int}(hx:e.ev x=.agg [str a,int .i64 i,int .i64 j])(hy:e.ev y=.agg [str b,int .i64 k,int .i64 l]) :
  Pure C ⟨dst,.binOp .eql t x y yT,ty,pos,ka,g⟩ e H (bool (decide (a=b/\i=k/\j=l))):=
 .Ja λρ _ _ hr=>⟨_,Zc,λw'=>by
  have h1:=L8 hr hx;have h2:=L8 hr hy;have he:(eqGuard .eql t x y (.agg #[.string ⟨a.toArray⟩,.int .i64 i,.int .i64 j]) (.agg #[.string ⟨b.toArray⟩,.int .i64 k,.int .i64 l])).run C.P w'=.ok () w':=by simp[eqGuard,h.guard]
  have hb:binOp .eql t (.agg #[.string ⟨a.toArray⟩,.int .i64 i,.int .i64 j]) (.agg #[.string ⟨b.toArray⟩,.int .i64 k,.int .i64 l])=(do Pure.pure (.bool (<-Op.equal t (.agg #[.string ⟨a.toArray⟩,.int .i64 i,.int .i64 j]) (.agg #[.string ⟨b.toArray⟩,.int .i64 k,.int .i64 l])))):=rfl;simp only[execOp,h1,h2,he,hb,wc,Ed,Sc,qtU]⟩
theorem Pure.GK [h:kz C.P t]{a b:List UInt8}{k l:Int}(hx:e.ev x=.agg [str a,int .i64 i,int .i64 j])(hy:e.ev y=.agg [str b,int .i64 k,int .i64 l])(h1:a=b)(h2:i=k)(h3:j=l) :
  Pure C ⟨dst,.binOp .eql t x y yT,ty,pos,ka,g⟩ e H (bool true):=by
 have:=Pure.TR (C:=C) (H:=H) (dst:=dst) (ty:=ty) (pos:=pos) (ka:=ka) (g:=g) (t:=t) (yT:=yT) hx hy;rwa [Vg ⟨h1,h2,h3⟩] at this
end
end Go.GL
namespace Go.ea
@[reducible] def cv(c:UInt8):Int:=(c.toNat:Int)
def Rd(c:UInt8):Bool:=decide (48<=cv c) && decide (cv c<=57)
def Yk(c:UInt8):Bool:=decide (97<=cv c) && decide (cv c<=122)
def yi(c:UInt8):Bool:=Yk c || Rd c || decide (cv c=95)
def CW(c:UInt8):Bool:=!decide (cv c=10)
def zL(c:UInt8):Bool:=decide (cv c=32) || decide (cv c=9) || decide (cv c=10)
structure Tok where
 kind:Int
 text:List UInt8
 line:Int
 deriving DecidableEq,Inhabited
theorem qgM{p:UInt8->Bool}{s:List UInt8}{m:Nat}(hm:m<s.length)(h:s.takeWhile p=s.take m++(s.drop m).takeWhile p) :
  (p s[m]=true->s.takeWhile p=s.take (m+1)++(s.drop (m+1)).takeWhile p)/\(p s[m]=false->s.takeWhile p=s.take m):=by
 have h1:s.drop m=s[m]::s.drop (m+1):=List.drop_eq_getElem_cons hm;constructor;intro hp;rw[h,h1,List.takeWhile_cons_of_pos hp,List.take_succ_eq_append_getElem hm];simp only[Pc,List.singleton_append];intro hp;rw[h,h1,List.takeWhile_cons_of_neg (by simp[hp])];simp
theorem qmr{p:UInt8->Bool}{s:List UInt8}{m:Nat}(hm:s.length<=m)(h:s.takeWhile p=s.take m++(s.drop m).takeWhile p):s.takeWhile p=s.take m:=by rw[h,List.drop_eq_nil_of_le hm];simp
def vu(s:List UInt8):Nat:=if [47,47].isPrefixOf s then (s.takeWhile CW).length else (s.takeWhile zL).length
end Go.ea
namespace Go.ea
def qyI:Tok:=⟨0,[],0⟩
abbrev ow:=Tok×Nat×Int
def np(e:Int):ow:=(qyI,0,e)
def ZI(s:List UInt8)(n:Nat):Bool:=match s[n]? with
 |some c=>Yk c || decide (cv c=95)
 |none=>false
def kJ(s:List UInt8):ow:=
 if ZI s (s.takeWhile Rd).length then np 3 else
  match Go.Lib.parseUintB 32 (s.takeWhile Rd) with
  |.ok u=>(⟨1,Go.Lib.decDigits u,0⟩,(s.takeWhile Rd).length,0)
  |_=>np 2
def oJ:List UInt8->ow
 |_::b::c::_=>if (!decide (cv c=39)) || decide (cv b<32) || decide (126<cv b) || decide (cv b=39) || decide (cv b=92) then np 3 else (⟨1,Go.Lib.decDigits b.toNat,0⟩,3,0)
 |_=>np 3
def FC:List (List UInt8):=[[97,114,114,97,121],[101,108,115,101],[102,117,110,99],[104,97,108,116],[105,102],[114,101,116,117,114,110],[118,97,114],[119,104,105,108,101]]
def Tk:List (List UInt8):=[[38,38],[124,124],[61,61],[33,61],[60,61],[62,61],[60],[62],[94],[43],[45],[42],[47],[37],[33],[61],[40],[41],[123],[125],[91],[93],[44],[59]]
def WI(s:List UInt8):ow:=
 if 24<(s.takeWhile yi).length then np 7 else (⟨if FC.contains (s.takeWhile yi) then 3 else 2,s.takeWhile yi,0⟩,(s.takeWhile yi).length,0)
def JL(s:List UInt8):ow:=match Tk.find? (λx=>x.isPrefixOf s) with
 |some x=>(⟨4,x,0⟩,x.length,0)
 |none=>np 3
def Yj(s:List UInt8):ow:=match s with
 |[]=>np 3
 |c::_=>if Rd c then kJ s else if Yk c then WI s else if decide (cv c=39) then oJ s else JL s
def tk:Nat->List UInt8->Int->Except (Int×Int) (List Tok)
 |0,_,_=>.ok []
 |ua+1,s,line=>
  if s=[] then .ok [] else
  if vu s=0 then
   if (Yj s).2.2≠0 then .error (line,(Yj s).2.2)
   else (tk ua (s.drop (Yj s).2.1) (line+((s.take (Yj s).2.1).count 10:Nat))).map ({ (Yj s).1 with line:=line }::·)
  else tk ua (s.drop (vu s)) (line+((s.take (vu s)).count 10:Nat))
theorem yZ(p:UInt8->Bool)(s:List UInt8):(s.takeWhile p).length<=s.length:=(List.takeWhile_prefix p).length_le
theorem qmF(s:List UInt8)(h:(Yj s).2.2=0):0<(Yj s).2.1/\(Yj s).2.1<=s.length:=by
 match s with
 |[]=>simp[Yj,np] at h
 |c::r=>
  simp only[Yj] at h ⊢;split at h <;> rename_i hc;rw[zp hc];unfold kJ at h ⊢;split at h;simp[np] at h
  rename_i hw;rw[zn hw];split at h;rename_i u hu;refine⟨?_,yZ _ _⟩;rw[List.takeWhile_cons_of_pos hc];simp;simp[np] at h;rw[zn hc];split at h <;> rename_i hl;rw[zp hl];unfold WI at h ⊢;split at h;simp[np] at h
  rename_i hw;rw[zn hw];refine⟨?_,yZ _ _⟩;rw[List.takeWhile_cons_of_pos (by simp[yi,hl])];simp;rw[zn hl];split at h <;> rename_i hq;rw[zp hq];unfold oJ at h ⊢;split at h;split at h;simp[np] at h
  rename_i hx;rename_i oF;rw[zn hx,oF];simp;simp[np] at h;rw[zn hq];unfold JL at h ⊢;split at h;rename_i x hx;have h1:=List.find?_some hx;have h2:=List.mem_of_find?_eq_some hx;refine⟨?_,(List.isPrefixOf_iff_prefix.1 h1).length_le⟩;have:∀ x∈Tk,0<x.length:=by decide
  exact this x h2;simp[np] at h
theorem qrq(s:List UInt8):vu s<=s.length:=by unfold vu;split <;> exact yZ _ _
inductive rj (A:Type) where
 |ok (v:A) (at' op:Nat)
 |err (line e:Int)
def aM(T:List Tok)(i:Nat):Int:=match T[min i (T.length-1)]? with
 |some t=>t.line
 |none=>1
def uL{A:Type}(T:List Tok)(i:Nat):rj A:=.err (aM T i) 3
def Re(T:List Tok)(i:Nat)(xs:List (List UInt8)):Bool:=match T[i]? with
 |some t=>(decide (t.kind=3) || decide (t.kind=4)) && xs.contains t.text
 |none=>false
def Lq(T:List Tok)(k:Int)(i op:Nat):rj (List UInt8):=match T[i]? with
 |some t=>if t.kind=k then .ok t.text (i+1) op else uL T i
 |none=>uL T i
def Vu(T:List Tok)(x:List UInt8)(i op:Nat):rj Unit:=if Re T i [x] then .ok () (i+1) op else uL T i
def Qq(T:List Tok)(x:List UInt8)(i op:Nat):rj Unit:=
 if Re T i [x] then (if 100<=op then .err (aM T i) 6 else .ok () (i+1) (op+1)) else uL T i
def rj.bind{A B:Type}(r:rj A)(f:A->Nat->Nat->rj B):rj B:=match r with
 |.ok v i op=>f v i op
 |.err l e=>.err l e
def ou(s:List UInt8):Nat:=match Go.Lib.parseUintB 32 s with
 |.ok u=>u
 |_=>0
end Go.ea
namespace Go.ea
variable{T:List Tok}{i op:Nat}{x:List UInt8}
inductive Ex where
 |mk (op:List UInt8) (num:Nat) (name:List UInt8) (args:List Ex)
 deriving Inhabited
inductive Sm where
 |mk (kind:Int) (name:List UInt8) (index value:List Ex) (Ka fb:List Sm)
 deriving Inhabited
structure ob where
 name:List UInt8
 params:List (List UInt8)
 locals:List (List UInt8)
 body:List Sm
 deriving Inhabited
structure Ar where
 name:List UInt8
 size:Nat
 deriving Inhabited
structure Pr where
 vars:List (List UInt8)
 ba:List Ar
 funcs:List ob
 deriving Inhabited
def fi:Nat->List (List UInt8)
 |0=>[[124,124]]
 |1=>[[38,38]]
 |2=>[[61,61],[33,61],[60],[62],[60,61],[62,61]]
 |3=>[[94]]
 |4=>[[43],[45]]
 |5=>[[42],[47],[37]]
 |_=>[]
abbrev OR(A:Type):=Option (rj A)
def ud{A B:Type}(r:OR A)(f:A->Nat->Nat->OR B):OR B:=match r with
 |none=>none
 |some (.ok v i op)=>f v i op
 |some (.err l e)=>some (.err l e)
def rG(T:List Tok)(i:Nat):List UInt8:=match T[i]? with
 |some t=>t.text
 |none=>[]
def uT(T:List Tok)(i:Nat):Int:=match T[i]? with
 |some t=>t.kind
 |none=>0
def Rk(T:List Tok)(x:List UInt8)(i op:Nat):rj Unit:=(Vu T x i op).bind λ_ i' Ia=>.ok () i' (Ia-1)
def xG(T:List Tok)(i op:Nat):rj Nat:=(Lq T 1 i op).bind λs i' Ia=>.ok (ou s) i' Ia
def Ez(T:List Tok):Nat->List (List UInt8)->Nat->Nat->OR (List (List UInt8))
 |0,_,_,_=>none
 |f+1,acc,i,op=>if Re T i [[44]] then ud (some (Lq T 2 (i+1) op)) λs i' Ia=>Ez T f (acc++[s]) i' Ia else some (.ok acc i op)
def nG(T:List Tok)(f:Nat)(i op:Nat):OR (List (List UInt8)):=ud (some (Lq T 2 i op)) λs i' Ia=>Ez T f [s] i' Ia
def tg:List UInt8:=[110,101,103]
def Uf:List UInt8:=[110,111,116]
def We:List UInt8:=[110,117,109]
def ij:List UInt8:=[101,108,101,109]
def Of:List UInt8:=[99,97,108,108]
def Bf:List UInt8:=[118,97,114]
mutual
def xg(T:List Tok):Nat->Nat->Nat->Nat->OR Ex
 |0,_,_,_=>none
 |f+1,k,i,op=>if k=6 then ry T f i op else ud (xg T f (k+1) i op) λe i' Ia=>wC T f k e i' Ia
def wC(T:List Tok):Nat->Nat->Ex->Nat->Nat->OR Ex
 |0,_,_,_,_=>none
 |f+1,k,e,i,op=>
  if Re T i (fi k) then ud (xg T f (k+1) (i+1) op) λe2 i' Ia=>
   if k=2 then some (.ok (.mk (rG T i) 0 [] [e,e2]) i' Ia) else wC T f k (.mk (rG T i) 0 [] [e,e2]) i' Ia
  else some (.ok e i op)
def ry(T:List Tok):Nat->Nat->Nat->OR Ex
 |0,_,_=>none
 |f+1,i,op=>
  if Re T i [[45]] then ud (some (Qq T [45] i op)) λ_ i' Ia=>ud (ry T f i' Ia) λe i' Ia=>some (.ok (.mk tg 0 [] [e]) i' (Ia-1))
  else if Re T i [[33]] then ud (some (Qq T [33] i op)) λ_ i' Ia=>ud (ry T f i' Ia) λe i' Ia=>some (.ok (.mk Uf 0 [] [e]) i' (Ia-1))
  else WD T f i op
def WD(T:List Tok):Nat->Nat->Nat->OR Ex
 |0,_,_=>none
 |f+1,i,op=>
  if Re T i [[40]] then ud (some (Qq T [40] i op)) λ_ i' Ia=>ud (xg T f 0 i' Ia) λe i' Ia=>ud (some (Rk T [41] i' Ia)) λ_ i' Ia=>some (.ok e i' Ia)
  else if uT T i=1 then ud (some (xG T i op)) λn i' Ia=>some (.ok (.mk We n [] []) i' Ia)
  else ud (some (Lq T 2 i op)) λs i' Ia=>
   if Re T i' [[91]] then ud (uA T f i' Ia) λe i' Ia=>some (.ok (.mk ij 0 s [e]) i' Ia)
   else if Re T i' [[40]] then ud (nC T f i' Ia) λl i' Ia=>some (.ok (.mk Of 0 s l) i' Ia)
   else some (.ok (.mk Bf 0 s []) i' Ia)
def uA(T:List Tok):Nat->Nat->Nat->OR Ex
 |0,_,_=>none
 |f+1,i,op=>ud (some (Qq T [91] i op)) λ_ i' Ia=>ud (xg T f 0 i' Ia) λe i' Ia=>ud (some (Rk T [93] i' Ia)) λ_ i' Ia=>some (.ok e i' Ia)
def nC(T:List Tok):Nat->Nat->Nat->OR (List Ex)
 |0,_,_=>none
 |f+1,i,op=>ud (some (Qq T [40] i op)) λ_ i' Ia=>ud (EA T f [] i' Ia) λl i' Ia=>ud (some (Rk T [41] i' Ia)) λ_ i' Ia=>some (.ok l i' Ia)
def EA(T:List Tok):Nat->List Ex->Nat->Nat->OR (List Ex)
 |0,_,_,_=>none
 |f+1,acc,i,op=>
  if Re T i [[41]] then some (.ok acc i op)
  else ud (some (if acc=[] then .ok () i op else Vu T [44] i op)) λ_ i' Ia=>ud (xg T f 0 i' Ia) λe i' Ia=>EA T f (acc++[e]) i' Ia
end
def kQ:List UInt8:=[105,102]
def Y8:List UInt8:=[101,108,115,101]
def E':List UInt8:=[119,104,105,108,101]
def qqv:List UInt8:=[114,101,116,117,114,110]
def O8:List UInt8:=[104,97,108,116]
def zO:List UInt8:=[118,97,114]
def qsd:List UInt8:=[97,114,114,97,121]
def p9:List UInt8:=[102,117,110,99]
mutual
def zA(T:List Tok):Nat->Nat->Nat->OR (List Sm)
 |0,_,_=>none
 |f+1,i,op=>ud (some (Qq T [123] i op)) λ_ i' Ia=>ud (sy T f [] i' Ia) λl i' Ia=>ud (some (Rk T [125] i' Ia)) λ_ i' Ia=>some (.ok l i' Ia)
def sy(T:List Tok):Nat->List Sm->Nat->Nat->OR (List Sm)
 |0,_,_,_=>none
 |f+1,acc,i,op=>if Re T i [[125]] then some (.ok acc i op) else ud (SD T f i op) λs i' Ia=>sy T f (acc++[s]) i' Ia
def SD(T:List Tok):Nat->Nat->Nat->OR Sm
 |0,_,_=>none
 |f+1,i,op=>
  if Re T i [kQ] then ud (xg T f 0 (i+1) op) λe i' Ia=>ud (zA T f i' Ia) λth i' Ia=>
   if Re T i' [Y8] then ud (zA T f (i'+1) Ia) λel i' Ia=>some (.ok (.mk 3 [] [] [e] th el) i' Ia) else some (.ok (.mk 3 [] [] [e] th []) i' Ia)
  else if Re T i [E'] then ud (xg T f 0 (i+1) op) λe i' Ia=>ud (zA T f i' Ia) λth i' Ia=>some (.ok (.mk 4 [] [] [e] th []) i' Ia)
  else ud (lE T f i op) λs i' Ia=>ud (some (Vu T [59] i' Ia)) λ_ i' Ia=>some (.ok s i' Ia)
def lE(T:List Tok):Nat->Nat->Nat->OR Sm
 |0,_,_=>none
 |f+1,i,op=>
  if Re T i [qqv] then ud (xg T f 0 (i+1) op) λe i' Ia=>some (.ok (.mk 5 [] [] [e] [] []) i' Ia)
  else if Re T i [O8] then some (.ok (.mk 7 [] [] [] [] []) (i+1) op)
  else ud (some (Lq T 2 i op)) λs i' Ia=>
   if Re T i' [[40]] then ud (nC T f i' Ia) λl i' Ia=>some (.ok (.mk 6 [] [] [.mk Of 0 s l] [] []) i' Ia)
   else if Re T i' [[91]] then ud (uA T f i' Ia) λx i' Ia=>ud (some (Vu T [61] i' Ia)) λ_ i' Ia=>ud (xg T f 0 i' Ia) λe i' Ia=>some (.ok (.mk 2 s [x] [e] [] []) i' Ia)
   else ud (some (Vu T [61] i' Ia)) λ_ i' Ia=>ud (xg T f 0 i' Ia) λe i' Ia=>some (.ok (.mk 1 s [] [e] [] []) i' Ia)
end
def Su(T:List Tok):Nat->List (List UInt8)->Nat->Nat->OR (List (List UInt8))
 |0,_,_,_=>none
 |f+1,acc,i,op=>if Re T i [zO] then ud (nG T f (i+1) op) λl i' Ia=>ud (some (Vu T [59] i' Ia)) λ_ i' Ia=>Su T f (acc++l) i' Ia else some (.ok acc i op)
def JI(T:List Tok)(f:Nat)(i op:Nat):OR ob:=
 ud (some (Lq T 2 i op)) λnm i' Ia=>ud (some (Qq T [40] i' Ia)) λ_ i' Ia=>
 ud (if Re T i' [[41]] then some (.ok [] i' Ia) else nG T f i' Ia) λps i' Ia=>ud (some (Rk T [41] i' Ia)) λ_ i' Ia=>
 ud (some (Qq T [123] i' Ia)) λ_ i' Ia=>ud (Su T f [] i' Ia) λls i' Ia=>ud (sy T f [] i' Ia) λb i' Ia=>
 ud (some (Rk T [125] i' Ia)) λ_ i' Ia=>some (.ok ⟨nm,ps,ls,b⟩ i' Ia)
def SI(T:List Tok)(i op:Nat):OR Ar:=
 ud (some (Lq T 2 i op)) λnm i' Ia=>ud (some (Qq T [91] i' Ia)) λ_ i' Ia=>ud (some (xG T i' Ia)) λn i' Ia=>
 ud (some (Rk T [93] i' Ia)) λ_ i' Ia=>ud (some (Vu T [59] i' Ia)) λ_ i' Ia=>some (.ok ⟨nm,n⟩ i' Ia)
def vC(T:List Tok):Nat->Pr->Nat->Nat->OR Pr
 |0,_,_,_=>none
 |f+1,p,i,op=>
  if T.length<=i then some (.ok p i op)
  else if Re T i [zO] then ud (Su T f [] i op) λl i' Ia=>vC T f { p with vars:=p.vars++l } i' Ia
  else if Re T i [qsd] then ud (SI T (i+1) op) λa i' Ia=>vC T f { p with ba:=p.ba++[a] } i' Ia
  else if Re T i [p9] then ud (JI T f (i+1) op) λa i' Ia=>vC T f { p with funcs:=p.funcs++[a] } i' Ia
  else some (uL T i)
def Zh:Ex->List UInt8|.mk o _ _ _=>o
def Mq:Ex->Nat|.mk _ n _ _=>n
def Pq:Ex->List UInt8|.mk _ _ n _=>n
def A9:Sm->Int|.mk k _ _ _ _ _=>k
def R8:Sm->List UInt8|.mk _ n _ _ _ _=>n
def qsU:Sm->List Ex|.mk _ _ i _ _ _=>i
def U':Sm->List Ex|.mk _ _ _ v _ _=>v
def Good{A:Type}(T:List Tok)(s:Bool)(i op:Nat)(r:rj A):Prop:=match r with
 |.ok _ i' Ia=>i<=i'/\(s=true->i<i')/\(i<=T.length->i'<=T.length)/\Ia=op
 |.err _ _=>True
def Gl{A:Type}(T:List Tok)(s:Bool)(i op:Nat)(r:OR A):Prop:=∀ r',r=some r'->Good T s i op r'
theorem nk{xs:List (List UInt8)}(h:Re T i xs=true):i<T.length:=by rcases Nat.lt_or_ge i T.length with h1|h1;exact h1;rw[Re,List.getElem?_eq_none h1] at h;cases h
theorem KI{t:Tok}(h:T[i]? = some t):i<T.length:=(List.getElem?_eq_some_iff.1 h).1
theorem Dz(T:List Tok)(k:Int)(i op:Nat):Good T true i op (Lq T k i op):=by unfold Lq;split;rename_i t ht;have:=KI ht;split;exact⟨by omega,λ_=>by omega,λ_=>by omega,rfl⟩;trivial;trivial
theorem Rw(T:List Tok)(x:List UInt8)(i op:Nat):Good T true i op (Vu T x i op):=by unfold Vu;split;rename_i h;have:=nk h;exact⟨by omega,λ_=>by omega,λ_=>by omega,rfl⟩;trivial
theorem uv{i' Ia:Nat}{u:Unit}(h:Qq T x i op=.ok u i' Ia):i'=i+1/\Ia=op+1/\op<100/\i<T.length:=by unfold Qq at h;split at h;rename_i h1;have:=nk h1;split at h;cases h;cases h;exact⟨rfl,rfl,by omega,this⟩;cases h
theorem YI{i' Ia:Nat}{u:Unit}(h:Rk T x i op=.ok u i' Ia):i'=i+1/\Ia=op-1/\i<T.length:=by unfold Rk Vu at h;split at h;rename_i h1;have:=nk h1;cases h;exact⟨rfl,rfl,this⟩;cases h
theorem TZ(T:List Tok)(i op:Nat):Good T true i op (xG T i op):=by
 have:=Dz T 1 i op;unfold xG;cases h:Lq T 1 i op with
 |ok v i' Ia=>rw[h] at this;exact this
 |err l e=>trivial
theorem Eo{A B:Type}{r:OR A}{f:A->Nat->Nat->OR B}{q:rj B}(h:ud r f=some q) :
  (∃ v i op,r=some (.ok v i op)/\f v i op=some q)∨(∃ l e,r=some (.err l e)/\q=.err l e):=by
 match r,h with
 |some (.ok v i op),h=>exact .inl ⟨v,i,op,rfl,h⟩
 |some (.err l e),h=>exact .inr ⟨l,e,rfl,by simpa [ud] using h.symm⟩
theorem Ll{A B:Type}{s t:Bool}{j Bc:Nat}{r:OR A}{f:A->Nat->Nat->OR B}(hr:Gl T s j Bc r)
  (hf:∀ v i' ,r=some (.ok v i' Bc)->j<=i'->(s=true->j<i')->(j<=T.length->i'<=T.length)->Gl T t i op (f v i' Bc)):Gl T t i op (ud r f):=λq hq=>by
 rcases Eo hq with⟨v,i',Ia,h1,h2⟩|⟨l,e,_,rfl⟩;obtain⟨g1,g2,g3,g4⟩:=hr _ h1;subst g4;exact hf v i' h1 g1 g2 g3 q h2;trivial
theorem Gk{A:Type}{s:Bool}{r:rj A}(h:Good T s i op r):Gl T s i op (some r):=λr' hr=>by cases hr;exact h
theorem Cy{A:Type}{s:Bool}:Gl (A:=A) T s i op none:=λr' hr=>by cases hr
theorem Gl.from{A:Type}{s t:Bool}{j:Nat}{r:OR A}(h:Gl T s j op r)(GV:i<=j)(hs:t=true->i<j∨s=true)(hT:i<=T.length->j<=T.length):Gl T t i op r:=λr' hr=>by
 have:=h r' hr;cases r' with
 |ok v i' Ia=>
  obtain⟨g1,g2,g3,g4⟩:=this;refine⟨by omega,λht=>?_,λhi=>g3 (hT hi),g4⟩;rcases hs ht with h1|h1;omega
  have:=g2 h1;omega
 |err l e=>trivial
theorem qf7(T:List Tok):∀ (f:Nat) (acc:List (List UInt8)) (i op:Nat),Gl T false i op (Ez T f acc i op)
 |0,_,_,_=>Cy
 |f+1,acc,i,op=>by rw[Ez];split;rename_i h;have:=nk h;refine Ll (Gk (Dz T 2 (i+1) op)) λv i' _ h1 h2 h3=>?_;exact(qf7 T f _ i' op).from (by omega) (by simp) (λ_=>h3 (by omega));exact Gk ⟨by omega,by simp,λh=>h,rfl⟩
theorem vJ(T:List Tok)(f i op:Nat):Gl T true i op (nG T f i op):=
 Ll (Gk (Dz T 2 i op)) λv i' _ h1 h2 h3=>(qf7 T f _ i' op).from h1 (λ_=>.inl (h2 rfl)) h3
theorem vU{A:Type}{s:Bool}{y:List UInt8}{g:Nat->Nat->OR A}(hg:i<T.length->op<100->Gl T s (i+1) (op+1) (g (i+1) (op+1))) :
  Gl T true i op (ud (some (Qq T x i op)) λ_ i' Ia=>ud (g i' Ia) λv i' Ia=>ud (some (Rk T y i' Ia)) λ_ i' Ia=>some (.ok v i' Ia)):=λq hq=>by
 rcases Eo hq with⟨v,i1,Bc,h1,h2⟩|⟨l,e,_,rfl⟩;injection h1 with h1;obtain⟨rfl,rfl,ho,hi⟩:=uv h1;rcases Eo h2 with⟨w,i2,Dg,h3,h4⟩|⟨l,e,_,rfl⟩;obtain⟨g1,_,g3,rfl⟩:=hg hi ho _ h3;rcases Eo h4 with⟨u,i3,pg,h5,h6⟩|⟨l,e,_,rfl⟩;injection h5 with h5;obtain⟨rfl,rfl,Zv⟩:=YI h5;cases h6;exact⟨by omega,λ_=>by omega,λ_=>by omega,by omega⟩;trivial;trivial;trivial
theorem Pw(T:List Tok):∀ f:Nat,(∀ k i op,Gl T true i op (xg T f k i op))/\(∀ k e i op,Gl T false i op (wC T f k e i op))/\(∀ i op,Gl T true i op (ry T f i op)) /\
  (∀ i op,Gl T true i op (WD T f i op))/\(∀ i op,Gl T true i op (uA T f i op))/\(∀ i op,Gl T true i op (nC T f i op))/\(∀ acc i op,Gl T false i op (EA T f acc i op))
 |0=>⟨λ_ _ _=>by rw[xg];exact Cy,λ_ _ _ _=>by rw[wC];exact Cy,λ_ _=>by rw[ry];exact Cy,λ_ _=>by rw[WD];exact Cy,λ_ _=>by rw[uA];exact Cy,λ_ _=>by rw[nC];exact Cy,λ_ _ _=>by rw[EA];exact Cy⟩
 |f+1=>by
  obtain⟨hL,hO,hU,hP,hI,hA,hB⟩:=Pw T f;have neg:∀ (x:List UInt8) (nm:List UInt8) (i op:Nat),Gl T true i op (ud (some (Qq T x i op)) λ_ i' Ia=>ud (ry T f i' Ia) λe i' Ia=>some (.ok (Ex.mk nm 0 [] [e]) i' (Ia-1))):=λx nm i op q hq=>by rcases Eo hq with⟨v,i1,Bc,h1,h2⟩|⟨l,e,_,rfl⟩;injection h1 with h1;obtain⟨rfl,rfl,ho,hi⟩:=uv h1;rcases Eo h2 with⟨w,i2,Dg,h3,h4⟩|⟨l,e,_,rfl⟩;obtain⟨g1,_,g3,rfl⟩:=hU _ _ _ h3;cases h4;exact⟨by omega,λ_=>by omega,λ_=>g3 (by omega),by omega⟩;trivial;trivial
  refine⟨λk i op=>?_,λk e i op=>?_,λi op=>?_,λi op=>?_,λi op=>?_,λi op=>?_,λacc i op=>?_⟩;rw[xg];split;exact hU i op;exact Ll (hL (k+1) i op) λv i' _ h1 h2 h3=>(hO k v i' op).from h1 (λ_=>.inl (h2 rfl)) h3;rw[wC];split
  rename_i h;have:=nk h;refine Ll (hL (k+1) (i+1) op) λv i' _ h1 h2 h3=>?_;split;exact Gk ⟨by omega,by simp,λ_=>h3 (by omega),rfl⟩;exact(hO k _ i' op).from (by omega) (by simp) (λ_=>h3 (by omega));exact Gk ⟨by omega,by simp,λh=>h,rfl⟩;rw[ry];split;exact neg _ _ _ _;split;exact neg _ _ _ _;exact hP i op;rw[WD];split;exact vU (g:=λi op=>xg T f 0 i op) λ_ _=>hL 0 _ _;split;exact Ll (Gk (TZ T i op)) λv i' _ h1 h2 h3=>Gk ⟨h1,λ_=>h2 rfl,h3,rfl⟩;refine Ll (Gk (Dz T 2 i op)) λv i' _ h1 h2 h3=>?_;split;exact Ll (hI i' op) λv i2 _ g1 g2 g3=>Gk ⟨by omega,λ_=>by have:=h2 rfl;omega,λh=>g3 (h3 h),rfl⟩;split;exact Ll (hA i' op) λv i2 _ g1 g2 g3=>Gk ⟨by omega,λ_=>by have:=h2 rfl;omega,λh=>g3 (h3 h),rfl⟩;exact Gk ⟨h1,λ_=>h2 rfl,h3,rfl⟩;rw[uA];exact vU (g:=λi op=>xg T f 0 i op) λ_ _=>hL 0 _ _;rw[nC];exact vU (g:=λi op=>EA T f [] i op) λ_ _=>hB [] _ _;rw[EA];split;exact Gk ⟨by omega,by simp,λh=>h,rfl⟩;refine Ll (s:=false) (j:=i) (Bc:=op) ?_ λv i' _ h1 h2 h3=>?_;split;exact Gk ⟨by omega,by simp,λh=>h,rfl⟩;exact Gl.from (Gk (Rw T [44] i op)) (by omega) (by simp) λh=>h;exact Ll (hL 0 i' op) λv i2 _ g1 g2 g3=>(hB _ i2 op).from (by omega) (by simp) λh=>g3 (h3 h)
end Go.ea
namespace Go.ea
variable{T:List Tok}{i op:Nat}
theorem VI(T:List Tok):∀ f:Nat,(∀ i op,Gl T true i op (zA T f i op))/\(∀ acc i op,Gl T false i op (sy T f acc i op))/\(∀ i op,Gl T true i op (SD T f i op))/\(∀ i op,Gl T true i op (lE T f i op))
 |0=>⟨λ_ _=>by rw[zA];exact Cy,λ_ _ _=>by rw[sy];exact Cy,λ_ _=>by rw[SD];exact Cy,λ_ _=>by rw[lE];exact Cy⟩
 |f+1=>by
  obtain⟨hB,hL,hS,hM⟩:=VI T f;obtain⟨gL,_,_,_,gI,gA,_⟩:=Pw T f;refine⟨λi op=>?_,λacc i op=>?_,λi op=>?_,λi op=>?_⟩;rw[zA];exact vU (g:=λi op=>sy T f [] i op) λ_ _=>hL [] _ _;rw[sy];split;exact Gk ⟨by omega,by simp,λh=>h,rfl⟩;exact Ll (hS i op) λv i' _ h1 h2 h3=>(hL _ i' op).from h1 (by simp) h3;rw[SD];split
  rename_i h;have:=nk h;refine Ll (gL 0 (i+1) op) λv i' _ h1 h2 h3=>Ll (hB i' op) λw i2 _ g1 g2 g3=>?_;split
  rename_i h4;have:=nk h4;refine Ll (hB (i2+1) op) λx i3 _ k1 k2 k3=>Gk ⟨by omega,λ_=>by omega,λ_=>k3 (by omega),rfl⟩;exact Gk ⟨by omega,λ_=>by omega,λ_=>g3 (h3 (by omega)),rfl⟩;split
  rename_i h;have:=nk h;exact Ll (gL 0 (i+1) op) λv i' _ h1 h2 h3=>Ll (hB i' op) λw i2 _ g1 g2 g3=>Gk ⟨by omega,λ_=>by omega,λ_=>g3 (h3 (by omega)),rfl⟩;exact Ll (hM i op) λv i' _ h1 h2 h3=>Ll (Gk (Rw T [59] i' op)) λw i2 _ g1 g2 g3=>Gk ⟨by omega,λ_=>by have:=h2 rfl;omega,λhh=>g3 (h3 hh),rfl⟩;rw[lE];split
  rename_i h;have:=nk h;exact Ll (gL 0 (i+1) op) λv i' _ h1 h2 h3=>Gk ⟨by omega,λ_=>by omega,λ_=>h3 (by omega),rfl⟩;split
  rename_i h;have:=nk h;exact Gk ⟨by omega,λ_=>by omega,λ_=>by omega,rfl⟩;refine Ll (Gk (Dz T 2 i op)) λv i' _ h1 h2 h3=>?_;split;exact Ll (gA i' op) λw i2 _ g1 g2 g3=>Gk ⟨by omega,λ_=>by have:=h2 rfl;omega,λhh=>g3 (h3 hh),rfl⟩;split
  exact Ll (gI i' op) λw i2 _ g1 g2 g3=>Ll (Gk (Rw T [61] i2 op)) λu i3 _ k1 k2 k3=>Ll (gL 0 i3 op) λx i4 _ m1 m2 m3=>
   Gk ⟨by omega,λ_=>by have:=h2 rfl;omega,λhh=>m3 (k3 (g3 (h3 hh))),rfl⟩
  exact Ll (Gk (Rw T [61] i' op)) λu i3 _ k1 k2 k3=>Ll (gL 0 i3 op) λx i4 _ m1 m2 m3=>
   Gk ⟨by omega,λ_=>by have:=h2 rfl;omega,λhh=>m3 (k3 (h3 hh)),rfl⟩
theorem XG(T:List Tok):∀ (f:Nat) (acc:List (List UInt8)) (i op:Nat),Gl T (Re T i [zO]) i op (Su T f acc i op)
 |0,_,_,_=>by rw[Su];exact Cy
 |f+1,acc,i,op=>by
  rw[Su];split;rename_i h;have:=nk h;exact Ll (vJ T f (i+1) op) λv i' _ h1 h2 h3=>Ll (Gk (Rw T [59] i' op)) λu i2 _ g1 g2 g3=>
   (XG T f _ i2 op).from (by omega) (λ_=>.inl (by omega)) (λ_=>g3 (h3 (by omega)))
  rename_i h;exact Gk ⟨by omega,λhh=>absurd hh h,λh=>h,rfl⟩
def Ends{A:Type}(r:OR A):Prop:=∃ q,r=some q
theorem Rg{A B:Type}{r:OR A}{f:A->Nat->Nat->OR B}(h:Ends r)(k:∀ v i op,r=some (.ok v i op)->Ends (f v i op)):Ends (ud r f):=by
 obtain⟨q,rfl⟩:=h;cases q with
 |ok v i op=>exact k v i op rfl
 |err l e=>exact⟨_,rfl⟩
theorem Sg{A:Type}{r:rj A}:Ends (some r):=⟨_,rfl⟩
theorem YG{B:Type}{x:List UInt8}{g:Unit->Nat->Nat->OR B}(k:i<T.length->op<100->Ends (g () (i+1) (op+1))):Ends (ud (some (Qq T x i op)) g):=
 Rg Sg λv i1 Bc h1=>by injection h1 with h1;obtain⟨rfl,rfl,ho,hi⟩:=uv h1;exact k hi ho
theorem J'(T:List Tok):∀ f:Nat,(∀ k i op,k<=6->i<=T.length->10 * (T.length-i)+20-k<=f->Ends (xg T f k i op))/\(∀ k e i op,k<=5->i<=T.length->10 * (T.length-i)+11<=f->Ends (wC T f k e i op)) /\
  (∀ i op,i<=T.length->10 * (T.length-i)+13<=f->Ends (ry T f i op))/\(∀ i op,i<=T.length->10 * (T.length-i)+12<=f->Ends (WD T f i op))/\(∀ i op,i<=T.length->10 * (T.length-i)+11<=f->Ends (uA T f i op)) /\
  (∀ i op,i<=T.length->10 * (T.length-i)+12<=f->Ends (nC T f i op))/\(∀ acc i op,i<=T.length->10 * (T.length-i)+21<=f->Ends (EA T f acc i op))
 |0=>⟨λ_ _ _ _ _ _=>by omega,λ_ _ _ _ _ _ _=>by omega,λ_ _ _ _=>by omega,λ_ _ _ _=>by omega,λ_ _ _ _=>by omega,λ_ _ _ _=>by omega,λ_ _ _ _ _=>by omega⟩
 |f+1=>by
  obtain⟨hL,hO,hU,hP,hI,hA,hB⟩:=J' T f;obtain⟨gL,gO,gU,gP,gI,gA,gB⟩:=Pw T f;have neg:∀ (x nm:List UInt8) (i op:Nat),10 * (T.length-i)+13<=f+1->Ends (ud (some (Qq T x i op)) λ_ i' Ia=>ud (ry T f i' Ia) λe i' Ia=>some (.ok (Ex.mk nm 0 [] [e]) i' (Ia-1))):=λx nm i op hf=>
   YG λhi ho=>Rg (hU _ _ (by omega) (by omega)) λv i2 Dg _=>Sg
  refine⟨λk i op hk hi hf=>?_,λk e i op hk hi hf=>?_,λi op hi hf=>?_,λi op hi hf=>?_,λi op hi hf=>?_,λi op hi hf=>?_,λacc i op hi hf=>?_⟩;rw[xg];split;exact hU i op hi (by omega);refine Rg (hL (k+1) i op (by omega) hi (by omega)) λv i' Ia h=>?_;obtain⟨g1,g2,g3,rfl⟩:=gL (k+1) i op _ h;have:=g2 rfl;exact hO k v i' Ia (by omega) (g3 hi) (by have:=g3 hi;omega);rw[wC];split
  rename_i h;have:=nk h;refine Rg (hL (k+1) (i+1) op (by omega) (by omega) (by omega)) λv i' Ia h=>?_;obtain⟨g1,g2,g3,rfl⟩:=gL (k+1) (i+1) op _ h;have:=g3 (by omega);split;exact Sg;exact hO k _ i' Ia hk this (by omega);exact Sg;rw[ry];split;exact neg _ _ _ _ hf;split;exact neg _ _ _ _ hf;exact hP i op hi (by omega);rw[WD];split;exact YG λza ho=>Rg (hL 0 _ _ (by omega) (by omega) (by omega)) λv i2 Dg _=>Rg Sg λ_ _ _ _=>Sg;split;exact Rg Sg λ_ _ _ _=>Sg;refine Rg Sg λv i' Ia h=>?_;injection h with h;have hg:=Dz T 2 i op;rw[h] at hg;obtain⟨h1,h2,h3,rfl⟩:=hg;have:=h2 rfl;have:=h3 hi;split;exact Rg (hI i' _ (by omega) (by omega)) λ_ _ _ _=>Sg;split;exact Rg (hA i' _ (by omega) (by omega)) λ_ _ _ _=>Sg;exact Sg;rw[uA];exact YG λza ho=>Rg (hL 0 _ _ (by omega) (by omega) (by omega)) λv i2 Dg _=>Rg Sg λ_ _ _ _=>Sg;rw[nC];exact YG λza ho=>Rg (hB [] _ _ (by omega) (by omega)) λv i2 Dg _=>Rg Sg λ_ _ _ _=>Sg;rw[EA];split;exact Sg;refine Rg Sg λv i' Ia h=>?_
  have hg:i<=i'/\i'<=T.length:=by injection h with h;split at h;cases h;exact⟨Nb _,hi⟩;have hg:=Rw T [44] i op;rw[h] at hg;exact⟨hg.1,hg.2.2.1 hi⟩
  refine Rg (hL 0 i' Ia (by omega) hg.2 (by omega)) λv2 i2 Dg h2=>?_;obtain⟨g1,g2,g3,rfl⟩:=gL 0 i' Ia _ h2;have:=g2 rfl;have:=g3 hg.2;exact hB _ i2 _ this (by omega)
theorem qsG(T:List Tok):∀ f:Nat,(∀ i op,i<=T.length->10 * (T.length-i)+5<=f->Ends (zA T f i op))/\(∀ acc i op,i<=T.length->10 * (T.length-i)+14<=f->Ends (sy T f acc i op)) /\
  (∀ i op,i<=T.length->10 * (T.length-i)+13<=f->Ends (SD T f i op))/\(∀ i op,i<=T.length->10 * (T.length-i)+12<=f->Ends (lE T f i op))
 |0=>⟨λ_ _ _ _=>by omega,λ_ _ _ _ _=>by omega,λ_ _ _ _=>by omega,λ_ _ _ _=>by omega⟩
 |f+1=>by
  obtain⟨hB,hL,hS,hM⟩:=qsG T f;obtain⟨eL,_,_,_,eI,eA,_⟩:=J' T f;obtain⟨gL,_,_,_,gI,gA,_⟩:=Pw T f;obtain⟨kB,kL,kS,kM⟩:=VI T f;refine⟨λi op hi hf=>?_,λacc i op hi hf=>?_,λi op hi hf=>?_,λi op hi hf=>?_⟩;rw[zA];exact YG λza ho=>Rg (hL [] _ _ (by omega) (by omega)) λv i2 Dg _=>Rg Sg λ_ _ _ _=>Sg;rw[sy];split;exact Sg;refine Rg (hS i op hi (by omega)) λv i' Ia h=>?_;obtain⟨g1,g2,g3,rfl⟩:=kS i op _ h;have:=g2 rfl;have:=g3 hi;exact hL _ i' _ (by omega) (by omega);rw[SD];split
  rename_i h;have:=nk h;refine Rg (eL 0 (i+1) op (by omega) (by omega) (by omega)) λv i' Ia h=>?_;obtain⟨g1,g2,g3,rfl⟩:=gL 0 (i+1) op _ h;have:=g2 rfl;have:=g3 (by omega);refine Rg (hB i' _ (by omega) (by omega)) λv2 i2 Dg h2=>?_;obtain⟨q1,q2,q3,rfl⟩:=kB i' _ _ h2;have:=q3 (by omega);split
  rename_i h4;have:=nk h4;exact Rg (hB (i2+1) _ (by omega) (by omega)) λ_ _ _ _=>Sg;exact Sg;split
  rename_i h;have:=nk h;refine Rg (eL 0 (i+1) op (by omega) (by omega) (by omega)) λv i' Ia h=>?_;obtain⟨g1,g2,g3,rfl⟩:=gL 0 (i+1) op _ h;have:=g2 rfl;have:=g3 (by omega);exact Rg (hB i' _ (by omega) (by omega)) λv2 i2 Dg h2=>Sg;exact Rg (hM i op hi (by omega)) λ_ _ _ _=>Rg Sg λ_ _ _ _=>Sg;rw[lE];split
  rename_i h;have:=nk h;exact Rg (eL 0 (i+1) op (by omega) (by omega) (by omega)) λ_ _ _ _=>Sg;split;exact Sg;refine Rg Sg λv i' Ia h=>?_;injection h with h;have hg:=Dz T 2 i op;rw[h] at hg;obtain⟨h1,h2,h3,rfl⟩:=hg;have:=h2 rfl;have:=h3 hi;split;exact Rg (eA i' _ (by omega) (by omega)) λ_ _ _ _=>Sg
  have tail:∀ (i2 Dg:Nat) (g:Ex->Sm),i'<=i2->i2<=T.length->Ends (ud (some (Vu T [61] i2 Dg)) λ_ i' Ia=>ud (xg T f 0 i' Ia) λe i' Ia=>some (.ok (g e) i' Ia)):=λi2 Dg g Lz Zv=>by refine Rg Sg λv i3 pg h3=>?_;injection h3 with h3;have hg:=Rw T [61] i2 Dg;rw[h3] at hg;have:=hg.2.2.1 Zv;have:=hg.1;exact Rg (eL 0 i3 _ (by omega) (by omega) (by omega)) λ_ _ _ _=>Sg
  split;refine Rg (eI i' _ (by omega) (by omega)) λv2 i2 Dg h2=>?_;obtain⟨q1,q2,q3,rfl⟩:=gI i' _ _ h2;exact tail i2 _ _ q1 (q3 (by omega));exact tail i' _ _ (Nb _) (by omega)
theorem qfW(T:List Tok):∀ (f:Nat) (acc:List (List UInt8)) (i op:Nat),i<=T.length->T.length-i+1<=f->Ends (Ez T f acc i op)
 |0,_,_,_,_,h=>by omega
 |f+1,acc,i,op,hi,hf=>by rw[Ez];split;rename_i h;have:=nk h;refine Rg Sg λv i' Ia h=>?_;injection h with h;have hg:=Dz T 2 (i+1) op;rw[h] at hg;obtain⟨h1,h2,h3,rfl⟩:=hg;exact qfW T f _ i' _ (h3 (by omega)) (by have:=h3 (by omega);omega);exact Sg
theorem qkE(T:List Tok)(f i op:Nat)(hi:i<=T.length)(hf:T.length-i+1<=f):Ends (nG T f i op):=
 Rg Sg λv i' Ia h=>by injection h with h;have hg:=Dz T 2 i op;rw[h] at hg;obtain⟨h1,h2,h3,rfl⟩:=hg;exact qfW T f _ i' _ (h3 hi) (by have:=h3 hi;omega)
theorem qZ(T:List Tok):∀ (f:Nat) (acc:List (List UInt8)) (i op:Nat),i<=T.length->T.length-i+2<=f->Ends (Su T f acc i op)
 |0,_,_,_,_,h=>by omega
 |f+1,acc,i,op,hi,hf=>by rw[Su];split;rename_i h;have:=nk h;refine Rg (qkE T f (i+1) op (by omega) (by omega)) λv i' Ia h=>?_;obtain⟨g1,g2,g3,rfl⟩:=vJ T f (i+1) op _ h;have:=g3 (by omega);refine Rg Sg λv i2 Dg h2=>?_;injection h2 with h2;have hg:=Rw T [59] i' Ia;rw[h2] at hg;obtain⟨h1,h2,h3,rfl⟩:=hg;have:=h3 (by omega);exact qZ T f _ i2 _ (by omega) (by omega);exact Sg
theorem qlT{B:Type}{k:Int}{g:List UInt8->Nat->Nat->OR B}(h:∀ s,i<T.length->Ends (g s (i+1) op)):Ends (ud (some (Lq T k i op)) g):=
 Rg Sg λv i' Ia hw=>by injection hw with hw;unfold Lq at hw;split at hw;rename_i t ht;have:=KI ht;split at hw;cases hw;exact h _ this;cases hw;cases hw
theorem quZ{B:Type}{x:List UInt8}{g:Unit->Nat->Nat->OR B}(h:i<T.length->Ends (g () (i+1) (op-1))):Ends (ud (some (Rk T x i op)) g):=
 Rg Sg λv i' Ia hw=>by injection hw with hw;obtain⟨rfl,rfl,za⟩:=YI hw;exact h za
theorem qrH(T:List Tok)(f i op:Nat)(hi:i<=T.length)(hf:10 * (T.length-i)+14<=f):Ends (JI T f i op):=by
 unfold JI;refine qlT λs h1=>YG λh2 h3=>Rg ?_ λv i2 Dg h4=>quZ λh5=>YG λh6 h7=>Rg (qZ T f [] _ _ (by omega) ?_) λv2 i3 pg h8=>Rg ((qsG T f).2.1 [] _ _ ?_ ?_) λv3 i4 Lm h9=>Rg Sg λ_ _ _ _=>Sg;split;exact Sg;exact qkE T f _ _ (by omega) (by omega)
 have:i+1+1<=i2:=by split at h4;cases h4;omega;exact(vJ T f _ _ _ h4).1
 omega;exact(XG T f _ _ _ _ h8).2.2.1 (by omega);have:i+1+1<=i2:=by split at h4;cases h4;omega;exact(vJ T f _ _ _ h4).1
 have:=(XG T f _ _ _ _ h8).1;omega
theorem WU(T:List Tok)(f i op:Nat):Gl T true i op (JI T f i op):=by
 intro q GQ;unfold JI at GQ;cases q with
 |err l e=>trivial
 |ok v i9 op9=>
  rcases Eo GQ with⟨s,i1,Bc,h1,yH⟩|⟨l,e,_,h⟩;injection h1 with h1;have g1:=Dz T 2 i op;rw[h1] at g1;obtain⟨a1,a2,a3,rfl⟩:=g1;have:=a2 rfl;rcases Eo yH with⟨_,i2,Dg,h2,UC⟩|⟨l,e,_,h⟩;injection h2 with h2;obtain⟨rfl,rfl,b1,b2⟩:=uv h2;rcases Eo UC with⟨ps,i3,pg,h3,T2⟩|⟨l,e,_,h⟩;have c:i1+1<=i3/\(i1+1<=T.length->i3<=T.length)/\pg=Bc+1:=by split at h3;cases h3;exact⟨Nb _,λh=>h,rfl⟩;obtain⟨c1,_,c3,c4⟩:=vJ T f _ _ _ h3;exact⟨c1,c3,c4⟩
  obtain⟨c1,c2,rfl⟩:=c;rcases Eo T2 with⟨_,i4,Lm,h4,S2⟩|⟨l,e,_,h⟩;injection h4 with h4;obtain⟨rfl,rfl,d1⟩:=YI h4;rcases Eo S2 with⟨_,i5,CJ,h5,R2⟩|⟨l,e,_,h⟩;injection h5 with h5;obtain⟨rfl,rfl,e1,e2⟩:=uv h5;rcases Eo R2 with⟨ls,i6,y0,h6,P2⟩|⟨l,e,_,h⟩;obtain⟨f1,_,f3,rfl⟩:=XG T f _ _ _ _ h6;have:=f3 (by omega);rcases Eo P2 with⟨bs,i7,op7,h7,hq7⟩|⟨l,e,_,h⟩;obtain⟨k1,_,k3,rfl⟩:=(VI T f).2.1 _ _ _ _ h7;have:=k3 (by omega);rcases Eo hq7 with⟨_,i8,op8,h8,hq8⟩|⟨l,e,_,h⟩;injection h8 with h8;obtain⟨rfl,rfl,m1⟩:=YI h8;cases hq8;exact⟨by omega,λ_=>by omega,λ_=>by omega,by omega⟩;cases h;cases h;cases h;cases h;cases h;cases h;cases h;cases h
theorem aV(T:List Tok)(i op:Nat):Gl T true i op (SI T i op):=by
 intro q GQ;unfold SI at GQ;cases q with
 |err l e=>trivial
 |ok v i9 op9=>rcases Eo GQ with⟨s,i1,Bc,h1,yH⟩|⟨l,e,_,h⟩;injection h1 with h1;have g1:=Dz T 2 i op;rw[h1] at g1;obtain⟨a1,a2,a3,rfl⟩:=g1;have:=a2 rfl;rcases Eo yH with⟨_,i2,Dg,h2,UC⟩|⟨l,e,_,h⟩;injection h2 with h2;obtain⟨rfl,rfl,b1,b2⟩:=uv h2;rcases Eo UC with⟨ps,i3,pg,h3,T2⟩|⟨l,e,_,h⟩;injection h3 with h3;have g3:=TZ T (i1+1) (Bc+1);rw[h3] at g3;obtain⟨c1,c2,c3,rfl⟩:=g3;have:=c2 rfl;rcases Eo T2 with⟨_,i4,Lm,h4,S2⟩|⟨l,e,_,h⟩;injection h4 with h4;obtain⟨rfl,rfl,d1⟩:=YI h4;rcases Eo S2 with⟨_,i5,CJ,h5,R2⟩|⟨l,e,_,h⟩;injection h5 with h5;have g5:=Rw T [59] (i3+1) Lm;rw[h5] at g5;obtain⟨e1,e2,e3,rfl⟩:=g5;have:=e2 rfl;have:=e3 (by omega);cases R2;exact⟨by omega,λ_=>by omega,λ_=>by omega,by omega⟩;cases h;cases h;cases h;cases h;cases h
theorem qpm(T:List Tok)(i op:Nat):Ends (SI T i op):=by unfold SI;exact qlT λs _=>YG λ_ _=>Rg Sg λ_ _ _ _=>Rg Sg λ_ _ _ _=>Rg Sg λ_ _ _ _=>Sg
theorem RU(T:List Tok):∀ (f:Nat) (p:Pr) (i op:Nat),i<=T.length->10 * (T.length-i)+20<=f->Ends (vC T f p i op)
 |0,_,_,_,_,h=>by omega
 |f+1,p,i,op,hi,hf=>by
  rw[vC];split;exact Sg;split;rename_i h;have:=nk h;refine Rg (qZ T f _ i op hi (by omega)) λv i' Ia h2=>?_;obtain⟨g1,g2,g3,rfl⟩:=XG T f _ i op _ h2;have:=g2 h;have:=g3 hi;exact RU T f _ i' _ (by omega) (by omega);split
  rename_i h;have:=nk h;refine Rg (qpm T _ _) λv i' Ia h2=>?_;obtain⟨g1,g2,g3,rfl⟩:=aV T _ _ _ h2;have:=g3 (by omega);exact RU T f _ i' _ (by omega) (by omega);split
  rename_i h;have:=nk h;refine Rg (qrH T f _ _ (by omega) (by omega)) λv i' Ia h2=>?_;obtain⟨g1,g2,g3,rfl⟩:=WU T f _ _ _ h2;have:=g3 (by omega);exact RU T f _ i' _ (by omega) (by omega);exact Sg
open Go.Lib
theorem qm4(M:Nat):∀ (l r:List UInt8) (acc u:Nat),parseUintM M acc l=.ok u->parseUintM M acc (l++r)=parseUintM M u r
 |[],r,acc,u,h=>by rw[parseUintM] at h;cases h;rfl
 |c::l,r,acc,u,h=>by rw[parseUintM] at h;rw[List.cons_append,parseUintM];split at h;rename_i hc;rw[zp hc];split at h;cases h;rename_i h1;rw[zn h1];split at h;cases h;rename_i h2;rw[zn h2];exact qm4 M l r _ u h;cases h
theorem qkT{d:Nat}(h:d<10):(UInt8.ofNat (48+d)).toNat=48+d:=by rw[UInt8.toNat_ofNat'];omega
theorem qAn(M:Nat)(hM:M<=4294967295)(u:Nat)(hu:u<=M):parseUintM M 0 (decDigits u)=.ok u:=by
 induction u using Nat.strongRecOn with
 |_ u ih=>
  have one:∀ a d,d<10->a * 10+d<=M->parseUintM M a [UInt8.ofNat (48+d)]=.ok (a * 10+d):=λa d hd ha=>by rw[parseUintM,qkT hd,zp (by omega),zn (by omega),zn (by omega),parseUintM];congr 1;omega
  rw[decDigits];split;have:=one 0 u (by assumption) (by omega);simpa using this;rw[qm4 M _ _ 0 (u / 10) (ih (u / 10) (by omega) (by omega)),one _ _ (by omega) (by omega)];congr 1;omega
theorem qJ(u:Nat):decDigits u≠[]:=by rw[decDigits];split <;> simp
theorem dY(u:Nat)(hu:u<4294967296):parseUintB 32 (decDigits u)=.ok u:=by rw[parseUintB,zn (qJ u)];exact qAn _ da u (by omega)
theorem XU:∀ (k u:Nat),u<10 ^ (k+1)->nDigits u<=k+1
 |0,u,h=>by rw[nDigits_small (by simpa using h)];omega
 |k+1,u,h=>by by_cases hu:u<10;rw[nDigits_small hu];omega;rw[nDigits_big hu];have:=XU k (u / 10) (by rw[Nat.pow_succ] at h;omega);omega
theorem yL{u:Nat}(hu:u<4294967296):(decDigits u).length<=10:=by rw[decDigits_length];exact XU 9 u (by omega)
theorem GX{l:List UInt8}{u:Nat}(h:parseUintB 32 l=.ok u):u<4294967296:=by
 have key:∀ (l:List UInt8) (acc u:Nat),acc<=4294967295->parseUintM 4294967295 acc l=.ok u->u<=4294967295:=by
  intro l;induction l with
  |nil=>intro acc u ha h;rw[parseUintM] at h;cases h;exact ha
  |cons c l ih=>intro acc u ha h;rw[parseUintM] at h;split at h;split at h;cases h;split at h;cases h;exact ih _ _ (by omega) h;cases h
 rw[parseUintB] at h;split at h;cases h;have:=key _ _ _ (by omega) h;omega
def V7(t:Tok):Prop:=t.text.length<=100/\(t.kind=1->∃ u,u<4294967296/\parseUintB 32 t.text=.ok u/\t.text=decDigits u)
theorem qpK(s:List UInt8)(h:(Yj s).2.2=0):V7 (Yj s).1:=by
 match s with
 |[]=>simp[Yj,np] at h
 |c::r=>
  simp only[Yj] at h ⊢;split at h <;> rename_i hc;rw[zp hc];unfold kJ at h ⊢;split at h;simp[np] at h
  rename_i hw;rw[zn hw];split at h;rename_i u hu;have za:=GX hu;exact⟨by have:=yL za;simp only;omega,λ_=>⟨u,za,dY u za,rfl⟩⟩;simp[np] at h;rw[zn hc];split at h <;> rename_i hl;rw[zp hl];unfold WI at h ⊢;split at h;simp[np] at h
  rename_i hw;rw[zn hw];refine⟨by simp only;omega,λhk=>?_⟩;simp only at hk;split at hk <;> cases hk;rw[zn hl];split at h <;> rename_i hq;rw[zp hq];unfold oJ at h ⊢;split at h;split at h;simp[np] at h
  rename_i hx;rename_i oF;rename_i b _ _;rw[zn hx];have hb:b.toNat<4294967296:=Nat.lt_trans (UInt8.toNat_lt b) da;exact⟨by have:=yL hb;simp only;omega,λ_=>⟨b.toNat,hb,dY _ hb,rfl⟩⟩;simp[np] at h;rw[zn hq];unfold JL at h ⊢;split at h
  rename_i x hx;have h2:=List.mem_of_find?_eq_some hx;have:∀ x∈Tk,x.length<=100:=by decide
  exact⟨this x h2,λhk=>by cases hk⟩;simp[np] at h
theorem qAo{A B:Type}{f:A->B}{r:Except (Int×Int) A}{b:B}(h:r.map f=.ok b):∃ a,r=.ok a/\f a=b:=by
 cases r with
 |ok a=>exact⟨a,rfl,by injection h⟩
 |error e=>cases h
theorem wX:∀ (f:Nat) (s:List UInt8) (line:Int) (T:List Tok),tk f s line=.ok T->T.length<=f/\∀ t∈T,V7 t
 |0,s,line,T,h=>by rw[tk] at h;cases h;exact⟨Nb _,by simp⟩
 |f+1,s,line,T,h=>by rw[tk] at h;split at h;cases h;exact⟨zero_le _,by simp⟩;split at h;split at h;cases h;rename_i he;obtain⟨T',h1,rfl⟩:=qAo h;obtain⟨k1,k2⟩:=wX f _ _ _ h1;refine⟨by rw[Ba];omega,λt ht=>?_⟩;rcases lc.1 ht with rfl|ht;exact qpK s (by omega);exact k2 t ht;obtain⟨k1,k2⟩:=wX f _ _ _ h;exact⟨by omega,k2⟩
end Go.ea
