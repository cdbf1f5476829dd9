import Derived.Recover
import Derived.Laws.StructEq
import Derived.ChangeKeysEq
import Derived.Lib.ParseIntB
import Derived.Lib.ItoaNum
import Derived.Test.YtjolancjacdeaaaGreatDoorBRowRM2
set_option linter.unusedVariables false
set_option linter.unusedSimpArgs false
set_option maxRecDepth 100000
set_option maxHeartbeats 4000000
open List (map_toArray map_nil mem_cons_self length_take length_drop flatMap_append)
open Nat (mod_one zero_le zero_add add_mul)
open Option (map_none map_some)
namespace Go.GL
open Go.RowKit
variable{HM:Heap}{L:Live}{P:Program}{a:List UInt8}{ma:Array Edge}{b bytes cap ga el m o off s:Nat}{c:Code}{cs Ya es spare:List LV}{dst:Option Nat}{i j n:Int}{k kd:IntKind}{kt t ty u xT yT:TypeId}{xa:Array Oper}{la:String}{rest:List Oper}{v zv:Value}{w:World}
@[reducible] def HN(b n:Nat):LV:=.atom (.slice (some ⟨b,0,none⟩) n n)
section
variable{C:Ctx}{e:Env}{H:Heap}{dst:Option Nat}{ty:TypeId}{la:String}{ma:Array Edge}{g:Option (Nat×Bool)}{K:LV->Heap->Prop}{X:List PanicEntry->Heap->Prop}{x y:Operand}
theorem qqd(n:Nat)(z:Value):(Array.range n).map (λi=>(if n * 1=0 then #[] else #[z])[i % (if n * 1=0 then (#[]:Array Value) else #[z]).size]!)=(List.replicate n z).toArray:=by rcases Nat.eq_zero_or_pos n with rfl|hn;simp;rw[zn zo];apply Array.ext;simp;intro i h1 h2;simp[mod_one]
theorem S.Ds{t:Nat} [ht:Aa C.P t el 1] [hr:bg C.P el 1 bytes] [hz:Sf C.P el [zv]]{n:Nat}{k2:IntKind}(hx:e.ev x=int k n)(hy:e.ev y=int k2 n)(hb:bytes * n<=100000000000)(hn:n<=100000000000)
  (hk:∀ b,K (HN b n) ((b,.cells el (List.replicate n (.atom zv)))::H)):Ja C ⟨dst,.makeSlice t x y,ty,la,ma,g⟩ e H K X:=by
 refine Ja.Kx λρ w L h hH=>?_;have h3:execOp ρ ⟨dst,.makeSlice t x y,ty,la,ma,g⟩=(do Pure.pure (.value (<-Instr.makeSlice t (ρ x) (ρ y)))):=rfl;obtain⟨i,z,hi,hs,A2,Jd,YA,zM⟩:=hr.out;obtain⟨i',z',ae,mz,uk,KD⟩:=hz.out;rw[hi] at ae;obtain rfl:=Option.some.inj ae;rw[YA] at mz;obtain rfl:=Option.some.inj mz;have wn:IntKind.i64.wrap (n:Int)=n:=GA zo;have n1:¬ ((n:Int)<0):=by omega
 have n2:¬ ((281474976710656:Int)<(i.bytes:Int) * n):=by
  rw[A2];have:((bytes * n:Nat):Int)<=100000000000:=by omega
  rw[Int.natCast_mul] at this;omega
 have n3:¬ (n * i.bytes > roomBytes):=by rw[A2,Nat.mul_comm];unfold roomBytes;omega
 have Oc:(Instr.makeSlice t (.int k n) (.int k2 n)).run C.P w=.ok (.slice (some ⟨w.heap.size,0,none⟩) n n) (World.push w (.cells (List.replicate n zv).toArray el)):=by
  have LD:=qqd n zv;by_cases h0:n=0
  ·subst h0;have wz:IntKind.i64.wrap 0=0:=GA zo;simp[Instr.makeSlice,ed ht.zd,asInt,asIntOf,wI hi,Cu hi,hs,wz,newRow,askRoom,roomBytes,newObj,World.push,Sb,Qc];have e0:(Array.range 0).map (λ_=>(default:Value))=#[]:=by simp
   rw[e0];try rfl
  simp only[Nat.mul_one,h0,if_false] at LD;simp[Instr.makeSlice,ed ht.zd,asInt,asIntOf,wI hi,Cu hi,hs,wn,n1,n2,n3,h0,zeroValue,YA,uk,newRow,askRoom,newObj,World.push,Sb,Qc,LD];simp at LD;rw[LD];try rfl
 rw[h3,Cb h hx,Cb h hy,Sb,Oc];have Xq:na w L (List.replicate n (.atom zv)) (List.replicate n zv):=by have:=Jl (w:=w) (L:=L) (List.replicate n zv);rwa [List.map_replicate] at this
 have Kh:=FA hH.wf (.cells (List.replicate n zv).toArray el) 0;have:=gx hH (.cells (List.replicate n zv).toArray el) 0 [(w.heap.size,.cells el (List.replicate n (.atom zv)))] (λp hp=>by
  simp only[List.mem_singleton] at hp;subst hp;exact⟨rfl,by simp[Live.jd],List.replicate n zv,jq,Xq.mono Kh _ _⟩) (by simp)
 exact⟨_,_,_,this.1,this.2,xc,hk _⟩
theorem Pure.Ki{t:Nat} [ht:Aa C.P t el s](hx:e.ev x=.atom (.slice (some ⟨b,off,none⟩) m cap))(hy:e.ev y=int k n)(h0:0<=n)(hn:n<m) :
  Pure C ⟨dst,.indexAddr t x y,ty,la,ma,g⟩ e H (ptr b (off+n.toNat * s)):=.Ka λρ w L h=>by
 obtain⟨i,hi,ld⟩:=ht.size;refine⟨_,xc,λw'=>?_⟩;have h3:execOp ρ ⟨dst,.indexAddr t x y,ty,la,ma,g⟩=(do Pure.pure (.value (<-Instr.indexAt t (ρ x) (ρ y)))):=rfl;rw[h3,Cb h hx,Cb h hy];have hc:0<=n/\n<(m:Int):=⟨h0,hn⟩;simp[Instr.indexAt,asIntOf,ed ht.zd,hc,Cu hi,re,ld]
theorem Pure.xq{t:Nat} [Aa C.P t el s]{a:Option Addr}(hx:e.ev x=.atom (.slice a m cap)):Pure C ⟨dst,.call { callee:=.builtin .len,args:=#[x],argTypes:=#[t] },ty,la,ma,g⟩ e H (int .i64 m):=
 .Ka λρ _ _ h=>⟨_,xc,λw'=>by
  have hu:=ed (P:=C.P) (Aa.zd (t:=t)) w';rw[Pl,qM];simp[Builtin.len_,hu,goInt,Cb h hx]⟩
end
section shut
variable{C:Ctx}{n:Nat}{Q:Ob}{e:Env}{H F:Heap}
end shut
section
variable{C:Ctx}{n:Nat}{xa:Array Oper}{Q:Ob}{HF:Heap}{Xa:Nat}{qa:Array Bool}{e:Env}{H F:Heap}{i:Nat}{dst:Option Nat}{op:Op}{ty:TypeId}{la:String}{ma:Array Edge}
theorem Td.Xu{H':Heap}(s:HSub H' H)(h:Td C n xa Q HF Xa qa e H'):Td C n xa Q HF Xa qa e H:=λw0 L0 a w L hL hA ld hE hH=>
 Yy (λ_ _ _=>tF s.keys) _ _ _ _ (h w0 L0 a w L hL hA ld hE (hH.db s))
end
section
variable{C:Ctx}{e:Env}{H:Heap}{dst:Option Nat}{ty:TypeId}{la:String}{ma:Array Edge}{g:Option (Nat×Bool)}{K:LV->Heap->Prop}{X:List PanicEntry->Heap->Prop}{x y:Operand}
theorem qiV{t:Nat} [h:Aa P t el s](a:Option Addr)(n m:Nat)(w:World):(Op.equal t (.slice a n m) (.slice none 0 0)).run P w=.ok a.isNone w:=by rw[dM,Op.equalIn];try cases a <;> simp only[Sb,ed h.zd,lc,Qc] <;> rfl
theorem S.gv{t yT:Nat} [ht:Aa C.P t el s](hx:elems (e.ev x)=some es)(hk:∀ b,(b=true->es=[])->K (bool b) H):Ja C ⟨dst,.binOp .eql t x (.const (.slice none 0 0)) yT,ty,la,ma,g⟩ e H K X:=λρ w L h hH=>by
 obtain⟨a,cap,hv,hc,hr⟩:=(h x).elems hx;have h2:=Cb h (x:=.const (.slice none 0 0)) rfl;have he:eqGuard .eql t x (.const (.slice none 0 0)) (.slice a es.length cap) (.slice none 0 0)=Pure.pure ():=by simp[eqGuard]
 have hb:binOp .eql t (.slice a es.length cap) (.slice none 0 0)=(do Pure.pure (.bool (<-Op.equal t (.slice a es.length cap) (.slice none 0 0)))):=rfl;have Oc:(execOp ρ ⟨dst,.binOp .eql t x (.const (.slice none 0 0)) yT,ty,la,ma,g⟩).run C.P w=.ok (.value (.bool a.isNone)) w:=by simp only[execOp,hv,h2,he,hb,Sb,Qc,lc,qiV]
 rw[Oc];refine⟨bool a.isNone,H,L,Fr.refl _ _ _,hH,xc,hk _ λhn=>?_⟩
 cases a with
 |some a=>cases hn
 |none=>
  cases es with
  |nil=>rfl
  |cons v es=>obtain⟨b,off,k,h3,_⟩:=hr (by simp);cases h3
theorem Pure.mv{t:Nat} [Aa C.P t el s]{a:Option Addr}(hx:e.ev x=.atom (.slice a m cap)):Pure C ⟨dst,.call { callee:=.builtin .cap,args:=#[x],argTypes:=#[t] },ty,la,ma,g⟩ e H (int .i64 cap):=
 .Ka λρ _ _ h=>⟨_,xc,λw'=>by
  have hu:=ed (P:=C.P) (Aa.zd (t:=t)) w';have h0:∀ (cs:Array Bool) (args:Array Value),builtin .cap #[t] ty cs args=(do Pure.pure (.value (<-Builtin.cap_ #[t] ty args))):=λ_ _=>rfl;rw[Pl,h0]
  simp[Builtin.cap_,hu,goInt,Cb h hx]⟩
theorem Pure.mh{t:Nat} [ht:Aa C.P t el s]{a:Option Addr}{n:Nat}{hi:Operand}(hx:e.ev x=.atom (.slice a m cap))(hh:e.ev hi=int k n)(hn:n<=cap) :
  Pure C ⟨dst,.slice t x none (some hi) none,ty,la,ma,g⟩ e H (.atom (.slice a n cap)):=.Ka λρ w L h=>by
 obtain⟨ti,ID,ld⟩:=ht.size;refine⟨_,xc,λw'=>?_⟩;have hb:=tM (P:=C.P) (w':=w') (len:=m) (cap:=cap) (lo:=none) (hi:=some hi) (i:=0) (j:=n) h true rfl ⟨k,hh⟩ zo zo zo;have h3:execOp ρ ⟨dst,.slice t x none (some hi) none,ty,la,ma,g⟩=(do Pure.pure (.value (<-Instr.sliceAt t (ρ x) none (some (ρ hi)) none))):=rfl;rw[h3,Cb h hx];simp only[map_none,map_some] at hb;simp only[Instr.sliceAt,Instr.slice,Sb,ed (P:=C.P) ht.zd w',lc,Qc,hb,Cu ID,ld]
 have ha:∀ a:Addr,a.add 0=a:=λa=>by obtain⟨b,o,sp⟩:=a;unfold Addr.add;cases sp <;> simp
 simp[ha]
theorem S.Rw{sT xT:Nat} [ht:Aa C.P sT el 1] [hr:bg C.P el 1 bytes] [hz:Sf C.P el [zv]] [QS:xg C.P xT .i64]{n:Nat}(hx:e.ev x=Ea)(hy:e.ev y=int .i64 n)(hn:0<n)(Nb:n * bytes<=140737488355328)
  (hk:∀ b cap,n<=cap->K (.atom (.slice (some ⟨b,0,none⟩) n cap)) ((b,.cells el (List.replicate cap (.atom zv)))::H)) :
  Ja C ⟨dst,.call { callee:=.builtin .append,args:=#[x,y],argTypes:=#[sT,xT] },ty,la,ma,g⟩ e H K X:=by
 refine Ja.Kx λρ w L h hH=>?_;have h0:∀ (cs:Array Bool) (args:Array Value),builtin .append #[sT,xT] ty cs args=(do Pure.pure (.value (<-Builtin.append_ #[sT,xT] ty args))):=λ_ _=>rfl;obtain⟨i,z,hi,hs,hb,Jd,YA,zM⟩:=hr.out;obtain⟨i',z',ae,mz,uk,KD⟩:=hz.out;rw[hi] at ae;obtain rfl:=Option.some.inj ae;rw[YA] at mz;obtain rfl:=Option.some.inj mz;have hmul:n<=n * bytes:=Nat.le_mul_of_pos_right _ Jd;have wn:IntKind.i64.wrap (n:Int)=n:=GA zo;have n1:¬ ((n:Int)<0):=by omega
 have n2:¬ ((281474976710656:Int)<(n:Int) * (i.bytes:Int)):=by
  rw[hb];have:((n * bytes:Nat):Int)<=140737488355328:=by omega
  rw[Int.natCast_mul] at this;omega
 have qE:¬ (9223372036854775807<(n:Int)):=by omega
 have Ln:=growslice_fits (bytes:=bytes) (need:=n) (old:=0) hn Nb;have rE:¬ (281474976710656<Builtin.nextslicecap n 0 * i.bytes):=by rw[hb];omega
 have Gn:¬ n=0:=by omega
 have Qt:∀ m,(Builtin.zeroCells #[zv] m)=(List.replicate m zv).toArray:=λm=>by unfold Builtin.zeroCells;apply Array.ext;simp;intro j h1 h2;simp[mod_one]
 have Kc:n<=grownCap w n 0 el:=by simp[grownCap,Question.cut]
 have Oc:(Builtin.append_ #[sT,xT] ty #[.slice none 0 0,.int .i64 n]).run C.P w=.ok (.slice (some ⟨w.heap.size,0,none⟩) n (grownCap w n 0 el)) (World.push w.drew (.cells (List.replicate (grownCap w n 0 el) zv).toArray el)):=by simp[Builtin.append_,ed ht.zd,ed QS.zd,sizeOf,typeInfo,zeroValue,hi,hs,YA,uk,asInt,asIntOf,wn,n1,n2,Gn,qE,rE,Question.forced,newRow,grownCap,Builtin.firstCells,Qt];show World.push w.drew _=World.push w.drew _;congr 2;apply Array.ext';have:=Kc;unfold grownCap at this;congr 2;omega
 rw[Pl,h0];simp only[map_toArray,Tb,map_nil,Sb,Cb h hx,Cb h hy,Oc,lc,Qc];have O2:=hH.drew;have Xq:na w.drew L (List.replicate (grownCap w n 0 el) (.atom zv)) (List.replicate (grownCap w n 0 el) zv):=by have:=Jl (w:=w.drew) (L:=L) (List.replicate (grownCap w n 0 el) zv);rwa [List.map_replicate] at this
 have Kh:=FA O2.wf (.cells (List.replicate (grownCap w n 0 el) zv).toArray el) 0;have:=gx O2 (.cells (List.replicate (grownCap w n 0 el) zv).toArray el) 0 [(w.heap.size,.cells el (List.replicate (grownCap w n 0 el) (.atom zv)))] (λp hp=>by
  simp only[List.mem_singleton] at hp;subst hp;exact⟨rfl,by simp[Live.jd],List.replicate (grownCap w n 0 el) zv,jq,Xq.mono Kh _ _⟩) (by simp)
 exact⟨_,_,_,this.1.Ld,this.2,xc,hk _ _ Kc⟩
end
section opened
variable{C:Ctx}{n:Nat}{Q:Ob}{e:Env}{H F:Heap}
theorem C7(hp:Ec (b,.cells el cs) H F)(hH:Ca C w L H)(hl:∀ k cap,cap * k<=cs.length->∃ e s,w.shape? b=some (e,s)/\cap * k<=s):Ca C w L ((b,.row 0)::F):=by have Ok:=hH.perm hp;obtain⟨Jd,Rd,xx,xs,tc,zc⟩:=Ok.Gb _ mem_cons_self;simp only at Jd Rd xx tc zc;refine⟨Ok.base,Ok.ng,Ok.b0,Ok.wf,Ok.nodup,λp sk=>?_⟩;rcases Mc.1 sk with rfl|sk;exact⟨Jd,Rd,xx,_,_,_,tc,zero_le _,zero_le _⟩;exact Ok.Gb p (Sc _ sk)
theorem qn2(hp:Ec (b,.cells el cs) H F)(hH:Ca C w L H):w.shape? b=some (el,cs.length):=by have Ok:=hH.perm hp;obtain⟨Jd,Rd,xx,xs,tc,zc⟩:=Ok.Gb _ mem_cons_self;simp only at tc;simp only[World.shape?,tc];rw[List.size_toArray,zc.length]
theorem ea.qy(d k:Nat)(hp:Ec (b,.cells el cs) H F)(hd:e.s d=.atom (.slice (some ⟨b,0,none⟩) 0 cap))(hc:cap * k<=cs.length)(h:ea C n xa Q rest (e.jd d (.app b cap k [])) ((b,.row 0)::F)):ea C n xa Q rest e H:=λa w L hE hH=>by
 have hs:=qn2 hp hH;have hk:∀ x,x∈keys ((b,da.row 0)::F)->x∈keys H:=λx hx=>by have:=((hp.map (·.1)).mem_iff (a:=x)).2 (by simpa using hx);exact this
 refine Kt (λ_ _ _=>tF hk) _ _ _ (h a w L ⟨hE.size,hE.ds,λi=>?_⟩ (C7 hp hH λk2 Tn h2=>⟨_,_,hs,h2⟩));have hv:=hE.Jg i;simp only[Env.jd]
 cases hb:Nat.beq i d with
 |false=>exact hv
 |true=>have hi:=Nat.eq_of_beq_eq_true hb;subst hi;rw[hd] at hv;simp only[Wa] at hv;rw[hv];show Wa w L (.app b cap k []) _;simp only[Wa];refine⟨rfl,zero_le _,?_,_,_,hs,hc⟩;simp only[Cc]
end opened
section
variable{C:Ctx}{e:Env}{H:Heap}{dst:Option Nat}{ty:TypeId}{la:String}{ma:Array Edge}{g:Option (Nat×Bool)}{K:LV->Heap->Prop}{X:List PanicEntry->Heap->Prop}{x y z:Operand}{k:IntKind}
theorem z7(a b:Nat):(if (a:Int)<(b:Int) then (b:Int) else (a:Int))=((max a b:Nat):Int):=by split <;> omega
theorem Pure.max2{a b:Nat}(hx:e.ev x=int k (a:Int))(hy:e.ev y=int k (b:Int)){t u:TypeId}:Pure C ⟨dst,.call { callee:=.builtin .max,args:=#[x,y],argTypes:=#[t,u] },ty,la,ma,g⟩ e H (int k ((max a b:Nat):Int)):=
 .Ka λρ _ _ h=>⟨_,xc,λw'=>by
  have h0:∀ (cs:Array Bool) (args:Array Value),builtin .max #[t,u] ty cs args=(do Pure.pure (.value (<-Builtin.max_ #[t,u] ty args))):=λ_ _=>rfl;rw[Pl,h0];have:=z7 a b;simp[Builtin.max_,Builtin.max2,Cb h hx,Cb h hy]
  split <;> omega⟩
theorem Pure.tR{a c:Nat}(hx:e.ev x=int k (a:Int))(hy:e.ev y=int k (b:Int))(hz:e.ev z=int k (c:Int)){v:TypeId}:Pure C ⟨dst,.call { callee:=.builtin .max,args:=#[x,y,z],argTypes:=#[t,u,v] },ty,la,ma,g⟩ e H (int k ((max (max a b) c:Nat):Int)):=
 .Ka λρ _ _ h=>⟨_,xc,λw'=>by
  have h0:∀ (cs:Array Bool) (args:Array Value),builtin .max #[t,u,v] ty cs args=(do Pure.pure (.value (<-Builtin.max_ #[t,u,v] ty args))):=λ_ _=>rfl;rw[Pl,h0];simp[Builtin.max_,Builtin.max2,Cb h hx,Cb h hy,Cb h hz]
  repeat' split
  all_goals omega⟩
theorem Pure.vf{A B:Int}(a b:Nat)(hx:e.ev x=int k A)(hy:e.ev y=int k B)(ha:A=(a:Int))(hb:B=(b:Int)):Pure C ⟨dst,.call { callee:=.builtin .max,args:=#[x,y],argTypes:=#[t,u] },ty,la,ma,g⟩ e H (int k ((max a b:Nat):Int)):=by subst ha hb;exact Pure.max2 hx hy
theorem Pure.Bm{A B D:Int}(a b d:Nat)(hx:e.ev x=int k A)(hy:e.ev y=int k B)(hz:e.ev z=int k D)(ha:A=(a:Int))(hb:B=(b:Int))(hd:D=(d:Int)){v:TypeId}:Pure C ⟨dst,.call { callee:=.builtin .max,args:=#[x,y,z],argTypes:=#[t,u,v] },ty,la,ma,g⟩ e H (int k ((max (max a b) d:Nat):Int)):=by subst ha hb hd;exact Pure.tR hx hy hz
theorem Pure.eK{a b:Int}(h:a=b)(hx:e.ev x=int k a)(hy:e.ev y=int k b):Pure C ⟨dst,.binOp .eql xT x y yT,ty,la,ma,g⟩ e H (bool true):=by have:=Pure.eql (C:=C) (H:=H) (dst:=dst) (ty:=ty) (la:=la) (ma:=ma) (g:=g) (xT:=xT) (yT:=yT) hx hy;rwa [Eg h] at this
theorem Pure.fK{a b:Int}(h:¬ a=b)(hx:e.ev x=int k a)(hy:e.ev y=int k b):Pure C ⟨dst,.binOp .eql xT x y yT,ty,la,ma,g⟩ e H (bool false):=by have:=Pure.eql (C:=C) (H:=H) (dst:=dst) (ty:=ty) (la:=la) (ma:=ma) (g:=g) (xT:=xT) (yT:=yT) hx hy;rwa [decide_eq_false h] at this
def Ik(m:KV)(l:List (List UInt8)):Prop:=∀ k,Sa m k=if k∈l then some (bool true) else none
theorem Ik.nil:Ik [] []:=λk=>by simp[Sa]
theorem Ik.add{m:KV}{l:List (List UInt8)}(h:Ik m l)(s:List UInt8):Ik (Zb m s (bool true)) (l++[s]):=λk=>by
 rw[Aj,h k];by_cases h1:s=k;rw[zp h1,zp (by rw[h1];simp)];rw[zn h1];by_cases h2:k∈l;rw[zp h2,zp (List.mem_append_left _ h2)];rw[zn h2,zn (by
  intro h3;rcases Kj h3 with h3|h3;exact h2 h3;exact h1 (wh h3).symm)]
theorem Pure.Qe{el:TypeId} [h:xk C.P t el zv (bool false)]{m:KV}{l:List (List UInt8)}{s:List UInt8}(hm:e.ev x=.atom (.map (some b)))(hx:e.ev y=str s)(hb:(b,.map (Gd m) ga)∈H)(hs:Ik m l) :
  Pure C ⟨dst,.lookup t x y false,ty,la,ma,g⟩ e H (bool (decide (s∈l))):=by
 by_cases h1:s∈l;rw[Eg h1];exact Pure.WA hm hx hb (by rw[hs s,zp h1]);rw[decide_eq_false h1];exact Pure.wD hm hx hb (by rw[hs s,zn h1])
end
def lk(C:Ctx)(f:FuncId)(args:List LV)(u:FrameMode)(H:Heap)(R:FrameMode->Heap->Prop):Prop:=
 ∀ (vs:List Value) w L,na w L args vs->Ca C w L H->CallsD C.P f vs.toArray u w λe u' w'=>(∃ v,e=.returned v)/\an C w L H w' (R u')
def MH(C:Ctx)(n:Nat)(rs:List ResultVar)(R:Lc->Heap->Prop):List Deferred->FrameMode->Env->Heap->Prop
 |[],.returning,e,H=>∃ vs H',Eh C n e H rs vs/\HSub H' H/\R (.ret (Ge vs)) H'
 |[],.panicking ch,_,H=>∃ H',HSub H' H/\R (.panic ch) H'
 |[],.run,_,_=>False
 |d::ds,u,e,H=>u≠.run/\∃ f cap H1 F,d={ target:=.fn (.func f) cap,args:=#[] }/\fb C.P f/\H.Perm (H1++F) /\
   lk C f (cap.toList.map .atom) u H1 λu' H'=>MH C n rs R ds (settle u') e (H'++F)
def NE(C:Ctx)(n:Nat)(w:World)(L:Live)(K:List Nat)(Q:Ob):Exit->Act->World->Prop:=
 λx a' w'=>∃ e' H' L',Fr K w L w' L' H'/\Ca C w' L' H'/\Mb n a' e' w' L'/\Q x e' H'
theorem kZ{C:Ctx}{n:Nat}{w1:World}{L1:Live}{K:List Nat}{H1:Heap}{Q:Ob}(f:Fr K w L w1 L1 H1){x:Exit}{a:Act}{w':World}
  (k:NE C n w1 L1 (keys H1) Q x a w'):NE C n w L K Q x a w':=
 let ⟨e',H',L',h1,h2,h3,h4⟩:=k
 ⟨e',H',L',f.trans h1,h2,h3,h4⟩
def Lg(C:Ctx)(n:Nat)(xa:Array Oper)(Q:Ob)(rest:List Oper)(e:Env)(H:Heap):Prop:=
 ∀ a w L,Mb n a e w L->Ca C w L H->wpList C.P xa (NE C n w L (keys H) Q) rest a w
def Re(C:Ctx)(n:Nat)(c:Code)(Q:Ob)(e:Env)(H:Heap):Prop:=
 ∀ a w L,Mb n a e w L->Ca C w L H->c.wp C.P (NE C n w L (keys H) Q) a w
section P
variable{C:Ctx}{n:Nat}{xa:Array Oper}{Q:Ob}{e:Env}{H:Heap}
theorem Lg.nil(h:Q .normal e H):Lg C n xa Q [] e H:=λ_ _ L hE hH=>⟨e,H,L,Fr.refl _ _ _,hH,hE,h⟩
theorem Lg.step{op:Op}
  (h:Ja C ⟨dst,op,ty,la,ma,none⟩ e H (λlv H'=>Lg C n xa Q rest (e.put dst lv) H') λch H'=>Q (.panic ch) e H')
  (hd:Di n dst):Lg C n xa Q (⟨dst,op,ty,la,ma,none⟩::rest) e H:=λa w L hE hH=>by
 unfold wpList;rw[zp (by simp[Region.wanted])];have hs:=h a.eval w L hE.ev hH;refine .inl ?_;unfold Oper.wp;have left:∀ {w' v},Left C w L H w' v (λlv H'=>Lg C n xa Q rest (e.put dst lv) H')->wpList C.P xa (NE C n w L (keys H) Q) rest (a.put dst v) w':=λh=>by obtain⟨lv,H',L',h1,h2,h3,h4⟩:=h;exact Kt (λ_ _ _=>kZ h1) _ _ _ (h4 _ _ L' ((hE.mono h1.ext).put hd h3) h2)
 have ap:∀ {w' ch},an C w L H w' (λH'=>Q (.panic ch) e H')->NE C n w L (keys H) Q (.panic ch) a w':=λh=>by obtain⟨H',L',h1,h2,h3⟩:=h;exact⟨e,H',L',h1,h2,hE.mono h1.ext,h3⟩
 generalize (execOp a.eval ⟨dst,op,ty,la,ma,none⟩).run C.P w=r at hs ⊢;unfold Py at hs;split at hs;exact left hs;exact left hs;obtain⟨rfl,hs⟩:=hs;refine Calls.mono hs λe w' he=>?_
 cases e with
 |returned v=>exact left he
 |panicked ch=>exact ap he
 |outgrown=>exact he.elim
 exact ap hs;exact hs.elim
theorem Lg.pure{op:Op}{lv:LV}
  (h:Pure C ⟨dst,op,ty,la,ma,none⟩ e H lv) (hd:Di n dst) (k:Lg C n xa Q rest (e.put dst lv) H):Lg C n xa Q (⟨dst,op,ty,la,ma,none⟩::rest) e H:=
 Lg.step (h.step k) hd
theorem Re.region{id:Nat}{l:List Oper}(h:Lg C n l.toArray Q l e H):Re C n (.region id l.toArray false) Q e H:=λa w L hE hH=>wp_region_lit (h a w L hE hH)
theorem Re.ret(h:Q .ret e H):Re C n .ret Q e H:=λ_ _ L hE hH=>wp_ret ⟨e,H,L,Fr.refl _ _ _,hH,hE,h⟩
theorem Re.seq{x y:Code}(h:Re C n x (Bc (λe H=>Re C n y Q e H) Q) e H):Re C n (.seq x y) Q e H:=λa w L hE hH=>by
 refine wp_seq (Go.wp_mono (h a w L hE hH) λex a' w' hq=>?_);obtain⟨e',H',L',h1,h2,h3,h4⟩:=hq
 cases ex with
 |normal=>exact Go.wp_mono (h4 a' w' L' h3 h2) λ_ _ _=>kZ h1
 |exit id=>exact⟨e',H',L',h1,h2,h3,h4⟩
 |goto id=>exact⟨e',H',L',h1,h2,h3,h4⟩
 |ret=>exact⟨e',H',L',h1,h2,h3,h4⟩
 |panic ch=>exact⟨e',H',L',h1,h2,h3,h4⟩
 |outgrown=>exact⟨e',H',L',h1,h2,h3,h4⟩
theorem Re.block{id:Nat}{c:Code}(h:Re C n c (Tc id Q) e H):Re C n (.block id c) Q e H:=λa w L hE hH=>by
 refine wp_block (Go.wp_mono (h a w L hE hH) λex a' w' hq=>?_);obtain⟨e',H',L',h1,h2,h3,h4⟩:=hq
 cases ex with
 |exit XA=>simp only[Exit.inBlock,Tc] at h4 ⊢;split;rename_i hid;rw[zp hid] at h4;exact⟨e',H',L',h1,h2,h3,h4⟩;rename_i hid;rw[zn hid] at h4;exact⟨e',H',L',h1,h2,h3,h4⟩
 |normal=>exact⟨e',H',L',h1,h2,h3,h4⟩
 |goto id=>exact⟨e',H',L',h1,h2,h3,h4⟩
 |ret=>exact⟨e',H',L',h1,h2,h3,h4⟩
 |panic ch=>exact⟨e',H',L',h1,h2,h3,h4⟩
 |outgrown=>exact⟨e',H',L',h1,h2,h3,h4⟩
def nq(Q:Ob):Ob
 |.panic _,_,_=>False
 |x,e,H=>Q x e H
theorem Re.of(h:Ga C n c (nq Q) e H):Re C n c Q e H:=λa w L hE hH=>by
 refine Go.wp_mono (h a w L hE hH) λex a' w' hq=>?_;obtain⟨e',H',L',h1,h2,h3,h4⟩:=hq
 cases ex with
 |panic ch=>exact h4.elim
 |normal=>exact⟨e',H',L',h1,h2,h3,h4⟩
 |exit id=>exact⟨e',H',L',h1,h2,h3,h4⟩
 |goto id=>exact⟨e',H',L',h1,h2,h3,h4⟩
 |ret=>exact⟨e',H',L',h1,h2,h3,h4⟩
 |outgrown=>exact⟨e',H',L',h1,h2,h3,h4⟩
theorem nq.normal{k:Env->Heap->Prop}(h:k e H):nq (Bc k Q) .normal e H:=h
theorem nq.ret(h:Q .ret e H):nq Q .ret e H:=h
end P
def Kq(C:Ctx)(n:Nat)(rs:List ResultVar)(R:Lc->Heap->Prop):Ob
 |.normal,e,H|.ret,e,H=>MH C n rs R e.ds .returning e H
 |.panic ch,e,H=>MH C n rs R e.ds (.panicking ch) e H
 |_,_,_=>False
theorem zV{C:Ctx}{n:Nat}{fn:Func}{R:Lc->Heap->Prop}{w0:World}{L0:Live}{H0:Heap}(h3:fn.results.size<=3)(tmps:Array Value):∀ (ds:List Deferred) (u:FrameMode) (e:Env) (H:Heap) (w:World) (L:Live),tmps.size=n->(∀ i,Wa w L (e.s i) (tmps.getD i undef))->Ca C w L H->Fr (keys H0) w0 L0 w L H ->
  MH C n fn.results.toList R ds u e H->Leaves C.P fn tmps (js C w0 L0 H0 (λv=>R (.ret v)) λch=>R (.panic ch)) ds u w
 |[],.returning,e,H,w,L,hn,hv,hH,hF,h=>by obtain⟨vs,H',h1,h2,h5⟩:=h;obtain⟨v,r1,r2⟩:=tI (a:={ tmps,defers:=e.ds }) ⟨hn,rfl,hv⟩ hH h1 h3;exact⟨v,r1,Ge vs,H',L,hF.db h2,hH.db h2,r2,h5⟩
 |[],.panicking ch,e,H,w,L,hn,hv,hH,hF,h=>by obtain⟨H',h2,h5⟩:=h;exact⟨H',L,hF.db h2,hH.db h2,h5⟩
 |[],.run,e,H,w,L,hn,hv,hH,hF,h=>h.elim
 |d::ds,u,e,H,w,L,hn,hv,hH,hF,h=>by obtain⟨hu,f,cap,H1,F,rfl,zB,hp,hc⟩:=h;refine⟨hu,.func f,cap,f,cap,rfl,by simp[invoke,sM],?_⟩;have Fx:=hH.perm hp;have:=hc cap.toList w L (Jl _) Fx.left;simp only[Array.toArray_toList] at this;refine CallsD.mono this ?_;rintro ex u' w' ⟨⟨v,rfl⟩,hx⟩;obtain⟨H',L',g1,g2,g3⟩:=an.frame Fx hx;exact zV h3 tmps ds (settle u') e H' w' L' hn (λi=>(hv i).mono g1.ext _ _) g2 (hF.trans (g1.perm hp.symm)) g3
theorem lk.mono{C:Ctx}{f:FuncId}{args:List LV}{u:FrameMode}{H:Heap}{R R':FrameMode->Heap->Prop}(h:lk C f args u H R)(hr:∀ u H,R u H->R' u H):lk C f args u H R':=λvs w L h1 h2=>
 CallsD.mono (h vs w L h1 h2) λ_ _ _ ⟨h3,h4⟩=>⟨h3,h4.mono (hr _)⟩
theorem aa.Uq{C:Ctx}{f:FuncId}{fn:Func}{n:Nat}{args:List LV}{H:Heap}{R:Lc->Heap->Prop}(hf:C.P.funcs[f]? = some fn)(hb:fn.body=some c)(hn:fn.ntmps=n)(h3:Nat.ble fn.results.size 3=true)
  (hl:Nat.ble args.length n=true) (h:Re C n c (Kq C n fn.results.toList R) (Oy args) H):aa C f args H R:=λvs w L hv hH=>by
 subst hn;have Wt:args.length<=fn.ntmps:=by simpa using hl
 have Pk:fn.results.size<=3:=by simpa using h3
 have fa:=hv.length;refine calls_of_wp_defers hf hb (Go.wp_mono (h _ w L ⟨?_,rfl,λi=>?_⟩ hH) λex a' w' hq=>?_)
 simp;omega;exact IE;obtain⟨e',H',L',g1,g2,g3,g4⟩:=hq;have ret:∀ u,MH C fn.ntmps fn.results.toList R e'.ds u e' H'->Leaves C.P fn a'.tmps (js C w L H (λv=>R (.ret v)) λch=>R (.panic ch)) a'.defers u w':=λu hu=>by rw[g3.ds];exact zV Pk a'.tmps _ u e' H' w' L' g3.size g3.Jg g2 g1 hu
 cases ex with
 |normal=>exact ret _ g4
 |ret=>exact ret _ g4
 |panic ch=>exact ret _ g4
 |exit id=>exact g4.elim
 |goto id=>exact g4.elim
 |outgrown=>exact g4.elim
abbrev iA:=Exit->FrameMode->Env->Heap->Prop
def Dq(C:Ctx)(n:Nat)(c:Code)(Q:iA)(u:FrameMode)(e:Env)(H:Heap):Prop:=
 ∀ a w L (c0:Frame) cs,c0.mode=u->Mb n a e w L->Ca C w L H ->
  c.wpS C.P (λx a' Ya w'=>∃ u' e' H' L',Ya={ c0 with mode:=u' }::cs/\Fr (keys H) w L w' L' H'/\Ca C w' L' H'/\Pz n x a' e' w' L'/\Q x u' e' H') a (c0::cs) w
theorem WO{Q Q':Exit->Act->List Frame->World->Prop}{a:Act}{cs:List Frame}{w:World}(h:c.wpS P Q a cs w)(hq:∀ x a cs w,Q x a cs w->Q' x a cs w):c.wpS P Q' a cs w:=λb k h1 h2=>
 let ⟨e,a',Ya,w',q,r⟩:=h b k h1 h2
 ⟨e,a',Ya,w',hq _ _ _ _ q,r⟩
section S
variable{C:Ctx}{n:Nat}{Q:iA}{u:FrameMode}{e:Env}{H:Heap}
theorem Dq.of(h:Ga C n c (λx e H=>Q x u e H) e H):Dq C n c Q u e H:=λa w L c0 cs hu hE hH=>by refine wpS_of_wp (Go.wp_mono (h a w L hE hH) λx a' w' hq=>?_);obtain⟨e',H',L',h1,h2,h3,h4⟩:=hq;exact⟨u,e',H',L',by subst hu;rfl,h1,h2,h3,h4⟩
theorem Dq.seq{x y:Code}(h:Dq C n x (λex u' e' H'=>match ex with|.normal=>Dq C n y Q u' e' H'|ex=>Q ex u' e' H') u e H):Dq C n (.seq x y) Q u e H:=λa w L c0 cs hu hE hH=>by
 refine wpS_seq (WO (h a w L c0 cs hu hE hH) λex a' Ya w' hq=>?_);obtain⟨u',e',H',L',rfl,h1,h2,h3,h4⟩:=hq
 cases ex with
 |normal=>refine WO (h4 a' w' L' { c0 with mode:=u' } cs rfl h3 h2) ?_;rintro ex a2 cs2 w2 ⟨u2,e2,H2,L2,rfl,g1,g2,g3,g4⟩;exact⟨u2,e2,H2,L2,rfl,h1.trans g1,g2,g3,g4⟩
 |exit id=>exact⟨u',e',H',L',rfl,h1,h2,h3,h4⟩
 |goto id=>exact⟨u',e',H',L',rfl,h1,h2,h3,h4⟩
 |ret=>exact⟨u',e',H',L',rfl,h1,h2,h3,h4⟩
 |panic ch=>exact⟨u',e',H',L',rfl,h1,h2,h3,h4⟩
 |outgrown=>exact⟨u',e',H',L',rfl,h1,h2,h3,h4⟩
def XE:FrameMode->Value×FrameMode
 |.panicking ({ v,recovered:=false,goexit:=false }::SA)=>(v,.panicking ({ v,recovered:=true }::SA))
 |u=>(.nilIface,u)
theorem qnq{ρ:Operand->Value}{g:Option (Nat×Bool)}(w:World) :
  (execOp ρ ⟨dst,.call { callee:=.builtin .recover,args:=#[],argTypes:=#[] },ty,la,ma,g⟩).run P w=.ok .recover w:=by
 rfl
theorem qm3(c0:Frame)(cs:List Frame):recoverD (c0::cs)=none/\XE c0.mode=(.nilIface,c0.mode)∨recoverD (c0::cs)=some ((XE c0.mode).1,{ c0 with mode:=(XE c0.mode).2 }::cs):=by
 obtain⟨fn,tmps,todo,defers,mode,kind,ro⟩:=c0;cases mode with
 |run=>exact .inl ⟨rfl,rfl⟩
 |returning=>exact .inl ⟨rfl,rfl⟩
 |panicking ch=>
  cases ch with
  |nil=>exact .inl ⟨rfl,rfl⟩
  |cons p SA=>obtain⟨v,r,g⟩:=p;cases r <;> cases g <;> first|exact .inl ⟨rfl,rfl⟩|exact .inr rfl
theorem Dq.recover{id t s:Nat}{ty im:TypeId}{la pos':String}{ma Nz:Array Edge}(ht:Nat.blt t n=true)(hs:Nat.blt s n=true)(h:Q .normal (XE u).2 ((e.jd t (.atom (XE u).1)).jd s (.atom (XE u).1)) H) :
  Dq C n (.region id #[⟨some t,.call { callee:=.builtin .recover,args:=#[],argTypes:=#[] },ty,la,ma,none⟩,⟨some s,.assign (.tmp t),im,pos',Nz,none⟩] false) Q u e H:=λa w L c0 cs hu hE hH=>by
 refine wpS_region ?_;have R2:∀ v,Mb n (a.put (some t) v) (e.jd t (.atom v)) w L:=λv=>hE.put (dst:=some t) (by simp only[Di,Nw];exact ht) xc
 have hev:∀ v,(a.put (some t) v).eval (.tmp t)=v:=λv=>by have:=(R2 v).ev (.tmp t);simpa [Env.ev,Env.jd,Wa] using this
 have Ls:∀ v,Mb n ((a.put (some t) v).put (some s) v) ((e.jd t (.atom v)).jd s (.atom v)) w L:=λv=>(R2 v).put (dst:=some s) (by simp only[Di,Nw];exact hs) xc
 have h1:∀ v NT,wpOpsS C.P #[⟨some t,.call { callee:=.builtin .recover,args:=#[],argTypes:=#[] },ty,la,ma,none⟩,⟨some s,.assign (.tmp t),im,pos',Nz,none⟩] (λx a' Ya w'=>∃ u' e' H' L',Ya={ c0 with mode:=u' }::cs/\Fr (keys H) w L w' L' H'/\Ca C w' L' H'/\Pz n x a' e' w' L'/\Q x u' e' H') [1] (a.put (some t) v) NT w
   ↔ (λx a' Ya w'=>∃ u' e' H' L',Ya={ c0 with mode:=u' }::cs/\Fr (keys H) w L w' L' H'/\Ca C w' L' H'/\Pz n x a' e' w' L'/\Q x u' e' H') Exit.normal ((a.put (some t) v).put (some s) v) NT w:=by
  intro v NT;have hr:(execOp (a.put (some t) v).eval ⟨some s,.assign (.tmp t),im,pos',Nz,none⟩).run C.P w=.ok (.value ((a.put (some t) v).eval (.tmp t))) w:=rfl;simp only[wpOpsS,List.getElem?_toArray,List.getElem?_cons_succ,List.getElem?_cons_zero,Region.wanted,if_true,hr,Oper.upon,hev]
 have h0:(execOp a.eval ⟨some t,.call { callee:=.builtin .recover,args:=#[],argTypes:=#[] },ty,la,ma,none⟩).run C.P w=.ok .recover w:=qnq w;have hl:List.range (#[(⟨some t,.call { callee:=.builtin .recover,args:=#[],argTypes:=#[] },ty,la,ma,none⟩:Oper),⟨some s,.assign (.tmp t),im,pos',Nz,none⟩]:Array Oper).size=[0,1]:=rfl;rw[hl,wpOpsS];simp only[List.getElem?_toArray,List.getElem?_cons_zero,Region.wanted,if_true,h0];rcases qm3 c0 cs with⟨h2,h3⟩|h2;simp only[h2];rw[h1];subst hu;rw[h3] at h;exact⟨c0.mode,_,H,L,rfl,Fr.refl _ _ _,hH,Ls _,h⟩;simp only[h2];rw[h1];subst hu;exact⟨_,_,H,L,rfl,Fr.refl _ _ _,hH,Ls _,h⟩
def I7(R:FrameMode->Heap->Prop):iA
 |.normal,u,e,H|.ret,u,e,H=>e.ds=[]/\∃ H',HSub H' H/\R u H'
 |_,_,_,_=>False
theorem lk.intro{f:FuncId}{fn:Func}{args:List LV}{R:FrameMode->Heap->Prop}(hf:C.P.funcs[f]? = some fn)(hb:fn.body=some c)(hn:fn.ntmps=n)(h3:fn.results=#[])
  (hl:Nat.ble args.length n=true) (h:Dq C n c (I7 R) u (Oy args) H):lk C f args u H R:=λvs w L hv hH=>by
 subst hn;have Wt:args.length<=fn.ntmps:=by simpa using hl
 have fa:=hv.length;have YM:Mb fn.ntmps { tmps:=vs.toArray++Array.replicate (fn.ntmps-vs.toArray.size) undef,defers:=[] } (Oy args) w L:=by
  refine⟨?_,rfl,λi=>?_⟩
  simp;omega;exact IE
 refine callsD_of_wpS hf hb λc0 cs hu=>WO (h _ w L c0 cs hu YM hH) λex a' Ya w' hq=>?_;obtain⟨u',e',H',L',rfl,g1,g2,g3,g4⟩:=hq
 have fin:Mb fn.ntmps a' e' w' L'->(e'.ds=[]/\∃ se,HSub se H'/\R u' se)->a'.defers=[]/\∃ qU,({ c0 with mode:=u' }::cs:List Frame)={ c0 with mode:=qU }::cs/\∃ v,(results fn a'.tmps).run C.P w'=.ok v w'/\(∃ v',Ending.returned v=.returned v')/\an C w L H w' (R qU):=λhE ⟨h1,se,h2,h4⟩=>
  ⟨hE.ds.trans h1,u',rfl,_,iW h3 _ _,⟨_,rfl⟩,se,L',g1.db h2,g2.db h2,h4⟩
 cases ex with
 |normal=>exact fin g3 g4
 |ret=>exact fin g3 g4
 |panic ch=>exact g4.elim
 |exit id=>exact g4.elim
 |goto id=>exact g4.elim
 |outgrown=>exact g4.elim
end S
section defer
variable{C:Ctx}{n:Nat}{xa:Array Oper}{Q:Ob}{e:Env}{H:Heap}
theorem Lg.defer{dst:Option Nat}{fo:Operand}{f:FuncId}{La:Array Value}{ty:TypeId}{la:String}{ma:Array Edge}{rest:List Oper}(hf:e.ev fo=.atom (.func (.func f) #[] La))(hd:dst=none)
  (k:Lg C n xa Q rest ⟨e.s,{ target:=.fn (.func f) La,args:=#[] }::e.ds⟩ H):Lg C n xa Q (⟨dst,.defer { callee:=.value fo,args:=#[],argTypes:=#[] },ty,la,ma,none⟩::rest) e H:=λa w L hE hH=>by
 subst hd;have hv:=hE.ev fo;rw[hf] at hv;simp only[Wa] at hv;have hr:(execOp a.eval ⟨none,.defer { callee:=.value fo,args:=#[],argTypes:=#[] },ty,la,ma,none⟩).run C.P w=.ok (.defer { target:=.fn (.func f) La,args:=#[] }) w:=by have h3:execOp a.eval ⟨none,.defer { callee:=.value fo,args:=#[],argTypes:=#[] },ty,la,ma,none⟩=(do let d <-Deferred.ofValue (a.eval fo) ((#[]:Array Operand).map a.eval);Pure.pure (.defer d)):=rfl;rw[h3,hv];simp only[Deferred.ofValue,map_toArray,map_nil];rfl
 unfold wpList;rw[zp (by simp[Region.wanted])];refine .inl ?_;unfold Oper.wp;rw[hr];simp only[Oper.upon,Act.put];exact k _ w L ⟨hE.size,by show _::a.defers=_;rw[hE.ds],hE.Jg⟩ hH
end defer
inductive jb (el:TypeId) (s:Nat):Value->List LV->Heap->Prop
 |nil:jb el s (.slice none 0 0) [] []
 |row {b cap:Nat} {es spare:List LV} (hs:∀ v∈es,v.cells.length=s) (hc:es.length<=cap) (hl:es.length * s+spare.length=cap * s) :
   jb el s (.slice (some ⟨b,0,none⟩) es.length cap) es [(b,.cells el (es.flatMap LV.cells++spare))]
theorem jb.lh{v:Value}{es:List LV}{H:Heap}(h:jb el s v es H):∀ v∈es,v.cells.length=s:=by
 cases h with
 |nil=>simp
 |row hs=>exact hs
section
variable{C:Ctx}{e:Env}{H:Heap}{x y:Operand}{dst:Option Nat}{ty:TypeId}{la:String}{ma:Array Edge}{g:Option (Nat×Bool)}{K:LV->Heap->Prop}{X:List PanicEntry->Heap->Prop}
theorem KP(hH:Ca C w L []){es:List LV}{xs rest:List Value}(hr:na w L (es.flatMap LV.cells) xs)(hs:∀ v∈es,v.cells.length=s)(hc:es.length<=cap)(hl:es.length * s+rest.length=cap * s)
  (hk:∀ v' H',jb el s v' es H'->K (.atom v') H') :
  Left C w L [] (World.push w (.cells (xs++rest).toArray el)) (.slice (some ⟨w.heap.size,0,none⟩) es.length cap) K:=by
 have hx:=FA hH.wf (.cells (xs++rest).toArray el) 0;have:=gx hH (.cells (xs++rest).toArray el) 0 [(w.heap.size,.cells el (es.flatMap LV.cells++rest.map .atom))] (λp hp=>by
  simp only[List.mem_singleton] at hp;subst hp;exact⟨rfl,by simp[Live.jd],xs++rest,jq,na.append (hr.mono hx _ _) (Jl rest)⟩) (by simp)
 exact⟨.atom _,_,_,this.1,this.2,xc,hk _ _ (jb.row hs hc (by simpa using hl))⟩
theorem Ja.Xl{sT xT:Nat} [ht:Aa C.P sT el s] [hr:bg C.P el s bytes]{e2 s2:Nat} [zc:Aa C.P xT e2 s2]{v:Value}{ms:List LV}
  (hx:e.ev x=.atom v) (ha:jb el s v es H) (hy:GL.elems (e.ev y)=some ms) (Ut:∀ v∈ms,v.cells.length=s) (He:(ms.flatMap LV.cells).all bj=true) (Nb:(es.length+ms.length) * bytes<=140737488355328)
  (hk:∀ v' H',jb el s v' (es++ms) H'->K (.atom v') H'):Ja C ⟨dst,.call { callee:=.builtin .append,args:=#[x,y],argTypes:=#[sT,xT] },ty,la,ma,g⟩ e H K X:=by
 have h0:∀ (cs:Array Bool) (args:Array Value),builtin .append #[sT,xT] ty cs args=(do Pure.pure (.value (<-Builtin.append_ #[sT,xT] ty args))):=λ_ _=>rfl
 cases ha with
 |nil=>
  by_cases eb:ms=[];subst eb;exact Ja.Ui rfl ⟨e2,zc.zd⟩ hx hy (hk _ _ jb.nil);intro ρ w L h hH;have Qd:0<ms.length:=List.length_pos_iff.2 eb;obtain⟨ay,cy,new,Rt,KI,Wv,ZA,Vq⟩:=TC (s:=s) (h y) hy Ut;rw[Rt] at Vq;have fa:∀ w':World,(Builtin.lenOf (.slice ay ms.length cy)).run C.P w'=.ok ms.length w':=λw'=>by simp[Builtin.lenOf]
  obtain⟨de,rest,r1,r2,r3⟩:=PA (ty:=ty) (P:=C.P) (w:=w) (sT:=sT) (xT:=xT) (a:=none) (len:=0) (cap:=0) (n:=ms.length) (xv:=.slice ay ms.length cy) (old:=[]) (new:=new) (.inr ⟨_,zc.zd⟩) fa (λw' hw=>Vq C.P w' hw)
   (λw' _=>by simp[Builtin.firstCells]) (by simpa using Nb) zo
  rw[Pl,h0];simp only[map_toArray,Tb,map_nil,Sb,Cb h hx,Rt,r3,lc,Qc,List.nil_append,zero_add];obtain⟨lv,H',L',g1,g2,g3,g4⟩:=KP (K:=K) (el:=el) (es:=ms) (cap:=de) (xs:=new) (rest:=rest) hH.drew (Wv.mono (Ty w L) _ _) Ut zo (by
   rw[r2,<-add_mul];congr 1;omega) λv' H' h'=>hk v' H' h'
  exact⟨lv,H',L',g1.Ld,g2,g3,g4⟩
 |row hs hc hl=>
  rename_i b cap spare;intro ρ w L h hH;obtain⟨Jd,Rd,xx,zs,Qt,CD⟩:=hH.Gb _ (Ll rfl);simp only at Jd Rd xx Qt;obtain⟨ay,cy,new,Rt,KI,Wv,ZA,Vq⟩:=TC (s:=s) (h y) hy Ut;rw[Rt] at Vq;have fa:∀ w':World,(Builtin.lenOf (.slice ay ms.length cy)).run C.P w'=.ok ms.length w':=λw'=>by simp[Builtin.lenOf]
  have zh:(es.flatMap LV.cells).length=es.length * s:=Fv hs;have PF:zs.length=es.length * s+spare.length:=by rw[CD.length,ua,zh]
  have I0:na w L (es.flatMap LV.cells) (zs.take (es.length * s)):=by have:=CD.take (es.length * s);rwa [List.take_left' zh] at this
  rw[Pl,h0];simp only[map_toArray,Tb,map_nil,Sb,Cb h hx,Rt];by_cases ji:es.length+ms.length<=cap;have Oc:=oM (ty:=ty) (P:=C.P) (w:=w) (sT:=sT) (xT:=xT) (s:=s) (a:=some ⟨b,0,none⟩) (len:=es.length) (cap:=cap) (n:=ms.length) (xv:=.slice ay ms.length cy) (new:=new) (.inr ⟨_,zc.zd⟩) fa (λw' hw=>Vq C.P w' hw) ji;have hmul:(es.length+ms.length) * s<=cap * s:=Nat.mul_le_mul_right _ ji;rw[add_mul] at hmul;obtain⟨w',r1,r2,r3,r4,r5,r6,r7⟩:=YC (P:=C.P) (b:=b) (off:=0+es.length * s) (t:=el) (fr:=(0,0)) new 0 w zs Qt zo (λj _ _=>by simp) (CL Wv He);rw[Oc];simp only[re,r1,lc,Qc];have he:0+es.length * s+0=es.length * s:=by omega
  rw[he] at r7;have ir:new.length=ms.length * s:=ZA;have Ad:na w L (spare.drop (ms.length * s)) (zs.drop (es.length * s+new.length)):=by have:=CD.drop (es.length * s+new.length);rwa [List.drop_append,List.drop_eq_nil_of_le zo,List.nil_append,zh,show es.length * s+new.length-es.length * s=ms.length * s by omega] at this
  refine vF (v:=.slice (some ⟨b,0,none⟩) (es.length+ms.length) cap) (lv:=.atom (.slice (some ⟨b,0,none⟩) (es.length+ms.length) cap)) (K:=K) (Ya:=es.flatMap LV.cells++ms.flatMap LV.cells++spare.drop (ms.length * s)) hH r2 r3 r4 r5 r6 r7 ?_ (na.append (na.append I0 Wv) Ad) xc ?_;simp only[ua,length_take,length_drop,zh];omega;have hb:jb el s (.slice (some ⟨b,0,none⟩) (es++ms).length cap) (es++ms) [(b,.cells el ((es++ms).flatMap LV.cells++spare.drop (ms.length * s)))]:=jb.row (λv hv=>by
    rcases Kj hv with hv|hv;exact hs v hv;exact Ut v hv) (by rw[ua];exact ji) (by
    rw[ua,length_drop,add_mul];omega)
  rw[ua,flatMap_append] at hb;exact hk _ _ hb;have hold:∀ w':World,w'.heap=w.heap->(Builtin.firstCells s es.length (.slice (some ⟨b,0,none⟩) es.length cap)).run C.P w'=.ok (zs.take (es.length * s)).toArray w':=λw' hw=>by
   have:=IF (P:=C.P) (w:=w') (b:=b) (off:=0) (es.length * s) 0 #[] (zs.take (es.length * s)) (by rw[length_take];omega) (λj x' hj=>by
    have pw:zs[j]? = some x':=by rw[List.getElem?_take] at hj;split at hj;exact hj;cases hj
    simp[World.cell?,hw,Qt,pw])
   simp only[Builtin.firstCells,loadCells,this];simp
  obtain⟨de,rest,r1,r2,r3⟩:=PA (ty:=ty) (P:=C.P) (w:=w) (sT:=sT) (xT:=xT) (a:=some ⟨b,0,none⟩) (len:=es.length) (cap:=cap) (n:=ms.length) (xv:=.slice ay ms.length cy) (old:=zs.take (es.length * s)) (new:=new) (.inr ⟨_,zc.zd⟩) fa (λw' hw=>Vq C.P w' hw) hold Nb zo;rw[r3];simp only[lc,Qc];have Dw:Ca C w L []:=hH.sub (List.nil_sublist _);obtain⟨lv,H',L',g1,g2,g3,g4⟩:=KP (K:=K) (el:=el) (s:=s) (es:=es++ms) (cap:=de) (xs:=zs.take (es.length * s)++new) (rest:=rest) Dw.drew (by
    rw[flatMap_append];exact(na.append I0 Wv).mono (Ty w L) _ _) (λv hv=>by
    rcases Kj hv with hv|hv;exact hs v hv;exact Ut v hv) (by rw[ua];omega) (by
    rw[r2,ua,<-add_mul];congr 1;omega) λv' H' h'=>hk v' H' h'
  rw[ua] at g3;exact⟨lv,H',L',g1.Ld.wide (by simp),g2,g3,g4⟩
theorem S.Xl{sT xT el s bytes:Nat} [ht:Aa C.P sT el s] [hr:bg C.P el s bytes]{e2 s2:Nat} [zc:Aa C.P xT e2 s2]{v:Value}{es ms:List LV}{HM F:Heap}
  (hx:e.ev x=.atom v) (hp:H.Perm (HM++F)) (ha:jb el s v es HM) (hy:GL.elems (e.ev y)=some ms) (Ut:∀ v∈ms,v.cells.length=s) (He:(ms.flatMap LV.cells).all bj=true) (Nb:(es.length+ms.length) * bytes<=140737488355328)
  (hk:∀ v' H',jb el s v' (es++ms) H'->K (.atom v') (F++H')):Ja C ⟨dst,.call { callee:=.builtin .append,args:=#[x,y],argTypes:=#[sT,xT] },ty,la,ma,g⟩ e H K X:=by
 refine Ja.qc (K:=λlv H'=>∃ v' H2,lv=.atom v'/\H'=H2++F/\jb el s v' (es++ms) H2) (Ja.frame hp (Ja.Xl hx ha hy Ut He Nb λv' H' h=>⟨v',H',rfl,rfl,h⟩)) ?_;rintro lv H' ⟨v',H2,rfl,rfl,h⟩;exact⟨_,F++H2,vR _,⟨[],by simpa using dd⟩,hk _ _ h⟩
theorem Pure.qn{t FT s2:Nat} [Aa C.P t FT s2]{Hv:Heap}(hx:e.ev x=.atom v)(ha:jb el s v es Hv):Pure C ⟨dst,.call { callee:=.builtin .len,args:=#[x],argTypes:=#[t] },ty,la,ma,g⟩ e H (int .i64 es.length):=by
 cases ha with
 |nil=>exact Pure.xq (m:=0) hx
 |row=>exact Pure.xq hx
end
theorem jP(P:List LV):∀ (Q:List LV) (f:Nat) (vs:List LV),Zc (P++Q) (P.length+f) vs=P++Zc Q f vs:=by
 induction P with
 |nil=>intro Q f vs;simp
 |cons p P ih=>
  intro Q f vs;have:(p::P).length+f=(P.length+f)+1:=by simp only[Oa];omega
  rw[this];show Zc (p::(P++Q)) (P.length+f+1) vs=_;rw[Zc,ih];try rfl
theorem XP:∀ (Q R:List LV) (f:Nat) (vs:List LV),f+vs.length<=Q.length->Zc (Q++R) f vs=Zc Q f vs++R
 |[],R,0,[],_=>by cases R <;> rfl
 |[],R,0,_::_,h=>by simp at h
 |[],R,f+1,_,h=>by simp at h
 |q::Q,R,0,[],_=>rfl
 |q::Q,R,0,v::vs,h=>by have ih:=XP Q R 0 vs (by simp only[Oa] at h ⊢;omega);show v::Zc (Q++R) 0 vs=v::(Zc Q 0 vs++R);rw[ih]
 |q::Q,R,f+1,vs,h=>by
  have ih:=XP Q R f vs (by simp only[Oa] at h ⊢;omega);cases vs with
  |nil=>show q::Zc (Q++R) f []=q::(Zc Q f []++R);rw[ih]
  |cons v vs=>show q::Zc (Q++R) f (v::vs)=q::(Zc Q f (v::vs)++R);rw[ih]
theorem qqr{ls bs:List LV}{a a':LV}{vs:List LV}(hs:∀ v∈ls,v.cells.length=s)(f:Nat)(hf:f+vs.length<=a.cells.length)(ha:a'.cells=Zc a.cells f vs) :
  Zc ((ls++a::bs).flatMap LV.cells++spare) (ls.length * s+f) vs=(ls++a'::bs).flatMap LV.cells++spare:=by
 have h1:(ls.flatMap LV.cells).length=ls.length * s:=Fv hs;rw[flatMap_append,List.flatMap_cons,Xc,Xc,<-h1,jP,XP _ _ _ _ hf,<-ha,flatMap_append,List.flatMap_cons,Xc,Xc]
section
variable{C:Ctx}{e:Env}{H:Heap}{x y:Operand}{dst:Option Nat}{ty:TypeId}{la:String}{ma:Array Edge}{g:Option (Nat×Bool)}{K:LV->Heap->Prop}{X:List PanicEntry->Heap->Prop}
theorem jb.addr(h:jb el s v es HM)(eb:es≠[]):∃ b cap spare,v=.slice (some ⟨b,0,none⟩) es.length cap/\HM=[(b,.cells el (es.flatMap LV.cells++spare))]/\es.length<=cap/\es.length * s+spare.length=cap * s:=by
 cases h with
 |nil=>exact absurd rfl eb
 |row hs hc hl=>exact⟨_,_,_,rfl,rfl,hc,hl⟩
end
section settle
variable{C:Ctx}{n:Nat}{Q:Ob}{e:Env}{H F:Heap}
theorem gM{es:List LV}(hs:∀ v∈es,v.cells.length=s)(hc:es.length<=cap)(hl:es.length * s+spare.length=cap * s)(hp:H.Perm ((b,.cells el (es.flatMap LV.cells++spare))::F))(hH:Ca C w L H) :
  Ca C w (L.jd b (es.length * s)) ((b,.row (es.length * s))::F)/\Ext w L w (L.jd b (es.length * s))/\Wa w (L.jd b (es.length * s)) (.app b cap s es) (.slice (some ⟨b,0,none⟩) es.length cap):=by
 have Ok:=hH.perm hp;obtain⟨Jd,Rd,xx,xs,tc,zc⟩:=Ok.Gb _ mem_cons_self;simp only at Jd Rd xx tc zc;have zh:(es.flatMap LV.cells).length=es.length * s:=Fv hs;have Tl:xs.length=cap * s:=by rw[zc.length,ua,zh];exact hl
 have hx:Ext w L w (L.jd b (es.length * s)):=⟨mc _,λ_ _=>rfl,λ_ _ _=>rfl,λc=>by
  unfold Live.jd;split;rename_i h;subst h;rw[xx];exact zero_le _;exact mc _⟩
 have eb:∀ p∈F,p.1≠b:=λp sk he=>by have:=Ok.nodup;rw[Tb,List.nodup_cons] at this;exact this.1 (List.mem_map.2 ⟨p,sk,he⟩)
 have hL:(L.jd b (es.length * s)) b=es.length * s:=by unfold Live.jd;rw[zp rfl]
 refine⟨⟨Ok.base,trivial,Ok.b0,λc hc=>?_,Ok.nodup,λp sk=>?_⟩,hx,?_⟩;unfold Live.jd;rw[zn zo];exact Ok.wf c hc;rcases Mc.1 sk with rfl|sk;exact⟨Jd,Rd,hL,xs.toArray,el,(0,0),tc,by simp only[List.size_toArray];omega,zero_le _⟩;obtain⟨g1,g2,g3⟩:=Ok.Gb p (Sc _ sk);exact⟨g1,g2,g3.xD hx rfl (by unfold Live.jd;rw[zn (eb p sk)])⟩;simp only[Wa];refine⟨trivial,hc,Cc.wM hs ?_,el,xs.length,by simp[World.shape?,tc],by omega⟩;have ht:=zc.take (es.length * s);rw[List.take_left' zh] at ht;refine pb.pd (ht.mono hx _ _) (by rw[hL,length_take];omega) λj x hj=>?_
 have pw:xs[j]? = some x:=by rw[List.getElem?_take] at hj;split at hj;exact hj;cases hj
 simp only[World.cell?,tc,zero_add];simpa using pw
theorem dZ{es:List LV}(hs:∀ v∈es,v.cells.length=s)(hc:es.length<=cap)(hl:es.length * s+spare.length=cap * s)(hp:H.Perm ((b,.cells el (es.flatMap LV.cells++spare))::F))(hH:Ca C w L H)
  {x:Exit} {a:Act} {w':World} (h:lift C n w (L.jd b (es.length * s)) (keys ((b,.row (es.length * s))::F)) Q x a w'):lift C n w L (keys H) Q x a w':=by
 obtain⟨e',H',L',h1,h2,h3,h4⟩:=h;have hx:=(gM hs hc hl hp hH).2.1;have Je:∀ c,c∈keys ((b,da.row (es.length * s))::F)->c∈keys H:=λc hc=>by have:=((hp.map (·.1)).mem_iff (a:=c)).2 (by simpa using hc);exact this
 have hb:b∈keys H:=List.mem_map.2 ⟨_,hp.mem_iff.2 mem_cons_self,rfl⟩;refine⟨e',H',L',⟨h1.os,h1.tape,h1.output,hx.trans h1.ext,λc hc hn=>h1.block c hc λk=>hn (Je c k),λc hc hn=>?_,λp sk=>(h1.Vv p sk).imp (Je _) id⟩,h2,h3,h4⟩;rw[h1.oh c hc (λk=>hn (Je c k))];unfold Live.jd;rw[zn (λhe=>hn (by rw[he];exact hb))]
theorem FY{a:Act}{d:Nat}{es:List LV}(hs:∀ v∈es,v.cells.length=s)(hc:es.length<=cap)(hl:es.length * s+spare.length=cap * s)(hp:H.Perm ((b,.cells el (es.flatMap LV.cells++spare))::F))
  (hd:e.s d=.atom (.slice (some ⟨b,0,none⟩) es.length cap)) (hE:Mb n a e w L) (hH:Ca C w L H):Mb n a (e.jd d (.app b cap s es)) w (L.jd b (es.length * s)):=by
 obtain⟨_,hx,hr⟩:=gM hs hc hl hp hH;refine⟨hE.size,hE.ds,λi=>?_⟩;have hv:=hE.Jg i;simp only[Env.jd]
 cases hb:Nat.beq i d with
 |false=>exact hv.mono hx _ _
 |true=>have hi:=Nat.eq_of_beq_eq_true hb;subst hi;rw[hd] at hv;simp only[Wa] at hv;rw[hv];exact hr
theorem Ga.settle(d:Nat)(hm:jb el s v es HM)(hp:H.Perm (HM++F))(hd:e.s d=.atom v)(h:∀ v' H',Acc s v' es H' F->Ga C n c Q (e.jd d v') H'):Ga C n c Q e H:=by
 cases hm with
 |nil=>have:=h Ea F Acc.nil;rw[Env.tf hd] at this;exact Ga.perm (by simpa using hp) this
 |row hs hc hl=>exact λa w L hE hH=>Go.wp_mono (h _ _ Acc.row a w _ (FY hs hc hl hp hd hE hH) (gM hs hc hl hp hH).1) λ_ _ _=>dZ hs hc hl hp hH
theorem ea.settle(d:Nat)(hm:jb el s v es HM)(hp:H.Perm (HM++F))(hd:e.s d=.atom v)(h:∀ v' H',Acc s v' es H' F->ea C n xa Q rest (e.jd d v') H'):ea C n xa Q rest e H:=by
 cases hm with
 |nil=>have:=h Ea F Acc.nil;rw[Env.tf hd] at this;exact ea.db (H':=F) ⟨[],by simpa using hp⟩ this
 |row hs hc hl=>exact λa w L hE hH=>Kt (λ_ _ _=>dZ hs hc hl hp hH) _ _ _ (h _ _ Acc.row a w _ (FY hs hc hl hp hd hE hH) (gM hs hc hl hp hH).1)
theorem l9{ty:Nat}(hs:Ce cs Ya)(hp:H.Perm ((b,.cells ty cs)::F))(hH:Ca C w L H):Ca C w L ((b,.cells ty Ya)::F):=by have Ok:=hH.perm hp;refine⟨Ok.base,trivial,Ok.b0,Ok.wf,Ok.nodup,λp sk=>?_⟩;rcases Mc.1 sk with rfl|sk;obtain⟨Jd,Rd,xx,xs,tc,zc⟩:=Ok.Gb _ mem_cons_self;exact⟨Jd,Rd,xx,xs,tc,hs.vy zc⟩;exact Ok.Gb p (Sc _ sk)
theorem ea.GN{ty:Nat}(hs:Ce cs Ya)(hp:H.Perm ((b,.cells ty cs)::F))(h:ea C n xa Q rest e ((b,.cells ty Ya)::F)):ea C n xa Q rest e H:=λa w L hE hH=>
 Kt (λ_ _ _=>tF λc hc=>((hp.map (·.1)).mem_iff (a:=c)).2 (by simpa using hc)) _ _ _ (h a w L hE (l9 hs hp hH))
end settle
theorem Ce.refl:∀ l:List LV,Ce l l
 |[]=>trivial
 |a::l=>⟨vR a,Ce.refl l⟩
theorem Ce.app:∀ {a b c d:List LV},Ce a b->Ce c d->Ce (a++c) (b++d)
 |[],[],_,_,_,h=>h
 |_::_,_::_,_,_,h,k=>⟨h.1,Ce.app h.2 k⟩
 |[],_::_,_,_,h,_=>h.elim
 |_::_,[],_,_,h,_=>h.elim
section
variable{C:Ctx}{e:Env}{H:Heap}{x y:Operand}{dst:Option Nat}{ty:TypeId}{la:String}{ma:Array Edge}{g:Option (Nat×Bool)}{K:LV->Heap->Prop}{X:List PanicEntry->Heap->Prop}
theorem Pure.Ze{lo hi:Option Operand}{l m:List UInt8} [hT:Xi C.P xT](hx:e.ev x=str l)
  (Wj:Cv e lo 0 i) (Yt:Cv e hi l.length j) (h0:0<=i) (h1:i<=j) (h2:j<=l.length) (he:(l.take j.toNat).drop i.toNat=m) :
  Pure C ⟨dst,.slice xT x lo hi none,ty,la,ma,g⟩ e H (str m):=he▸Pure.jh hx Wj Yt h0 h1 h2
theorem Pure.vb{t:Nat} [ht:Aa C.P t el s](hx:e.ev x=.atom (.slice (some ⟨b,off,none⟩) m cap))(hy:e.ev y=int k n)(h0:0<=n)(hn:n<m)(ho:off+n.toNat * s=o) :
  Pure C ⟨dst,.indexAddr t x y,ty,la,ma,g⟩ e H (ptr b o):=ho▸Pure.Ki hx hy h0 hn
theorem Pure.rn{t:Nat}{lo hi:Option Operand}{es ms:List LV} [ht:Aa C.P t el s](hx:elems (e.ev x)=some es)
  (Wj:Cv e lo 0 i) (Yt:Cv e hi es.length j) (h0:0<=i) (h1:i<=j) (h2:j<=es.length) (hs:∀ v∈es,v.cells.length=s) (he:(es.take j.toNat).drop i.toNat=ms) :
  Pure C ⟨dst,.slice t x lo hi none,ty,la,ma,g⟩ e H (.list ms):=he▸Pure.sn hx Wj Yt h0 h1 h2 hs
def YE(off cap i:Nat):Nat:=if cap=i then off else off+i
theorem Pure.py{el:TypeId} [ht:Aa C.P t el 1]{i:Nat}{lo:Operand}(hx:e.ev x=.atom (.slice (some ⟨b,off,none⟩) m cap))(hl:e.ev lo=int k i)(hi:i<=m)(hm:m<=cap) :
  Pure C ⟨dst,.slice t x (some lo) none none,ty,la,ma,g⟩ e H (.atom (.slice (some ⟨b,YE off cap i,none⟩) (m-i) (cap-i))):=.Ka λρ w L h=>by
 obtain⟨ti,ID,ld⟩:=ht.size;refine⟨_,xc,λw'=>?_⟩;have hb:=tM (P:=C.P) (w':=w') (len:=m) (cap:=cap) (lo:=some lo) (hi:=none) (i:=i) (j:=m) h true ⟨k,hl⟩ rfl zo zo zo;have h3:execOp ρ ⟨dst,.slice t x (some lo) none none,ty,la,ma,g⟩=(do Pure.pure (.value (<-Instr.sliceAt t (ρ x) (some (ρ lo)) none none))):=rfl;rw[h3,Cb h hx];simp only[map_none,map_some] at hb;simp only[Instr.sliceAt,Instr.slice,Sb,ed (P:=C.P) ht.zd w',lc,Qc,hb,Cu ID,ld];unfold YE
 by_cases hc:cap=i;subst hc;simp;simp[hc,re]
theorem qkB(z:Value)(hz:z.cells=#[z])(n:Nat):(Builtin.zeroCells z.cells n).toList=List.replicate n z:=by rw[hz];simp[Builtin.zeroCells];apply List.ext_getElem;simp;intro i h1 h2;simp[mod_one]
theorem S.gu{el ad:TypeId} [ht:Aa C.P t el 1] [hz:Sf C.P el [zv]]{i:Nat}{cs:List LV}{F:Heap}(hx:e.ev x=.atom (.slice (some ⟨b,YE 0 cap i,none⟩) (m-i) (cap-i)))(hp:Ec (b,.cells ad cs) H F)(hi:i<=m)(hm:m<=cap)(hl:m<=cs.length)(J0:zv.cells=#[zv])(zh:(∀ cs,zv≠.agg cs)/\(∀ cs,zv≠.tuple cs))
  (hc:cs.take i++List.replicate (m-i) (.atom zv)++cs.drop m=Ya) (hk:K (.tuple []) ((b,.cells ad Ya)::F)):Ja C ⟨dst,.call { callee:=.builtin .clear,args:=#[x],argTypes:=#[t] },ty,la,ma,g⟩ e H K X:=by
 refine Ja.CB hp ?_;intro ρ w L h hH;have h0:∀ (cs:Array Bool) (args:Array Value),builtin .clear #[t] ty cs args=(do Pure.pure (.value (<-Builtin.clear_ #[t] ty args))):=λ_ _=>rfl;obtain⟨Jd,Rd,jr,xs,tc,zc⟩:=hH.Gb _ (Ll rfl);simp only at Jd Rd jr tc zc;have Tl:=zc.length;have SR:Wa w L (.tuple []) (.tuple #[]):=by simp only[Wa];exact⟨[],rfl,by simp only[na]⟩
 rw[Pl,h0];simp only[map_toArray,Tb,map_nil,Sb,Cb h hx];by_cases hn:m-i=0;have Oc:(Builtin.clear_ #[t] ty #[.slice (some ⟨b,YE 0 cap i,none⟩) (m-i) (cap-i)]).run C.P w=.ok (.tuple #[]) w:=by rw[hn];simp[Builtin.clear_,ed ht.zd]
 rw[Oc];simp only[lc,Qc];have:Ya=cs:=by rw[<-hc,hn,List.replicate_zero,Qb,show m=i by omega,List.take_append_drop]
 subst this;exact⟨_,[(b,.cells ad Ya)],L,Fr.refl _ _ _,hH,SR,hk⟩;obtain⟨ti,v,ID,hv,LR,NI⟩:=hz.out;have PR:v.cells=#[zv]:=by rw[LR]
 have vS:YE 0 cap i=i:=by unfold YE;rw[zn zo,zero_add]
 rw[vS];obtain⟨w',r1,r2,r3,r4,r5,r6,r7⟩:=YC (P:=C.P) (b:=b) (off:=i) (t:=ad) (fr:=(0,0)) (List.replicate (m-i) zv) 0 w xs tc (by rw[List.length_replicate];omega) (λj _ _=>by simp) (λu hu=>by rw[List.eq_of_mem_replicate hu];exact zh);have YA:(Builtin.zeroCells v.cells (m-i)).toList=List.replicate (m-i) zv:=by rw[PR,<-J0];exact qkB zv J0 _
 obtain⟨n',MM⟩:∃ n',m-i=n'+1:=⟨m-i-1,by omega⟩;have Oc:(Builtin.clear_ #[t] ty #[.slice (some ⟨b,i,none⟩) (m-i) (cap-i)]).run C.P w=.ok (.tuple #[]) w':=by rw[MM] at YA r1 ⊢;simp[Builtin.clear_,ed ht.zd,zeroValue,wI ID,hv,YA,r1]
 rw[Oc];simp only[lc,Qc];refine vF hH r2 r3 r4 r5 r6 r7 ?_ ?_ (by simp only[Wa];exact⟨[],rfl,by simp only[na]⟩) hk;rw[Nat.add_zero];simp only[ua,length_take,List.length_replicate,length_drop];omega;rw[<-hc,Nat.add_zero,List.length_replicate,show i+(m-i)=m by omega];have hr:na w L (List.replicate (m-i) (.atom zv)) (List.replicate (m-i) zv):=by have:=Jl (w:=w) (L:=L) (List.replicate (m-i) zv);rwa [List.map_replicate] at this
 exact((zc.take i).append hr).append (zc.drop m)
end
theorem jb.pd{es:List LV}(hs:∀ v∈es,v.cells.length=1)(hf:es.flatMap LV.cells=es)(hm:es.length=m)(hc:m<=cap)(hl:m+spare.length=cap) :
  jb el 1 (.slice (some ⟨b,0,none⟩) m cap) es [(b,.cells el (es++spare))]:=by
 subst hm;have:=jb.row (el:=el) (s:=1) (b:=b) (cap:=cap) (es:=es) (spare:=spare) hs hc zo;rwa [hf] at this
section
variable{C:Ctx}{n:Nat}{Q:Ob}{e:Env}{H F:Heap}
theorem ea.Eo(d:Nat)(hm:jb el s v es HM)(eb:es≠[])(hp:H.Perm (HM++F))(hd:e.s d=.atom v)
  (h:∀ b cap,ea C n xa Q rest (e.jd d (.app b cap s es)) ((b,.row (es.length * s))::F)):ea C n xa Q rest e H:=
 ea.settle d hm hp hd λv' H' ha=>by
  cases ha with
  |nil=>exact absurd rfl eb
  |row=>exact h _ _
end
section
variable{C:Ctx}{e:Env}{H:Heap}{dst:Option Nat}{ty:TypeId}{la:String}{ma:Array Edge}{g:Option (Nat×Bool)}{K:LV->Heap->Prop}{X:List PanicEntry->Heap->Prop}{x y:Operand}
theorem rM(df:P.underlying kt=some (.int kd))(b:Bool)(w:World):(Instr.checkKey b 10000 kt (.int k n)).run P w=.ok () w:=by have Lu:Instr.checkKey b 10000 kt (.int k n)=Instr.checkKey b (9999+1) kt (.int k n):=rfl;rw[Lu,Instr.checkKey];simp only[Sb,ed df,lc,Qc]
theorem S.Pf{el:TypeId}(ht:C.P.underlying t=some (.map kt el))(df:C.P.underlying kt=some (.int kd)){es rh:Array MapEntry}{F:Heap}{m z:Operand}(hm:e.ev m=.atom (.map (some b)))(hx:e.ev x=int k n)(hz:e.ev z=.atom v)
  (hp:Ec (b,.obj (.map es ga)) H F) (Li:Instr.findNow (.int kd) (.int k n) es.toList 0=some none) (he:es.push { key:=.int k n,val:=v,born:=ga }=rh) (hk:K (.atom undef) ((b,.obj (.map rh (ga+1)))::F)):Ja C ⟨dst,.insert t m x z,ty,la,ma,g⟩ e H K X:=by
 subst he;refine Ja.CB hp λρ w L h hH=>?_;obtain⟨Jd,Rd,hl,tc,zc⟩:=hH.Gb _ (Ll rfl);simp only at Jd Rd hl tc zc;have h3:execOp ρ ⟨dst,.insert t m x z,ty,la,ma,g⟩=(do Instr.mapUpdate t (ρ m) (ρ x) (ρ z);Pure.pure .skip):=rfl
 have hf:(Instr.findKey kt (.int k n) es.toList).run C.P w=.ok none w:=by simp only[Instr.findKey,Sb,ed df,lc,Li,Qc]
 have hc:=rM (P:=C.P) (n:=n) (k:=k) df false w;have hg:(getObj b).run C.P w=.ok (.map es ga) w:=by simp only[getObj,Sem.run,tc]
 rw[h3,Cb h hm,Cb h hx,Cb h hz];simp only[Instr.mapUpdate,Sb,ed ht,lc,hg,hc,hf];have hs:(setObj b (.map (es.push { key:=.int k n,val:=v,born:=ga }) (ga+1))).run C.P w=.ok () (Vf w b (.map (es.push { key:=.int k n,val:=v,born:=ga }) (ga+1))):=rI tc rfl;rw[hs];exact TH (w':=Vf w b (.map (es.push { key:=.int k n,val:=v,born:=ga }) (ga+1))) hH rfl rfl rfl rfl (by simp[Vf]) (λc hc=>zF hc) (CF Rd) (λ_=>xc) hk
theorem Pure.az{el:TypeId}(ht:C.P.underlying t=some (.map kt el))(df:C.P.underlying kt=some (.int kd)){j:Nat}{es:Array MapEntry}(hm:e.ev x=.atom (.map (some b)))(hx:e.ev y=int k n)
  (hb:(b,da.obj (.map es ga))∈H) (hf:Instr.findNow (.int kd) (.int k n) es.toList 0=some (some (j,v))):Pure C ⟨dst,.lookup t x y false,ty,la,ma,g⟩ e H (.atom v):=λρ w L h hH=>by
 obtain⟨_,_,_,tc,_⟩:=hH.Gb _ hb;simp only at tc;refine⟨v,xc,λw' ha=>?_⟩;have hw:w'.heap[b]? = some (.map es ga):=(ha.1 _ hb).trans tc;have h3:execOp ρ ⟨dst,.lookup t x y false,ty,la,ma,g⟩=(do Pure.pure (.value (<-Instr.lookup t (ρ x) (ρ y) false))):=rfl;have hg:(getObj b).run C.P w'=.ok (.map es ga) w':=by simp only[getObj,Sem.run,hw]
 rw[h3,Cb h hm,Cb h hx];have ZF:(Instr.findKey kt (.int k n) es.toList).run C.P w'=.ok (some (j,v)) w':=by simp only[Instr.findKey,Sb,ed df,lc,hf,Qc]
 have hc:=rM (P:=C.P) (n:=n) (k:=k) df;simp only[Instr.lookup,Sb,ed ht,lc,hg,Qc,hc,ZF];rfl
end
section
variable{C:Ctx}{e:Env}{H:Heap}{dst:Option Nat}{ty:TypeId}{la:String}{ma:Array Edge}{g:Option (Nat×Bool)}{x y:Operand}
theorem Pure.Oq{el:TypeId}(ht:C.P.underlying t=some (.map kt el))(df:C.P.underlying kt=some (.int kd)){j:Nat}{es:Array MapEntry}(hm:e.ev x=.atom (.map (some b)))(hx:e.ev y=int k n)
  (hb:(b,da.obj (.map es ga))∈H) (hf:Instr.findNow (.int kd) (.int k n) es.toList 0=some (some (j,v))):Pure C ⟨dst,.lookup t x y true,ty,la,ma,g⟩ e H (.tuple [.atom v,bool true]):=λρ w L h hH=>by
 obtain⟨_,_,_,tc,_⟩:=hH.Gb _ hb;simp only at tc;refine⟨.tuple #[v,.bool true],?_,λw' ha=>?_⟩;simp only[Wa];refine⟨[v,.bool true],rfl,?_⟩;simp only[na];exact⟨_,_,rfl,xc,_,_,rfl,rfl,rfl⟩;have hw:w'.heap[b]? = some (.map es ga):=(ha.1 _ hb).trans tc;have h3:execOp ρ ⟨dst,.lookup t x y true,ty,la,ma,g⟩=(do Pure.pure (.value (<-Instr.lookup t (ρ x) (ρ y) true))):=rfl;have hg:(getObj b).run C.P w'=.ok (.map es ga) w':=by simp only[getObj,Sem.run,hw]
 rw[h3,Cb h hm,Cb h hx];have ZF:(Instr.findKey kt (.int k n) es.toList).run C.P w'=.ok (some (j,v)) w':=by simp only[Instr.findKey,Sb,ed df,lc,hf,Qc]
 have hc:=rM (P:=C.P) (n:=n) (k:=k) df;simp only[Instr.lookup,Sb,ed ht,lc,hg,Qc,hc,ZF];rfl
theorem Pure.Zo{el:TypeId}(ht:C.P.underlying t=some (.map kt el))(df:C.P.underlying kt=some (.int kd)){es:Array MapEntry}(hz:∀ w,(zeroValue el).run C.P w=.ok zv w)(hm:e.ev x=.atom (.map (some b)))(hx:e.ev y=int k n)
  (hb:(b,da.obj (.map es ga))∈H) (hf:Instr.findNow (.int kd) (.int k n) es.toList 0=some none):Pure C ⟨dst,.lookup t x y true,ty,la,ma,g⟩ e H (.tuple [.atom zv,bool false]):=λρ w L h hH=>by
 obtain⟨_,_,_,tc,_⟩:=hH.Gb _ hb;simp only at tc;refine⟨.tuple #[zv,.bool false],?_,λw' ha=>?_⟩;simp only[Wa];refine⟨[zv,.bool false],rfl,?_⟩;simp only[na];exact⟨_,_,rfl,xc,_,_,rfl,rfl,rfl⟩;have hw:w'.heap[b]? = some (.map es ga):=(ha.1 _ hb).trans tc;have h3:execOp ρ ⟨dst,.lookup t x y true,ty,la,ma,g⟩=(do Pure.pure (.value (<-Instr.lookup t (ρ x) (ρ y) true))):=rfl;have hg:(getObj b).run C.P w'=.ok (.map es ga) w':=by simp only[getObj,Sem.run,hw]
 rw[h3,Cb h hm,Cb h hx];have ZF:(Instr.findKey kt (.int k n) es.toList).run C.P w'=.ok none w':=by simp only[Instr.findKey,Sb,ed df,lc,hf,Qc]
 have hc:=rM (P:=C.P) (n:=n) (k:=k) df;simp only[Instr.lookup,Sb,ed ht,lc,hg,Qc,hc,ZF,hz];rfl
end
section
variable{C:Ctx}{n:Nat}{Q:Ob}{e:Env}{H:Heap}
theorem Re.db{c:Code}{H':Heap}(s:HSub H' H)(h:Re C n c Q e H'):Re C n c Q e H:=λa w L hE hH=>
 Go.wp_mono (h a w L hE (hH.db s)) λ_ _ _ ⟨e',H2,L',h1,h2,h3,h4⟩=>⟨e',H2,L',h1.wide s.keys,h2,h3,h4⟩
theorem Re.qc{Q':Ob}(h:Re C n c Q e H)(hq:∀ x e H,Q x e H->Q' x e H):Re C n c Q' e H:=λa w L hE hH=>
 Go.wp_mono (h a w L hE hH) λ_ _ _ ⟨e',H2,L',h1,h2,h3,h4⟩=>⟨e',H2,L',h1,h2,h3,hq _ _ _ h4⟩
theorem Re.loop{c:Code}(I:Nat->Env->Heap->Prop)(k:Nat)(h0:I k e H)
  (round:∀ k e H,I k e H->Re C n c (Bc (λe' H'=>∃ m,m<k/\I m e' H') Q) e H):Re C n (.loop c) Q e H:=λa w L hE hH=>by
 refine hZ (I:=λk a' w'=>∃ e' H' L',Fr (keys H) w L w' L' H'/\Ca C w' L' H'/\Mb n a' e' w' L'/\I k e' H') (n:=k) ?_ ⟨e,H,L,Fr.refl _ _ _,hH,hE,h0⟩;rintro k a1 w1 ⟨e1,H1,L1,h1,h2,h3,h4⟩;refine Go.wp_mono (round k e1 H1 h4 a1 w1 L1 h3 h2) λex a' w' hq=>?_;obtain⟨e',H',L',g1,g2,g3,g4⟩:=hq
 cases ex with
 |normal=>obtain⟨m,hm,g4⟩:=g4;exact⟨m,hm,e',H',L',h1.trans g1,g2,g3,g4⟩
 |exit id=>exact⟨e',H',L',h1.trans g1,g2,g3,g4⟩
 |goto id=>exact⟨e',H',L',h1.trans g1,g2,g3,g4⟩
 |ret=>exact⟨e',H',L',h1.trans g1,g2,g3,g4⟩
 |panic ch=>exact⟨e',H',L',h1.trans g1,g2,g3,g4⟩
 |outgrown=>exact⟨e',H',L',h1.trans g1,g2,g3,g4⟩
theorem Re.HI(I:Nat->List (Nat×LV)->Heap->Prop)(h0:∃ k l H0,I k l H0/\As e l/\HSub H0 H)
  (round:∀ k l H,I k l H->∀ j:Env,j.ds=e.ds->Re C n c (Bc (TN I k e.ds) Q) (Env.kh j l) H):Re C n (.loop c) Q e H:=by
 obtain⟨k,l,H0,h0,h1,h2⟩:=h0;refine Re.db h2 (Re.loop (λk e' H'=>∃ l H0,I k l H0/\As e' l/\HSub H0 H'/\e'.ds=e.ds) k ⟨l,H0,h0,h1,kb _,rfl⟩ ?_);rintro k e' H' ⟨l,H0,g0,g1,g2,g3⟩;have:=round k l H0 g0 e' g3;rw[Env.wc g1.mem] at this;refine Re.db g2 (Re.qc this ?_);rintro ex e2 H2 hq;cases ex with
 |normal=>obtain⟨m,l',H3,r1,r2,r3,r4,r5⟩:=hq;exact⟨m,r1,l',H3,r2,r3,r4,r5⟩
 |exit id=>exact hq
 |goto id=>exact hq
 |ret=>exact hq
 |panic ch=>exact hq
 |outgrown=>exact hq
end
section
variable{C:Ctx}{e:Env}{H:Heap}{x y:Operand}{dst:Option Nat}{ty:TypeId}{la:String}{ma:Array Edge}{g:Option (Nat×Bool)}
theorem Pure.iu{s d el:TypeId} [hs:Aa C.P s el 1] [he:xg C.P el .u8] [hd:Xi C.P d]{l:List UInt8}(hx:elems (e.ev x)=some (jf l)):Pure C ⟨dst,.convert s d x,ty,la,ma,g⟩ e H (str l):=by
 by_cases eb:l=[];subst eb;intro ρ w L h _;obtain⟨a,cap,hv,Kc,hr⟩:=(h x).elems hx;refine⟨_,xc,λw' ha=>?_⟩;have h0:execOp ρ ⟨dst,.convert s d x,ty,la,ma,g⟩=(do Pure.pure (.value (<-convert s d (ρ x)))):=rfl;have fa:(jf []).length=0:=rfl
 have hc:(convert s d (.slice a 0 cap)).run C.P w'=.ok (.string ⟨#[]⟩) w':=by
  rw[run_convert_bytes_string w' s d el a 0 cap hs.zd he.zd hd.zd];cases a with
  |none=>rfl
  |some a=>exact run_bytesToString w' a 0 cap [] (run_loadCells_list (P:=C.P) w' a [] λj v hj=>by cases hj)
 rw[h0,hv,fa];simp only[Sb,hc,lc,Qc];exact Pure.Pw hx eb
end
class nu (P:Program) (t:TypeId):Prop where
 zd:P.underlying t=some (.struct (P.fieldsOf t))
 apart:P.stoodInHeld t=false
 guard:P.eqGuardType P.depth t=false
 fields : ∃ f0 f1 f2 : Field, (P.fieldsOf t).toList = [f0, f1, f2] ∧ (f0.name ≠ "_" ∧ f0.offset = 0 ∧ P.underlying f0.type = some .string) ∧ (f1.name ≠ "_" ∧ f1.offset = 1 ∧ P.underlying f1.type = some (.int .i64)) ∧ (f2.name ≠ "_" ∧ f2.offset = 2 ∧ P.underlying f2.type = some (.int .i64))
def AO (P : Program) (f : Field) (o : Nat) : Bool := f.name != "_" && f.offset == o && (match P.underlying f.type with | some .string => true | _ => false)
def LK (P : Program) (f : Field) (o : Nat) : Bool := f.name != "_" && f.offset == o && (match P.underlying f.type with | some (.int .i64) => true | _ => false)
def ZU(P:Program)(t:TypeId):Bool:=(match P.underlying t with|some (.struct _)=>true|_=>false) && !P.stoodInHeld t && !P.eqGuardType P.depth t && (match (P.fieldsOf t).toList with|[f0,f1,f2]=>AO P f0 0 && LK P f1 1 && LK P f2 2|_=>false)
theorem qpF  {f : Field}  (h : AO P f o = true) : f.name ≠ "_" ∧ f.offset = o ∧ P.underlying f.type = some .string := by
 unfold AO at h;simp only[Le,bne_iff_ne,beq_iff_eq] at h;obtain⟨⟨h1,h2⟩,h3⟩:=h;refine⟨h1,h2,?_⟩;split at h3
 assumption
 cases h3
theorem bY  {f : Field}  (h : LK P f o = true) : f.name ≠ "_" ∧ f.offset = o ∧ P.underlying f.type = some (.int .i64) := by
 unfold LK at h;simp only[Le,bne_iff_ne,beq_iff_eq] at h;obtain⟨⟨h1,h2⟩,h3⟩:=h;refine⟨h1,h2,?_⟩;split at h3
 assumption
 cases h3
theorem nu.of(h:ZU P t=true):nu P t:=by unfold ZU at h;simp only[Le,Bool.not_eq_true'] at h;obtain⟨⟨⟨h1,h2⟩,h3⟩,h4⟩:=h;refine⟨?_,h2,h3,?_⟩;split at h1;rename_i fs hu;rw[hu];simp[Program.fieldsOf,hu];cases h1;split at h4;rename_i f0 f1 f2 hf;simp only[Le] at h4;exact⟨f0,f1,f2,hf,qpF h4.1.1,bY h4.1.2,bY h4.2⟩;cases h4
theorem UQ{d:TypeDesc}(hu:P.underlying t=some d)(hp:d=.string∨d=.int .i64){xs:Array Value}(hx:xs[off]? = some v)(w:World):(part t xs off).run P w=.ok v w:=
 run_part_plain w (by rcases hp with rfl|rfl <;> simp[Program.plainKey,hu]) hx
theorem eY(hu:P.underlying t=some .string)(d:Nat)(a b:List UInt8)(w:World):(Op.equalIn (d+1) t (.string ⟨a.toArray⟩) (.string ⟨b.toArray⟩)).run P w=.ok (decide (a=b)) w:=by simp only[Op.equalIn,Sb,ed hu,lc,Qc];rw[beq_toListBytes,ByteArray.toList_eq,ByteArray.toList_eq];congr 1;by_cases h:a=b <;> simp[h]
theorem NL(hu:P.underlying t=some (.int .i64))(d:Nat)(a b:Int)(w:World):(Op.equalIn (d+1) t (.int .i64 a) (.int .i64 b)).run P w=.ok (decide (a=b)) w:=by simp only[Op.equalIn,Sb,ed hu,lc,Qc,if_true];congr 1
theorem qrO [h:nu P t](a b:List UInt8)(x y u v:Int)(w:World) :
  (Op.equal t (.agg #[.string ⟨a.toArray⟩,.int .i64 x,.int .i64 u]) (.agg #[.string ⟨b.toArray⟩,.int .i64 y,.int .i64 v])).run P w=.ok (decide (a=b/\x=y/\u=v)) w:=by
 obtain⟨f0,f1,f2,hf,⟨n0,o0,u0⟩,⟨n1,o1,u1⟩,⟨n2,o2,u2⟩⟩:=h.fields;rw[dM,run_equalIn_struct w 9999 t _ _ h.zd h.apart,hf];have p0:∀ (s:List UInt8) (i j:Int),(part f0.type #[.string ⟨s.toArray⟩,.int .i64 i,.int .i64 j] f0.offset).run P w=.ok (.string ⟨s.toArray⟩) w:=λs i j=>UQ u0 (.inl rfl) (by rw[o0];try rfl) w;have p1:∀ (s:List UInt8) (i j:Int),(part f1.type #[.string ⟨s.toArray⟩,.int .i64 i,.int .i64 j] f1.offset).run P w=.ok (.int .i64 i) w:=λs i j=>UQ u1 (.inr rfl) (by rw[o1];try rfl) w;have p2:∀ (s:List UInt8) (i j:Int),(part f2.type #[.string ⟨s.toArray⟩,.int .i64 i,.int .i64 j] f2.offset).run P w=.ok (.int .i64 j) w:=λs i j=>UQ u2 (.inr rfl) (by rw[o2];try rfl) w;have e0:=eY u0 9998 a b w;have e1:=NL u1 9998 x y w;have e2:=NL u2 9998 u v w;have q1:∀ a b:Int,(Op.equalIn 9999 f1.type (.int .i64 a) (.int .i64 b)).run P w=.ok (decide (a=b)) w:=λa b=>NL u1 9998 a b w;have q2:∀ a b:Int,(Op.equalIn 9999 f2.type (.int .i64 a) (.int .i64 b)).run P w=.ok (decide (a=b)) w:=λa b=>NL u2 9998 a b w;have q0:(Op.equalIn 9999 f0.type (.string ⟨a.toArray⟩) (.string ⟨b.toArray⟩)).run P w=.ok (decide (a=b)) w:=eY u0 9998 a b w;simp only[Op.eqFields,n0,n1,n2,ne_eq,not_false_eq_true,if_true,Sb,p0,q0,lc]
 by_cases ha:a=b;simp only[ha,decide_true,Bool.not_true,Vh,if_false,Sb,p1,q1,lc,true_and];by_cases hx:x=y;simp only[hx,decide_true,Bool.not_true,Vh,if_false,Sb,p2,q2,lc,true_and];by_cases hu:u=v;simp[hu];simp[hu];simp[hx];simp[ha]
section
variable{C:Ctx}{e:Env}{H:Heap}{dst:Option Nat}{ty:TypeId}{la:String}{ma:Array Edge}{g:Option (Nat×Bool)}{x y:Operand}
theorem fV{ρ:Operand->Value}(h:∀ x,Wa w L (e.ev x) (ρ x)){x:Operand}(hx:e.ev x=.agg [str a,int .i64 i,int .i64 j]):ρ x=.agg #[.string ⟨a.toArray⟩,.int .i64 i,.int .i64 j]:=by have hv:=h x;rw[hx] at hv;simp only[Wa,na,str,int] at hv;obtain⟨vs,h1,v0,r0,e0,rfl,v1,r1,e1,rfl,v2,r2,e2,rfl,e3⟩:=hv;rw[h1,e0,e1,e2,e3]
theorem Pure.gK [h:nu C.P t]{b:List UInt8}{k l:Int}(hx:e.ev x=.agg [str a,int .i64 i,int .i64 j])(hy:e.ev y=.agg [str b,int .i64 k,int .i64 l]) :
  Pure C ⟨dst,.binOp .eql t x y yT,ty,la,ma,g⟩ e H (bool (decide (a=b/\i=k/\j=l))):=
 .Ka λρ _ _ hr=>⟨_,xc,λw'=>by
  have h1:=fV hr hx;have h2:=fV hr hy;have he:(eqGuard .eql t x y (.agg #[.string ⟨a.toArray⟩,.int .i64 i,.int .i64 j]) (.agg #[.string ⟨b.toArray⟩,.int .i64 k,.int .i64 l])).run C.P w'=.ok () w':=by simp[eqGuard,h.guard]
  have hb:binOp .eql t (.agg #[.string ⟨a.toArray⟩,.int .i64 i,.int .i64 j]) (.agg #[.string ⟨b.toArray⟩,.int .i64 k,.int .i64 l])=(do Pure.pure (.bool (<-Op.equal t (.agg #[.string ⟨a.toArray⟩,.int .i64 i,.int .i64 j]) (.agg #[.string ⟨b.toArray⟩,.int .i64 k,.int .i64 l])))):=rfl;simp only[execOp,h1,h2,he,hb,Sb,Qc,lc,qrO]⟩
theorem Pure.xE [h:nu C.P t]{b:List UInt8}{k l:Int}(hx:e.ev x=.agg [str a,int .i64 i,int .i64 j])(hy:e.ev y=.agg [str b,int .i64 k,int .i64 l])(h1:a=b)(h2:i=k)(h3:j=l) :
  Pure C ⟨dst,.binOp .eql t x y yT,ty,la,ma,g⟩ e H (bool true):=by
 have:=Pure.gK (C:=C) (H:=H) (dst:=dst) (ty:=ty) (la:=la) (ma:=ma) (g:=g) (t:=t) (yT:=yT) hx hy;rwa [Eg ⟨h1,h2,h3⟩] at this
end
end Go.GL
namespace Go.Ba
@[reducible] def cv(c:UInt8):Int:=(c.toNat:Int)
def ze(c:UInt8):Bool:=decide (48<=cv c) && decide (cv c<=57)
def jk(c:UInt8):Bool:=decide (97<=cv c) && decide (cv c<=122)
def Gh(c:UInt8):Bool:=jk c || ze c || decide (cv c=95)
def XN(c:UInt8):Bool:=!decide (cv c=10)
def fF(c:UInt8):Bool:=decide (cv c=32) || decide (cv c=9) || decide (cv c=10)
structure Tok where
 kind:Int
 text:List UInt8
 line:Int
 deriving DecidableEq,Inhabited
theorem RZ{p:UInt8->Bool}{s:List UInt8}{m:Nat}(hm:m<s.length)(h:s.takeWhile p=s.take m++(s.drop m).takeWhile p) :
  (p s[m]=true->s.takeWhile p=s.take (m+1)++(s.drop (m+1)).takeWhile p)/\(p s[m]=false->s.takeWhile p=s.take m):=by
 have h1:s.drop m=s[m]::s.drop (m+1):=List.drop_eq_getElem_cons hm;constructor;intro hp;rw[h,h1,List.takeWhile_cons_of_pos hp,List.take_succ_eq_append_getElem hm];simp only[Xc,List.singleton_append];intro hp;rw[h,h1,List.takeWhile_cons_of_neg (by simp[hp])];simp
theorem qkL{p:UInt8->Bool}{s:List UInt8}{m:Nat}(hm:s.length<=m)(h:s.takeWhile p=s.take m++(s.drop m).takeWhile p):s.takeWhile p=s.take m:=by rw[h,List.drop_eq_nil_of_le hm];simp
def iq(s:List UInt8):Nat:=if [47,47].isPrefixOf s then (s.takeWhile XN).length else (s.takeWhile fF).length
end Go.Ba
namespace Go.Ba
def s5:Tok:=⟨0,[],0⟩
abbrev Dr:=Tok×Nat×Int
def Hl(e:Int):Dr:=(s5,0,e)
def IC(s:List UInt8)(n:Nat):Bool:=match s[n]? with
 |some c=>jk c || decide (cv c=95)
 |none=>false
def RC(s:List UInt8):Dr:=
 if IC s (s.takeWhile ze).length then Hl 3 else
  match Go.Lib.parseUintB 32 (s.takeWhile ze) with
  |.ok u=>(⟨1,Go.Lib.decDigits u,0⟩,(s.takeWhile ze).length,0)
  |_=>Hl 2
def XC:List UInt8->Dr
 |_::b::c::_=>if (!decide (cv c=39)) || decide (cv b<32) || decide (126<cv b) || decide (cv b=39) || decide (cv b=92) then Hl 3 else (⟨1,Go.Lib.decDigits b.toNat,0⟩,3,0)
 |_=>Hl 3
def kx:List (List UInt8):=[[97,114,114,97,121],[101,108,115,101],[102,117,110,99],[104,97,108,116],[105,102],[114,101,116,117,114,110],[118,97,114],[119,104,105,108,101]]
def Sr:List (List UInt8):=[[38,38],[124,124],[61,61],[33,61],[60,61],[62,61],[60],[62],[94],[43],[45],[42],[47],[37],[33],[61],[40],[41],[123],[125],[91],[93],[44],[59]]
def yC(s:List UInt8):Dr:=
 if 24<(s.takeWhile Gh).length then Hl 7 else (⟨if kx.contains (s.takeWhile Gh) then 3 else 2,s.takeWhile Gh,0⟩,(s.takeWhile Gh).length,0)
def eF(s:List UInt8):Dr:=match Sr.find? (λx=>x.isPrefixOf s) with
 |some x=>(⟨4,x,0⟩,x.length,0)
 |none=>Hl 3
def Qh(s:List UInt8):Dr:=match s with
 |[]=>Hl 3
 |c::_=>if ze c then RC s else if jk c then yC s else if decide (cv c=39) then XC s else eF s
def di:Nat->List UInt8->Int->Except (Int×Int) (List Tok)
 |0,_,_=>.ok []
 |Xa+1,s,line=>
  if s=[] then .ok [] else
  if iq s=0 then
   if (Qh s).2.2≠0 then .error (line,(Qh s).2.2)
   else (di Xa (s.drop (Qh s).2.1) (line+((s.take (Qh s).2.1).count 10:Nat))).map ({ (Qh s).1 with line:=line }::·)
  else di Xa (s.drop (iq s)) (line+((s.take (iq s)).count 10:Nat))
theorem JQ(p:UInt8->Bool)(s:List UInt8):(s.takeWhile p).length<=s.length:=(List.takeWhile_prefix p).length_le
theorem qk2(s:List UInt8)(h:(Qh s).2.2=0):0<(Qh s).2.1/\(Qh s).2.1<=s.length:=by
 match s with
 |[]=>simp[Qh,Hl] at h
 |c::r=>
  simp only[Qh] at h ⊢;split at h <;> rename_i hc;rw[zp hc];unfold RC at h ⊢;split at h;simp[Hl] at h
  rename_i hw;rw[zn hw];split at h;rename_i u hu;refine⟨?_,JQ _ _⟩;rw[List.takeWhile_cons_of_pos hc];simp;simp[Hl] at h;rw[zn hc];split at h <;> rename_i hl;rw[zp hl];unfold yC at h ⊢;split at h;simp[Hl] at h
  rename_i hw;rw[zn hw];refine⟨?_,JQ _ _⟩;rw[List.takeWhile_cons_of_pos (by simp[Gh,hl])];simp;rw[zn hl];split at h <;> rename_i hq;rw[zp hq];unfold XC at h ⊢;split at h;split at h;simp[Hl] at h
  rename_i hx;rename_i TM;rw[zn hx,TM];simp;simp[Hl] at h;rw[zn hq];unfold eF at h ⊢;split at h;rename_i x hx;have h1:=List.find?_some hx;have h2:=List.mem_of_find?_eq_some hx;refine⟨?_,(List.isPrefixOf_iff_prefix.1 h1).length_le⟩;have:∀ x∈Sr,0<x.length:=by decide
  exact this x h2;simp[Hl] at h
theorem qps(s:List UInt8):iq s<=s.length:=by unfold iq;split <;> exact JQ _ _
inductive vh (A:Type) where
 |ok (v:A) (at' op:Nat)
 |err (line e:Int)
def mF(T:List Tok)(i:Nat):Int:=match T[min i (T.length-1)]? with
 |some t=>t.line
 |none=>1
def WE{A:Type}(T:List Tok)(i:Nat):vh A:=.err (mF T i) 3
def ie(T:List Tok)(i:Nat)(xs:List (List UInt8)):Bool:=match T[i]? with
 |some t=>(decide (t.kind=3) || decide (t.kind=4)) && xs.contains t.text
 |none=>false
def Xm(T:List Tok)(k:Int)(i op:Nat):vh (List UInt8):=match T[i]? with
 |some t=>if t.kind=k then .ok t.text (i+1) op else WE T i
 |none=>WE T i
def Bq(T:List Tok)(x:List UInt8)(i op:Nat):vh Unit:=if ie T i [x] then .ok () (i+1) op else WE T i
def mn(T:List Tok)(x:List UInt8)(i op:Nat):vh Unit:=
 if ie T i [x] then (if 100<=op then .err (mF T i) 6 else .ok () (i+1) (op+1)) else WE T i
def vh.bind{A B:Type}(r:vh A)(f:A->Nat->Nat->vh B):vh B:=match r with
 |.ok v i op=>f v i op
 |.err l e=>.err l e
def vH(s:List UInt8):Nat:=match Go.Lib.parseUintB 32 s with
 |.ok u=>u
 |_=>0
end Go.Ba
namespace Go.Ba
variable{T:List Tok}{i op:Nat}{x:List UInt8}
inductive Ex where
 |mk (op:List UInt8) (num:Nat) (name:List UInt8) (args:List Ex)
 deriving Inhabited
inductive Sm where
 |mk (kind:Int) (name:List UInt8) (index value:List Ex) (lb Db:List Sm)
 deriving Inhabited
structure od where
 name:List UInt8
 params:List (List UInt8)
 locals:List (List UInt8)
 body:List Sm
 deriving Inhabited
structure Ar where
 name:List UInt8
 size:Nat
 deriving Inhabited
structure Pr where
 vars:List (List UInt8)
 ba:List Ar
 funcs:List od
 deriving Inhabited
def yg:Nat->List (List UInt8)
 |0=>[[124,124]]
 |1=>[[38,38]]
 |2=>[[61,61],[33,61],[60],[62],[60,61],[62,61]]
 |3=>[[94]]
 |4=>[[43],[45]]
 |5=>[[42],[47],[37]]
 |_=>[]
abbrev OR(A:Type):=Option (vh A)
def Uc{A B:Type}(r:OR A)(f:A->Nat->Nat->OR B):OR B:=match r with
 |none=>none
 |some (.ok v i op)=>f v i op
 |some (.err l e)=>some (.err l e)
def tA(T:List Tok)(i:Nat):List UInt8:=match T[i]? with
 |some t=>t.text
 |none=>[]
def IK(T:List Tok)(i:Nat):Int:=match T[i]? with
 |some t=>t.kind
 |none=>0
def Ai(T:List Tok)(x:List UInt8)(i op:Nat):vh Unit:=(Bq T x i op).bind λ_ i' Da=>.ok () i' (Da-1)
def EA(T:List Tok)(i op:Nat):vh Nat:=(Xm T 1 i op).bind λs i' Da=>.ok (vH s) i' Da
def Bu(T:List Tok):Nat->List (List UInt8)->Nat->Nat->OR (List (List UInt8))
 |0,_,_,_=>none
 |f+1,acc,i,op=>if ie T i [[44]] then Uc (some (Xm T 2 (i+1) op)) λs i' Da=>Bu T f (acc++[s]) i' Da else some (.ok acc i op)
def kA(T:List Tok)(f:Nat)(i op:Nat):OR (List (List UInt8)):=Uc (some (Xm T 2 i op)) λs i' Da=>Bu T f [s] i' Da
def Nq:List UInt8:=[110,101,103]
def Yo:List UInt8:=[110,111,116]
def Mq:List UInt8:=[110,117,109]
def Dy:List UInt8:=[101,108,101,109]
def Ek:List UInt8:=[99,97,108,108]
def pn:List UInt8:=[118,97,114]
mutual
def Ue(T:List Tok):Nat->Nat->Nat->Nat->OR Ex
 |0,_,_,_=>none
 |f+1,k,i,op=>if k=6 then Dt T f i op else Uc (Ue T f (k+1) i op) λe i' Da=>cx T f k e i' Da
def cx(T:List Tok):Nat->Nat->Ex->Nat->Nat->OR Ex
 |0,_,_,_,_=>none
 |f+1,k,e,i,op=>
  if ie T i (yg k) then Uc (Ue T f (k+1) (i+1) op) λe2 i' Da=>
   if k=2 then some (.ok (.mk (tA T i) 0 [] [e,e2]) i' Da) else cx T f k (.mk (tA T i) 0 [] [e,e2]) i' Da
  else some (.ok e i op)
def Dt(T:List Tok):Nat->Nat->Nat->OR Ex
 |0,_,_=>none
 |f+1,i,op=>
  if ie T i [[45]] then Uc (some (mn T [45] i op)) λ_ i' Da=>Uc (Dt T f i' Da) λe i' Da=>some (.ok (.mk Nq 0 [] [e]) i' (Da-1))
  else if ie T i [[33]] then Uc (some (mn T [33] i op)) λ_ i' Da=>Uc (Dt T f i' Da) λe i' Da=>some (.ok (.mk Yo 0 [] [e]) i' (Da-1))
  else Cy T f i op
def Cy(T:List Tok):Nat->Nat->Nat->OR Ex
 |0,_,_=>none
 |f+1,i,op=>
  if ie T i [[40]] then Uc (some (mn T [40] i op)) λ_ i' Da=>Uc (Ue T f 0 i' Da) λe i' Da=>Uc (some (Ai T [41] i' Da)) λ_ i' Da=>some (.ok e i' Da)
  else if IK T i=1 then Uc (some (EA T i op)) λn i' Da=>some (.ok (.mk Mq n [] []) i' Da)
  else Uc (some (Xm T 2 i op)) λs i' Da=>
   if ie T i' [[91]] then Uc (vv T f i' Da) λe i' Da=>some (.ok (.mk Dy 0 s [e]) i' Da)
   else if ie T i' [[40]] then Uc (Vw T f i' Da) λl i' Da=>some (.ok (.mk Ek 0 s l) i' Da)
   else some (.ok (.mk pn 0 s []) i' Da)
def vv(T:List Tok):Nat->Nat->Nat->OR Ex
 |0,_,_=>none
 |f+1,i,op=>Uc (some (mn T [91] i op)) λ_ i' Da=>Uc (Ue T f 0 i' Da) λe i' Da=>Uc (some (Ai T [93] i' Da)) λ_ i' Da=>some (.ok e i' Da)
def Vw(T:List Tok):Nat->Nat->Nat->OR (List Ex)
 |0,_,_=>none
 |f+1,i,op=>Uc (some (mn T [40] i op)) λ_ i' Da=>Uc (Jv T f [] i' Da) λl i' Da=>Uc (some (Ai T [41] i' Da)) λ_ i' Da=>some (.ok l i' Da)
def Jv(T:List Tok):Nat->List Ex->Nat->Nat->OR (List Ex)
 |0,_,_,_=>none
 |f+1,acc,i,op=>
  if ie T i [[41]] then some (.ok acc i op)
  else Uc (some (if acc=[] then .ok () i op else Bq T [44] i op)) λ_ i' Da=>Uc (Ue T f 0 i' Da) λe i' Da=>Jv T f (acc++[e]) i' Da
end
def II:List UInt8:=[105,102]
def qV:List UInt8:=[101,108,115,101]
def QV:List UInt8:=[119,104,105,108,101]
def YW:List UInt8:=[114,101,116,117,114,110]
def gV:List UInt8:=[104,97,108,116]
def oH:List UInt8:=[118,97,114]
def WV:List UInt8:=[97,114,114,97,121]
def xV:List UInt8:=[102,117,110,99]
mutual
def sv(T:List Tok):Nat->Nat->Nat->OR (List Sm)
 |0,_,_=>none
 |f+1,i,op=>Uc (some (mn T [123] i op)) λ_ i' Da=>Uc (Et T f [] i' Da) λl i' Da=>Uc (some (Ai T [125] i' Da)) λ_ i' Da=>some (.ok l i' Da)
def Et(T:List Tok):Nat->List Sm->Nat->Nat->OR (List Sm)
 |0,_,_,_=>none
 |f+1,acc,i,op=>if ie T i [[125]] then some (.ok acc i op) else Uc (Ey T f i op) λs i' Da=>Et T f (acc++[s]) i' Da
def Ey(T:List Tok):Nat->Nat->Nat->OR Sm
 |0,_,_=>none
 |f+1,i,op=>
  if ie T i [II] then Uc (Ue T f 0 (i+1) op) λe i' Da=>Uc (sv T f i' Da) λth i' Da=>
   if ie T i' [qV] then Uc (sv T f (i'+1) Da) λel i' Da=>some (.ok (.mk 3 [] [] [e] th el) i' Da) else some (.ok (.mk 3 [] [] [e] th []) i' Da)
  else if ie T i [QV] then Uc (Ue T f 0 (i+1) op) λe i' Da=>Uc (sv T f i' Da) λth i' Da=>some (.ok (.mk 4 [] [] [e] th []) i' Da)
  else Uc (Qy T f i op) λs i' Da=>Uc (some (Bq T [59] i' Da)) λ_ i' Da=>some (.ok s i' Da)
def Qy(T:List Tok):Nat->Nat->Nat->OR Sm
 |0,_,_=>none
 |f+1,i,op=>
  if ie T i [YW] then Uc (Ue T f 0 (i+1) op) λe i' Da=>some (.ok (.mk 5 [] [] [e] [] []) i' Da)
  else if ie T i [gV] then some (.ok (.mk 7 [] [] [] [] []) (i+1) op)
  else Uc (some (Xm T 2 i op)) λs i' Da=>
   if ie T i' [[40]] then Uc (Vw T f i' Da) λl i' Da=>some (.ok (.mk 6 [] [] [.mk Ek 0 s l] [] []) i' Da)
   else if ie T i' [[91]] then Uc (vv T f i' Da) λx i' Da=>Uc (some (Bq T [61] i' Da)) λ_ i' Da=>Uc (Ue T f 0 i' Da) λe i' Da=>some (.ok (.mk 2 s [x] [e] [] []) i' Da)
   else Uc (some (Bq T [61] i' Da)) λ_ i' Da=>Uc (Ue T f 0 i' Da) λe i' Da=>some (.ok (.mk 1 s [] [e] [] []) i' Da)
end
def yq(T:List Tok):Nat->List (List UInt8)->Nat->Nat->OR (List (List UInt8))
 |0,_,_,_=>none
 |f+1,acc,i,op=>if ie T i [oH] then Uc (kA T f (i+1) op) λl i' Da=>Uc (some (Bq T [59] i' Da)) λ_ i' Da=>yq T f (acc++l) i' Da else some (.ok acc i op)
def gC(T:List Tok)(f:Nat)(i op:Nat):OR od:=
 Uc (some (Xm T 2 i op)) λnm i' Da=>Uc (some (mn T [40] i' Da)) λ_ i' Da=>
 Uc (if ie T i' [[41]] then some (.ok [] i' Da) else kA T f i' Da) λps i' Da=>Uc (some (Ai T [41] i' Da)) λ_ i' Da=>
 Uc (some (mn T [123] i' Da)) λ_ i' Da=>Uc (yq T f [] i' Da) λls i' Da=>Uc (Et T f [] i' Da) λb i' Da=>
 Uc (some (Ai T [125] i' Da)) λ_ i' Da=>some (.ok ⟨nm,ps,ls,b⟩ i' Da)
def sC(T:List Tok)(i op:Nat):OR Ar:=
 Uc (some (Xm T 2 i op)) λnm i' Da=>Uc (some (mn T [91] i' Da)) λ_ i' Da=>Uc (some (EA T i' Da)) λn i' Da=>
 Uc (some (Ai T [93] i' Da)) λ_ i' Da=>Uc (some (Bq T [59] i' Da)) λ_ i' Da=>some (.ok ⟨nm,n⟩ i' Da)
def bx(T:List Tok):Nat->Pr->Nat->Nat->OR Pr
 |0,_,_,_=>none
 |f+1,p,i,op=>
  if T.length<=i then some (.ok p i op)
  else if ie T i [oH] then Uc (yq T f [] i op) λl i' Da=>bx T f { p with vars:=p.vars++l } i' Da
  else if ie T i [WV] then Uc (sC T (i+1) op) λa i' Da=>bx T f { p with ba:=p.ba++[a] } i' Da
  else if ie T i [xV] then Uc (gC T f (i+1) op) λa i' Da=>bx T f { p with funcs:=p.funcs++[a] } i' Da
  else some (WE T i)
def ug:Ex->List UInt8|.mk o _ _ _=>o
def Ym:Ex->Nat|.mk _ n _ _=>n
def jn:Ex->List UInt8|.mk _ _ n _=>n
def uV:Sm->Int|.mk k _ _ _ _ _=>k
def lV:Sm->List UInt8|.mk _ n _ _ _ _=>n
def XV:Sm->List Ex|.mk _ _ i _ _ _=>i
def VV:Sm->List Ex|.mk _ _ _ v _ _=>v
def Good{A:Type}(T:List Tok)(s:Bool)(i op:Nat)(r:vh A):Prop:=match r with
 |.ok _ i' Da=>i<=i'/\(s=true->i<i')/\(i<=T.length->i'<=T.length)/\Da=op
 |.err _ _=>True
def aj{A:Type}(T:List Tok)(s:Bool)(i op:Nat)(r:OR A):Prop:=∀ r',r=some r'->Good T s i op r'
theorem Yh{xs:List (List UInt8)}(h:ie T i xs=true):i<T.length:=by rcases Nat.lt_or_ge i T.length with h1|h1;exact h1;rw[ie,List.getElem?_eq_none h1] at h;cases h
theorem tC{t:Tok}(h:T[i]? = some t):i<T.length:=(List.getElem?_eq_some_iff.1 h).1
theorem Au(T:List Tok)(k:Int)(i op:Nat):Good T true i op (Xm T k i op):=by unfold Xm;split;rename_i t ht;have:=tC ht;split;exact⟨by omega,λ_=>by omega,λ_=>by omega,rfl⟩;trivial;trivial
theorem Bs(T:List Tok)(x:List UInt8)(i op:Nat):Good T true i op (Bq T x i op):=by unfold Bq;split;rename_i h;have:=Yh h;exact⟨by omega,λ_=>by omega,λ_=>by omega,rfl⟩;trivial
theorem Jq{i' Da:Nat}{u:Unit}(h:mn T x i op=.ok u i' Da):i'=i+1/\Da=op+1/\op<100/\i<T.length:=by unfold mn at h;split at h;rename_i h1;have:=Yh h1;split at h;cases h;cases h;exact⟨rfl,rfl,by omega,this⟩;cases h
theorem BC{i' Da:Nat}{u:Unit}(h:Ai T x i op=.ok u i' Da):i'=i+1/\Da=op-1/\i<T.length:=by unfold Ai Bq at h;split at h;rename_i h1;have:=Yh h1;cases h;exact⟨rfl,rfl,this⟩;cases h
theorem KQ(T:List Tok)(i op:Nat):Good T true i op (EA T i op):=by
 have:=Au T 1 i op;unfold EA;cases h:Xm T 1 i op with
 |ok v i' Da=>rw[h] at this;exact this
 |err l e=>trivial
theorem cl{A B:Type}{r:OR A}{f:A->Nat->Nat->OR B}{q:vh B}(h:Uc r f=some q) :
  (∃ v i op,r=some (.ok v i op)/\f v i op=some q)∨(∃ l e,r=some (.err l e)/\q=.err l e):=by
 match r,h with
 |some (.ok v i op),h=>exact .inl ⟨v,i,op,rfl,h⟩
 |some (.err l e),h=>exact .inr ⟨l,e,rfl,by simpa [Uc] using h.symm⟩
theorem dj{A B:Type}{s t:Bool}{j ec:Nat}{r:OR A}{f:A->Nat->Nat->OR B}(hr:aj T s j ec r)
  (hf:∀ v i' ,r=some (.ok v i' ec)->j<=i'->(s=true->j<i')->(j<=T.length->i'<=T.length)->aj T t i op (f v i' ec)):aj T t i op (Uc r f):=λq hq=>by
 rcases cl hq with⟨v,i',Da,h1,h2⟩|⟨l,e,_,rfl⟩;obtain⟨g1,g2,g3,g4⟩:=hr _ h1;subst g4;exact hf v i' h1 g1 g2 g3 q h2;trivial
theorem pi{A:Type}{s:Bool}{r:vh A}(h:Good T s i op r):aj T s i op (some r):=λr' hr=>by cases hr;exact h
theorem Ht{A:Type}{s:Bool}:aj (A:=A) T s i op none:=λr' hr=>by cases hr
theorem aj.from{A:Type}{s t:Bool}{j:Nat}{r:OR A}(h:aj T s j op r)(AJ:i<=j)(hs:t=true->i<j∨s=true)(hT:i<=T.length->j<=T.length):aj T t i op r:=λr' hr=>by
 have:=h r' hr;cases r' with
 |ok v i' Da=>
  obtain⟨g1,g2,g3,g4⟩:=this;refine⟨by omega,λht=>?_,λhi=>g3 (hT hi),g4⟩;rcases hs ht with h1|h1;omega
  have:=g2 h1;omega
 |err l e=>trivial
theorem QZ(T:List Tok):∀ (f:Nat) (acc:List (List UInt8)) (i op:Nat),aj T false i op (Bu T f acc i op)
 |0,_,_,_=>Ht
 |f+1,acc,i,op=>by rw[Bu];split;rename_i h;have:=Yh h;refine dj (pi (Au T 2 (i+1) op)) λv i' _ h1 h2 h3=>?_;exact(QZ T f _ i' op).from Ia (by simp) (λ_=>h3 Ia);exact pi ⟨by omega,by simp,λh=>h,rfl⟩
theorem fD(T:List Tok)(f i op:Nat):aj T true i op (kA T f i op):=
 dj (pi (Au T 2 i op)) λv i' _ h1 h2 h3=>(QZ T f _ i' op).from h1 (λ_=>.inl (h2 rfl)) h3
theorem LL{A:Type}{s:Bool}{y:List UInt8}{g:Nat->Nat->OR A}(hg:i<T.length->op<100->aj T s (i+1) (op+1) (g (i+1) (op+1))) :
  aj T true i op (Uc (some (mn T x i op)) λ_ i' Da=>Uc (g i' Da) λv i' Da=>Uc (some (Ai T y i' Da)) λ_ i' Da=>some (.ok v i' Da)):=λq hq=>by
 rcases cl hq with⟨v,i1,ec,h1,h2⟩|⟨l,e,_,rfl⟩;injection h1 with h1;obtain⟨rfl,rfl,ho,hi⟩:=Jq h1;rcases cl h2 with⟨w,i2,Ye,h3,h4⟩|⟨l,e,_,rfl⟩;obtain⟨g1,_,g3,rfl⟩:=hg hi ho _ h3;rcases cl h4 with⟨u,i3,Se,h5,h6⟩|⟨l,e,_,rfl⟩;injection h5 with h5;obtain⟨rfl,rfl,Cp⟩:=BC h5;cases h6;exact⟨by omega,λ_=>by omega,λ_=>by omega,by omega⟩;trivial;trivial;trivial
theorem Xr(T:List Tok):∀ f:Nat,(∀ k i op,aj T true i op (Ue T f k i op))/\(∀ k e i op,aj T false i op (cx T f k e i op))/\(∀ i op,aj T true i op (Dt T f i op)) /\
  (∀ i op,aj T true i op (Cy T f i op))/\(∀ i op,aj T true i op (vv T f i op))/\(∀ i op,aj T true i op (Vw T f i op))/\(∀ acc i op,aj T false i op (Jv T f acc i op))
 |0=>⟨λ_ _ _=>by rw[Ue];exact Ht,λ_ _ _ _=>by rw[cx];exact Ht,λ_ _=>by rw[Dt];exact Ht,λ_ _=>by rw[Cy];exact Ht,λ_ _=>by rw[vv];exact Ht,λ_ _=>by rw[Vw];exact Ht,λ_ _ _=>by rw[Jv];exact Ht⟩
 |f+1=>by
  obtain⟨hL,hO,hU,hP,hI,hA,hB⟩:=Xr T f;have neg:∀ (x:List UInt8) (nm:List UInt8) (i op:Nat),aj T true i op (Uc (some (mn T x i op)) λ_ i' Da=>Uc (Dt T f i' Da) λe i' Da=>some (.ok (Ex.mk nm 0 [] [e]) i' (Da-1))):=λx nm i op q hq=>by rcases cl hq with⟨v,i1,ec,h1,h2⟩|⟨l,e,_,rfl⟩;injection h1 with h1;obtain⟨rfl,rfl,ho,hi⟩:=Jq h1;rcases cl h2 with⟨w,i2,Ye,h3,h4⟩|⟨l,e,_,rfl⟩;obtain⟨g1,_,g3,rfl⟩:=hU _ _ _ h3;cases h4;exact⟨by omega,λ_=>by omega,λ_=>g3 Ia,by omega⟩;trivial;trivial
  refine⟨λk i op=>?_,λk e i op=>?_,λi op=>?_,λi op=>?_,λi op=>?_,λi op=>?_,λacc i op=>?_⟩;rw[Ue];split;exact hU i op;exact dj (hL (k+1) i op) λv i' _ h1 h2 h3=>(hO k v i' op).from h1 (λ_=>.inl (h2 rfl)) h3;rw[cx];split
  rename_i h;have:=Yh h;refine dj (hL (k+1) (i+1) op) λv i' _ h1 h2 h3=>?_;split;exact pi ⟨by omega,by simp,λ_=>h3 Ia,rfl⟩;exact(hO k _ i' op).from Ia (by simp) (λ_=>h3 Ia);exact pi ⟨by omega,by simp,λh=>h,rfl⟩;rw[Dt];split;exact neg _ _ _ _;split;exact neg _ _ _ _;exact hP i op;rw[Cy];split;exact LL (g:=λi op=>Ue T f 0 i op) λ_ _=>hL 0 _ _;split;exact dj (pi (KQ T i op)) λv i' _ h1 h2 h3=>pi ⟨h1,λ_=>h2 rfl,h3,rfl⟩;refine dj (pi (Au T 2 i op)) λv i' _ h1 h2 h3=>?_;split;exact dj (hI i' op) λv i2 _ g1 g2 g3=>pi ⟨by omega,λ_=>by have:=h2 rfl;omega,λh=>g3 (h3 h),rfl⟩;split;exact dj (hA i' op) λv i2 _ g1 g2 g3=>pi ⟨by omega,λ_=>by have:=h2 rfl;omega,λh=>g3 (h3 h),rfl⟩;exact pi ⟨h1,λ_=>h2 rfl,h3,rfl⟩;rw[vv];exact LL (g:=λi op=>Ue T f 0 i op) λ_ _=>hL 0 _ _;rw[Vw];exact LL (g:=λi op=>Jv T f [] i op) λ_ _=>hB [] _ _;rw[Jv];split;exact pi ⟨by omega,by simp,λh=>h,rfl⟩;refine dj (s:=false) (j:=i) (ec:=op) ?_ λv i' _ h1 h2 h3=>?_;split;exact pi ⟨by omega,by simp,λh=>h,rfl⟩;exact aj.from (pi (Bs T [44] i op)) Ia (by simp) λh=>h;exact dj (hL 0 i' op) λv i2 _ g1 g2 g3=>(hB _ i2 op).from Ia (by simp) λh=>g3 (h3 h)
end Go.Ba
namespace Go.Ba
variable{T:List Tok}{i op:Nat}
theorem xC(T:List Tok):∀ f:Nat,(∀ i op,aj T true i op (sv T f i op))/\(∀ acc i op,aj T false i op (Et T f acc i op))/\(∀ i op,aj T true i op (Ey T f i op))/\(∀ i op,aj T true i op (Qy T f i op))
 |0=>⟨λ_ _=>by rw[sv];exact Ht,λ_ _ _=>by rw[Et];exact Ht,λ_ _=>by rw[Ey];exact Ht,λ_ _=>by rw[Qy];exact Ht⟩
 |f+1=>by
  obtain⟨hB,hL,hS,hM⟩:=xC T f;obtain⟨gL,_,_,_,gI,gA,_⟩:=Xr T f;refine⟨λi op=>?_,λacc i op=>?_,λi op=>?_,λi op=>?_⟩;rw[sv];exact LL (g:=λi op=>Et T f [] i op) λ_ _=>hL [] _ _;rw[Et];split;exact pi ⟨by omega,by simp,λh=>h,rfl⟩;exact dj (hS i op) λv i' _ h1 h2 h3=>(hL _ i' op).from h1 (by simp) h3;rw[Ey];split
  rename_i h;have:=Yh h;refine dj (gL 0 (i+1) op) λv i' _ h1 h2 h3=>dj (hB i' op) λw i2 _ g1 g2 g3=>?_;split
  rename_i h4;have:=Yh h4;refine dj (hB (i2+1) op) λx i3 _ k1 k2 k3=>pi ⟨by omega,λ_=>by omega,λ_=>k3 Ia,rfl⟩;exact pi ⟨by omega,λ_=>by omega,λ_=>g3 (h3 Ia),rfl⟩;split
  rename_i h;have:=Yh h;exact dj (gL 0 (i+1) op) λv i' _ h1 h2 h3=>dj (hB i' op) λw i2 _ g1 g2 g3=>pi ⟨by omega,λ_=>by omega,λ_=>g3 (h3 Ia),rfl⟩;exact dj (hM i op) λv i' _ h1 h2 h3=>dj (pi (Bs T [59] i' op)) λw i2 _ g1 g2 g3=>pi ⟨by omega,λ_=>by have:=h2 rfl;omega,λhh=>g3 (h3 hh),rfl⟩;rw[Qy];split
  rename_i h;have:=Yh h;exact dj (gL 0 (i+1) op) λv i' _ h1 h2 h3=>pi ⟨by omega,λ_=>by omega,λ_=>h3 Ia,rfl⟩;split
  rename_i h;have:=Yh h;exact pi ⟨by omega,λ_=>by omega,λ_=>by omega,rfl⟩;refine dj (pi (Au T 2 i op)) λv i' _ h1 h2 h3=>?_;split;exact dj (gA i' op) λw i2 _ g1 g2 g3=>pi ⟨by omega,λ_=>by have:=h2 rfl;omega,λhh=>g3 (h3 hh),rfl⟩;split
  exact dj (gI i' op) λw i2 _ g1 g2 g3=>dj (pi (Bs T [61] i2 op)) λu i3 _ k1 k2 k3=>dj (gL 0 i3 op) λx i4 _ m1 m2 m3=>
   pi ⟨by omega,λ_=>by have:=h2 rfl;omega,λhh=>m3 (k3 (g3 (h3 hh))),rfl⟩
  exact dj (pi (Bs T [61] i' op)) λu i3 _ k1 k2 k3=>dj (gL 0 i3 op) λx i4 _ m1 m2 m3=>
   pi ⟨by omega,λ_=>by have:=h2 rfl;omega,λhh=>m3 (k3 (h3 hh)),rfl⟩
theorem JA(T:List Tok):∀ (f:Nat) (acc:List (List UInt8)) (i op:Nat),aj T (ie T i [oH]) i op (yq T f acc i op)
 |0,_,_,_=>by rw[yq];exact Ht
 |f+1,acc,i,op=>by
  rw[yq];split;rename_i h;have:=Yh h;exact dj (fD T f (i+1) op) λv i' _ h1 h2 h3=>dj (pi (Bs T [59] i' op)) λu i2 _ g1 g2 g3=>
   (JA T f _ i2 op).from Ia (λ_=>.inl Ia) (λ_=>g3 (h3 Ia))
  rename_i h;exact pi ⟨by omega,λhh=>absurd hh h,λh=>h,rfl⟩
def Ends{A:Type}(r:OR A):Prop:=∃ q,r=some q
theorem nf{A B:Type}{r:OR A}{f:A->Nat->Nat->OR B}(h:Ends r)(k:∀ v i op,r=some (.ok v i op)->Ends (f v i op)):Ends (Uc r f):=by
 obtain⟨q,rfl⟩:=h;cases q with
 |ok v i op=>exact k v i op rfl
 |err l e=>exact⟨_,rfl⟩
theorem pf{A:Type}{r:vh A}:Ends (some r):=⟨_,rfl⟩
theorem KA{B:Type}{x:List UInt8}{g:Unit->Nat->Nat->OR B}(k:i<T.length->op<100->Ends (g () (i+1) (op+1))):Ends (Uc (some (mn T x i op)) g):=
 nf pf λv i1 ec h1=>by injection h1 with h1;obtain⟨rfl,rfl,ho,hi⟩:=Jq h1;exact k hi ho
theorem RV(T:List Tok):∀ f:Nat,(∀ k i op,k<=6->i<=T.length->10 * (T.length-i)+20-k<=f->Ends (Ue T f k i op))/\(∀ k e i op,k<=5->i<=T.length->10 * (T.length-i)+11<=f->Ends (cx T f k e i op)) /\
  (∀ i op,i<=T.length->10 * (T.length-i)+13<=f->Ends (Dt T f i op))/\(∀ i op,i<=T.length->10 * (T.length-i)+12<=f->Ends (Cy T f i op))/\(∀ i op,i<=T.length->10 * (T.length-i)+11<=f->Ends (vv T f i op)) /\
  (∀ i op,i<=T.length->10 * (T.length-i)+12<=f->Ends (Vw T f i op))/\(∀ acc i op,i<=T.length->10 * (T.length-i)+21<=f->Ends (Jv T f acc i op))
 |0=>⟨λ_ _ _ _ _ _=>by omega,λ_ _ _ _ _ _ _=>by omega,λ_ _ _ _=>by omega,λ_ _ _ _=>by omega,λ_ _ _ _=>by omega,λ_ _ _ _=>by omega,λ_ _ _ _ _=>by omega⟩
 |f+1=>by
  obtain⟨hL,hO,hU,hP,hI,hA,hB⟩:=RV T f;obtain⟨gL,gO,gU,gP,gI,gA,gB⟩:=Xr T f;have neg:∀ (x nm:List UInt8) (i op:Nat),10 * (T.length-i)+13<=f+1->Ends (Uc (some (mn T x i op)) λ_ i' Da=>Uc (Dt T f i' Da) λe i' Da=>some (.ok (Ex.mk nm 0 [] [e]) i' (Da-1))):=λx nm i op hf=>
   KA λhi ho=>nf (hU _ _ Ia Ia) λv i2 Ye _=>pf
  refine⟨λk i op hk hi hf=>?_,λk e i op hk hi hf=>?_,λi op hi hf=>?_,λi op hi hf=>?_,λi op hi hf=>?_,λi op hi hf=>?_,λacc i op hi hf=>?_⟩;rw[Ue];split;exact hU i op hi Ia;refine nf (hL (k+1) i op Ia hi Ia) λv i' Da h=>?_;obtain⟨g1,g2,g3,rfl⟩:=gL (k+1) i op _ h;have:=g2 rfl;exact hO k v i' Da Ia (g3 hi) (by have:=g3 hi;omega);rw[cx];split
  rename_i h;have:=Yh h;refine nf (hL (k+1) (i+1) op Ia Ia Ia) λv i' Da h=>?_;obtain⟨g1,g2,g3,rfl⟩:=gL (k+1) (i+1) op _ h;have:=g3 Ia;split;exact pf;exact hO k _ i' Da hk this Ia;exact pf;rw[Dt];split;exact neg _ _ _ _ hf;split;exact neg _ _ _ _ hf;exact hP i op hi Ia;rw[Cy];split;exact KA λwa ho=>nf (hL 0 _ _ Ia Ia Ia) λv i2 Ye _=>nf pf λ_ _ _ _=>pf;split;exact nf pf λ_ _ _ _=>pf;refine nf pf λv i' Da h=>?_;injection h with h;have hg:=Au T 2 i op;rw[h] at hg;obtain⟨h1,h2,h3,rfl⟩:=hg;have:=h2 rfl;have:=h3 hi;split;exact nf (hI i' _ Ia Ia) λ_ _ _ _=>pf;split;exact nf (hA i' _ Ia Ia) λ_ _ _ _=>pf;exact pf;rw[vv];exact KA λwa ho=>nf (hL 0 _ _ Ia Ia Ia) λv i2 Ye _=>nf pf λ_ _ _ _=>pf;rw[Vw];exact KA λwa ho=>nf (hB [] _ _ Ia Ia) λv i2 Ye _=>nf pf λ_ _ _ _=>pf;rw[Jv];split;exact pf;refine nf pf λv i' Da h=>?_
  have hg:i<=i'/\i'<=T.length:=by injection h with h;split at h;cases h;exact⟨mc _,hi⟩;have hg:=Bs T [44] i op;rw[h] at hg;exact⟨hg.1,hg.2.2.1 hi⟩
  refine nf (hL 0 i' Da Ia hg.2 Ia) λv2 i2 Ye h2=>?_;obtain⟨g1,g2,g3,rfl⟩:=gL 0 i' Da _ h2;have:=g2 rfl;have:=g3 hg.2;exact hB _ i2 _ this Ia
theorem YV(T:List Tok):∀ f:Nat,(∀ i op,i<=T.length->10 * (T.length-i)+5<=f->Ends (sv T f i op))/\(∀ acc i op,i<=T.length->10 * (T.length-i)+14<=f->Ends (Et T f acc i op)) /\
  (∀ i op,i<=T.length->10 * (T.length-i)+13<=f->Ends (Ey T f i op))/\(∀ i op,i<=T.length->10 * (T.length-i)+12<=f->Ends (Qy T f i op))
 |0=>⟨λ_ _ _ _=>by omega,λ_ _ _ _ _=>by omega,λ_ _ _ _=>by omega,λ_ _ _ _=>by omega⟩
 |f+1=>by
  obtain⟨hB,hL,hS,hM⟩:=YV T f;obtain⟨eL,_,_,_,eI,eA,_⟩:=RV T f;obtain⟨gL,_,_,_,gI,gA,_⟩:=Xr T f;obtain⟨kB,kL,kS,kM⟩:=xC T f;refine⟨λi op hi hf=>?_,λacc i op hi hf=>?_,λi op hi hf=>?_,λi op hi hf=>?_⟩;rw[sv];exact KA λwa ho=>nf (hL [] _ _ Ia Ia) λv i2 Ye _=>nf pf λ_ _ _ _=>pf;rw[Et];split;exact pf;refine nf (hS i op hi Ia) λv i' Da h=>?_;obtain⟨g1,g2,g3,rfl⟩:=kS i op _ h;have:=g2 rfl;have:=g3 hi;exact hL _ i' _ Ia Ia;rw[Ey];split
  rename_i h;have:=Yh h;refine nf (eL 0 (i+1) op Ia Ia Ia) λv i' Da h=>?_;obtain⟨g1,g2,g3,rfl⟩:=gL 0 (i+1) op _ h;have:=g2 rfl;have:=g3 Ia;refine nf (hB i' _ Ia Ia) λv2 i2 Ye h2=>?_;obtain⟨q1,q2,q3,rfl⟩:=kB i' _ _ h2;have:=q3 Ia;split
  rename_i h4;have:=Yh h4;exact nf (hB (i2+1) _ Ia Ia) λ_ _ _ _=>pf;exact pf;split
  rename_i h;have:=Yh h;refine nf (eL 0 (i+1) op Ia Ia Ia) λv i' Da h=>?_;obtain⟨g1,g2,g3,rfl⟩:=gL 0 (i+1) op _ h;have:=g2 rfl;have:=g3 Ia;exact nf (hB i' _ Ia Ia) λv2 i2 Ye h2=>pf;exact nf (hM i op hi Ia) λ_ _ _ _=>nf pf λ_ _ _ _=>pf;rw[Qy];split
  rename_i h;have:=Yh h;exact nf (eL 0 (i+1) op Ia Ia Ia) λ_ _ _ _=>pf;split;exact pf;refine nf pf λv i' Da h=>?_;injection h with h;have hg:=Au T 2 i op;rw[h] at hg;obtain⟨h1,h2,h3,rfl⟩:=hg;have:=h2 rfl;have:=h3 hi;split;exact nf (eA i' _ Ia Ia) λ_ _ _ _=>pf
  have tail:∀ (i2 Ye:Nat) (g:Ex->Sm),i'<=i2->i2<=T.length->Ends (Uc (some (Bq T [61] i2 Ye)) λ_ i' Da=>Uc (Ue T f 0 i' Da) λe i' Da=>some (.ok (g e) i' Da)):=λi2 Ye g Ax Cp=>by refine nf pf λv i3 Se h3=>?_;injection h3 with h3;have hg:=Bs T [61] i2 Ye;rw[h3] at hg;have:=hg.2.2.1 Cp;have:=hg.1;exact nf (eL 0 i3 _ Ia Ia Ia) λ_ _ _ _=>pf
  split;refine nf (eI i' _ Ia Ia) λv2 i2 Ye h2=>?_;obtain⟨q1,q2,q3,rfl⟩:=gI i' _ _ h2;exact tail i2 _ _ q1 (q3 Ia);exact tail i' _ _ (mc _) Ia
theorem XZ(T:List Tok):∀ (f:Nat) (acc:List (List UInt8)) (i op:Nat),i<=T.length->T.length-i+1<=f->Ends (Bu T f acc i op)
 |0,_,_,_,_,h=>by omega
 |f+1,acc,i,op,hi,hf=>by rw[Bu];split;rename_i h;have:=Yh h;refine nf pf λv i' Da h=>?_;injection h with h;have hg:=Au T 2 (i+1) op;rw[h] at hg;obtain⟨h1,h2,h3,rfl⟩:=hg;exact XZ T f _ i' _ (h3 Ia) (by have:=h3 Ia;omega);exact pf
theorem HY(T:List Tok)(f i op:Nat)(hi:i<=T.length)(hf:T.length-i+1<=f):Ends (kA T f i op):=
 nf pf λv i' Da h=>by injection h with h;have hg:=Au T 2 i op;rw[h] at hg;obtain⟨h1,h2,h3,rfl⟩:=hg;exact XZ T f _ i' _ (h3 hi) (by have:=h3 hi;omega)
theorem sQ(T:List Tok):∀ (f:Nat) (acc:List (List UInt8)) (i op:Nat),i<=T.length->T.length-i+2<=f->Ends (yq T f acc i op)
 |0,_,_,_,_,h=>by omega
 |f+1,acc,i,op,hi,hf=>by rw[yq];split;rename_i h;have:=Yh h;refine nf (HY T f (i+1) op Ia Ia) λv i' Da h=>?_;obtain⟨g1,g2,g3,rfl⟩:=fD T f (i+1) op _ h;have:=g3 Ia;refine nf pf λv i2 Ye h2=>?_;injection h2 with h2;have hg:=Bs T [59] i' Da;rw[h2] at hg;obtain⟨h1,h2,h3,rfl⟩:=hg;have:=h3 Ia;exact sQ T f _ i2 _ Ia Ia;exact pf
theorem vY{B:Type}{k:Int}{g:List UInt8->Nat->Nat->OR B}(h:∀ s,i<T.length->Ends (g s (i+1) op)):Ends (Uc (some (Xm T k i op)) g):=
 nf pf λv i' Da hw=>by injection hw with hw;unfold Xm at hw;split at hw;rename_i t ht;have:=tC ht;split at hw;cases hw;exact h _ this;cases hw;cases hw
theorem H9{B:Type}{x:List UInt8}{g:Unit->Nat->Nat->OR B}(h:i<T.length->Ends (g () (i+1) (op-1))):Ends (Uc (some (Ai T x i op)) g):=
 nf pf λv i' Da hw=>by injection hw with hw;obtain⟨rfl,rfl,wa⟩:=BC hw;exact h wa
theorem qpM(T:List Tok)(f i op:Nat)(hi:i<=T.length)(hf:10 * (T.length-i)+14<=f):Ends (gC T f i op):=by
 unfold gC;refine vY λs h1=>KA λh2 h3=>nf ?_ λv i2 Ye h4=>H9 λh5=>KA λh6 h7=>nf (sQ T f [] _ _ Ia ?_) λv2 i3 Se h8=>nf ((YV T f).2.1 [] _ _ ?_ ?_) λv3 i4 Rj h9=>nf pf λ_ _ _ _=>pf;split;exact pf;exact HY T f _ _ Ia Ia
 have:i+1+1<=i2:=by split at h4;cases h4;omega;exact(fD T f _ _ _ h4).1
 omega;exact(JA T f _ _ _ _ h8).2.2.1 Ia;have:i+1+1<=i2:=by split at h4;cases h4;omega;exact(fD T f _ _ _ h4).1
 have:=(JA T f _ _ _ _ h8).1;omega
theorem ZL(T:List Tok)(f i op:Nat):aj T true i op (gC T f i op):=by
 intro q fJ;unfold gC at fJ;cases q with
 |err l e=>trivial
 |ok v i9 op9=>
  rcases cl fJ with⟨s,i1,ec,h1,pS⟩|⟨l,e,_,h⟩;injection h1 with h1;have g1:=Au T 2 i op;rw[h1] at g1;obtain⟨a1,a2,a3,rfl⟩:=g1;have:=a2 rfl;rcases cl pS with⟨_,i2,Ye,h2,nS⟩|⟨l,e,_,h⟩;injection h2 with h2;obtain⟨rfl,rfl,b1,b2⟩:=Jq h2;rcases cl nS with⟨ps,i3,Se,h3,mS⟩|⟨l,e,_,h⟩;have c:i1+1<=i3/\(i1+1<=T.length->i3<=T.length)/\Se=ec+1:=by split at h3;cases h3;exact⟨mc _,λh=>h,rfl⟩;obtain⟨c1,_,c3,c4⟩:=fD T f _ _ _ h3;exact⟨c1,c3,c4⟩
  obtain⟨c1,c2,rfl⟩:=c;rcases cl mS with⟨_,i4,Rj,h4,jS⟩|⟨l,e,_,h⟩;injection h4 with h4;obtain⟨rfl,rfl,d1⟩:=BC h4;rcases cl jS with⟨_,i5,jD,h5,iS⟩|⟨l,e,_,h⟩;injection h5 with h5;obtain⟨rfl,rfl,e1,e2⟩:=Jq h5;rcases cl iS with⟨ls,i6,jR,h6,gS⟩|⟨l,e,_,h⟩;obtain⟨f1,_,f3,rfl⟩:=JA T f _ _ _ _ h6;have:=f3 Ia;rcases cl gS with⟨bs,i7,C0,h7,hq7⟩|⟨l,e,_,h⟩;obtain⟨k1,_,k3,rfl⟩:=(xC T f).2.1 _ _ _ _ h7;have:=k3 Ia;rcases cl hq7 with⟨_,i8,A0,h8,hq8⟩|⟨l,e,_,h⟩;injection h8 with h8;obtain⟨rfl,rfl,m1⟩:=BC h8;cases hq8;exact⟨by omega,λ_=>by omega,λ_=>by omega,by omega⟩;cases h;cases h;cases h;cases h;cases h;cases h;cases h;cases h
theorem lM(T:List Tok)(i op:Nat):aj T true i op (sC T i op):=by
 intro q fJ;unfold sC at fJ;cases q with
 |err l e=>trivial
 |ok v i9 op9=>rcases cl fJ with⟨s,i1,ec,h1,pS⟩|⟨l,e,_,h⟩;injection h1 with h1;have g1:=Au T 2 i op;rw[h1] at g1;obtain⟨a1,a2,a3,rfl⟩:=g1;have:=a2 rfl;rcases cl pS with⟨_,i2,Ye,h2,nS⟩|⟨l,e,_,h⟩;injection h2 with h2;obtain⟨rfl,rfl,b1,b2⟩:=Jq h2;rcases cl nS with⟨ps,i3,Se,h3,mS⟩|⟨l,e,_,h⟩;injection h3 with h3;have g3:=KQ T (i1+1) (ec+1);rw[h3] at g3;obtain⟨c1,c2,c3,rfl⟩:=g3;have:=c2 rfl;rcases cl mS with⟨_,i4,Rj,h4,jS⟩|⟨l,e,_,h⟩;injection h4 with h4;obtain⟨rfl,rfl,d1⟩:=BC h4;rcases cl jS with⟨_,i5,jD,h5,iS⟩|⟨l,e,_,h⟩;injection h5 with h5;have g5:=Bs T [59] (i3+1) Rj;rw[h5] at g5;obtain⟨e1,e2,e3,rfl⟩:=g5;have:=e2 rfl;have:=e3 Ia;cases iS;exact⟨by omega,λ_=>by omega,λ_=>by omega,by omega⟩;cases h;cases h;cases h;cases h;cases h
theorem qnH(T:List Tok)(i op:Nat):Ends (sC T i op):=by unfold sC;exact vY λs _=>KA λ_ _=>nf pf λ_ _ _ _=>nf pf λ_ _ _ _=>nf pf λ_ _ _ _=>pf
theorem fM(T:List Tok):∀ (f:Nat) (p:Pr) (i op:Nat),i<=T.length->10 * (T.length-i)+20<=f->Ends (bx T f p i op)
 |0,_,_,_,_,h=>by omega
 |f+1,p,i,op,hi,hf=>by
  rw[bx];split;exact pf;split;rename_i h;have:=Yh h;refine nf (sQ T f _ i op hi Ia) λv i' Da h2=>?_;obtain⟨g1,g2,g3,rfl⟩:=JA T f _ i op _ h2;have:=g2 h;have:=g3 hi;exact fM T f _ i' _ Ia Ia;split
  rename_i h;have:=Yh h;refine nf (qnH T _ _) λv i' Da h2=>?_;obtain⟨g1,g2,g3,rfl⟩:=lM T _ _ _ h2;have:=g3 Ia;exact fM T f _ i' _ Ia Ia;split
  rename_i h;have:=Yh h;refine nf (qpM T f _ _ Ia Ia) λv i' Da h2=>?_;obtain⟨g1,g2,g3,rfl⟩:=ZL T f _ _ _ h2;have:=g3 Ia;exact fM T f _ i' _ Ia Ia;exact pf
end Go.Ba
