import Derived.Recover
import Derived.Laws.StructEq
import Derived.ChangeKeysEq
import Derived.Lib.ParseIntB
import Derived.Lib.ItoaNum
import Derived.Test.YtkihibnffkpnkaaGreatDoorBRowLR2
set_option linter.unusedVariables false
set_option linter.unusedSimpArgs false
set_option maxRecDepth 100000
set_option maxHeartbeats 4000000
open List (map_toArray map_nil length_take length_drop)
open Nat (zero_le add_mul)
namespace Go.GL
open Go.RowKit
@[reducible] def rowV(b n:Nat):LV:=.atom (.slice (some ⟨b,0,none⟩) n n)
section
variable{C:Ctx}{e:Env}{H:Heap}{dst:Option Nat}{ty:TypeId}{pos:String}{aft:Array Edge}{g:Option (Nat×Bool)}{K:LV->Heap->Prop}{X:List PanicEntry->Heap->Prop}{x y:Operand}
theorem qqN(n:Nat)(z:Value):(Array.range n).map (λi=>(if n * 1=0 then #[] else #[z])[i % (if n * 1=0 then (#[]:Array Value) else #[z]).size]!)=(List.replicate n z).toArray:=by
 rcases Nat.eq_zero_or_pos n with rfl|hn
 simp
 rw[zn zo];apply Array.ext
 simp
 intro i h1 h2;simp[Nat.mod_one]
theorem S.makeRow{t el bytes:Nat}{zv:Value} [ht:TSlice C.P t el 1] [hr:TRow C.P el 1 bytes] [hz:TZero C.P el [zv]]{n:Nat}{k k2:IntKind}(hx:e.ev x=int k n)(hy:e.ev y=int k2 n)(hb:bytes * n<=100000000000)(hn:n<=100000000000)
  (hk:∀ b,K (rowV b n) ((b,.cells el (List.replicate n (.atom zv)))::H)):qae C ⟨dst,.makeSlice t x y,ty,pos,aft,g⟩ e H K X:=by
 refine qae.at0 λρ w L h hH=>?_;have h3:execOp ρ ⟨dst,.makeSlice t x y,ty,pos,aft,g⟩=(do Pure.pure (.value (<-Instr.makeSlice t (ρ x) (ρ y)))):=rfl;obtain⟨i,z,hi,hs,hby,hb0,hzz,hzs⟩:=hr.out;obtain⟨i',z',hi',hz',hc',hs'⟩:=hz.out;rw[hi] at hi';obtain rfl:=Option.some.inj hi';rw[hzz] at hz';obtain rfl:=Option.some.inj hz';have wn:IntKind.i64.wrap (n:Int)=n:=qff zo;have n1:¬ ((n:Int)<0):=by omega
 have n2:¬ ((281474976710656:Int)<(i.bytes:Int) * n):=by
  rw[hby];have:((bytes * n:Nat):Int)<=100000000000:=by omega
  rw[Int.natCast_mul] at this;omega
 have n3:¬ (n * i.bytes > roomBytes):=by
  rw[hby,Nat.mul_comm];unfold roomBytes;omega
 have hrun:(Instr.makeSlice t (.int k n) (.int k2 n)).run C.P w=.ok (.slice (some ⟨w.heap.size,0,none⟩) n n) (World.push w (.cells (List.replicate n zv).toArray el)):=by
  have hrz:=qqN n zv
  by_cases h0:n=0
  ·subst h0;have wz:IntKind.i64.wrap 0=0:=qff zo;simp[Instr.makeSlice,qaa ht.und,asInt,asIntOf,qdK hi,qbF hi,hs,wz,newRow,askRoom,roomBytes,newObj,World.push,zRB,zRP];have e0:(Array.range 0).map (λ_=>(default:Value))=#[]:=by simp
   rw[e0]
   try rfl
  simp only[Nat.mul_one,h0,if_false] at hrz;simp[Instr.makeSlice,qaa ht.und,asInt,asIntOf,qdK hi,qbF hi,hs,wn,n1,n2,n3,h0,zeroValue,hzz,hc',newRow,askRoom,newObj,World.push,zRB,zRP,hrz];simp at hrz;rw[hrz]
  try rfl
 rw[h3,qaf h hx,qaf h hy,zRB,hrun]
 have hrep:RepL w L (List.replicate n (.atom zv)) (List.replicate n zv):=by
  have:=qa4 (w:=w) (L:=L) (List.replicate n zv)
  rwa [List.map_replicate] at this
 have hx':=qev hH.wf (.cells (List.replicate n zv).toArray el) 0
 have:=qeA hH (.cells (List.replicate n zv).toArray el) 0 [(w.heap.size,.cells el (List.replicate n (.atom zv)))] (λp hp=>by
  simp only[List.mem_singleton] at hp;subst hp
  exact⟨rfl,by simp[Live.upd],List.replicate n zv,qaE,hrep.mono hx' _ _⟩) (by simp)
 exact⟨_,_,_,this.1,this.2,qaj,hk _⟩
theorem Pure.indexRow{t el s:Nat} [ht:TSlice C.P t el s]{b off m cap:Nat}{n:Int}{k:IntKind}(hx:e.ev x=.atom (.slice (some ⟨b,off,none⟩) m cap))(hy:e.ev y=int k n)(h0:0<=n)(hn:n<m) :
  Pure C ⟨dst,.indexAddr t x y,ty,pos,aft,g⟩ e H (ptr b (off+n.toNat * s)):=.of_any λρ w L h=>by
 obtain⟨i,hi,hsz⟩:=ht.size;refine⟨_,qaj,λw'=>?_⟩;have h3:execOp ρ ⟨dst,.indexAddr t x y,ty,pos,aft,g⟩=(do Pure.pure (.value (<-Instr.indexAt t (ρ x) (ρ y)))):=rfl;rw[h3,qaf h hx,qaf h hy];have hc:0<=n/\n<(m:Int):=⟨h0,hn⟩;simp[Instr.indexAt,asIntOf,qaa ht.und,hc,qbF hi,add_mk,hsz]
theorem Pure.rowLen{t el s:Nat} [TSlice C.P t el s]{a:Option Addr}{m cap:Nat}(hx:e.ev x=.atom (.slice a m cap)):Pure C ⟨dst,.call { callee:=.builtin .len,args:=#[x],argTypes:=#[t] },ty,pos,aft,g⟩ e H (int .i64 m):=
 .of_any λρ _ _ h=>⟨_,qaj,λw'=>by
  have hu:=qaa (P:=C.P) (TSlice.und (t:=t)) w';rw[qax,qez]
  simp[Builtin.len_,hu,goInt,qaf h hx]⟩
end
section shut
variable{C:Ctx}{n:Nat}{Q:Post}{e:Env}{H F:Heap}
end shut
section
variable{C:Ctx}{e:Env}{H:Heap}{dst:Option Nat}{ty:TypeId}{pos:String}{aft:Array Edge}{g:Option (Nat×Bool)}{K:LV->Heap->Prop}{X:List PanicEntry->Heap->Prop}{x y:Operand}
theorem qjH{P:Program}{t el s:Nat} [h:TSlice P t el s](a:Option Addr)(n m:Nat)(w:World):(Op.equal t (.slice a n m) (.slice none 0 0)).run P w=.ok a.isNone w:=by
 rw[qgk,Op.equalIn]
 try cases a <;> simp only[zRB,qaa h.und,zRO,zRP] <;> rfl
theorem S.sliceNil{t el s yT:Nat} [ht:TSlice C.P t el s]{es:List LV}(hx:elems (e.ev x)=some es)(hk:∀ b,(b=true->es=[])->K (bool b) H):qae C ⟨dst,.binOp .eql t x (.const (.slice none 0 0)) yT,ty,pos,aft,g⟩ e H K X:=λρ w L h hH=>by
 obtain⟨a,cap,hv,hc,hr⟩:=(h x).elems hx;have h2:=qaf h (x:=.const (.slice none 0 0)) rfl;have he:eqGuard .eql t x (.const (.slice none 0 0)) (.slice a es.length cap) (.slice none 0 0)=Pure.pure ():=by simp[eqGuard]
 have hb:binOp .eql t (.slice a es.length cap) (.slice none 0 0)=(do Pure.pure (.bool (<-Op.equal t (.slice a es.length cap) (.slice none 0 0)))):=rfl
 have hrun:(execOp ρ ⟨dst,.binOp .eql t x (.const (.slice none 0 0)) yT,ty,pos,aft,g⟩).run C.P w=.ok (.value (.bool a.isNone)) w:=by
  simp only[execOp,hv,h2,he,hb,zRB,zRP,zRO,qjH]
 rw[hrun];refine⟨bool a.isNone,H,L,Fr.refl _ _ _,hH,qaj,hk _ λhn=>?_⟩
 cases a with
 |some a=>cases hn
 |none=>
  cases es with
  |nil=>rfl
  |cons v es=>
   obtain⟨b,off,k,h3,_⟩:=hr (by simp);cases h3
theorem Pure.rowCap{t el s:Nat} [TSlice C.P t el s]{a:Option Addr}{m cap:Nat}(hx:e.ev x=.atom (.slice a m cap)):Pure C ⟨dst,.call { callee:=.builtin .cap,args:=#[x],argTypes:=#[t] },ty,pos,aft,g⟩ e H (int .i64 cap):=
 .of_any λρ _ _ h=>⟨_,qaj,λw'=>by
  have hu:=qaa (P:=C.P) (TSlice.und (t:=t)) w';have h0:∀ (cs:Array Bool) (args:Array Value),builtin .cap #[t] ty cs args=(do Pure.pure (.value (<-Builtin.cap_ #[t] ty args))):=λ_ _=>rfl;rw[qax,h0]
  simp[Builtin.cap_,hu,goInt,qaf h hx]⟩
theorem Pure.rowSlice{t el s:Nat} [ht:TSlice C.P t el s]{a:Option Addr}{m cap n:Nat}{hi:Operand}{k:IntKind}(hx:e.ev x=.atom (.slice a m cap))(hh:e.ev hi=int k n)(hn:n<=cap) :
  Pure C ⟨dst,.slice t x none (some hi) none,ty,pos,aft,g⟩ e H (.atom (.slice a n cap)):=.of_any λρ w L h=>by
 obtain⟨ti,hti,hsz⟩:=ht.size;refine⟨_,qaj,λw'=>?_⟩;have hb:=qd8 (P:=C.P) (w':=w') (len:=m) (cap:=cap) (lo:=none) (hi:=some hi) (i:=0) (j:=n) h true rfl ⟨k,hh⟩ zo zo zo;have h3:execOp ρ ⟨dst,.slice t x none (some hi) none,ty,pos,aft,g⟩=(do Pure.pure (.value (<-Instr.sliceAt t (ρ x) none (some (ρ hi)) none))):=rfl;rw[h3,qaf h hx];simp only[Option.map_none,Option.map_some] at hb;simp only[Instr.sliceAt,Instr.slice,zRB,qaa (P:=C.P) ht.und w',zRO,zRP,hb,qbF hti,hsz]
 have ha:∀ a:Addr,a.add 0=a:=λa=>by
  obtain⟨b,o,sp⟩:=a;unfold Addr.add;cases sp <;> simp
 simp[ha]
theorem S.appZeros{sT xT el bytes:Nat}{zv:Value} [ht:TSlice C.P sT el 1] [hr:TRow C.P el 1 bytes] [hz:TZero C.P el [zv]] [hk0:TKind C.P xT .i64]{n:Nat}(hx:e.ev x=qab)(hy:e.ev y=int .i64 n)(hn:0<n)(hroom:n * bytes<=140737488355328)
  (hk:∀ b cap,n<=cap->K (.atom (.slice (some ⟨b,0,none⟩) n cap)) ((b,.cells el (List.replicate cap (.atom zv)))::H)) :
  qae C ⟨dst,.call { callee:=.builtin .append,args:=#[x,y],argTypes:=#[sT,xT] },ty,pos,aft,g⟩ e H K X:=by
 refine qae.at0 λρ w L h hH=>?_;have h0:∀ (cs:Array Bool) (args:Array Value),builtin .append #[sT,xT] ty cs args=(do Pure.pure (.value (<-Builtin.append_ #[sT,xT] ty args))):=λ_ _=>rfl;obtain⟨i,z,hi,hs,hb,hb0,hzz,hzs⟩:=hr.out;obtain⟨i',z',hi',hz',hc',hs'⟩:=hz.out;rw[hi] at hi';obtain rfl:=Option.some.inj hi';rw[hzz] at hz';obtain rfl:=Option.some.inj hz';have hmul:n<=n * bytes:=Nat.le_mul_of_pos_right _ hb0;have wn:IntKind.i64.wrap (n:Int)=n:=qff zo;have n1:¬ ((n:Int)<0):=by omega
 have n2:¬ ((281474976710656:Int)<(n:Int) * (i.bytes:Int)):=by
  rw[hb];have:((n * bytes:Nat):Int)<=140737488355328:=by omega
  rw[Int.natCast_mul] at this;omega
 have h63':¬ (9223372036854775807<(n:Int)):=by omega
 have hfit:=growslice_fits (bytes:=bytes) (need:=n) (old:=0) hn hroom
 have h48':¬ (281474976710656<Builtin.nextslicecap n 0 * i.bytes):=by
  rw[hb];omega
 have hn0:¬ n=0:=by omega
 have hz1:∀ m,(Builtin.zeroCells #[zv] m)=(List.replicate m zv).toArray:=λm=>by
  unfold Builtin.zeroCells;apply Array.ext
  simp
  intro j h1 h2;simp[Nat.mod_one]
 have hcap:n<=grownCap w n 0 el:=by simp[grownCap,Question.cut]
 have hrun:(Builtin.append_ #[sT,xT] ty #[.slice none 0 0,.int .i64 n]).run C.P w=.ok (.slice (some ⟨w.heap.size,0,none⟩) n (grownCap w n 0 el)) (World.push w.drew (.cells (List.replicate (grownCap w n 0 el) zv).toArray el)):=by
  simp[Builtin.append_,qaa ht.und,qaa hk0.und,sizeOf,typeInfo,zeroValue,hi,hs,hzz,hc',asInt,asIntOf,wn,n1,n2,hn0,h63',h48',Question.forced,newRow,grownCap,Builtin.firstCells,hz1];show World.push w.drew _=World.push w.drew _;congr 2;apply Array.ext';have:=hcap;unfold grownCap at this;congr 2;omega
 rw[qax,h0];simp only[map_toArray,zMc,map_nil,zRB,qaf h hx,qaf h hy,hrun,zRO,zRP];have hHd:=hH.drew
 have hrep:RepL w.drew L (List.replicate (grownCap w n 0 el) (.atom zv)) (List.replicate (grownCap w n 0 el) zv):=by
  have:=qa4 (w:=w.drew) (L:=L) (List.replicate (grownCap w n 0 el) zv)
  rwa [List.map_replicate] at this
 have hx':=qev hHd.wf (.cells (List.replicate (grownCap w n 0 el) zv).toArray el) 0
 have:=qeA hHd (.cells (List.replicate (grownCap w n 0 el) zv).toArray el) 0 [(w.heap.size,.cells el (List.replicate (grownCap w n 0 el) (.atom zv)))] (λp hp=>by
  simp only[List.mem_singleton] at hp;subst hp
  exact⟨rfl,by simp[Live.upd],List.replicate (grownCap w n 0 el) zv,qaE,hrep.mono hx' _ _⟩) (by simp)
 exact⟨_,_,_,this.1.of_drew,this.2,qaj,hk _ _ hcap⟩
end
section opened
variable{C:Ctx}{n:Nat}{Q:Post}{e:Env}{H F:Heap}
theorem quc{w:World}{L:Live}{b el:Nat}{cs:List LV}(hp:Pick (b,.cells el cs) H F)(hH:RelH C w L H)(hl:∀ k cap,cap * k<=cs.length->∃ e s,w.shape? b=some (e,s)/\cap * k<=s):RelH C w L ((b,.row 0)::F):=by
 have hH1:=hH.perm hp;obtain⟨hb0,hbs,hlb,xs,hx1,hx2⟩:=hH1.objs _ List.mem_cons_self;simp only at hb0 hbs hlb hx1 hx2;refine⟨hH1.base,hH1.lbase,hH1.b0,hH1.wf,hH1.nodup,λp hp'=>?_⟩;rcases zMi.1 hp' with rfl|hp';exact⟨hb0,hbs,hlb,_,_,_,hx1,zero_le _,zero_le _⟩;exact hH1.objs p (zMo _ hp')
theorem qoy{w:World}{L:Live}{b el:Nat}{cs:List LV}(hp:Pick (b,.cells el cs) H F)(hH:RelH C w L H):w.shape? b=some (el,cs.length):=by
 have hH1:=hH.perm hp;obtain⟨hb0,hbs,hlb,xs,hx1,hx2⟩:=hH1.objs _ List.mem_cons_self;simp only at hx1;simp only[World.shape?,hx1];rw[List.size_toArray,hx2.length]
theorem LOps.rowOpen{ops:Array Oper}{rest:List Oper}(d k:Nat){b el cap:Nat}{cs:List LV}(hp:Pick (b,.cells el cs) H F)(hd:e.s d=.atom (.slice (some ⟨b,0,none⟩) 0 cap))(hc:cap * k<=cs.length)(h:LOps C n ops Q rest (e.upd d (.app b cap k [])) ((b,.row 0)::F)):LOps C n ops Q rest e H:=λa w L hE hH=>by
 have hs:=qoy hp hH
 have hk:∀ x,x∈keys ((b,LObj.row 0)::F)->x∈keys H:=λx hx=>by
  have:=((hp.map (·.1)).mem_iff (a:=x)).2 (by simpa using hx);exact this
 refine qbD (λ_ _ _=>qhx hk) _ _ _ (h a w L ⟨hE.size,hE.ds,λi=>?_⟩ (quc hp hH λk2 cap2 h2=>⟨_,_,hs,h2⟩));have hv:=hE.vals i;simp only[Env.upd]
 cases hb:Nat.beq i d with
 |false=>exact hv
 |true=>
  have hi:=Nat.eq_of_beq_eq_true hb;subst hi;rw[hd] at hv;simp only[Rep] at hv;rw[hv];show Rep w L (.app b cap k []) _;simp only[Rep];refine⟨rfl,zero_le _,?_,_,_,hs,hc⟩;simp only[qak]
end opened
section
variable{C:Ctx}{e:Env}{H:Heap}{dst:Option Nat}{ty:TypeId}{pos:String}{aft:Array Edge}{g:Option (Nat×Bool)}{K:LV->Heap->Prop}{X:List PanicEntry->Heap->Prop}{x y z:Operand}{k:IntKind}
theorem qui(a b:Nat):(if (a:Int)<(b:Int) then (b:Int) else (a:Int))=((max a b:Nat):Int):=by
 split <;> omega
theorem Pure.max2{a b:Nat}(hx:e.ev x=int k (a:Int))(hy:e.ev y=int k (b:Int)){t u:TypeId}:Pure C ⟨dst,.call { callee:=.builtin .max,args:=#[x,y],argTypes:=#[t,u] },ty,pos,aft,g⟩ e H (int k ((max a b:Nat):Int)):=
 .of_any λρ _ _ h=>⟨_,qaj,λw'=>by
  have h0:∀ (cs:Array Bool) (args:Array Value),builtin .max #[t,u] ty cs args=(do Pure.pure (.value (<-Builtin.max_ #[t,u] ty args))):=λ_ _=>rfl;rw[qax,h0];have:=qui a b;simp[Builtin.max_,Builtin.max2,qaf h hx,qaf h hy]
  split <;> omega⟩
theorem Pure.max3{a b c:Nat}(hx:e.ev x=int k (a:Int))(hy:e.ev y=int k (b:Int))(hz:e.ev z=int k (c:Int)){t u v:TypeId}:Pure C ⟨dst,.call { callee:=.builtin .max,args:=#[x,y,z],argTypes:=#[t,u,v] },ty,pos,aft,g⟩ e H (int k ((max (max a b) c:Nat):Int)):=
 .of_any λρ _ _ h=>⟨_,qaj,λw'=>by
  have h0:∀ (cs:Array Bool) (args:Array Value),builtin .max #[t,u,v] ty cs args=(do Pure.pure (.value (<-Builtin.max_ #[t,u,v] ty args))):=λ_ _=>rfl;rw[qax,h0];simp[Builtin.max_,Builtin.max2,qaf h hx,qaf h hy,qaf h hz]
  repeat' split
  all_goals omega⟩
theorem Pure.max2e{A B:Int}(a b:Nat)(hx:e.ev x=int k A)(hy:e.ev y=int k B)(ha:A=(a:Int))(hb:B=(b:Int)){t u:TypeId}:Pure C ⟨dst,.call { callee:=.builtin .max,args:=#[x,y],argTypes:=#[t,u] },ty,pos,aft,g⟩ e H (int k ((max a b:Nat):Int)):=by
 subst ha hb;exact Pure.max2 hx hy
theorem Pure.max3e{A B D:Int}(a b d:Nat)(hx:e.ev x=int k A)(hy:e.ev y=int k B)(hz:e.ev z=int k D)(ha:A=(a:Int))(hb:B=(b:Int))(hd:D=(d:Int)){t u v:TypeId}:Pure C ⟨dst,.call { callee:=.builtin .max,args:=#[x,y,z],argTypes:=#[t,u,v] },ty,pos,aft,g⟩ e H (int k ((max (max a b) d:Nat):Int)):=by
 subst ha hb hd;exact Pure.max3 hx hy hz
theorem Pure.eqlT{a b:Int}{xT yT:TypeId}(h:a=b)(hx:e.ev x=int k a)(hy:e.ev y=int k b):Pure C ⟨dst,.binOp .eql xT x y yT,ty,pos,aft,g⟩ e H (bool true):=by
 have:=Pure.eql (C:=C) (H:=H) (dst:=dst) (ty:=ty) (pos:=pos) (aft:=aft) (g:=g) (xT:=xT) (yT:=yT) hx hy
 rwa [decide_eq_true h] at this
theorem Pure.eqlF{a b:Int}{xT yT:TypeId}(h:¬ a=b)(hx:e.ev x=int k a)(hy:e.ev y=int k b):Pure C ⟨dst,.binOp .eql xT x y yT,ty,pos,aft,g⟩ e H (bool false):=by
 have:=Pure.eql (C:=C) (H:=H) (dst:=dst) (ty:=ty) (pos:=pos) (aft:=aft) (g:=g) (xT:=xT) (yT:=yT) hx hy
 rwa [decide_eq_false h] at this
def qdR(m:KV)(l:List (List UInt8)):Prop:=∀ k,kvGet m k=if k∈l then some (bool true) else none
theorem qdR.nil:qdR [] []:=λk=>by simp[kvGet]
theorem qdR.add{m:KV}{l:List (List UInt8)}(h:qdR m l)(s:List UInt8):qdR (kvPut m s (bool true)) (l++[s]):=λk=>by
 rw[kvGet_put,h k]
 by_cases h1:s=k
 rw[zp h1,zp (by rw[h1];simp)];rw[zn h1]
 by_cases h2:k∈l
 rw[zp h2,zp (List.mem_append_left _ h2)]
 rw[zn h2,zn (by
  intro h3;rcases List.mem_append.1 h3 with h3|h3;exact h2 h3
  exact h1 (List.mem_singleton.1 h3).symm)]
theorem Pure.setHas{t el:TypeId}{zv:Value} [h:TMap C.P t el zv (bool false)]{b clock:Nat}{m:KV}{l:List (List UInt8)}{s:List UInt8}(hm:e.ev x=.atom (.map (some b)))(hx:e.ev y=str s)(hb:(b,.map (kvs m) clock)∈H)(hs:qdR m l) :
  Pure C ⟨dst,.lookup t x y false,ty,pos,aft,g⟩ e H (bool (decide (s∈l))):=by
 by_cases h1:s∈l
 rw[decide_eq_true h1];exact Pure.kvHit hm hx hb (by rw[hs s,zp h1]);rw[decide_eq_false h1];exact Pure.kvMiss hm hx hb (by rw[hs s,zn h1])
end
def qbq(C:Ctx)(f:FuncId)(args:List LV)(u:FrameMode)(H:Heap)(R:FrameMode->Heap->Prop):Prop:=
 ∀ (vs:List Value) w L,RepL w L args vs->RelH C w L H->CallsD C.P f vs.toArray u w λe u' w'=>(∃ v,e=.returned v)/\qfk C w L H w' (R u')
def qjS(C:Ctx)(n:Nat)(rs:List ResultVar)(R:LRes->Heap->Prop):List Deferred->FrameMode->Env->Heap->Prop
 |[],.returning,e,H=>∃ vs H',qbX C n e H rs vs/\HSub H' H/\R (.ret (qbJ vs)) H'
 |[],.panicking ch,_,H=>∃ H',HSub H' H/\R (.panic ch) H'
 |[],.run,_,_=>False
 |d::ds,u,e,H=>u≠.run/\∃ f cap H1 F,d={ target:=.fn (.func f) cap,args:=#[] }/\TEnter C.P f/\H.Perm (H1++F) /\
   qbq C f (cap.toList.map .atom) u H1 λu' H'=>qjS C n rs R ds (settle u') e (H'++F)
def qp0(C:Ctx)(n:Nat)(w:World)(L:Live)(K:List Nat)(Q:Post):Exit->Act->World->Prop:=
 λx a' w'=>∃ e' H' L',Fr K w L w' L' H'/\RelH C w' L' H'/\RelE n a' e' w' L'/\Q x e' H'
theorem qjy{C:Ctx}{n:Nat}{w w1:World}{L L1:Live}{K:List Nat}{H1:Heap}{Q:Post}(f:Fr K w L w1 L1 H1){x:Exit}{a:Act}{w':World}
  (k:qp0 C n w1 L1 (keys H1) Q x a w'):qp0 C n w L K Q x a w':=
 let ⟨e',H',L',h1,h2,h3,h4⟩:=k
 ⟨e',H',L',f.trans h1,h2,h3,h4⟩
def qcf(C:Ctx)(n:Nat)(ops:Array Oper)(Q:Post)(rest:List Oper)(e:Env)(H:Heap):Prop:=
 ∀ a w L,RelE n a e w L->RelH C w L H->wpList C.P ops (qp0 C n w L (keys H) Q) rest a w
def qaU(C:Ctx)(n:Nat)(c:Code)(Q:Post)(e:Env)(H:Heap):Prop:=
 ∀ a w L,RelE n a e w L->RelH C w L H->c.wp C.P (qp0 C n w L (keys H) Q) a w
section P
variable{C:Ctx}{n:Nat}{ops:Array Oper}{Q:Post}{e:Env}{H:Heap}
theorem qcf.nil(h:Q .normal e H):qcf C n ops Q [] e H:=λ_ _ L hE hH=>⟨e,H,L,Fr.refl _ _ _,hH,hE,h⟩
theorem qcf.step{dst:Option Nat}{op:Op}{ty:TypeId}{pos:String}{aft:Array Edge}{rest:List Oper}
  (h:qae C ⟨dst,op,ty,pos,aft,none⟩ e H (λlv H'=>qcf C n ops Q rest (e.put dst lv) H') (λch H'=>Q (.panic ch) e H'))
  (hd:qdp n dst):qcf C n ops Q (⟨dst,op,ty,pos,aft,none⟩::rest) e H:=λa w L hE hH=>by
 unfold wpList;rw[zp (by simp[Region.wanted])];have hs:=h a.eval w L hE.ev hH;refine .inl ?_;unfold Oper.wp
 have left:∀ {w' v},Left C w L H w' v (λlv H'=>qcf C n ops Q rest (e.put dst lv) H')->wpList C.P ops (qp0 C n w L (keys H) Q) rest (a.put dst v) w':=λh=>by
  obtain⟨lv,H',L',h1,h2,h3,h4⟩:=h;exact qbD (λ_ _ _=>qjy h1) _ _ _ (h4 _ _ L' ((hE.mono h1.ext).put hd h3) h2)
 have leftX:∀ {w' ch},qfk C w L H w' (λH'=>Q (.panic ch) e H')->qp0 C n w L (keys H) Q (.panic ch) a w':=λh=>by
  obtain⟨H',L',h1,h2,h3⟩:=h;exact⟨e,H',L',h1,h2,hE.mono h1.ext,h3⟩
 generalize (execOp a.eval ⟨dst,op,ty,pos,aft,none⟩).run C.P w=r at hs ⊢;unfold qe3 at hs;split at hs;exact left hs;exact left hs;obtain⟨rfl,hs⟩:=hs;refine Calls.mono hs λe w' he=>?_
 cases e with
 |returned v=>exact left he
 |panicked ch=>exact leftX he
 |outgrown=>exact he.elim
 exact leftX hs;exact hs.elim
theorem qcf.pure{dst:Option Nat}{op:Op}{ty:TypeId}{pos:String}{aft:Array Edge}{rest:List Oper}{lv:LV}
  (h:Pure C ⟨dst,op,ty,pos,aft,none⟩ e H lv) (hd:qdp n dst) (k:qcf C n ops Q rest (e.put dst lv) H):qcf C n ops Q (⟨dst,op,ty,pos,aft,none⟩::rest) e H:=
 qcf.step (h.step k) hd
theorem qaU.region{id:Nat}{l:List Oper}(h:qcf C n l.toArray Q l e H):qaU C n (.region id l.toArray false) Q e H:=λa w L hE hH=>wp_region_lit (h a w L hE hH)
theorem qaU.ret(h:Q .ret e H):qaU C n .ret Q e H:=λ_ _ L hE hH=>wp_ret ⟨e,H,L,Fr.refl _ _ _,hH,hE,h⟩
theorem qaU.seq{x y:Code}(h:qaU C n x (qaz (λe H=>qaU C n y Q e H) Q) e H):qaU C n (.seq x y) Q e H:=λa w L hE hH=>by
 refine wp_seq (Go.wp_mono (h a w L hE hH) λex a' w' hq=>?_);obtain⟨e',H',L',h1,h2,h3,h4⟩:=hq
 cases ex with
 |normal=>exact Go.wp_mono (h4 a' w' L' h3 h2) λ_ _ _=>qjy h1
 |exit id=>exact⟨e',H',L',h1,h2,h3,h4⟩
 |goto id=>exact⟨e',H',L',h1,h2,h3,h4⟩
 |ret=>exact⟨e',H',L',h1,h2,h3,h4⟩
 |panic ch=>exact⟨e',H',L',h1,h2,h3,h4⟩
 |outgrown=>exact⟨e',H',L',h1,h2,h3,h4⟩
theorem qaU.block{id:Nat}{c:Code}(h:qaU C n c (qam id Q) e H):qaU C n (.block id c) Q e H:=λa w L hE hH=>by
 refine wp_block (Go.wp_mono (h a w L hE hH) λex a' w' hq=>?_);obtain⟨e',H',L',h1,h2,h3,h4⟩:=hq
 cases ex with
 |exit id'=>
  simp only[Exit.inBlock,qam] at h4 ⊢;split
  rename_i hid;rw[zp hid] at h4;exact⟨e',H',L',h1,h2,h3,h4⟩
  rename_i hid;rw[zn hid] at h4;exact⟨e',H',L',h1,h2,h3,h4⟩
 |normal=>exact⟨e',H',L',h1,h2,h3,h4⟩
 |goto id=>exact⟨e',H',L',h1,h2,h3,h4⟩
 |ret=>exact⟨e',H',L',h1,h2,h3,h4⟩
 |panic ch=>exact⟨e',H',L',h1,h2,h3,h4⟩
 |outgrown=>exact⟨e',H',L',h1,h2,h3,h4⟩
def QNo(Q:Post):Post
 |.panic _,_,_=>False
 |x,e,H=>Q x e H
theorem qaU.of{c:Code}(h:qag C n c (QNo Q) e H):qaU C n c Q e H:=λa w L hE hH=>by
 refine Go.wp_mono (h a w L hE hH) λex a' w' hq=>?_;obtain⟨e',H',L',h1,h2,h3,h4⟩:=hq
 cases ex with
 |panic ch=>exact h4.elim
 |normal=>exact⟨e',H',L',h1,h2,h3,h4⟩
 |exit id=>exact⟨e',H',L',h1,h2,h3,h4⟩
 |goto id=>exact⟨e',H',L',h1,h2,h3,h4⟩
 |ret=>exact⟨e',H',L',h1,h2,h3,h4⟩
 |outgrown=>exact⟨e',H',L',h1,h2,h3,h4⟩
theorem QNo.normal{k:Env->Heap->Prop}(h:k e H):QNo (qaz k Q) .normal e H:=h
theorem QNo.ret(h:Q .ret e H):QNo Q .ret e H:=h
end P
def qb8(C:Ctx)(n:Nat)(rs:List ResultVar)(R:LRes->Heap->Prop):Post
 |.normal,e,H|.ret,e,H=>qjS C n rs R e.ds .returning e H
 |.panic ch,e,H=>qjS C n rs R e.ds (.panicking ch) e H
 |_,_,_=>False
theorem qs6{C:Ctx}{n:Nat}{fn:Func}{R:LRes->Heap->Prop}{w0:World}{L0:Live}{H0:Heap}(h3:fn.results.size<=3)(tmps:Array Value):∀ (ds:List Deferred) (u:FrameMode) (e:Env) (H:Heap) (w:World) (L:Live),tmps.size=n->(∀ i,Rep w L (e.s i) (tmps.getD i undef))->RelH C w L H->Fr (keys H0) w0 L0 w L H ->
  qjS C n fn.results.toList R ds u e H->Leaves C.P fn tmps (qcG C w0 L0 H0 (λv=>R (.ret v)) (λch=>R (.panic ch))) ds u w
 |[],.returning,e,H,w,L,hn,hv,hH,hF,h=>by
  obtain⟨vs,H',h1,h2,h5⟩:=h;obtain⟨v,r1,r2⟩:=qhO (a:={ tmps,defers:=e.ds }) ⟨hn,rfl,hv⟩ hH h1 h3
  exact⟨v,r1,qbJ vs,H',L,hF.weak h2,hH.weak h2,r2,h5⟩
 |[],.panicking ch,e,H,w,L,hn,hv,hH,hF,h=>by
  obtain⟨H',h2,h5⟩:=h
  exact⟨H',L,hF.weak h2,hH.weak h2,h5⟩
 |[],.run,e,H,w,L,hn,hv,hH,hF,h=>h.elim
 |d::ds,u,e,H,w,L,hn,hv,hH,hF,h=>by
  obtain⟨hu,f,cap,H1,F,rfl,hen,hp,hc⟩:=h;refine⟨hu,.func f,cap,f,cap,rfl,by simp[invoke,qfw],?_⟩;have hH':=hH.perm hp;have:=hc cap.toList w L (qa4 _) hH'.left;simp only[Array.toArray_toList] at this;refine CallsD.mono this ?_;rintro ex u' w' ⟨⟨v,rfl⟩,hx⟩;obtain⟨H',L',g1,g2,g3⟩:=qfk.frame hH' hx;exact qs6 h3 tmps ds (settle u') e H' w' L' hn (λi=>(hv i).mono g1.ext _ _) g2 (hF.trans (g1.perm hp.symm)) g3
theorem qbq.mono{C:Ctx}{f:FuncId}{args:List LV}{u:FrameMode}{H:Heap}{R R':FrameMode->Heap->Prop}(h:qbq C f args u H R)(hr:∀ u H,R u H->R' u H):qbq C f args u H R':=λvs w L h1 h2=>
 CallsD.mono (h vs w L h1 h2) λ_ _ _ ⟨h3,h4⟩=>⟨h3,h4.mono (hr _)⟩
theorem LCalls.introD{C:Ctx}{f:FuncId}{fn:Func}{c:Code}{n:Nat}{args:List LV}{H:Heap}{R:LRes->Heap->Prop}(hf:C.P.funcs[f]? = some fn)(hb:fn.body=some c)(hn:fn.ntmps=n)(h3:Nat.ble fn.results.size 3=true)
  (hl:Nat.ble args.length n=true) (h:qaU C n c (qb8 C n fn.results.toList R) (qfE args) H):LCalls C f args H R:=λvs w L hv hH=>by
 subst hn;have hl':args.length<=fn.ntmps:=by simpa using hl
 have h3':fn.results.size<=3:=by simpa using h3
 have hlen:=hv.length;refine calls_of_wp_defers hf hb (Go.wp_mono (h _ w L ⟨?_,rfl,λi=>?_⟩ hH) λex a' w' hq=>?_)
 simp;omega
 exact zT0;obtain⟨e',H',L',g1,g2,g3,g4⟩:=hq
 have ret:∀ u,qjS C fn.ntmps fn.results.toList R e'.ds u e' H'->Leaves C.P fn a'.tmps (qcG C w L H (λv=>R (.ret v)) (λch=>R (.panic ch))) a'.defers u w':=λu hu=>by
  rw[g3.ds];exact qs6 h3' a'.tmps _ u e' H' w' L' g3.size g3.vals g2 g1 hu
 cases ex with
 |normal=>exact ret _ g4
 |ret=>exact ret _ g4
 |panic ch=>exact ret _ g4
 |exit id=>exact g4.elim
 |goto id=>exact g4.elim
 |outgrown=>exact g4.elim
abbrev qmJ:=Exit->FrameMode->Env->Heap->Prop
def qea(C:Ctx)(n:Nat)(c:Code)(Q:qmJ)(u:FrameMode)(e:Env)(H:Heap):Prop:=
 ∀ a w L (c0:Frame) cs,c0.mode=u->RelE n a e w L->RelH C w L H ->
  c.wpS C.P (λx a' cs' w'=>∃ u' e' H' L',cs'={ c0 with mode:=u' }::cs/\Fr (keys H) w L w' L' H'/\RelH C w' L' H'/\RelX n x a' e' w' L'/\Q x u' e' H') a (c0::cs) w
theorem qlY{P:Program}{c:Code}{Q Q':Exit->Act->List Frame->World->Prop}{a:Act}{cs:List Frame}{w:World}(h:c.wpS P Q a cs w)(hq:∀ x a cs w,Q x a cs w->Q' x a cs w):c.wpS P Q' a cs w:=λb k h1 h2=>
 let ⟨e,a',cs',w',q,r⟩:=h b k h1 h2
 ⟨e,a',cs',w',hq _ _ _ _ q,r⟩
section S
variable{C:Ctx}{n:Nat}{Q:qmJ}{u:FrameMode}{e:Env}{H:Heap}
theorem qea.of{c:Code}(h:qag C n c (λx e H=>Q x u e H) e H):qea C n c Q u e H:=λa w L c0 cs hu hE hH=>by
 refine wpS_of_wp (Go.wp_mono (h a w L hE hH) λx a' w' hq=>?_);obtain⟨e',H',L',h1,h2,h3,h4⟩:=hq;exact⟨u,e',H',L',by subst hu;rfl,h1,h2,h3,h4⟩
theorem qea.seq{x y:Code}(h:qea C n x (λex u' e' H'=>match ex with|.normal=>qea C n y Q u' e' H'|ex=>Q ex u' e' H') u e H):qea C n (.seq x y) Q u e H:=λa w L c0 cs hu hE hH=>by
 refine wpS_seq (qlY (h a w L c0 cs hu hE hH) λex a' cs' w' hq=>?_);obtain⟨u',e',H',L',rfl,h1,h2,h3,h4⟩:=hq
 cases ex with
 |normal=>
  refine qlY (h4 a' w' L' { c0 with mode:=u' } cs rfl h3 h2) ?_;rintro ex a2 cs2 w2 ⟨u2,e2,H2,L2,rfl,g1,g2,g3,g4⟩
  exact⟨u2,e2,H2,L2,rfl,h1.trans g1,g2,g3,g4⟩
 |exit id=>exact⟨u',e',H',L',rfl,h1,h2,h3,h4⟩
 |goto id=>exact⟨u',e',H',L',rfl,h1,h2,h3,h4⟩
 |ret=>exact⟨u',e',H',L',rfl,h1,h2,h3,h4⟩
 |panic ch=>exact⟨u',e',H',L',rfl,h1,h2,h3,h4⟩
 |outgrown=>exact⟨u',e',H',L',rfl,h1,h2,h3,h4⟩
def qib:FrameMode->Value×FrameMode
 |.panicking ({ v,recovered:=false,goexit:=false }::older)=>(v,.panicking ({ v,recovered:=true }::older))
 |u=>(.nilIface,u)
theorem qnY{P:Program}{ρ:Operand->Value}{dst:Option Nat}{ty:TypeId}{pos:String}{aft:Array Edge}{g:Option (Nat×Bool)}(w:World) :
  (execOp ρ ⟨dst,.call { callee:=.builtin .recover,args:=#[],argTypes:=#[] },ty,pos,aft,g⟩).run P w=.ok .recover w:=by
 rfl
theorem qnD(c0:Frame)(cs:List Frame):recoverD (c0::cs)=none/\qib c0.mode=(.nilIface,c0.mode)∨recoverD (c0::cs)=some ((qib c0.mode).1,{ c0 with mode:=(qib c0.mode).2 }::cs):=by
 obtain⟨fn,tmps,todo,defers,mode,kind,ro⟩:=c0
 cases mode with
 |run=>exact .inl ⟨rfl,rfl⟩
 |returning=>exact .inl ⟨rfl,rfl⟩
 |panicking ch=>
  cases ch with
  |nil=>exact .inl ⟨rfl,rfl⟩
  |cons p older=>
   obtain⟨v,r,g⟩:=p;cases r <;> cases g <;> first|exact .inl ⟨rfl,rfl⟩|exact .inr rfl
theorem qea.recover{id t s:Nat}{ty ty':TypeId}{pos pos':String}{aft aft':Array Edge}(ht:Nat.blt t n=true)(hs:Nat.blt s n=true)(h:Q .normal (qib u).2 ((e.upd t (.atom (qib u).1)).upd s (.atom (qib u).1)) H) :
  qea C n (.region id #[⟨some t,.call { callee:=.builtin .recover,args:=#[],argTypes:=#[] },ty,pos,aft,none⟩,⟨some s,.assign (.tmp t),ty',pos',aft',none⟩] false) Q u e H:=λa w L c0 cs hu hE hH=>by
 refine wpS_region ?_;have hE1:∀ v,RelE n (a.put (some t) v) (e.upd t (.atom v)) w L:=λv=>hE.put (dst:=some t) (by simp only[qdp,dstB];exact ht) qaj
 have hev:∀ v,(a.put (some t) v).eval (.tmp t)=v:=λv=>by
  have:=(hE1 v).ev (.tmp t);simpa [Env.ev,Env.upd,Rep] using this
 have hE2:∀ v,RelE n ((a.put (some t) v).put (some s) v) ((e.upd t (.atom v)).upd s (.atom v)) w L:=λv=>(hE1 v).put (dst:=some s) (by simp only[qdp,dstB];exact hs) qaj
 have h1:∀ v cs1,wpOpsS C.P #[⟨some t,.call { callee:=.builtin .recover,args:=#[],argTypes:=#[] },ty,pos,aft,none⟩,⟨some s,.assign (.tmp t),ty',pos',aft',none⟩] (λx a' cs' w'=>∃ u' e' H' L',cs'={ c0 with mode:=u' }::cs/\Fr (keys H) w L w' L' H'/\RelH C w' L' H'/\RelX n x a' e' w' L'/\Q x u' e' H') [1] (a.put (some t) v) cs1 w
   ↔ (λx a' cs' w'=>∃ u' e' H' L',cs'={ c0 with mode:=u' }::cs/\Fr (keys H) w L w' L' H'/\RelH C w' L' H'/\RelX n x a' e' w' L'/\Q x u' e' H') Exit.normal ((a.put (some t) v).put (some s) v) cs1 w:=by
  intro v cs1;have hr:(execOp (a.put (some t) v).eval ⟨some s,.assign (.tmp t),ty',pos',aft',none⟩).run C.P w=.ok (.value ((a.put (some t) v).eval (.tmp t))) w:=rfl;simp only[wpOpsS,List.getElem?_toArray,List.getElem?_cons_succ,List.getElem?_cons_zero,Region.wanted,if_true,hr,Oper.upon,hev]
 have h0:(execOp a.eval ⟨some t,.call { callee:=.builtin .recover,args:=#[],argTypes:=#[] },ty,pos,aft,none⟩).run C.P w=.ok .recover w:=qnY w;have hl:List.range (#[(⟨some t,.call { callee:=.builtin .recover,args:=#[],argTypes:=#[] },ty,pos,aft,none⟩:Oper),⟨some s,.assign (.tmp t),ty',pos',aft',none⟩]:Array Oper).size=[0,1]:=rfl;rw[hl,wpOpsS];simp only[List.getElem?_toArray,List.getElem?_cons_zero,Region.wanted,if_true,h0];rcases qnD c0 cs with⟨h2,h3⟩|h2;simp only[h2];rw[h1];subst hu;rw[h3] at h;exact⟨c0.mode,_,H,L,rfl,Fr.refl _ _ _,hH,hE2 _,h⟩;simp only[h2];rw[h1];subst hu;exact⟨_,_,H,L,rfl,Fr.refl _ _ _,hH,hE2 _,h⟩
def qt7(R:FrameMode->Heap->Prop):qmJ
 |.normal,u,e,H|.ret,u,e,H=>e.ds=[]/\∃ H',HSub H' H/\R u H'
 |_,_,_,_=>False
theorem qbq.intro{f:FuncId}{fn:Func}{c:Code}{args:List LV}{R:FrameMode->Heap->Prop}(hf:C.P.funcs[f]? = some fn)(hb:fn.body=some c)(hn:fn.ntmps=n)(h3:fn.results=#[])
  (hl:Nat.ble args.length n=true) (h:qea C n c (qt7 R) u (qfE args) H):qbq C f args u H R:=λvs w L hv hH=>by
 subst hn;have hl':args.length<=fn.ntmps:=by simpa using hl
 have hlen:=hv.length
 have hE0:RelE fn.ntmps { tmps:=vs.toArray++Array.replicate (fn.ntmps-vs.toArray.size) undef,defers:=[] } (qfE args) w L:=by
  refine⟨?_,rfl,λi=>?_⟩
  simp;omega
  exact zT0
 refine callsD_of_wpS hf hb λc0 cs hu=>qlY (h _ w L c0 cs hu hE0 hH) λex a' cs' w' hq=>?_;obtain⟨u',e',H',L',rfl,g1,g2,g3,g4⟩:=hq
 have fin:RelE fn.ntmps a' e' w' L'->(e'.ds=[]/\∃ H'',HSub H'' H'/\R u' H'')->a'.defers=[]/\∃ u'',({ c0 with mode:=u' }::cs:List Frame)={ c0 with mode:=u'' }::cs/\∃ v,(results fn a'.tmps).run C.P w'=.ok v w'/\(∃ v',Ending.returned v=.returned v')/\qfk C w L H w' (R u''):=λhE ⟨h1,H'',h2,h4⟩=>
  ⟨hE.ds.trans h1,u',rfl,_,qpb h3 _ _,⟨_,rfl⟩,H'',L',g1.weak h2,g2.weak h2,h4⟩
 cases ex with
 |normal=>exact fin g3 g4
 |ret=>exact fin g3 g4
 |panic ch=>exact g4.elim
 |exit id=>exact g4.elim
 |goto id=>exact g4.elim
 |outgrown=>exact g4.elim
end S
section defer
variable{C:Ctx}{n:Nat}{ops:Array Oper}{Q:Post}{e:Env}{H:Heap}
theorem qcf.defer{dst:Option Nat}{fo:Operand}{f:FuncId}{caps:Array Value}{ty:TypeId}{pos:String}{aft:Array Edge}{rest:List Oper}(hf:e.ev fo=.atom (.func (.func f) #[] caps))(hd:dst=none)
  (k:qcf C n ops Q rest ⟨e.s,{ target:=.fn (.func f) caps,args:=#[] }::e.ds⟩ H):qcf C n ops Q (⟨dst,.defer { callee:=.value fo,args:=#[],argTypes:=#[] },ty,pos,aft,none⟩::rest) e H:=λa w L hE hH=>by
 subst hd;have hv:=hE.ev fo;rw[hf] at hv;simp only[Rep] at hv
 have hr:(execOp a.eval ⟨none,.defer { callee:=.value fo,args:=#[],argTypes:=#[] },ty,pos,aft,none⟩).run C.P w=.ok (.defer { target:=.fn (.func f) caps,args:=#[] }) w:=by
  have h3:execOp a.eval ⟨none,.defer { callee:=.value fo,args:=#[],argTypes:=#[] },ty,pos,aft,none⟩=(do let d <-Deferred.ofValue (a.eval fo) ((#[]:Array Operand).map a.eval);Pure.pure (.defer d)):=rfl;rw[h3,hv];simp only[Deferred.ofValue,map_toArray,map_nil];rfl
 unfold wpList;rw[zp (by simp[Region.wanted])];refine .inl ?_;unfold Oper.wp;rw[hr];simp only[Oper.upon,Act.put];exact k _ w L ⟨hE.size,by show _::a.defers=_;rw[hE.ds],hE.vals⟩ hH
end defer
inductive MRow (el:TypeId) (s:Nat):Value->List LV->Heap->Prop
 |nil:MRow el s (.slice none 0 0) [] []
 |row {b cap:Nat} {es spare:List LV} (hs:∀ v∈es,v.cells.length=s) (hc:es.length<=cap) (hl:es.length * s+spare.length=cap * s) :
   MRow el s (.slice (some ⟨b,0,none⟩) es.length cap) es [(b,.cells el (es.flatMap LV.cells++spare))]
section
variable{C:Ctx}{e:Env}{H:Heap}{x y:Operand}{dst:Option Nat}{ty:TypeId}{pos:String}{aft:Array Edge}{g:Option (Nat×Bool)}{K:LV->Heap->Prop}{X:List PanicEntry->Heap->Prop}
theorem qnm{w:World}{L:Live}(hH:RelH C w L []){el s cap:Nat}{es:List LV}{xs rest:List Value}(hr:RepL w L (es.flatMap LV.cells) xs)(hs:∀ v∈es,v.cells.length=s)(hc:es.length<=cap)(hl:es.length * s+rest.length=cap * s)
  (hk:∀ v' H',MRow el s v' es H'->K (.atom v') H') :
  Left C w L [] (World.push w (.cells (xs++rest).toArray el)) (.slice (some ⟨w.heap.size,0,none⟩) es.length cap) K:=by
 have hx:=qev hH.wf (.cells (xs++rest).toArray el) 0
 have:=qeA hH (.cells (xs++rest).toArray el) 0 [(w.heap.size,.cells el (es.flatMap LV.cells++rest.map .atom))] (λp hp=>by
  simp only[List.mem_singleton] at hp;subst hp
  exact⟨rfl,by simp[Live.upd],xs++rest,qaE,RepL.append (hr.mono hx _ _) (qa4 rest)⟩) (by simp)
 exact⟨.atom _,_,_,this.1,this.2,qaj,hk _ _ (MRow.row hs hc (by simpa using hl))⟩
theorem qae.appM{sT xT el s bytes:Nat} [ht:TSlice C.P sT el s] [hr:TRow C.P el s bytes]{e2 s2:Nat} [hx2:TSlice C.P xT e2 s2]{v:Value}{es ms:List LV}
  (hx:e.ev x=.atom v) (ha:MRow el s v es H) (hy:GL.elems (e.ev y)=some ms) (hms:∀ v∈ms,v.cells.length=s) (hok:(ms.flatMap LV.cells).all qc4=true) (hroom:(es.length+ms.length) * bytes<=140737488355328)
  (hk:∀ v' H',MRow el s v' (es++ms) H'->K (.atom v') H'):qae C ⟨dst,.call { callee:=.builtin .append,args:=#[x,y],argTypes:=#[sT,xT] },ty,pos,aft,g⟩ e H K X:=by
 have h0:∀ (cs:Array Bool) (args:Array Value),builtin .append #[sT,xT] ty cs args=(do Pure.pure (.value (<-Builtin.append_ #[sT,xT] ty args))):=λ_ _=>rfl
 cases ha with
 |nil=>
  by_cases hne:ms=[]
  subst hne;exact qae.appendNilNil rfl ⟨e2,hx2.und⟩ hx hy (hk _ _ MRow.nil);intro ρ w L h hH;have hpos:0<ms.length:=List.length_pos_iff.2 hne;obtain⟨ay,cy,new,hyv,hyc,hyr,hyl,hyf⟩:=qcK (s:=s) (h y) hy hms;rw[hyv] at hyf;have hlen:∀ w':World,(Builtin.lenOf (.slice ay ms.length cy)).run C.P w'=.ok ms.length w':=λw'=>by simp[Builtin.lenOf]
  obtain⟨cap',rest,r1,r2,r3⟩:=qbx (ty:=ty) (P:=C.P) (w:=w) (sT:=sT) (xT:=xT) (a:=none) (len:=0) (cap:=0) (n:=ms.length) (xv:=.slice ay ms.length cy) (old:=[]) (new:=new) (.inr ⟨_,hx2.und⟩) hlen (λw' hw=>hyf C.P w' hw)
   (λw' _=>by simp[Builtin.firstCells]) (by simpa using hroom) zo
  rw[qax,h0];simp only[map_toArray,zMc,map_nil,zRB,qaf h hx,hyv,r3,zRO,zRP,List.nil_append,Nat.zero_add]
  obtain⟨lv,H',L',g1,g2,g3,g4⟩:=qnm (K:=K) (el:=el) (es:=ms) (cap:=cap') (xs:=new) (rest:=rest) hH.drew (hyr.mono (qem w L) _ _) hms zo (by
   rw[r2,<-add_mul];congr 1;omega) (λv' H' h'=>hk v' H' h')
  exact⟨lv,H',L',g1.of_drew,g2,g3,g4⟩
 |row hs hc hl=>
  rename_i b cap spare
  intro ρ w L h hH;obtain⟨hb0,hbs,hlb,zs,hz1,hz2⟩:=hH.objs _ (List.mem_singleton.2 rfl);simp only at hb0 hbs hlb hz1;obtain⟨ay,cy,new,hyv,hyc,hyr,hyl,hyf⟩:=qcK (s:=s) (h y) hy hms;rw[hyv] at hyf;have hlen:∀ w':World,(Builtin.lenOf (.slice ay ms.length cy)).run C.P w'=.ok ms.length w':=λw'=>by simp[Builtin.lenOf]
  have hfl:(es.flatMap LV.cells).length=es.length * s:=qdc hs;have hzl:zs.length=es.length * s+spare.length:=by rw[hz2.length,zLa,hfl]
  have hzt:RepL w L (es.flatMap LV.cells) (zs.take (es.length * s)):=by
   have:=hz2.take (es.length * s)
   rwa [List.take_left' hfl] at this
  rw[qax,h0];simp only[map_toArray,zMc,map_nil,zRB,qaf h hx,hyv]
  by_cases hcc:es.length+ms.length<=cap
  have hrun:=qdH (ty:=ty) (P:=C.P) (w:=w) (sT:=sT) (xT:=xT) (s:=s) (a:=some ⟨b,0,none⟩) (len:=es.length) (cap:=cap) (n:=ms.length) (xv:=.slice ay ms.length cy) (new:=new) (.inr ⟨_,hx2.und⟩) hlen (λw' hw=>hyf C.P w' hw) hcc;have hmul:(es.length+ms.length) * s<=cap * s:=Nat.mul_le_mul_right _ hcc;rw[add_mul] at hmul;obtain⟨w',r1,r2,r3,r4,r5,r6,r7⟩:=qce (P:=C.P) (b:=b) (off:=0+es.length * s) (t:=el) (fr:=(0,0)) new 0 w zs hz1 zo (λj _ _=>by simp) (qiT hyr hok);rw[hrun];simp only[add_mk,r1,zRO,zRP];have he:0+es.length * s+0=es.length * s:=by omega
  rw[he] at r7;have hnl:new.length=ms.length * s:=hyl
  have hdr:RepL w L (spare.drop (ms.length * s)) (zs.drop (es.length * s+new.length)):=by
   have:=hz2.drop (es.length * s+new.length)
   rwa [List.drop_append,List.drop_eq_nil_of_le zo,List.nil_append,hfl,show es.length * s+new.length-es.length * s=ms.length * s by omega] at this
  refine qeT (v:=.slice (some ⟨b,0,none⟩) (es.length+ms.length) cap) (lv:=.atom (.slice (some ⟨b,0,none⟩) (es.length+ms.length) cap)) (K:=K) (cs':=es.flatMap LV.cells++ms.flatMap LV.cells++spare.drop (ms.length * s)) hH r2 r3 r4 r5 r6 r7 ?_ (RepL.append (RepL.append hzt hyr) hdr) qaj ?_;simp only[zLa,length_take,length_drop,hfl];omega
  have hb:MRow el s (.slice (some ⟨b,0,none⟩) (es++ms).length cap) (es++ms) [(b,.cells el ((es++ms).flatMap LV.cells++spare.drop (ms.length * s)))]:=MRow.row (λv hv=>by
    rcases List.mem_append.1 hv with hv|hv;exact hs v hv;exact hms v hv) (by rw[zLa];exact hcc) (by
    rw[zLa,length_drop,add_mul]
    omega)
  rw[zLa,List.flatMap_append] at hb;exact hk _ _ hb
  have hold:∀ w':World,w'.heap=w.heap->(Builtin.firstCells s es.length (.slice (some ⟨b,0,none⟩) es.length cap)).run C.P w'=.ok (zs.take (es.length * s)).toArray w':=λw' hw=>by
   have:=qbz (P:=C.P) (w:=w') (b:=b) (off:=0) (es.length * s) 0 #[] (zs.take (es.length * s)) (by rw[length_take];omega) (λj x' hj=>by
    have hj':zs[j]? = some x':=by
     rw[List.getElem?_take] at hj;split at hj;exact hj;cases hj
    simp[World.cell?,hw,hz1,hj'])
   simp only[Builtin.firstCells,loadCells,this]
   simp
  obtain⟨cap',rest,r1,r2,r3⟩:=qbx (ty:=ty) (P:=C.P) (w:=w) (sT:=sT) (xT:=xT) (a:=some ⟨b,0,none⟩) (len:=es.length) (cap:=cap) (n:=ms.length) (xv:=.slice ay ms.length cy) (old:=zs.take (es.length * s)) (new:=new) (.inr ⟨_,hx2.und⟩) hlen (λw' hw=>hyf C.P w' hw) hold hroom zo;rw[r3];simp only[zRO,zRP];have hH0:RelH C w L []:=hH.sub (List.nil_sublist _)
  obtain⟨lv,H',L',g1,g2,g3,g4⟩:=qnm (K:=K) (el:=el) (s:=s) (es:=es++ms) (cap:=cap') (xs:=zs.take (es.length * s)++new) (rest:=rest) hH0.drew (by
    rw[List.flatMap_append];exact(RepL.append hzt hyr).mono (qem w L) _ _) (λv hv=>by
    rcases List.mem_append.1 hv with hv|hv;exact hs v hv;exact hms v hv) (by rw[zLa];omega) (by
    rw[r2,zLa,<-add_mul];congr 1;omega) (λv' H' h'=>hk v' H' h')
  rw[zLa] at g3;exact⟨lv,H',L',g1.of_drew.wide (by simp),g2,g3,g4⟩
theorem S.appM{sT xT el s bytes:Nat} [ht:TSlice C.P sT el s] [hr:TRow C.P el s bytes]{e2 s2:Nat} [hx2:TSlice C.P xT e2 s2]{v:Value}{es ms:List LV}{HM F:Heap}
  (hx:e.ev x=.atom v) (hp:H.Perm (HM++F)) (ha:MRow el s v es HM) (hy:GL.elems (e.ev y)=some ms) (hms:∀ v∈ms,v.cells.length=s) (hok:(ms.flatMap LV.cells).all qc4=true) (hroom:(es.length+ms.length) * bytes<=140737488355328)
  (hk:∀ v' H',MRow el s v' (es++ms) H'->K (.atom v') (F++H')):qae C ⟨dst,.call { callee:=.builtin .append,args:=#[x,y],argTypes:=#[sT,xT] },ty,pos,aft,g⟩ e H K X:=by
 refine qae.conseq (K:=λlv H'=>∃ v' H2,lv=.atom v'/\H'=H2++F/\MRow el s v' (es++ms) H2) (qae.frame hp (qae.appM hx ha hy hms hok hroom λv' H' h=>⟨v',H',rfl,rfl,h⟩)) ?_;rintro lv H' ⟨v',H2,rfl,rfl,h⟩;exact⟨_,F++H2,vR _,⟨[],by simpa using zPc⟩,hk _ _ h⟩
theorem Pure.mlen{t el el2 s s2:Nat} [TSlice C.P t el2 s2]{v:Value}{es:List LV}{Hv:Heap}(hx:e.ev x=.atom v)(ha:MRow el s v es Hv):Pure C ⟨dst,.call { callee:=.builtin .len,args:=#[x],argTypes:=#[t] },ty,pos,aft,g⟩ e H (int .i64 es.length):=by
 cases ha with
 |nil=>exact Pure.rowLen (m:=0) hx
 |row=>exact Pure.rowLen hx
end
theorem qtF(P:List LV):∀ (Q:List LV) (f:Nat) (vs:List LV),setL (P++Q) (P.length+f) vs=P++setL Q f vs:=by
 induction P with
 |nil=>intro Q f vs;simp
 |cons p P ih=>
  intro Q f vs;have:(p::P).length+f=(P.length+f)+1:=by simp only[zLc];omega
  rw[this];show setL (p::(P++Q)) (P.length+f+1) vs=_;rw[setL,ih]
  try rfl
section
variable{C:Ctx}{e:Env}{H:Heap}{x y:Operand}{dst:Option Nat}{ty:TypeId}{pos:String}{aft:Array Edge}{g:Option (Nat×Bool)}{K:LV->Heap->Prop}{X:List PanicEntry->Heap->Prop}
theorem MRow.addr{el s:Nat}{v:Value}{es:List LV}{HM:Heap}(h:MRow el s v es HM)(hne:es≠[]):∃ b cap spare,v=.slice (some ⟨b,0,none⟩) es.length cap/\HM=[(b,.cells el (es.flatMap LV.cells++spare))]/\es.length<=cap/\es.length * s+spare.length=cap * s:=by
 cases h with
 |nil=>exact absurd rfl hne
 |row hs hc hl=>exact⟨_,_,_,rfl,rfl,hc,hl⟩
end
section settle
variable{C:Ctx}{n:Nat}{Q:Post}{e:Env}{H F:Heap}
end settle
section
variable{C:Ctx}{e:Env}{H:Heap}{x y:Operand}{dst:Option Nat}{ty:TypeId}{pos:String}{aft:Array Edge}{g:Option (Nat×Bool)}{K:LV->Heap->Prop}{X:List PanicEntry->Heap->Prop}
theorem Pure.ssliceE{xT:TypeId}{lo hi:Option Operand}{l m:List UInt8}{i j:Int} [hT:TStr C.P xT](hx:e.ev x=str l)
  (hlo:qd2 e lo 0 i) (hhi:qd2 e hi l.length j) (h0:0<=i) (h1:i<=j) (h2:j<=l.length) (he:(l.take j.toNat).drop i.toNat=m) :
  Pure C ⟨dst,.slice xT x lo hi none,ty,pos,aft,g⟩ e H (str m):=he▸Pure.sslice hx hlo hhi h0 h1 h2
theorem Pure.indexRowE{t el s:Nat} [ht:TSlice C.P t el s]{b off m cap o:Nat}{n:Int}{k:IntKind}(hx:e.ev x=.atom (.slice (some ⟨b,off,none⟩) m cap))(hy:e.ev y=int k n)(h0:0<=n)(hn:n<m)(ho:off+n.toNat * s=o) :
  Pure C ⟨dst,.indexAddr t x y,ty,pos,aft,g⟩ e H (ptr b o):=ho▸Pure.indexRow hx hy h0 hn
theorem Pure.lsliceE{t el s:Nat}{lo hi:Option Operand}{es ms:List LV}{i j:Int} [ht:TSlice C.P t el s](hx:elems (e.ev x)=some es)
  (hlo:qd2 e lo 0 i) (hhi:qd2 e hi es.length j) (h0:0<=i) (h1:i<=j) (h2:j<=es.length) (hs:∀ v∈es,v.cells.length=s) (he:(es.take j.toNat).drop i.toNat=ms) :
  Pure C ⟨dst,.slice t x lo hi none,ty,pos,aft,g⟩ e H (.list ms):=he▸Pure.lslice hx hlo hhi h0 h1 h2 hs
end
theorem MRow.of_cells{el b m cap:Nat}{es spare:List LV}(hs:∀ v∈es,v.cells.length=1)(hf:es.flatMap LV.cells=es)(hm:es.length=m)(hc:m<=cap)(hl:m+spare.length=cap) :
  MRow el 1 (.slice (some ⟨b,0,none⟩) m cap) es [(b,.cells el (es++spare))]:=by
 subst hm;have:=MRow.row (el:=el) (s:=1) (b:=b) (cap:=cap) (es:=es) (spare:=spare) hs hc zo
 rwa [hf] at this
section
variable{C:Ctx}{n:Nat}{Q:Post}{e:Env}{H F:Heap}
end
section
variable{C:Ctx}{e:Env}{H:Heap}{dst:Option Nat}{ty:TypeId}{pos:String}{aft:Array Edge}{g:Option (Nat×Bool)}{K:LV->Heap->Prop}{X:List PanicEntry->Heap->Prop}{x y:Operand}
theorem qfA{P:Program}{kt:TypeId}{kd k:IntKind}{n:Int}(hkt:P.underlying kt=some (.int kd))(b:Bool)(w:World):(Instr.checkKey b 10000 kt (.int k n)).run P w=.ok () w:=by
 have hck:Instr.checkKey b 10000 kt (.int k n)=Instr.checkKey b (9999+1) kt (.int k n):=rfl;rw[hck,Instr.checkKey];simp only[zRB,qaa hkt,zRO,zRP]
theorem S.insertK{t kt el:TypeId}{kd k:IntKind}(ht:C.P.underlying t=some (.map kt el))(hkt:C.P.underlying kt=some (.int kd)){b clock:Nat}{es es':Array MapEntry}{F:Heap}{m z:Operand}{n:Int}{v:Value}(hm:e.ev m=.atom (.map (some b)))(hx:e.ev x=int k n)(hz:e.ev z=.atom v)
  (hp:Pick (b,.obj (.map es clock)) H F) (hnew:Instr.findNow (.int kd) (.int k n) es.toList 0=some none) (he:es.push { key:=.int k n,val:=v,born:=clock }=es') (hk:K (.atom undef) ((b,.obj (.map es' (clock+1)))::F)):qae C ⟨dst,.insert t m x z,ty,pos,aft,g⟩ e H K X:=by
 subst he;refine qae.at1 hp λρ w L h hH=>?_;obtain⟨hb0,hbs,hl,hx1,hx2⟩:=hH.objs _ (List.mem_singleton.2 rfl);simp only at hb0 hbs hl hx1 hx2;have h3:execOp ρ ⟨dst,.insert t m x z,ty,pos,aft,g⟩=(do Instr.mapUpdate t (ρ m) (ρ x) (ρ z);Pure.pure .skip):=rfl
 have hf:(Instr.findKey kt (.int k n) es.toList).run C.P w=.ok none w:=by
  simp only[Instr.findKey,zRB,qaa hkt,zRO,hnew,zRP]
 have hc:=qfA (P:=C.P) (n:=n) (k:=k) hkt false w;have hg:(getObj b).run C.P w=.ok (.map es clock) w:=by simp only[getObj,Sem.run,hx1]
 rw[h3,qaf h hm,qaf h hx,qaf h hz];simp only[Instr.mapUpdate,zRB,qaa ht,zRO,hg,hc,hf];have hs:(setObj b (.map (es.push { key:=.int k n,val:=v,born:=clock }) (clock+1))).run C.P w=.ok () (setW w b (.map (es.push { key:=.int k n,val:=v,born:=clock }) (clock+1))):=qeO hx1 rfl;rw[hs];exact qhv (w':=setW w b (.map (es.push { key:=.int k n,val:=v,born:=clock }) (clock+1))) hH rfl rfl rfl rfl (by simp[setW]) (λc hc=>qdX hc) (qeJ hbs) (λ_=>qaj) hk
end
section
variable{C:Ctx}{e:Env}{H:Heap}{dst:Option Nat}{ty:TypeId}{pos:String}{aft:Array Edge}{g:Option (Nat×Bool)}{x y:Operand}
theorem Pure.lookupHit2{t kt el:TypeId}{kd k:IntKind}(ht:C.P.underlying t=some (.map kt el))(hkt:C.P.underlying kt=some (.int kd)){b clock j:Nat}{es:Array MapEntry}{n:Int}{v:Value}(hm:e.ev x=.atom (.map (some b)))(hx:e.ev y=int k n)
  (hb:(b,LObj.obj (.map es clock))∈H) (hf:Instr.findNow (.int kd) (.int k n) es.toList 0=some (some (j,v))):Pure C ⟨dst,.lookup t x y true,ty,pos,aft,g⟩ e H (.tuple [.atom v,bool true]):=λρ w L h hH=>by
 obtain⟨_,_,_,hx1,_⟩:=hH.objs _ hb;simp only at hx1;refine⟨.tuple #[v,.bool true],?_,λw' ha=>?_⟩;simp only[Rep];refine⟨[v,.bool true],rfl,?_⟩;simp only[RepL];exact⟨_,_,rfl,qaj,_,_,rfl,rfl,rfl⟩;have hw:w'.heap[b]? = some (.map es clock):=(ha.1 _ hb).trans hx1;have h3:execOp ρ ⟨dst,.lookup t x y true,ty,pos,aft,g⟩=(do Pure.pure (.value (<-Instr.lookup t (ρ x) (ρ y) true))):=rfl;have hg:(getObj b).run C.P w'=.ok (.map es clock) w':=by simp only[getObj,Sem.run,hw]
 rw[h3,qaf h hm,qaf h hx]
 have hf2:(Instr.findKey kt (.int k n) es.toList).run C.P w'=.ok (some (j,v)) w':=by
  simp only[Instr.findKey,zRB,qaa hkt,zRO,hf,zRP]
 have hc:=qfA (P:=C.P) (n:=n) (k:=k) hkt;simp only[Instr.lookup,zRB,qaa ht,zRO,hg,zRP,hc,hf2];rfl
theorem Pure.lookupMiss2{t kt el:TypeId}{kd k:IntKind}(ht:C.P.underlying t=some (.map kt el))(hkt:C.P.underlying kt=some (.int kd)){b clock:Nat}{es:Array MapEntry}{n:Int}{zv:Value}(hz:∀ w,(zeroValue el).run C.P w=.ok zv w)(hm:e.ev x=.atom (.map (some b)))(hx:e.ev y=int k n)
  (hb:(b,LObj.obj (.map es clock))∈H) (hf:Instr.findNow (.int kd) (.int k n) es.toList 0=some none):Pure C ⟨dst,.lookup t x y true,ty,pos,aft,g⟩ e H (.tuple [.atom zv,bool false]):=λρ w L h hH=>by
 obtain⟨_,_,_,hx1,_⟩:=hH.objs _ hb;simp only at hx1;refine⟨.tuple #[zv,.bool false],?_,λw' ha=>?_⟩;simp only[Rep];refine⟨[zv,.bool false],rfl,?_⟩;simp only[RepL];exact⟨_,_,rfl,qaj,_,_,rfl,rfl,rfl⟩;have hw:w'.heap[b]? = some (.map es clock):=(ha.1 _ hb).trans hx1;have h3:execOp ρ ⟨dst,.lookup t x y true,ty,pos,aft,g⟩=(do Pure.pure (.value (<-Instr.lookup t (ρ x) (ρ y) true))):=rfl;have hg:(getObj b).run C.P w'=.ok (.map es clock) w':=by simp only[getObj,Sem.run,hw]
 rw[h3,qaf h hm,qaf h hx]
 have hf2:(Instr.findKey kt (.int k n) es.toList).run C.P w'=.ok none w':=by
  simp only[Instr.findKey,zRB,qaa hkt,zRO,hf,zRP]
 have hc:=qfA (P:=C.P) (n:=n) (k:=k) hkt;simp only[Instr.lookup,zRB,qaa ht,zRO,hg,zRP,hc,hf2,hz];rfl
end
section
variable{C:Ctx}{n:Nat}{Q:Post}{e:Env}{H:Heap}
theorem qaU.weak{c:Code}{H':Heap}(s:HSub H' H)(h:qaU C n c Q e H'):qaU C n c Q e H:=λa w L hE hH=>
 Go.wp_mono (h a w L hE (hH.weak s)) λ_ _ _ ⟨e',H2,L',h1,h2,h3,h4⟩=>⟨e',H2,L',h1.wide s.keys,h2,h3,h4⟩
theorem qaU.conseq{c:Code}{Q':Post}(h:qaU C n c Q e H)(hq:∀ x e H,Q x e H->Q' x e H):qaU C n c Q' e H:=λa w L hE hH=>
 Go.wp_mono (h a w L hE hH) λ_ _ _ ⟨e',H2,L',h1,h2,h3,h4⟩=>⟨e',H2,L',h1,h2,h3,hq _ _ _ h4⟩
theorem qaU.loop{c:Code}(I:Nat->Env->Heap->Prop)(k:Nat)(h0:I k e H)
  (round:∀ k e H,I k e H->qaU C n c (qaz (λe' H'=>∃ m,m<k/\I m e' H') Q) e H):qaU C n (.loop c) Q e H:=λa w L hE hH=>by
 refine qi3 (I:=λk a' w'=>∃ e' H' L',Fr (keys H) w L w' L' H'/\RelH C w' L' H'/\RelE n a' e' w' L'/\I k e' H') (n:=k) ?_ ⟨e,H,L,Fr.refl _ _ _,hH,hE,h0⟩;rintro k a1 w1 ⟨e1,H1,L1,h1,h2,h3,h4⟩;refine Go.wp_mono (round k e1 H1 h4 a1 w1 L1 h3 h2) λex a' w' hq=>?_;obtain⟨e',H',L',g1,g2,g3,g4⟩:=hq
 cases ex with
 |normal=>
  obtain⟨m,hm,g4⟩:=g4
  exact⟨m,hm,e',H',L',h1.trans g1,g2,g3,g4⟩
 |exit id=>exact⟨e',H',L',h1.trans g1,g2,g3,g4⟩
 |goto id=>exact⟨e',H',L',h1.trans g1,g2,g3,g4⟩
 |ret=>exact⟨e',H',L',h1.trans g1,g2,g3,g4⟩
 |panic ch=>exact⟨e',H',L',h1.trans g1,g2,g3,g4⟩
 |outgrown=>exact⟨e',H',L',h1.trans g1,g2,g3,g4⟩
theorem qaU.loopI{c:Code}(I:Nat->List (Nat×LV)->Heap->Prop)(h0:∃ k l H0,I k l H0/\qcH e l/\HSub H0 H)
  (round:∀ k l H,I k l H->∀ j:Env,j.ds=e.ds->qaU C n c (qaz (qvV I k e.ds) Q) (Env.slots j l) H):qaU C n (.loop c) Q e H:=by
 obtain⟨k,l,H0,h0,h1,h2⟩:=h0;refine qaU.weak h2 (qaU.loop (λk e' H'=>∃ l H0,I k l H0/\qcH e' l/\HSub H0 H'/\e'.ds=e.ds) k ⟨l,H0,h0,h1,zhR _,rfl⟩ ?_);rintro k e' H' ⟨l,H0,g0,g1,g2,g3⟩;have:=round k l H0 g0 e' g3;rw[Env.slots_self g1.mem] at this;refine qaU.weak g2 (qaU.conseq this ?_);rintro ex e2 H2 hq
 cases ex with
 |normal=>
  obtain⟨m,l',H3,r1,r2,r3,r4,r5⟩:=hq
  exact⟨m,r1,l',H3,r2,r3,r4,r5⟩
 |exit id=>exact hq
 |goto id=>exact hq
 |ret=>exact hq
 |panic ch=>exact hq
 |outgrown=>exact hq
end
section
variable{C:Ctx}{e:Env}{H:Heap}{x y:Operand}{dst:Option Nat}{ty:TypeId}{pos:String}{aft:Array Edge}{g:Option (Nat×Bool)}
theorem Pure.bytesStrE{s d el:TypeId} [hs:TSlice C.P s el 1] [he:TKind C.P el .u8] [hd:TStr C.P d]{l:List UInt8}(hx:elems (e.ev x)=some (byts l)):Pure C ⟨dst,.convert s d x,ty,pos,aft,g⟩ e H (str l):=by
 by_cases hne:l=[]
 subst hne;intro ρ w L h _;obtain⟨a,cap,hv,hcap,hr⟩:=(h x).elems hx;refine⟨_,qaj,λw' ha=>?_⟩;have h0:execOp ρ ⟨dst,.convert s d x,ty,pos,aft,g⟩=(do Pure.pure (.value (<-convert s d (ρ x)))):=rfl;have hlen:(byts []).length=0:=rfl
 have hc:(convert s d (.slice a 0 cap)).run C.P w'=.ok (.string ⟨#[]⟩) w':=by
  rw[run_convert_bytes_string w' s d el a 0 cap hs.und he.und hd.und]
  cases a with
  |none=>rfl
  |some a=>exact run_bytesToString w' a 0 cap [] (run_loadCells_list (P:=C.P) w' a [] λj v hj=>by cases hj)
 rw[h0,hv,hlen];simp only[zRB,hc,zRO,zRP];exact Pure.bytesStr hx hne
end
class TOut (P:Program) (t:TypeId):Prop where
 und:P.underlying t=some (.struct (P.fieldsOf t))
 apart:P.stoodInHeld t=false
 guard:P.eqGuardType P.depth t=false
 fields : ∃ f0 f1 f2 : Field, (P.fieldsOf t).toList = [f0, f1, f2] ∧ (f0.name ≠ "_" ∧ f0.offset = 0 ∧ P.underlying f0.type = some .string) ∧ (f1.name ≠ "_" ∧ f1.offset = 1 ∧ P.underlying f1.type = some (.int .i64)) ∧ (f2.name ≠ "_" ∧ f2.offset = 2 ∧ P.underlying f2.type = some (.int .i64))
def qoo (P : Program) (f : Field) (o : Nat) : Bool := f.name != "_" && f.offset == o && (match P.underlying f.type with | some .string => true | _ => false)
def qpg (P : Program) (f : Field) (o : Nat) : Bool := f.name != "_" && f.offset == o && (match P.underlying f.type with | some (.int .i64) => true | _ => false)
def qvy(P:Program)(t:TypeId):Bool:=(match P.underlying t with|some (.struct _)=>true|_=>false) && !P.stoodInHeld t && !P.eqGuardType P.depth t && (match (P.fieldsOf t).toList with|[f0,f1,f2]=>qoo P f0 0 && qpg P f1 1 && qpg P f2 2|_=>false)
theorem qqn {P : Program} {f : Field} {o : Nat} (h : qoo P f o = true) : f.name ≠ "_" ∧ f.offset = o ∧ P.underlying f.type = some .string := by
 unfold qoo at h;simp only[zBa,bne_iff_ne,beq_iff_eq] at h;obtain⟨⟨h1,h2⟩,h3⟩:=h;refine⟨h1,h2,?_⟩;split at h3
 assumption
 cases h3
theorem qmD {P : Program} {f : Field} {o : Nat} (h : qpg P f o = true) : f.name ≠ "_" ∧ f.offset = o ∧ P.underlying f.type = some (.int .i64) := by
 unfold qpg at h;simp only[zBa,bne_iff_ne,beq_iff_eq] at h;obtain⟨⟨h1,h2⟩,h3⟩:=h;refine⟨h1,h2,?_⟩;split at h3
 assumption
 cases h3
theorem TOut.of{P:Program}{t:TypeId}(h:qvy P t=true):TOut P t:=by
 unfold qvy at h;simp only[zBa,Bool.not_eq_true'] at h;obtain⟨⟨⟨h1,h2⟩,h3⟩,h4⟩:=h;refine⟨?_,h2,h3,?_⟩;split at h1
 rename_i fs hu
 rw[hu];simp[Program.fieldsOf,hu];cases h1;split at h4
 rename_i f0 f1 f2 hf
 simp only[zBa] at h4;exact⟨f0,f1,f2,hf,qqn h4.1.1,qmD h4.1.2,qmD h4.2⟩;cases h4
theorem qgL{P:Program}{t:TypeId}{d:TypeDesc}(hu:P.underlying t=some d)(hp:d=.string∨d=.int .i64){xs:Array Value}{off:Nat}{v:Value}(hx:xs[off]? = some v)(w:World):(part t xs off).run P w=.ok v w:=
 run_part_plain w (by rcases hp with rfl|rfl <;> simp[Program.plainKey,hu]) hx
theorem qmz{P:Program}{t:TypeId}(hu:P.underlying t=some .string)(d:Nat)(a b:List UInt8)(w:World):(Op.equalIn (d+1) t (.string ⟨a.toArray⟩) (.string ⟨b.toArray⟩)).run P w=.ok (decide (a=b)) w:=by
 simp only[Op.equalIn,zRB,qaa hu,zRO,zRP];rw[beq_toListBytes,ByteArray.toList_eq,ByteArray.toList_eq];congr 1
 by_cases h:a=b <;> simp[h]
theorem qgZ{P:Program}{t:TypeId}(hu:P.underlying t=some (.int .i64))(d:Nat)(a b:Int)(w:World):(Op.equalIn (d+1) t (.int .i64 a) (.int .i64 b)).run P w=.ok (decide (a=b)) w:=by
 simp only[Op.equalIn,zRB,qaa hu,zRO,zRP,if_true];congr 1
theorem qsz{P:Program}{t:TypeId} [h:TOut P t](a b:List UInt8)(x y u v:Int)(w:World) :
  (Op.equal t (.agg #[.string ⟨a.toArray⟩,.int .i64 x,.int .i64 u]) (.agg #[.string ⟨b.toArray⟩,.int .i64 y,.int .i64 v])).run P w=.ok (decide (a=b/\x=y/\u=v)) w:=by
 obtain⟨f0,f1,f2,hf,⟨n0,o0,u0⟩,⟨n1,o1,u1⟩,⟨n2,o2,u2⟩⟩:=h.fields;rw[qgk,run_equalIn_struct w 9999 t _ _ h.und h.apart,hf];have p0:∀ (s:List UInt8) (i j:Int),(part f0.type #[.string ⟨s.toArray⟩,.int .i64 i,.int .i64 j] f0.offset).run P w=.ok (.string ⟨s.toArray⟩) w:=λs i j=>qgL u0 (.inl rfl) (by rw[o0];try rfl) w;have p1:∀ (s:List UInt8) (i j:Int),(part f1.type #[.string ⟨s.toArray⟩,.int .i64 i,.int .i64 j] f1.offset).run P w=.ok (.int .i64 i) w:=λs i j=>qgL u1 (.inr rfl) (by rw[o1];try rfl) w;have p2:∀ (s:List UInt8) (i j:Int),(part f2.type #[.string ⟨s.toArray⟩,.int .i64 i,.int .i64 j] f2.offset).run P w=.ok (.int .i64 j) w:=λs i j=>qgL u2 (.inr rfl) (by rw[o2];try rfl) w;have e0:=qmz u0 9998 a b w;have e1:=qgZ u1 9998 x y w;have e2:=qgZ u2 9998 u v w;have q1:∀ a b:Int,(Op.equalIn 9999 f1.type (.int .i64 a) (.int .i64 b)).run P w=.ok (decide (a=b)) w:=λa b=>qgZ u1 9998 a b w;have q2:∀ a b:Int,(Op.equalIn 9999 f2.type (.int .i64 a) (.int .i64 b)).run P w=.ok (decide (a=b)) w:=λa b=>qgZ u2 9998 a b w;have q0:(Op.equalIn 9999 f0.type (.string ⟨a.toArray⟩) (.string ⟨b.toArray⟩)).run P w=.ok (decide (a=b)) w:=qmz u0 9998 a b w;simp only[Op.eqFields,n0,n1,n2,ne_eq,not_false_eq_true,if_true,zRB,p0,q0,zRO]
 by_cases ha:a=b
 simp only[ha,decide_true,Bool.not_true,Bool.false_eq_true,if_false,zRB,p1,q1,zRO,true_and]
 by_cases hx:x=y
 simp only[hx,decide_true,Bool.not_true,Bool.false_eq_true,if_false,zRB,p2,q2,zRO,true_and]
 by_cases hu:u=v
 simp[hu];simp[hu];simp[hx];simp[ha]
section
variable{C:Ctx}{e:Env}{H:Heap}{dst:Option Nat}{ty:TypeId}{pos:String}{aft:Array Edge}{g:Option (Nat×Bool)}{x y:Operand}
theorem qvs{ρ:Operand->Value}{w:World}{L:Live}(h:∀ x,Rep w L (e.ev x) (ρ x)){x:Operand}{a:List UInt8}{i j:Int}(hx:e.ev x=.agg [str a,int .i64 i,int .i64 j]):ρ x=.agg #[.string ⟨a.toArray⟩,.int .i64 i,.int .i64 j]:=by
 have hv:=h x;rw[hx] at hv;simp only[Rep,RepL,str,int] at hv;obtain⟨vs,h1,v0,r0,e0,rfl,v1,r1,e1,rfl,v2,r2,e2,rfl,e3⟩:=hv;rw[h1,e0,e1,e2,e3]
theorem Pure.eqOut{t yT:TypeId} [h:TOut C.P t]{a b:List UInt8}{i j k l:Int}(hx:e.ev x=.agg [str a,int .i64 i,int .i64 j])(hy:e.ev y=.agg [str b,int .i64 k,int .i64 l]) :
  Pure C ⟨dst,.binOp .eql t x y yT,ty,pos,aft,g⟩ e H (bool (decide (a=b/\i=k/\j=l))):=
 .of_any λρ _ _ hr=>⟨_,qaj,λw'=>by
  have h1:=qvs hr hx;have h2:=qvs hr hy
  have he:(eqGuard .eql t x y (.agg #[.string ⟨a.toArray⟩,.int .i64 i,.int .i64 j]) (.agg #[.string ⟨b.toArray⟩,.int .i64 k,.int .i64 l])).run C.P w'=.ok () w':=by
   simp[eqGuard,h.guard]
  have hb:binOp .eql t (.agg #[.string ⟨a.toArray⟩,.int .i64 i,.int .i64 j]) (.agg #[.string ⟨b.toArray⟩,.int .i64 k,.int .i64 l])=(do Pure.pure (.bool (<-Op.equal t (.agg #[.string ⟨a.toArray⟩,.int .i64 i,.int .i64 j]) (.agg #[.string ⟨b.toArray⟩,.int .i64 k,.int .i64 l])))):=rfl
  simp only[execOp,h1,h2,he,hb,zRB,zRP,zRO,qsz]⟩
theorem Pure.eqOutT{t yT:TypeId} [h:TOut C.P t]{a b:List UInt8}{i j k l:Int}(hx:e.ev x=.agg [str a,int .i64 i,int .i64 j])(hy:e.ev y=.agg [str b,int .i64 k,int .i64 l])(h1:a=b)(h2:i=k)(h3:j=l) :
  Pure C ⟨dst,.binOp .eql t x y yT,ty,pos,aft,g⟩ e H (bool true):=by
 have:=Pure.eqOut (C:=C) (H:=H) (dst:=dst) (ty:=ty) (pos:=pos) (aft:=aft) (g:=g) (t:=t) (yT:=yT) hx hy
 rwa [decide_eq_true ⟨h1,h2,h3⟩] at this
end
end Go.GL
namespace Go.Stele
@[reducible] def cv(c:UInt8):Int:=(c.toNat:Int)
def qao(c:UInt8):Bool:=decide (48<=cv c) && decide (cv c<=57)
def qaV(c:UInt8):Bool:=decide (97<=cv c) && decide (cv c<=122)
def qaW(c:UInt8):Bool:=qaV c || qao c || decide (cv c=95)
def qv8(c:UInt8):Bool:=!decide (cv c=10)
def qdz(c:UInt8):Bool:=decide (cv c=32) || decide (cv c=9) || decide (cv c=10)
structure Tok where
 kind:Int
 text:List UInt8
 line:Int
 deriving DecidableEq,Inhabited
theorem qgt{p:UInt8->Bool}{s:List UInt8}{m:Nat}(hm:m<s.length)(h:s.takeWhile p=s.take m++(s.drop m).takeWhile p) :
  (p s[m]=true->s.takeWhile p=s.take (m+1)++(s.drop (m+1)).takeWhile p)/\(p s[m]=false->s.takeWhile p=s.take m):=by
 have h1:s.drop m=s[m]::s.drop (m+1):=List.drop_eq_getElem_cons hm;constructor;intro hp;rw[h,h1,List.takeWhile_cons_of_pos hp,List.take_succ_eq_append_getElem hm];simp only[zAs,List.singleton_append];intro hp;rw[h,h1,List.takeWhile_cons_of_neg (by simp[hp])]
 simp
theorem qlC{p:UInt8->Bool}{s:List UInt8}{m:Nat}(hm:s.length<=m)(h:s.takeWhile p=s.take m++(s.drop m).takeWhile p):s.takeWhile p=s.take m:=by
 rw[h,List.drop_eq_nil_of_le hm]
 simp
def qbp(s:List UInt8):Nat:=if [47,47].isPrefixOf s then (s.takeWhile qv8).length else (s.takeWhile qdz).length
end Go.Stele
namespace Go.Stele
def qwz:Tok:=⟨0,[],0⟩
abbrev TokR:=Tok×Nat×Int
def qcb(e:Int):TokR:=(qwz,0,e)
def qdm(s:List UInt8)(n:Nat):Bool:=match s[n]? with
 |some c=>qaV c || decide (cv c=95)
 |none=>false
def qdq(s:List UInt8):TokR:=
 if qdm s (s.takeWhile qao).length then qcb 3 else
  match Go.Lib.parseUintB 32 (s.takeWhile qao) with
  |.ok u=>(⟨1,Go.Lib.decDigits u,0⟩,(s.takeWhile qao).length,0)
  |_=>qcb 2
def qcr:List UInt8->TokR
 |_::b::c::_=>if (!decide (cv c=39)) || decide (cv b<32) || decide (126<cv b) || decide (cv b=39) || decide (cv b=92) then qcb 3 else (⟨1,Go.Lib.decDigits b.toNat,0⟩,3,0)
 |_=>qcb 3
def qdn:List (List UInt8):=[[97,114,114,97,121],[101,108,115,101],[102,117,110,99],[104,97,108,116],[105,102],[114,101,116,117,114,110],[118,97,114],[119,104,105,108,101]]
def qcO:List (List UInt8):=[[38,38],[124,124],[61,61],[33,61],[60,61],[62,61],[60],[62],[94],[43],[45],[42],[47],[37],[33],[61],[40],[41],[123],[125],[91],[93],[44],[59]]
def qfF(s:List UInt8):TokR:=
 if 24<(s.takeWhile qaW).length then qcb 7 else (⟨if qdn.contains (s.takeWhile qaW) then 3 else 2,s.takeWhile qaW,0⟩,(s.takeWhile qaW).length,0)
def qgx(s:List UInt8):TokR:=match qcO.find? (λx=>x.isPrefixOf s) with
 |some x=>(⟨4,x,0⟩,x.length,0)
 |none=>qcb 3
def qaw(s:List UInt8):TokR:=match s with
 |[]=>qcb 3
 |c::_=>if qao c then qdq s else if qaV c then qfF s else if decide (cv c=39) then qcr s else qgx s
def lexP:Nat->List UInt8->Int->Except (Int×Int) (List Tok)
 |0,_,_=>.ok []
 |fuel+1,s,line=>
  if s=[] then .ok [] else
  if qbp s=0 then
   if (qaw s).2.2≠0 then .error (line,(qaw s).2.2)
   else (lexP fuel (s.drop (qaw s).2.1) (line+((s.take (qaw s).2.1).count 10:Nat))).map ({ (qaw s).1 with line:=line }::·)
  else lexP fuel (s.drop (qbp s)) (line+((s.take (qbp s)).count 10:Nat))
theorem qex(p:UInt8->Bool)(s:List UInt8):(s.takeWhile p).length<=s.length:=(List.takeWhile_prefix p).length_le
theorem qfd(s:List UInt8)(h:(qaw s).2.2=0):0<(qaw s).2.1/\(qaw s).2.1<=s.length:=by
 match s with
 |[]=>simp[qaw,qcb] at h
 |c::r=>
  simp only[qaw] at h ⊢;split at h <;> rename_i hc;rw[zp hc];unfold qdq at h ⊢;split at h;simp[qcb] at h
  rename_i hw
  rw[zn hw];split at h
  rename_i u hu
  refine⟨?_,qex _ _⟩;rw[List.takeWhile_cons_of_pos hc]
  simp
  simp[qcb] at h;rw[zn hc];split at h <;> rename_i hl;rw[zp hl];unfold qfF at h ⊢;split at h;simp[qcb] at h
  rename_i hw
  rw[zn hw];refine⟨?_,qex _ _⟩;rw[List.takeWhile_cons_of_pos (by simp[qaW,hl])]
  simp
  rw[zn hl];split at h <;> rename_i hq;rw[zp hq];unfold qcr at h ⊢;split at h;split at h;simp[qcb] at h
  rename_i hx
  rename_i heq
  rw[zn hx,heq]
  simp
  simp[qcb] at h;rw[zn hq];unfold qgx at h ⊢;split at h
  rename_i x hx
  have h1:=List.find?_some hx;have h2:=List.mem_of_find?_eq_some hx;refine⟨?_,(List.isPrefixOf_iff_prefix.1 h1).length_le⟩;have:∀ x∈qcO,0<x.length:=by decide
  exact this x h2;simp[qcb] at h
theorem qkF(s:List UInt8):qbp s<=s.length:=by
 unfold qbp;split <;> exact qex _ _
inductive Res (A:Type) where
 |ok (v:A) (at' op:Nat)
 |err (line e:Int)
def qf3(T:List Tok)(i:Nat):Int:=match T[min i (T.length-1)]? with
 |some t=>t.line
 |none=>1
def qiu{A:Type}(T:List Tok)(i:Nat):Res A:=.err (qf3 T i) 3
def isTok(T:List Tok)(i:Nat)(xs:List (List UInt8)):Bool:=match T[i]? with
 |some t=>(decide (t.kind=3) || decide (t.kind=4)) && xs.contains t.text
 |none=>false
def qc9(T:List Tok)(k:Int)(i op:Nat):Res (List UInt8):=match T[i]? with
 |some t=>if t.kind=k then .ok t.text (i+1) op else qiu T i
 |none=>qiu T i
def qdu(T:List Tok)(x:List UInt8)(i op:Nat):Res Unit:=if isTok T i [x] then .ok () (i+1) op else qiu T i
def qbW(T:List Tok)(x:List UInt8)(i op:Nat):Res Unit:=
 if isTok T i [x] then (if 100<=op then .err (qf3 T i) 6 else .ok () (i+1) (op+1)) else qiu T i
def Res.bind{A B:Type}(r:Res A)(f:A->Nat->Nat->Res B):Res B:=match r with
 |.ok v i op=>f v i op
 |.err l e=>.err l e
def qsy(s:List UInt8):Nat:=match Go.Lib.parseUintB 32 s with
 |.ok u=>u
 |_=>0
end Go.Stele
namespace Go.Stele
inductive Ex where
 |mk (op:List UInt8) (num:Nat) (name:List UInt8) (args:List Ex)
 deriving Inhabited
inductive Sm where
 |mk (kind:Int) (name:List UInt8) (index value:List Ex) (thn els:List Sm)
 deriving Inhabited
structure FnD where
 name:List UInt8
 params:List (List UInt8)
 locals:List (List UInt8)
 body:List Sm
 deriving Inhabited
structure Ar where
 name:List UInt8
 size:Nat
 deriving Inhabited
structure Pr where
 vars:List (List UInt8)
 arrays:List Ar
 funcs:List FnD
 deriving Inhabited
def qb2:Nat->List (List UInt8)
 |0=>[[124,124]]
 |1=>[[38,38]]
 |2=>[[61,61],[33,61],[60],[62],[60,61],[62,61]]
 |3=>[[94]]
 |4=>[[43],[45]]
 |5=>[[42],[47],[37]]
 |_=>[]
abbrev OR(A:Type):=Option (Res A)
def qaD{A B:Type}(r:OR A)(f:A->Nat->Nat->OR B):OR B:=match r with
 |none=>none
 |some (.ok v i op)=>f v i op
 |some (.err l e)=>some (.err l e)
def qeL(T:List Tok)(i:Nat):List UInt8:=match T[i]? with
 |some t=>t.text
 |none=>[]
def qj3(T:List Tok)(i:Nat):Int:=match T[i]? with
 |some t=>t.kind
 |none=>0
def sEnd(T:List Tok)(x:List UInt8)(i op:Nat):Res Unit:=(qdu T x i op).bind λ_ i' op'=>.ok () i' (op'-1)
def qcQ(T:List Tok)(i op:Nat):Res Nat:=(qc9 T 1 i op).bind λs i' op'=>.ok (qsy s) i' op'
def qaR(T:List Tok):Nat->List (List UInt8)->Nat->Nat->OR (List (List UInt8))
 |0,_,_,_=>none
 |f+1,acc,i,op=>if isTok T i [[44]] then qaD (some (qc9 T 2 (i+1) op)) λs i' op'=>qaR T f (acc++[s]) i' op' else some (.ok acc i op)
def qeo(T:List Tok)(f:Nat)(i op:Nat):OR (List (List UInt8)):=qaD (some (qc9 T 2 i op)) λs i' op'=>qaR T f [s] i' op'
def nNeg:List UInt8:=[110,101,103]
def nNot:List UInt8:=[110,111,116]
def nNum:List UInt8:=[110,117,109]
def qeh:List UInt8:=[101,108,101,109]
def qbB:List UInt8:=[99,97,108,108]
def nVar:List UInt8:=[118,97,114]
mutual
def eLev(T:List Tok):Nat->Nat->Nat->Nat->OR Ex
 |0,_,_,_=>none
 |f+1,k,i,op=>if k=6 then qb6 T f i op else qaD (eLev T f (k+1) i op) λe i' op'=>qdG T f k e i' op'
def qdG(T:List Tok):Nat->Nat->Ex->Nat->Nat->OR Ex
 |0,_,_,_,_=>none
 |f+1,k,e,i,op=>
  if isTok T i (qb2 k) then qaD (eLev T f (k+1) (i+1) op) λe2 i' op'=>
   if k=2 then some (.ok (.mk (qeL T i) 0 [] [e,e2]) i' op') else qdG T f k (.mk (qeL T i) 0 [] [e,e2]) i' op'
  else some (.ok e i op)
def qb6(T:List Tok):Nat->Nat->Nat->OR Ex
 |0,_,_=>none
 |f+1,i,op=>
  if isTok T i [[45]] then qaD (some (qbW T [45] i op)) λ_ i' op'=>qaD (qb6 T f i' op') λe i' op'=>some (.ok (.mk nNeg 0 [] [e]) i' (op'-1))
  else if isTok T i [[33]] then qaD (some (qbW T [33] i op)) λ_ i' op'=>qaD (qb6 T f i' op') λe i' op'=>some (.ok (.mk nNot 0 [] [e]) i' (op'-1))
  else qel T f i op
def qel(T:List Tok):Nat->Nat->Nat->OR Ex
 |0,_,_=>none
 |f+1,i,op=>
  if isTok T i [[40]] then qaD (some (qbW T [40] i op)) λ_ i' op'=>qaD (eLev T f 0 i' op') λe i' op'=>qaD (some (sEnd T [41] i' op')) λ_ i' op'=>some (.ok e i' op')
  else if qj3 T i=1 then qaD (some (qcQ T i op)) λn i' op'=>some (.ok (.mk nNum n [] []) i' op')
  else qaD (some (qc9 T 2 i op)) λs i' op'=>
   if isTok T i' [[91]] then qaD (qci T f i' op') λe i' op'=>some (.ok (.mk qeh 0 s [e]) i' op')
   else if isTok T i' [[40]] then qaD (qee T f i' op') λl i' op'=>some (.ok (.mk qbB 0 s l) i' op')
   else some (.ok (.mk nVar 0 s []) i' op')
def qci(T:List Tok):Nat->Nat->Nat->OR Ex
 |0,_,_=>none
 |f+1,i,op=>qaD (some (qbW T [91] i op)) λ_ i' op'=>qaD (eLev T f 0 i' op') λe i' op'=>qaD (some (sEnd T [93] i' op')) λ_ i' op'=>some (.ok e i' op')
def qee(T:List Tok):Nat->Nat->Nat->OR (List Ex)
 |0,_,_=>none
 |f+1,i,op=>qaD (some (qbW T [40] i op)) λ_ i' op'=>qaD (qaP T f [] i' op') λl i' op'=>qaD (some (sEnd T [41] i' op')) λ_ i' op'=>some (.ok l i' op')
def qaP(T:List Tok):Nat->List Ex->Nat->Nat->OR (List Ex)
 |0,_,_,_=>none
 |f+1,acc,i,op=>
  if isTok T i [[41]] then some (.ok acc i op)
  else qaD (some (if acc=[] then .ok () i op else qdu T [44] i op)) λ_ i' op'=>qaD (eLev T f 0 i' op') λe i' op'=>qaP T f (acc++[e]) i' op'
end
def kwIf:List UInt8:=[105,102]
def qvg:List UInt8:=[101,108,115,101]
def qsr:List UInt8:=[119,104,105,108,101]
def qph:List UInt8:=[114,101,116,117,114,110]
def qvp:List UInt8:=[104,97,108,116]
def qkt:List UInt8:=[118,97,114]
def qi1:List UInt8:=[97,114,114,97,121]
def qq0:List UInt8:=[102,117,110,99]
mutual
def qck(T:List Tok):Nat->Nat->Nat->OR (List Sm)
 |0,_,_=>none
 |f+1,i,op=>qaD (some (qbW T [123] i op)) λ_ i' op'=>qaD (qbQ T f [] i' op') λl i' op'=>qaD (some (sEnd T [125] i' op')) λ_ i' op'=>some (.ok l i' op')
def qbQ(T:List Tok):Nat->List Sm->Nat->Nat->OR (List Sm)
 |0,_,_,_=>none
 |f+1,acc,i,op=>if isTok T i [[125]] then some (.ok acc i op) else qaD (qej T f i op) λs i' op'=>qbQ T f (acc++[s]) i' op'
def qej(T:List Tok):Nat->Nat->Nat->OR Sm
 |0,_,_=>none
 |f+1,i,op=>
  if isTok T i [kwIf] then qaD (eLev T f 0 (i+1) op) λe i' op'=>qaD (qck T f i' op') λth i' op'=>
   if isTok T i' [qvg] then qaD (qck T f (i'+1) op') λel i' op'=>some (.ok (.mk 3 [] [] [e] th el) i' op') else some (.ok (.mk 3 [] [] [e] th []) i' op')
  else if isTok T i [qsr] then qaD (eLev T f 0 (i+1) op) λe i' op'=>qaD (qck T f i' op') λth i' op'=>some (.ok (.mk 4 [] [] [e] th []) i' op')
  else qaD (qbI T f i op) λs i' op'=>qaD (some (qdu T [59] i' op')) λ_ i' op'=>some (.ok s i' op')
def qbI(T:List Tok):Nat->Nat->Nat->OR Sm
 |0,_,_=>none
 |f+1,i,op=>
  if isTok T i [qph] then qaD (eLev T f 0 (i+1) op) λe i' op'=>some (.ok (.mk 5 [] [] [e] [] []) i' op')
  else if isTok T i [qvp] then some (.ok (.mk 7 [] [] [] [] []) (i+1) op)
  else qaD (some (qc9 T 2 i op)) λs i' op'=>
   if isTok T i' [[40]] then qaD (qee T f i' op') λl i' op'=>some (.ok (.mk 6 [] [] [.mk qbB 0 s l] [] []) i' op')
   else if isTok T i' [[91]] then qaD (qci T f i' op') λx i' op'=>qaD (some (qdu T [61] i' op')) λ_ i' op'=>qaD (eLev T f 0 i' op') λe i' op'=>some (.ok (.mk 2 s [x] [e] [] []) i' op')
   else qaD (some (qdu T [61] i' op')) λ_ i' op'=>qaD (eLev T f 0 i' op') λe i' op'=>some (.ok (.mk 1 s [] [e] [] []) i' op')
end
def qcA(T:List Tok):Nat->List (List UInt8)->Nat->Nat->OR (List (List UInt8))
 |0,_,_,_=>none
 |f+1,acc,i,op=>if isTok T i [qkt] then qaD (qeo T f (i+1) op) λl i' op'=>qaD (some (qdu T [59] i' op')) λ_ i' op'=>qcA T f (acc++l) i' op' else some (.ok acc i op)
def qgm(T:List Tok)(f:Nat)(i op:Nat):OR FnD:=
 qaD (some (qc9 T 2 i op)) λnm i' op'=>qaD (some (qbW T [40] i' op')) λ_ i' op'=>
 qaD (if isTok T i' [[41]] then some (.ok [] i' op') else qeo T f i' op') λps i' op'=>qaD (some (sEnd T [41] i' op')) λ_ i' op'=>
 qaD (some (qbW T [123] i' op')) λ_ i' op'=>qaD (qcA T f [] i' op') λls i' op'=>qaD (qbQ T f [] i' op') λb i' op'=>
 qaD (some (sEnd T [125] i' op')) λ_ i' op'=>some (.ok ⟨nm,ps,ls,b⟩ i' op')
def qeC(T:List Tok)(i op:Nat):OR Ar:=
 qaD (some (qc9 T 2 i op)) λnm i' op'=>qaD (some (qbW T [91] i' op')) λ_ i' op'=>qaD (some (qcQ T i' op')) λn i' op'=>
 qaD (some (sEnd T [93] i' op')) λ_ i' op'=>qaD (some (qdu T [59] i' op')) λ_ i' op'=>some (.ok ⟨nm,n⟩ i' op')
def qcN(T:List Tok):Nat->Pr->Nat->Nat->OR Pr
 |0,_,_,_=>none
 |f+1,p,i,op=>
  if T.length<=i then some (.ok p i op)
  else if isTok T i [qkt] then qaD (qcA T f [] i op) λl i' op'=>qcN T f { p with vars:=p.vars++l } i' op'
  else if isTok T i [qi1] then qaD (qeC T (i+1) op) λa i' op'=>qcN T f { p with arrays:=p.arrays++[a] } i' op'
  else if isTok T i [qq0] then qaD (qgm T f (i+1) op) λa i' op'=>qcN T f { p with funcs:=p.funcs++[a] } i' op'
  else some (qiu T i)
def exOp:Ex->List UInt8|.mk o _ _ _=>o
def qe2:Ex->Nat|.mk _ n _ _=>n
def qcW:Ex->List UInt8|.mk _ _ n _=>n
def qva:Sm->Int|.mk k _ _ _ _ _=>k
def qvm:Sm->List UInt8|.mk _ n _ _ _ _=>n
def qrD:Sm->List Ex|.mk _ _ i _ _ _=>i
def qsK:Sm->List Ex|.mk _ _ _ v _ _=>v
def Good{A:Type}(T:List Tok)(s:Bool)(i op:Nat)(r:Res A):Prop:=match r with
 |.ok _ i' op'=>i<=i'/\(s=true->i<i')/\(i<=T.length->i'<=T.length)/\op'=op
 |.err _ _=>True
def qc2{A:Type}(T:List Tok)(s:Bool)(i op:Nat)(r:OR A):Prop:=∀ r',r=some r'->Good T s i op r'
theorem qaH{T:List Tok}{i:Nat}{xs:List (List UInt8)}(h:isTok T i xs=true):i<T.length:=by
 rcases Nat.lt_or_ge i T.length with h1|h1;exact h1;rw[isTok,List.getElem?_eq_none h1] at h;cases h
theorem qjK{T:List Tok}{i:Nat}{t:Tok}(h:T[i]? = some t):i<T.length:=(List.getElem?_eq_some_iff.1 h).1
theorem qbK(T:List Tok)(k:Int)(i op:Nat):Good T true i op (qc9 T k i op):=by
 unfold qc9;split
 rename_i t ht
 have:=qjK ht;split;exact⟨by omega,λ_=>by omega,λ_=>by omega,rfl⟩;trivial;trivial
theorem qbg(T:List Tok)(x:List UInt8)(i op:Nat):Good T true i op (qdu T x i op):=by
 unfold qdu;split
 rename_i h
 have:=qaH h;exact⟨by omega,λ_=>by omega,λ_=>by omega,rfl⟩;trivial
theorem qbC{T:List Tok}{x:List UInt8}{i op i' op':Nat}{u:Unit}(h:qbW T x i op=.ok u i' op'):i'=i+1/\op'=op+1/\op<100/\i<T.length:=by
 unfold qbW at h;split at h
 rename_i h1
 have:=qaH h1;split at h;cases h;cases h;exact⟨rfl,rfl,by omega,this⟩;cases h
theorem qgH{T:List Tok}{x:List UInt8}{i op i' op':Nat}{u:Unit}(h:sEnd T x i op=.ok u i' op'):i'=i+1/\op'=op-1/\i<T.length:=by
 unfold sEnd qdu at h;split at h
 rename_i h1
 have:=qaH h1;cases h;exact⟨rfl,rfl,this⟩;cases h
theorem qfS(T:List Tok)(i op:Nat):Good T true i op (qcQ T i op):=by
 have:=qbK T 1 i op;unfold qcQ
 cases h:qc9 T 1 i op with
 |ok v i' op'=>rw[h] at this;exact this
 |err l e=>trivial
theorem qay{A B:Type}{r:OR A}{f:A->Nat->Nat->OR B}{q:Res B}(h:qaD r f=some q) :
  (∃ v i op,r=some (.ok v i op)/\f v i op=some q)∨(∃ l e,r=some (.err l e)/\q=.err l e):=by
 match r,h with
 |some (.ok v i op),h=>exact .inl ⟨v,i,op,rfl,h⟩
 |some (.err l e),h=>exact .inr ⟨l,e,rfl,by simpa [qaD] using h.symm⟩
theorem qaL{A B:Type}{T:List Tok}{s t:Bool}{i op j op1:Nat}{r:OR A}{f:A->Nat->Nat->OR B}(hr:qc2 T s j op1 r)
  (hf:∀ v i' ,r=some (.ok v i' op1)->j<=i'->(s=true->j<i')->(j<=T.length->i'<=T.length)->qc2 T t i op (f v i' op1)):qc2 T t i op (qaD r f):=λq hq=>by
 rcases qay hq with⟨v,i',op',h1,h2⟩|⟨l,e,_,rfl⟩;obtain⟨g1,g2,g3,g4⟩:=hr _ h1;subst g4;exact hf v i' h1 g1 g2 g3 q h2;trivial
theorem qaF{A:Type}{T:List Tok}{s:Bool}{i op:Nat}{r:Res A}(h:Good T s i op r):qc2 T s i op (some r):=λr' hr=>by cases hr;exact h
theorem qbY{A:Type}{T:List Tok}{s:Bool}{i op:Nat}:qc2 (A:=A) T s i op none:=λr' hr=>by cases hr
theorem qc2.from{A:Type}{T:List Tok}{s t:Bool}{i j op:Nat}{r:OR A}(h:qc2 T s j op r)(hij:i<=j)(hs:t=true->i<j∨s=true)(hT:i<=T.length->j<=T.length):qc2 T t i op r:=λr' hr=>by
 have:=h r' hr
 cases r' with
 |ok v i' op'=>
  obtain⟨g1,g2,g3,g4⟩:=this;refine⟨by omega,λht=>?_,λhi=>g3 (hT hi),g4⟩;rcases hs ht with h1|h1;omega
  have:=g2 h1;omega
 |err l e=>trivial
theorem qfU(T:List Tok):∀ (f:Nat) (acc:List (List UInt8)) (i op:Nat),qc2 T false i op (qaR T f acc i op)
 |0,_,_,_=>qbY
 |f+1,acc,i,op=>by
  rw[qaR];split
  rename_i h
  have:=qaH h;refine qaL (qaF (qbK T 2 (i+1) op)) λv i' _ h1 h2 h3=>?_;exact(qfU T f _ i' op).from (by omega) (by simp) (λ_=>h3 (by omega));exact qaF ⟨by omega,by simp,λh=>h,rfl⟩
theorem qco(T:List Tok)(f i op:Nat):qc2 T true i op (qeo T f i op):=
 qaL (qaF (qbK T 2 i op)) λv i' _ h1 h2 h3=>(qfU T f _ i' op).from h1 (λ_=>.inl (h2 rfl)) h3
theorem qg4{A:Type}{T:List Tok}{s:Bool}{x y:List UInt8}{i op:Nat}{g:Nat->Nat->OR A}(hg:i<T.length->op<100->qc2 T s (i+1) (op+1) (g (i+1) (op+1))) :
  qc2 T true i op (qaD (some (qbW T x i op)) λ_ i' op'=>qaD (g i' op') λv i' op'=>qaD (some (sEnd T y i' op')) λ_ i' op'=>some (.ok v i' op')):=λq hq=>by
 rcases qay hq with⟨v,i1,op1,h1,h2⟩|⟨l,e,_,rfl⟩;injection h1 with h1;obtain⟨rfl,rfl,ho,hi⟩:=qbC h1;rcases qay h2 with⟨w,i2,op2,h3,h4⟩|⟨l,e,_,rfl⟩;obtain⟨g1,_,g3,rfl⟩:=hg hi ho _ h3;rcases qay h4 with⟨u,i3,op3,h5,h6⟩|⟨l,e,_,rfl⟩;injection h5 with h5;obtain⟨rfl,rfl,hi2⟩:=qgH h5;cases h6;exact⟨by omega,λ_=>by omega,λ_=>by omega,by omega⟩;trivial;trivial;trivial
theorem qcU(T:List Tok):∀ f:Nat,(∀ k i op,qc2 T true i op (eLev T f k i op))/\(∀ k e i op,qc2 T false i op (qdG T f k e i op))/\(∀ i op,qc2 T true i op (qb6 T f i op)) /\
  (∀ i op,qc2 T true i op (qel T f i op))/\(∀ i op,qc2 T true i op (qci T f i op))/\(∀ i op,qc2 T true i op (qee T f i op))/\(∀ acc i op,qc2 T false i op (qaP T f acc i op))
 |0=>⟨λ_ _ _=>by rw[eLev];exact qbY,λ_ _ _ _=>by rw[qdG];exact qbY,λ_ _=>by rw[qb6];exact qbY,λ_ _=>by rw[qel];exact qbY,λ_ _=>by rw[qci];exact qbY,λ_ _=>by rw[qee];exact qbY,λ_ _ _=>by rw[qaP];exact qbY⟩
 |f+1=>by
  obtain⟨hL,hO,hU,hP,hI,hA,hB⟩:=qcU T f
  have neg:∀ (x:List UInt8) (nm:List UInt8) (i op:Nat),qc2 T true i op (qaD (some (qbW T x i op)) λ_ i' op'=>qaD (qb6 T f i' op') λe i' op'=>some (.ok (Ex.mk nm 0 [] [e]) i' (op'-1))):=λx nm i op q hq=>by
   rcases qay hq with⟨v,i1,op1,h1,h2⟩|⟨l,e,_,rfl⟩;injection h1 with h1;obtain⟨rfl,rfl,ho,hi⟩:=qbC h1;rcases qay h2 with⟨w,i2,op2,h3,h4⟩|⟨l,e,_,rfl⟩;obtain⟨g1,_,g3,rfl⟩:=hU _ _ _ h3;cases h4;exact⟨by omega,λ_=>by omega,λ_=>g3 (by omega),by omega⟩;trivial;trivial
  refine⟨λk i op=>?_,λk e i op=>?_,λi op=>?_,λi op=>?_,λi op=>?_,λi op=>?_,λacc i op=>?_⟩;rw[eLev];split;exact hU i op;exact qaL (hL (k+1) i op) λv i' _ h1 h2 h3=>(hO k v i' op).from h1 (λ_=>.inl (h2 rfl)) h3;rw[qdG];split
  rename_i h
  have:=qaH h;refine qaL (hL (k+1) (i+1) op) λv i' _ h1 h2 h3=>?_;split;exact qaF ⟨by omega,by simp,λ_=>h3 (by omega),rfl⟩;exact(hO k _ i' op).from (by omega) (by simp) (λ_=>h3 (by omega));exact qaF ⟨by omega,by simp,λh=>h,rfl⟩;rw[qb6];split;exact neg _ _ _ _;split;exact neg _ _ _ _;exact hP i op;rw[qel];split;exact qg4 (g:=λi op=>eLev T f 0 i op) λ_ _=>hL 0 _ _;split;exact qaL (qaF (qfS T i op)) λv i' _ h1 h2 h3=>qaF ⟨h1,λ_=>h2 rfl,h3,rfl⟩;refine qaL (qaF (qbK T 2 i op)) λv i' _ h1 h2 h3=>?_;split;exact qaL (hI i' op) λv i2 _ g1 g2 g3=>qaF ⟨by omega,λ_=>by have:=h2 rfl;omega,λh=>g3 (h3 h),rfl⟩;split;exact qaL (hA i' op) λv i2 _ g1 g2 g3=>qaF ⟨by omega,λ_=>by have:=h2 rfl;omega,λh=>g3 (h3 h),rfl⟩;exact qaF ⟨h1,λ_=>h2 rfl,h3,rfl⟩;rw[qci];exact qg4 (g:=λi op=>eLev T f 0 i op) λ_ _=>hL 0 _ _;rw[qee];exact qg4 (g:=λi op=>qaP T f [] i op) λ_ _=>hB [] _ _;rw[qaP];split;exact qaF ⟨by omega,by simp,λh=>h,rfl⟩;refine qaL (s:=false) (j:=i) (op1:=op) ?_ λv i' _ h1 h2 h3=>?_;split;exact qaF ⟨by omega,by simp,λh=>h,rfl⟩;exact qc2.from (qaF (qbg T [44] i op)) (by omega) (by simp) (λh=>h);exact qaL (hL 0 i' op) λv i2 _ g1 g2 g3=>(hB _ i2 op).from (by omega) (by simp) (λh=>g3 (h3 h))
end Go.Stele
namespace Go.Stele
theorem qgD(T:List Tok):∀ f:Nat,(∀ i op,qc2 T true i op (qck T f i op))/\(∀ acc i op,qc2 T false i op (qbQ T f acc i op))/\(∀ i op,qc2 T true i op (qej T f i op))/\(∀ i op,qc2 T true i op (qbI T f i op))
 |0=>⟨λ_ _=>by rw[qck];exact qbY,λ_ _ _=>by rw[qbQ];exact qbY,λ_ _=>by rw[qej];exact qbY,λ_ _=>by rw[qbI];exact qbY⟩
 |f+1=>by
  obtain⟨hB,hL,hS,hM⟩:=qgD T f;obtain⟨gL,_,_,_,gI,gA,_⟩:=qcU T f;refine⟨λi op=>?_,λacc i op=>?_,λi op=>?_,λi op=>?_⟩;rw[qck];exact qg4 (g:=λi op=>qbQ T f [] i op) λ_ _=>hL [] _ _;rw[qbQ];split;exact qaF ⟨by omega,by simp,λh=>h,rfl⟩;exact qaL (hS i op) λv i' _ h1 h2 h3=>(hL _ i' op).from h1 (by simp) h3;rw[qej];split
  rename_i h
  have:=qaH h;refine qaL (gL 0 (i+1) op) λv i' _ h1 h2 h3=>qaL (hB i' op) λw i2 _ g1 g2 g3=>?_;split
  rename_i h4
  have:=qaH h4;refine qaL (hB (i2+1) op) λx i3 _ k1 k2 k3=>qaF ⟨by omega,λ_=>by omega,λ_=>k3 (by omega),rfl⟩;exact qaF ⟨by omega,λ_=>by omega,λ_=>g3 (h3 (by omega)),rfl⟩;split
  rename_i h
  have:=qaH h;exact qaL (gL 0 (i+1) op) λv i' _ h1 h2 h3=>qaL (hB i' op) λw i2 _ g1 g2 g3=>qaF ⟨by omega,λ_=>by omega,λ_=>g3 (h3 (by omega)),rfl⟩;exact qaL (hM i op) λv i' _ h1 h2 h3=>qaL (qaF (qbg T [59] i' op)) λw i2 _ g1 g2 g3=>qaF ⟨by omega,λ_=>by have:=h2 rfl;omega,λhh=>g3 (h3 hh),rfl⟩;rw[qbI];split
  rename_i h
  have:=qaH h;exact qaL (gL 0 (i+1) op) λv i' _ h1 h2 h3=>qaF ⟨by omega,λ_=>by omega,λ_=>h3 (by omega),rfl⟩;split
  rename_i h
  have:=qaH h;exact qaF ⟨by omega,λ_=>by omega,λ_=>by omega,rfl⟩;refine qaL (qaF (qbK T 2 i op)) λv i' _ h1 h2 h3=>?_;split;exact qaL (gA i' op) λw i2 _ g1 g2 g3=>qaF ⟨by omega,λ_=>by have:=h2 rfl;omega,λhh=>g3 (h3 hh),rfl⟩;split
  exact qaL (gI i' op) λw i2 _ g1 g2 g3=>qaL (qaF (qbg T [61] i2 op)) λu i3 _ k1 k2 k3=>qaL (gL 0 i3 op) λx i4 _ m1 m2 m3=>
   qaF ⟨by omega,λ_=>by have:=h2 rfl;omega,λhh=>m3 (k3 (g3 (h3 hh))),rfl⟩
  exact qaL (qaF (qbg T [61] i' op)) λu i3 _ k1 k2 k3=>qaL (gL 0 i3 op) λx i4 _ m1 m2 m3=>
   qaF ⟨by omega,λ_=>by have:=h2 rfl;omega,λhh=>m3 (k3 (h3 hh)),rfl⟩
theorem qcs(T:List Tok):∀ (f:Nat) (acc:List (List UInt8)) (i op:Nat),qc2 T (isTok T i [qkt]) i op (qcA T f acc i op)
 |0,_,_,_=>by rw[qcA];exact qbY
 |f+1,acc,i,op=>by
  rw[qcA];split
  rename_i h
  have:=qaH h
  exact qaL (qco T f (i+1) op) λv i' _ h1 h2 h3=>qaL (qaF (qbg T [59] i' op)) λu i2 _ g1 g2 g3=>
   (qcs T f _ i2 op).from (by omega) (λ_=>.inl (by omega)) (λ_=>g3 (h3 (by omega)))
  rename_i h
  exact qaF ⟨by omega,λhh=>absurd hh h,λh=>h,rfl⟩
def Ends{A:Type}(r:OR A):Prop:=∃ q,r=some q
theorem qas{A B:Type}{r:OR A}{f:A->Nat->Nat->OR B}(h:Ends r)(k:∀ v i op,r=some (.ok v i op)->Ends (f v i op)):Ends (qaD r f):=by
 obtain⟨q,rfl⟩:=h
 cases q with
 |ok v i op=>exact k v i op rfl
 |err l e=>exact⟨_,rfl⟩
theorem qar{A:Type}{r:Res A}:Ends (some r):=⟨_,rfl⟩
theorem qcM{B:Type}{T:List Tok}{x:List UInt8}{i op:Nat}{g:Unit->Nat->Nat->OR B}(k:i<T.length->op<100->Ends (g () (i+1) (op+1))):Ends (qaD (some (qbW T x i op)) g):=
 qas qar λv i1 op1 h1=>by
  injection h1 with h1;obtain⟨rfl,rfl,ho,hi⟩:=qbC h1;exact k hi ho
theorem qsm(T:List Tok):∀ f:Nat,(∀ k i op,k<=6->i<=T.length->10 * (T.length-i)+20-k<=f->Ends (eLev T f k i op))/\(∀ k e i op,k<=5->i<=T.length->10 * (T.length-i)+11<=f->Ends (qdG T f k e i op)) /\
  (∀ i op,i<=T.length->10 * (T.length-i)+13<=f->Ends (qb6 T f i op))/\(∀ i op,i<=T.length->10 * (T.length-i)+12<=f->Ends (qel T f i op))/\(∀ i op,i<=T.length->10 * (T.length-i)+11<=f->Ends (qci T f i op)) /\
  (∀ i op,i<=T.length->10 * (T.length-i)+12<=f->Ends (qee T f i op))/\(∀ acc i op,i<=T.length->10 * (T.length-i)+21<=f->Ends (qaP T f acc i op))
 |0=>⟨λ_ _ _ _ _ _=>by omega,λ_ _ _ _ _ _ _=>by omega,λ_ _ _ _=>by omega,λ_ _ _ _=>by omega,λ_ _ _ _=>by omega,λ_ _ _ _=>by omega,λ_ _ _ _ _=>by omega⟩
 |f+1=>by
  obtain⟨hL,hO,hU,hP,hI,hA,hB⟩:=qsm T f;obtain⟨gL,gO,gU,gP,gI,gA,gB⟩:=qcU T f
  have neg:∀ (x nm:List UInt8) (i op:Nat),10 * (T.length-i)+13<=f+1->Ends (qaD (some (qbW T x i op)) λ_ i' op'=>qaD (qb6 T f i' op') λe i' op'=>some (.ok (Ex.mk nm 0 [] [e]) i' (op'-1))):=λx nm i op hf=>
   qcM λhi ho=>qas (hU _ _ (by omega) (by omega)) λv i2 op2 _=>qar
  refine⟨λk i op hk hi hf=>?_,λk e i op hk hi hf=>?_,λi op hi hf=>?_,λi op hi hf=>?_,λi op hi hf=>?_,λi op hi hf=>?_,λacc i op hi hf=>?_⟩;rw[eLev];split;exact hU i op hi (by omega);refine qas (hL (k+1) i op (by omega) hi (by omega)) λv i' op' h=>?_;obtain⟨g1,g2,g3,rfl⟩:=gL (k+1) i op _ h;have:=g2 rfl;exact hO k v i' op' (by omega) (g3 hi) (by have:=g3 hi;omega);rw[qdG];split
  rename_i h
  have:=qaH h;refine qas (hL (k+1) (i+1) op (by omega) (by omega) (by omega)) λv i' op' h=>?_;obtain⟨g1,g2,g3,rfl⟩:=gL (k+1) (i+1) op _ h;have:=g3 (by omega);split;exact qar;exact hO k _ i' op' hk this (by omega);exact qar;rw[qb6];split;exact neg _ _ _ _ hf;split;exact neg _ _ _ _ hf;exact hP i op hi (by omega);rw[qel];split;exact qcM λhlt ho=>qas (hL 0 _ _ (by omega) (by omega) (by omega)) λv i2 op2 _=>qas qar λ_ _ _ _=>qar;split;exact qas qar λ_ _ _ _=>qar;refine qas qar λv i' op' h=>?_;injection h with h;have hg:=qbK T 2 i op;rw[h] at hg;obtain⟨h1,h2,h3,rfl⟩:=hg;have:=h2 rfl;have:=h3 hi;split;exact qas (hI i' _ (by omega) (by omega)) λ_ _ _ _=>qar;split;exact qas (hA i' _ (by omega) (by omega)) λ_ _ _ _=>qar;exact qar;rw[qci];exact qcM λhlt ho=>qas (hL 0 _ _ (by omega) (by omega) (by omega)) λv i2 op2 _=>qas qar λ_ _ _ _=>qar;rw[qee];exact qcM λhlt ho=>qas (hB [] _ _ (by omega) (by omega)) λv i2 op2 _=>qas qar λ_ _ _ _=>qar;rw[qaP];split;exact qar;refine qas qar λv i' op' h=>?_
  have hg:i<=i'/\i'<=T.length:=by
   injection h with h;split at h;cases h;exact⟨zNr _,hi⟩;have hg:=qbg T [44] i op;rw[h] at hg;exact⟨hg.1,hg.2.2.1 hi⟩
  refine qas (hL 0 i' op' (by omega) hg.2 (by omega)) λv2 i2 op2 h2=>?_;obtain⟨g1,g2,g3,rfl⟩:=gL 0 i' op' _ h2;have:=g2 rfl;have:=g3 hg.2;exact hB _ i2 _ this (by omega)
theorem qrr(T:List Tok):∀ f:Nat,(∀ i op,i<=T.length->10 * (T.length-i)+5<=f->Ends (qck T f i op))/\(∀ acc i op,i<=T.length->10 * (T.length-i)+14<=f->Ends (qbQ T f acc i op)) /\
  (∀ i op,i<=T.length->10 * (T.length-i)+13<=f->Ends (qej T f i op))/\(∀ i op,i<=T.length->10 * (T.length-i)+12<=f->Ends (qbI T f i op))
 |0=>⟨λ_ _ _ _=>by omega,λ_ _ _ _ _=>by omega,λ_ _ _ _=>by omega,λ_ _ _ _=>by omega⟩
 |f+1=>by
  obtain⟨hB,hL,hS,hM⟩:=qrr T f;obtain⟨eL,_,_,_,eI,eA,_⟩:=qsm T f;obtain⟨gL,_,_,_,gI,gA,_⟩:=qcU T f;obtain⟨kB,kL,kS,kM⟩:=qgD T f;refine⟨λi op hi hf=>?_,λacc i op hi hf=>?_,λi op hi hf=>?_,λi op hi hf=>?_⟩;rw[qck];exact qcM λhlt ho=>qas (hL [] _ _ (by omega) (by omega)) λv i2 op2 _=>qas qar λ_ _ _ _=>qar;rw[qbQ];split;exact qar;refine qas (hS i op hi (by omega)) λv i' op' h=>?_;obtain⟨g1,g2,g3,rfl⟩:=kS i op _ h;have:=g2 rfl;have:=g3 hi;exact hL _ i' _ (by omega) (by omega);rw[qej];split
  rename_i h
  have:=qaH h;refine qas (eL 0 (i+1) op (by omega) (by omega) (by omega)) λv i' op' h=>?_;obtain⟨g1,g2,g3,rfl⟩:=gL 0 (i+1) op _ h;have:=g2 rfl;have:=g3 (by omega);refine qas (hB i' _ (by omega) (by omega)) λv2 i2 op2 h2=>?_;obtain⟨q1,q2,q3,rfl⟩:=kB i' _ _ h2;have:=q3 (by omega);split
  rename_i h4
  have:=qaH h4;exact qas (hB (i2+1) _ (by omega) (by omega)) λ_ _ _ _=>qar;exact qar;split
  rename_i h
  have:=qaH h;refine qas (eL 0 (i+1) op (by omega) (by omega) (by omega)) λv i' op' h=>?_;obtain⟨g1,g2,g3,rfl⟩:=gL 0 (i+1) op _ h;have:=g2 rfl;have:=g3 (by omega);exact qas (hB i' _ (by omega) (by omega)) λv2 i2 op2 h2=>qar;exact qas (hM i op hi (by omega)) λ_ _ _ _=>qas qar λ_ _ _ _=>qar;rw[qbI];split
  rename_i h
  have:=qaH h;exact qas (eL 0 (i+1) op (by omega) (by omega) (by omega)) λ_ _ _ _=>qar;split;exact qar;refine qas qar λv i' op' h=>?_;injection h with h;have hg:=qbK T 2 i op;rw[h] at hg;obtain⟨h1,h2,h3,rfl⟩:=hg;have:=h2 rfl;have:=h3 hi;split;exact qas (eA i' _ (by omega) (by omega)) λ_ _ _ _=>qar
  have tail:∀ (i2 op2:Nat) (g:Ex->Sm),i'<=i2->i2<=T.length->Ends (qaD (some (qdu T [61] i2 op2)) λ_ i' op'=>qaD (eLev T f 0 i' op') λe i' op'=>some (.ok (g e) i' op')):=λi2 op2 g hi1 hi2=>by
   refine qas qar λv i3 op3 h3=>?_;injection h3 with h3;have hg:=qbg T [61] i2 op2;rw[h3] at hg;have:=hg.2.2.1 hi2;have:=hg.1;exact qas (eL 0 i3 _ (by omega) (by omega) (by omega)) λ_ _ _ _=>qar
  split;refine qas (eI i' _ (by omega) (by omega)) λv2 i2 op2 h2=>?_;obtain⟨q1,q2,q3,rfl⟩:=gI i' _ _ h2;exact tail i2 _ _ q1 (q3 (by omega));exact tail i' _ _ (zNr _) (by omega)
theorem qfK(T:List Tok):∀ (f:Nat) (acc:List (List UInt8)) (i op:Nat),i<=T.length->T.length-i+1<=f->Ends (qaR T f acc i op)
 |0,_,_,_,_,h=>by omega
 |f+1,acc,i,op,hi,hf=>by
  rw[qaR];split
  rename_i h
  have:=qaH h;refine qas qar λv i' op' h=>?_;injection h with h;have hg:=qbK T 2 (i+1) op;rw[h] at hg;obtain⟨h1,h2,h3,rfl⟩:=hg;exact qfK T f _ i' _ (h3 (by omega)) (by have:=h3 (by omega);omega);exact qar
theorem qj0(T:List Tok)(f i op:Nat)(hi:i<=T.length)(hf:T.length-i+1<=f):Ends (qeo T f i op):=
 qas qar λv i' op' h=>by
  injection h with h;have hg:=qbK T 2 i op;rw[h] at hg;obtain⟨h1,h2,h3,rfl⟩:=hg;exact qfK T f _ i' _ (h3 hi) (by have:=h3 hi;omega)
theorem qh9(T:List Tok):∀ (f:Nat) (acc:List (List UInt8)) (i op:Nat),i<=T.length->T.length-i+2<=f->Ends (qcA T f acc i op)
 |0,_,_,_,_,h=>by omega
 |f+1,acc,i,op,hi,hf=>by
  rw[qcA];split
  rename_i h
  have:=qaH h;refine qas (qj0 T f (i+1) op (by omega) (by omega)) λv i' op' h=>?_;obtain⟨g1,g2,g3,rfl⟩:=qco T f (i+1) op _ h;have:=g3 (by omega);refine qas qar λv i2 op2 h2=>?_;injection h2 with h2;have hg:=qbg T [59] i' op';rw[h2] at hg;obtain⟨h1,h2,h3,rfl⟩:=hg;have:=h3 (by omega);exact qh9 T f _ i2 _ (by omega) (by omega);exact qar
theorem qk7{B:Type}{T:List Tok}{k:Int}{i op:Nat}{g:List UInt8->Nat->Nat->OR B}(h:∀ s,i<T.length->Ends (g s (i+1) op)):Ends (qaD (some (qc9 T k i op)) g):=
 qas qar λv i' op' hw=>by
  injection hw with hw;unfold qc9 at hw;split at hw
  rename_i t ht
  have:=qjK ht;split at hw;cases hw;exact h _ this;cases hw;cases hw
theorem qtp{B:Type}{T:List Tok}{x:List UInt8}{i op:Nat}{g:Unit->Nat->Nat->OR B}(h:i<T.length->Ends (g () (i+1) (op-1))):Ends (qaD (some (sEnd T x i op)) g):=
 qas qar λv i' op' hw=>by
  injection hw with hw;obtain⟨rfl,rfl,hlt⟩:=qgH hw;exact h hlt
theorem qqu(T:List Tok)(f i op:Nat)(hi:i<=T.length)(hf:10 * (T.length-i)+14<=f):Ends (qgm T f i op):=by
 unfold qgm;refine qk7 λs h1=>qcM λh2 h3=>qas ?_ λv i2 op2 h4=>qtp λh5=>qcM λh6 h7=>qas (qh9 T f [] _ _ (by omega) ?_) λv2 i3 op3 h8=>qas ((qrr T f).2.1 [] _ _ ?_ ?_) λv3 i4 op4 h9=>qas qar λ_ _ _ _=>qar;split;exact qar;exact qj0 T f _ _ (by omega) (by omega)
 have:i+1+1<=i2:=by
  split at h4;cases h4;omega;exact(qco T f _ _ _ h4).1
 omega;exact(qcs T f _ _ _ _ h8).2.2.1 (by omega)
 have:i+1+1<=i2:=by
  split at h4;cases h4;omega;exact(qco T f _ _ _ h4).1
 have:=(qcs T f _ _ _ _ h8).1;omega
theorem qeD(T:List Tok)(f i op:Nat):qc2 T true i op (qgm T f i op):=by
 intro q hq0;unfold qgm at hq0
 cases q with
 |err l e=>trivial
 |ok v i9 op9=>
  rcases qay hq0 with⟨s,i1,op1,h1,hq1⟩|⟨l,e,_,h⟩;injection h1 with h1;have g1:=qbK T 2 i op;rw[h1] at g1;obtain⟨a1,a2,a3,rfl⟩:=g1;have:=a2 rfl;rcases qay hq1 with⟨_,i2,op2,h2,hq2⟩|⟨l,e,_,h⟩;injection h2 with h2;obtain⟨rfl,rfl,b1,b2⟩:=qbC h2;rcases qay hq2 with⟨ps,i3,op3,h3,hq3⟩|⟨l,e,_,h⟩
  have c:i1+1<=i3/\(i1+1<=T.length->i3<=T.length)/\op3=op1+1:=by
   split at h3;cases h3;exact⟨zNr _,λh=>h,rfl⟩;obtain⟨c1,_,c3,c4⟩:=qco T f _ _ _ h3;exact⟨c1,c3,c4⟩
  obtain⟨c1,c2,rfl⟩:=c;rcases qay hq3 with⟨_,i4,op4,h4,hq4⟩|⟨l,e,_,h⟩;injection h4 with h4;obtain⟨rfl,rfl,d1⟩:=qgH h4;rcases qay hq4 with⟨_,i5,op5,h5,hq5⟩|⟨l,e,_,h⟩;injection h5 with h5;obtain⟨rfl,rfl,e1,e2⟩:=qbC h5;rcases qay hq5 with⟨ls,i6,op6,h6,hq6⟩|⟨l,e,_,h⟩;obtain⟨f1,_,f3,rfl⟩:=qcs T f _ _ _ _ h6;have:=f3 (by omega);rcases qay hq6 with⟨bs,i7,op7,h7,hq7⟩|⟨l,e,_,h⟩;obtain⟨k1,_,k3,rfl⟩:=(qgD T f).2.1 _ _ _ _ h7;have:=k3 (by omega);rcases qay hq7 with⟨_,i8,op8,h8,hq8⟩|⟨l,e,_,h⟩;injection h8 with h8;obtain⟨rfl,rfl,m1⟩:=qgH h8;cases hq8;exact⟨by omega,λ_=>by omega,λ_=>by omega,by omega⟩;cases h;cases h;cases h;cases h;cases h;cases h;cases h;cases h
theorem qd3(T:List Tok)(i op:Nat):qc2 T true i op (qeC T i op):=by
 intro q hq0;unfold qeC at hq0
 cases q with
 |err l e=>trivial
 |ok v i9 op9=>
  rcases qay hq0 with⟨s,i1,op1,h1,hq1⟩|⟨l,e,_,h⟩;injection h1 with h1;have g1:=qbK T 2 i op;rw[h1] at g1;obtain⟨a1,a2,a3,rfl⟩:=g1;have:=a2 rfl;rcases qay hq1 with⟨_,i2,op2,h2,hq2⟩|⟨l,e,_,h⟩;injection h2 with h2;obtain⟨rfl,rfl,b1,b2⟩:=qbC h2;rcases qay hq2 with⟨ps,i3,op3,h3,hq3⟩|⟨l,e,_,h⟩;injection h3 with h3;have g3:=qfS T (i1+1) (op1+1);rw[h3] at g3;obtain⟨c1,c2,c3,rfl⟩:=g3;have:=c2 rfl;rcases qay hq3 with⟨_,i4,op4,h4,hq4⟩|⟨l,e,_,h⟩;injection h4 with h4;obtain⟨rfl,rfl,d1⟩:=qgH h4;rcases qay hq4 with⟨_,i5,op5,h5,hq5⟩|⟨l,e,_,h⟩;injection h5 with h5;have g5:=qbg T [59] (i3+1) op4;rw[h5] at g5;obtain⟨e1,e2,e3,rfl⟩:=g5;have:=e2 rfl;have:=e3 (by omega);cases hq5;exact⟨by omega,λ_=>by omega,λ_=>by omega,by omega⟩;cases h;cases h;cases h;cases h;cases h
theorem qoe(T:List Tok)(i op:Nat):Ends (qeC T i op):=by
 unfold qeC;exact qk7 λs _=>qcM λ_ _=>qas qar λ_ _ _ _=>qas qar λ_ _ _ _=>qas qar λ_ _ _ _=>qar
theorem qdU(T:List Tok):∀ (f:Nat) (p:Pr) (i op:Nat),i<=T.length->10 * (T.length-i)+20<=f->Ends (qcN T f p i op)
 |0,_,_,_,_,h=>by omega
 |f+1,p,i,op,hi,hf=>by
  rw[qcN];split;exact qar;split
  rename_i h
  have:=qaH h;refine qas (qh9 T f _ i op hi (by omega)) λv i' op' h2=>?_;obtain⟨g1,g2,g3,rfl⟩:=qcs T f _ i op _ h2;have:=g2 h;have:=g3 hi;exact qdU T f _ i' _ (by omega) (by omega);split
  rename_i h
  have:=qaH h;refine qas (qoe T _ _) λv i' op' h2=>?_;obtain⟨g1,g2,g3,rfl⟩:=qd3 T _ _ _ h2;have:=g3 (by omega);exact qdU T f _ i' _ (by omega) (by omega);split
  rename_i h
  have:=qaH h;refine qas (qqu T f _ _ (by omega) (by omega)) λv i' op' h2=>?_;obtain⟨g1,g2,g3,rfl⟩:=qeD T f _ _ _ h2;have:=g3 (by omega);exact qdU T f _ i' _ (by omega) (by omega);exact qar
open Go.Lib
theorem ql9(M:Nat):∀ (l r:List UInt8) (acc u:Nat),parseUintM M acc l=.ok u->parseUintM M acc (l++r)=parseUintM M u r
 |[],r,acc,u,h=>by
  rw[parseUintM] at h;cases h
  rfl
 |c::l,r,acc,u,h=>by
  rw[parseUintM] at h;rw[List.cons_append,parseUintM];split at h
  rename_i hc
  rw[zp hc];split at h;cases h
  rename_i h1
  rw[zn h1];split at h;cases h
  rename_i h2
  rw[zn h2];exact ql9 M l r _ u h;cases h
theorem qkf{d:Nat}(h:d<10):(UInt8.ofNat (48+d)).toNat=48+d:=by
 rw[UInt8.toNat_ofNat'];omega
theorem qyc(M:Nat)(hM:M<=4294967295)(u:Nat)(hu:u<=M):parseUintM M 0 (decDigits u)=.ok u:=by
 induction u using Nat.strongRecOn with
 |_ u ih=>
  have one:∀ a d,d<10->a * 10+d<=M->parseUintM M a [UInt8.ofNat (48+d)]=.ok (a * 10+d):=λa d hd ha=>by
   rw[parseUintM,qkf hd,zp (by omega),zn (by omega),zn (by omega),parseUintM];congr 1;omega
  rw[decDigits];split;have:=one 0 u (by assumption) (by omega);simpa using this;rw[ql9 M _ _ 0 (u / 10) (ih (u / 10) (by omega) (by omega)),one _ _ (by omega) (by omega)];congr 1;omega
theorem qcq(u:Nat):decDigits u≠[]:=by
 rw[decDigits];split <;> simp
theorem qlZ(u:Nat)(hu:u<4294967296):parseUintB 32 (decDigits u)=.ok u:=by
 rw[parseUintB,zn (qcq u)];exact qyc _ zDd u (by omega)
theorem qf1:∀ (k u:Nat),u<10 ^ (k+1)->nDigits u<=k+1
 |0,u,h=>by rw[nDigits_small (by simpa using h)];omega
 |k+1,u,h=>by
  by_cases hu:u<10
  rw[nDigits_small hu];omega;rw[nDigits_big hu];have:=qf1 k (u / 10) (by rw[Nat.pow_succ] at h;omega);omega
theorem qhX{u:Nat}(hu:u<4294967296):(decDigits u).length<=10:=by
 rw[decDigits_length];exact qf1 9 u (by omega)
theorem qnu{l:List UInt8}{u:Nat}(h:parseUintB 32 l=.ok u):u<4294967296:=by
 have key:∀ (l:List UInt8) (acc u:Nat),acc<=4294967295->parseUintM 4294967295 acc l=.ok u->u<=4294967295:=by
  intro l
  induction l with
  |nil=>intro acc u ha h;rw[parseUintM] at h;cases h;exact ha
  |cons c l ih=>
   intro acc u ha h;rw[parseUintM] at h;split at h;split at h;cases h;split at h;cases h;exact ih _ _ (by omega) h;cases h
 rw[parseUintB] at h;split at h;cases h;have:=key _ _ _ (by omega) h;omega
def qw8(t:Tok):Prop:=t.text.length<=100/\(t.kind=1->∃ u,u<4294967296/\parseUintB 32 t.text=.ok u/\t.text=decDigits u)
theorem qoz(s:List UInt8)(h:(qaw s).2.2=0):qw8 (qaw s).1:=by
 match s with
 |[]=>simp[qaw,qcb] at h
 |c::r=>
  simp only[qaw] at h ⊢;split at h <;> rename_i hc;rw[zp hc];unfold qdq at h ⊢;split at h;simp[qcb] at h
  rename_i hw
  rw[zn hw];split at h
  rename_i u hu
  have hlt:=qnu hu;exact⟨by have:=qhX hlt;simp only;omega,λ_=>⟨u,hlt,qlZ u hlt,rfl⟩⟩;simp[qcb] at h;rw[zn hc];split at h <;> rename_i hl;rw[zp hl];unfold qfF at h ⊢;split at h;simp[qcb] at h
  rename_i hw
  rw[zn hw];refine⟨by simp only;omega,λhk=>?_⟩;simp only at hk;split at hk <;> cases hk;rw[zn hl];split at h <;> rename_i hq;rw[zp hq];unfold qcr at h ⊢;split at h;split at h;simp[qcb] at h
  rename_i hx
  rename_i heq
  rename_i b _ _
  rw[zn hx];have hb:b.toNat<4294967296:=Nat.lt_trans (UInt8.toNat_lt b) zDd;exact⟨by have:=qhX hb;simp only;omega,λ_=>⟨b.toNat,hb,qlZ _ hb,rfl⟩⟩;simp[qcb] at h;rw[zn hq];unfold qgx at h ⊢;split at h
  rename_i x hx
  have h2:=List.mem_of_find?_eq_some hx;have:∀ x∈qcO,x.length<=100:=by decide
  exact⟨this x h2,λhk=>by cases hk⟩;simp[qcb] at h
theorem qyd{A B:Type}{f:A->B}{r:Except (Int×Int) A}{b:B}(h:r.map f=.ok b):∃ a,r=.ok a/\f a=b:=by
 cases r with
 |ok a=>exact⟨a,rfl,by injection h⟩
 |error e=>cases h
theorem qn5:∀ (f:Nat) (s:List UInt8) (line:Int) (T:List Tok),lexP f s line=.ok T->T.length<=f/\∀ t∈T,qw8 t
 |0,s,line,T,h=>by
  rw[lexP] at h;cases h
  exact⟨zNr _,by simp⟩
 |f+1,s,line,T,h=>by
  rw[lexP] at h;split at h;cases h;exact⟨zero_le _,by simp⟩;split at h;split at h;cases h
  rename_i he
  obtain⟨T',h1,rfl⟩:=qyd h;obtain⟨k1,k2⟩:=qn5 f _ _ _ h1;refine⟨by rw[zLc];omega,λt ht=>?_⟩;rcases zMi.1 ht with rfl|ht;exact qoz s (by omega);exact k2 t ht;obtain⟨k1,k2⟩:=qn5 f _ _ _ h;exact⟨by omega,k2⟩
abbrev Wd:=List UInt8
def numW(w:Wd):Option Nat:=match Go.Lib.parseUintB 32 w with
 |.ok u=>if Go.Lib.decDigits u=w then some u else none
 |_=>none
def qkd(s:Wd):Bool:=match s with
 |[]=>false
 |c::r=>decide (s.length<=40) && qaV c && s.all qaW
def defW(w:Wd):Option Wd:=if w.getLast? = some 58/\qkd w.dropLast=true then some w.dropLast else none
def refW(w:Wd):Option Wd:=match w with
 |[]=>none
 |c::r=>if c=38/\qkd r=true then some r else none
def wdAt(l:List Wd)(i:Nat):Wd:=(l[i]?).getD []
def qd7(a:Nat)(op:Wd)(b:Nat):Option Nat:=
 if op=[43] then some ((a+b) % 4294967296)
 else if op=[45] then some ((a+4294967296-b) % 4294967296)
 else if op=[42] then some (a * b % 4294967296)
 else if op=[94] then some (a ^^^ b)
 else if op=[60] then some (if a<b then 1 else 0)
 else if op=[47] then (if b=0 then none else some (a / b))
 else if op=[37] then (if b=0 then none else some (a % b))
 else none
def qa2(x op y:Wd):Option Wd:=match numW x,numW y with
 |some a,some b=>match qd7 a op b with
  |some c=>if (Go.Lib.decDigits c).length<=x.length+y.length+1 then some (Go.Lib.decDigits c) else none
  |none=>none
 |_,_=>none
def qdd(v:List Wd)(i:Nat):Option Wd:=match refW (wdAt v i) with
 |some l=>if wdAt v (i+1)=[63] then some l else none
 |none=>none
abbrev qeZ:=Nat×List Wd
def qhE(v:List Wd):qeZ:=match qa2 (wdAt v 0) (wdAt v 2) (wdAt v 1) with
 |some s=>(3,[s])
 |none=>(0,[])
def qcV(v:List Wd):qeZ:=
 if wdAt v 0=[48]/\(wdAt v 1=[43]∨wdAt v 1=[45]∨wdAt v 1=[94])∨wdAt v 0=[49]/\(wdAt v 1=[42]∨wdAt v 1=[47]) then (2,[]) else (0,[])
def qcy(v:List Wd):qeZ:=
 if (wdAt v 1=[43]∨wdAt v 1=[42]∨wdAt v 1=[94])/\wdAt v 3=wdAt v 1 then
  (match qa2 (wdAt v 0) (wdAt v 1) (wdAt v 2) with
  |some s=>(4,[s,wdAt v 1])
  |none=>(0,[]))
 else (0,[])
def qiE(v:List Wd):qeZ:=if (numW (wdAt v 0)).isSome=true/\wdAt v 1=[64]/\wdAt v 2=wdAt v 0/\wdAt v 3=[33] then (4,[]) else (0,[])
def qdx(v:List Wd):qeZ:=if (qdd v 4).isSome=true/\wdAt v 0=[49]/\wdAt v 1=[60]/\wdAt v 2=[49]/\wdAt v 3=[60] then (6,[wdAt v 4,wdAt v 5]) else (0,[])
def qeV(v:List Wd):qeZ:=match numW (wdAt v 0) with
 |some n=>if n≠0/\(qdd v 1).isSome=true then (3,[]) else (0,[])
 |none=>(0,[])
def qf0(l:Wd):List Wd->Bool
 |[]=>false
 |w::r=>match defW w with
  |some d=>decide (d=l) || qf0 l r
  |none=>false
def qhN(v:List Wd):qeZ:=match qdd v 1 with
 |some l=>if wdAt v 0=[48]/\qf0 l (v.drop 3)=true then (3,[]) else (0,[])
 |none=>(0,[])
def qcv(v:List Wd):Nat:=if (qdd v 1).isSome=true/\wdAt v 0=[48] then 3 else if wdAt v 0=[59]∨wdAt v 0=[36] then 1 else 0
def qbV(v:List Wd):Nat:=(v.takeWhile λw=>(defW w).isNone).length
def qiB(v:List Wd):qeZ:=if 0<qcv v/\0<qbV (v.drop (qcv v)) then (qcv v+qbV (v.drop (qcv v)),v.take (qcv v)) else (0,[])
def qcB(used:Wd->Bool)(v:List Wd):qeZ:=match defW (wdAt v 0) with
 |some l=>if used l=true then (0,[]) else (1,[])
 |none=>(0,[])
def qa3(used:Wd->Bool)(v:List Wd):qeZ:=
 if (qhE v).1≠0 then qhE v else if (qcV v).1≠0 then qcV v else if (qcy v).1≠0 then qcy v else if (qiE v).1≠0 then qiE v else if (qdx v).1≠0 then qdx v else
 if (qeV v).1≠0 then qeV v else if (qhN v).1≠0 then qhN v else if (qiB v).1≠0 then qiB v else qcB used v
def qcC(used:Wd->Bool):Nat->List Wd->List Wd
 |0,_=>[]
 |_+1,[]=>[]
 |f+1,w::r=>if (qa3 used (w::r)).1=0 then w::qcC used f r else (qa3 used (w::r)).2++qcC used f ((w::r).drop (qa3 used (w::r)).1)
def qaN(l:List Wd)(s:Wd):Bool:=l.any λw=>decide (refW w=some s)
def qei(l:List Wd):List Wd:=qcC (qaN l) l.length l
theorem qbU{v:List Wd}{i:Nat}(h:wdAt v i≠[]):i<v.length:=by
 rcases Nat.lt_or_ge i v.length with h1|h1;exact h1;exact absurd (by simp[wdAt,List.getElem?_eq_none h1]) h
theorem qsi{w:Wd}{n:Nat}(h:numW w=some n):w≠[]:=by
 rintro rfl;have:numW []=none:=by decide +kernel
 rw[this] at h;cases h
theorem qcF{v:List Wd}{i:Nat}{l:Wd}(h:qdd v i=some l):i+1<v.length:=by
 unfold qdd at h;split at h;split at h
 rename_i h2
 exact qbU (by rw[h2];decide);cases h;cases h
theorem qwR{a b:Nat}{op:Wd}{c:Nat}(h:qd7 a op b=some c):op≠[]:=by
 rintro rfl;have:qd7 a [] b=none:=rfl;rw[this] at h;cases h
theorem qcR{x op y s:Wd}(h:qa2 x op y=some s):x≠[]/\op≠[]/\y≠[]:=by
 unfold qa2 at h;split at h
 rename_i a b ha hb
 split at h
 rename_i c hc
 exact⟨qsi ha,qwR hc,qsi hb⟩;cases h;cases h
def qfG(v:List Wd)(r:qeZ):Prop:=r.1≠0->r.1<=v.length/\r.2.length<r.1
theorem qbf(v:List Wd):qfG v (0,[]):=λh=>absurd rfl h
theorem qwY(v:List Wd):qfG v (qhE v):=by
 unfold qhE;split
 rename_i s h
 obtain⟨_,h2,_⟩:=qcR h;have:=qbU h2;exact λ_=>⟨by simp only;omega,by simp⟩;exact qbf v
theorem qqT(v:List Wd):qfG v (qcV v):=by
 unfold qcV;split
 rename_i h
 have:wdAt v 1≠[]:=by
  intro h0;rw[h0] at h;rcases h with⟨_,h|h|h⟩|⟨_,h|h⟩ <;> cases h
 have:=qbU this;exact λ_=>⟨by simp only;omega,by simp⟩;exact qbf v
theorem qqb(v:List Wd):qfG v (qcy v):=by
 unfold qcy;split
 rename_i h
 split
 rename_i s hs
 have h3:wdAt v 3≠[]:=by rw[h.2];exact(qcR hs).2.1
 have:=qbU h3;exact λ_=>⟨by simp only;omega,by simp⟩;exact qbf v;exact qbf v
theorem qvY(v:List Wd):qfG v (qiE v):=by
 unfold qiE;split
 rename_i h
 have:=qbU (v:=v) (i:=3) (by rw[h.2.2.2];decide);exact λ_=>⟨by simp only;omega,by simp⟩;exact qbf v
theorem qsB(v:List Wd):qfG v (qdx v):=by
 unfold qdx;split
 rename_i h
 obtain⟨l,hl⟩:=Option.isSome_iff_exists.1 h.1;have:=qcF hl;exact λ_=>⟨by simp only;omega,by simp⟩;exact qbf v
theorem qtJ(v:List Wd):qfG v (qeV v):=by
 unfold qeV;split;split
 rename_i h
 obtain⟨l,hl⟩:=Option.isSome_iff_exists.1 h.2;have:=qcF hl;exact λ_=>⟨by simp only;omega,by simp⟩;exact qbf v;exact qbf v
theorem qwZ(v:List Wd):qfG v (qhN v):=by
 unfold qhN;split
 rename_i l hl
 split;have:=qcF hl;exact λ_=>⟨by simp only;omega,by simp⟩;exact qbf v;exact qbf v
theorem qvM(v:List Wd):qcv v<=v.length:=by
 unfold qcv;split
 rename_i h
 obtain⟨l,hl⟩:=Option.isSome_iff_exists.1 h.1;have:=qcF hl;omega;split
 rename_i h
 have:=qbU (v:=v) (i:=0) (by rcases h with h|h <;> rw[h] <;> decide);omega;omega
theorem qwe(v:List Wd):qfG v (qiB v):=by
 unfold qiB;split
 rename_i h
 intro _;have h1:=qvM v;have h2:qbV (v.drop (qcv v))<=(v.drop (qcv v)).length:=(List.takeWhile_prefix _).length_le;rw[length_drop] at h2;simp only[length_take];omega;exact qbf v
theorem qsq(used:Wd->Bool)(v:List Wd):qfG v (qcB used v):=by
 unfold qcB;split
 rename_i l hl
 split;exact qbf v
 have:wdAt v 0≠[]:=by
  intro h0;rw[h0] at hl;cases hl
 have:=qbU this;exact λ_=>⟨by simp only;omega,by simp⟩;exact qbf v
theorem qft(used:Wd->Bool)(v:List Wd):qfG v (qa3 used v):=by
 unfold qa3;split;exact qwY v;split;exact qqT v;split;exact qqb v;split;exact qvY v;split;exact qsB v;split;exact qtJ v;split;exact qwZ v;split;exact qwe v;exact qsq used v
theorem qjF(used:Wd->Bool):∀ (f:Nat) (l:List Wd),(qcC used f l).length<=l.length
 |0,l=>zero_le _
 |f+1,[]=>zNr _
 |f+1,w::r=>by
  rw[qcC];split;have:=qjF used f r;simp only[zLc];omega
  rename_i h
  obtain⟨h1,h2⟩:=qft used (w::r) h;have:=qjF used f ((w::r).drop (qa3 used (w::r)).1);rw[length_drop] at this;rw[zLa];omega
end Go.Stele
