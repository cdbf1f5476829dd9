/- Texts joined: GlRules, Types, GlCall, LexSpec2, Lex1, ParSpec2, ParEq, ParEnc, GlDraw2, GlAcc, GlMap, GlSet, GlInts. -/
import Derived.Test.YtpbbgkoalnonoaaGreatDoorProg
import Derived.Lib.ParseIntB
import Derived.Lib.ItoaNum
import Derived.Laws.IdiomStrings
import Derived.Test.YtpbbgkoalnonoaaGreatDoorBRowCA1
set_option linter.unusedVariables false
set_option linter.unusedSimpArgs false
set_option maxRecDepth 100000
set_option maxHeartbeats 4000000
namespace Go.GL
open Go.RowKit
section pure
variable {C:Ctx} {e:Env} {H:Heap} {dst:Option Nat} {ty:TypeId} {pos:String} {aft:Array Edge} {g:Option (Nat×Bool)} {x y c a b:Operand} {xT:TypeId} {k:IntKind} {lv:LV}
theorem pM (hx:e.ev x=lv):Pure C ⟨dst,.move x,ty,pos,aft,g⟩ e H lv:=hx▸Pure.move
theorem pA (hx:e.ev x=lv):Pure C ⟨dst,.assign x,ty,pos,aft,g⟩ e H lv:=hx▸Pure.assign
theorem Pure.pickT (hc:e.ev c=bool true) (ha:e.ev a=lv):Pure C ⟨dst,.pick c a b,ty,pos,aft,g⟩ e H lv:=by
 have:=Pure.pick (C:=C) (H:=H) (dst:=dst) (ty:=ty) (pos:=pos) (aft:=aft) (g:=g) (a:=a) (b:=b) hc
 simp only[if_true] at this
 exact ha▸this
theorem Pure.pickF (hc:e.ev c=bool false) (hb:e.ev b=lv):Pure C ⟨dst,.pick c a b,ty,pos,aft,g⟩ e H lv:=by
 have:=Pure.pick (C:=C) (H:=H) (dst:=dst) (ty:=ty) (pos:=pos) (aft:=aft) (g:=g) (a:=a) (b:=b) hc
 simp only[Bool.false_eq_true,if_false] at this
 exact hb▸this
theorem Pure.ldRefAgg {t n:Nat} [TAgg C.P t n] {cs cs':List LV} (hx:e.ev x=.ref cs) (hn:Nat.ble n cs.length=true) (hc:cs.take n=cs'):Pure C ⟨dst,.load t x,ty,pos,aft,g⟩ e H (.agg cs'):=by
 subst hc;exact Pure.loadRefAgg hx (by simpa using hn)
theorem Pure.ldHAgg {t n:Nat} [TAgg C.P t n] {b off ty':Nat} {cs cs':List LV} (hx:e.ev x=ptr b off) (hm:(b,LObj.cells ty' cs)∈H) (hn:Nat.ble (off+n) cs.length=true) (hc:(cs.drop off).take n=cs') :
  Pure C ⟨dst,.load t x,ty,pos,aft,g⟩ e H (.agg cs'):=by
 subst hc;exact Pure.loadHAgg hx hm (by simpa using hn)
theorem xR {t el s:Nat} [ht:TSlice C.P t el s] {es:List LV} {n:Int} {el':LV} {cs:List LV} (hx:elems (e.ev x)=some es) (hy:e.ev y=int k n) (h0:0≤n) (hn:es[n.toNat]? = some el') (hc:el'.cells=cs) (hs:cs.length=s) :
  Pure C ⟨dst,.indexAddr t x y,ty,pos,aft,g⟩ e H (.ref cs):=by
 subst hc;exact Pure.indexAddr hx hy h0 hn hs
theorem Pure.field1 {s f n:Nat} [TField C.P s f n] {cs cs':List LV} (hx:e.ev x=.ref cs) (hc:cs.drop n=cs'):Pure C ⟨dst,.fieldAddr s x f,ty,pos,aft,g⟩ e H (.ref cs'):=by
 subst hc;exact Pure.fieldRef hx
theorem Pure.bld {t:TypeId} {pl:List (Nat×Nat)} {zs:List Value} [hs:TStruct C.P t pl] [hz:TZero C.P t zs] (parts:List (Nat×Operand)) {cs:List LV}
  (h:fillL pl (zs.map .atom) (parts.map fun p=>(p.1,e.ev p.2))=some cs):Pure C ⟨dst,.build t parts.toArray,ty,pos,aft,g⟩ e H (.agg cs):=Pure.build h
end pure
section steps
variable {C:Ctx} {e:Env} {H H':Heap} {dst:Option Nat} {op:Op} {ty:TypeId} {pos:String} {aft:Array Edge} {g:Option (Nat×Bool)} {x y:Operand} {K K':LV→Heap→Prop} {X:List PanicEntry→Heap→Prop}
theorem LStep.conseq {o:Oper} (h:LStep C o e H K X) (hk:∀ lv H',K lv H'→∃ lv' H'',lv.Sub lv'∧HSub H'' H'∧K' lv' H''):LStep C o e H K' X:=fun ρ w L h1 h2=>by
 have:=h ρ w L h1 h2
 have lf:∀ {w' v},Left C w L H w' v K→Left C w L H w' v K':=fun h=>by
  obtain ⟨lv,H',L',r1,r2,r3,r4⟩:=h
  obtain ⟨lv',H'',s1,s2,s3⟩:=hk _ _ r4
  exact ⟨lv',H'',L',r1.weak s2,r2.weak s2,s1 _ _ _ r3,s3⟩
 unfold StepOut at this ⊢
 split at this
 ·exact lf this
 ·exact lf this
 ·refine ⟨this.1,this.2.mono fun e w' he=>?_⟩
  cases e with
  |returned v=>exact lf he
  |panicked ch=>exact he
  |outgrown=>exact he
 ·exact this
 ·exact this.elim
theorem LStep.at1 {o:Oper} {p:Nat×LObj} {F:Heap} (hp:Pick p H F) (h:LStep C o e [p] (fun lv H'=>K lv (H'++F)) (fun ch H'=>X ch (H'++F))):LStep C o e H K X:=LStep.frame (H:=[p]) hp h
theorem LStep.at0 {o:Oper} (h:LStep C o e [] (fun lv H'=>K lv (H'++H)) (fun ch H'=>X ch (H'++H))):LStep C o e H K X:=LStep.frame (H:=[]) (List.Perm.refl _) h
theorem sA {t:TypeId} {zs:List Value} [hz:TZero C.P t zs] (hk:∀ b,K (ptr b 0) ((b,.cells t (zs.map .atom))::H)):LStep C ⟨dst,.alloc t,ty,pos,aft,g⟩ e H K X:=LStep.at0 (LStep.alloc hk)
theorem S.box {t:TypeId} {cs:List LV} (hx:(e.ev x).cells? = some cs) (hk:∀ b,K (ptr b 0) ((b,.cells t cs)::H)):LStep C ⟨dst,.box t x,ty,pos,aft,g⟩ e H K X:=LStep.at0 (LStep.box hx hk)
theorem sL {t el s:Nat} {zs:List Value} [ht:TSlice C.P t el s] [hz:TZero C.P el zs] (xs:List Operand) {es:List LV} (hes:xs.map e.ev=es) (hok:elemsOk s es) {len:Nat} {parts:List (Nat×Operand)} (hp:parts=(List.range xs.length).zip xs) (hlen:len=xs.length)
  (hsz:Nat.ble (len * s) 16777216=true) (hk:K (.list es) H):LStep C ⟨dst,.buildSlice t len parts.toArray,ty,pos,aft,g⟩ e H K X:=by
 subst hes
 refine LStep.at0 (LStep.conseq (K:=fun lv H'=>∃ b,lv=.app b len s (xs.map e.ev)) (LStep.buildSlice hok (by subst hlen;simpa using hsz) hp hlen fun b=>⟨b,rfl⟩) ?_)
 rintro lv H' ⟨b,rfl⟩
 exact ⟨_,[],LV.Sub.app _ _ _ _,HSub.nil _,hk⟩
theorem S.litA {t el s:Nat} {zs:List Value} [ht:TSlice C.P t el s] [hz:TZero C.P el zs] (xs:List Operand) {es:List LV} (hes:xs.map e.ev=es) (hok:elemsOk s es) {len:Nat} {parts:List (Nat×Operand)} (hp:parts=(List.range xs.length).zip xs) (hlen:len=xs.length)
  (hsz:Nat.ble (len * s) 16777216=true) (hk:∀ b,K (.app b len s es) ((b,.row (len * s))::H)):LStep C ⟨dst,.buildSlice t len parts.toArray,ty,pos,aft,g⟩ e H K X:=by
 subst hes
 exact LStep.at0 (LStep.buildSlice hok (by subst hlen;simpa using hsz) hp hlen fun b=>hk b)
theorem sS {t n:Nat} [ht:TSize C.P t n] {b off ty':Nat} {cs vs cs':List LV} {F:Heap} (hx:e.ev x=ptr b off) (hp:Pick (b,.cells ty' cs) H F) (hy:(e.ev y).cells? = some vs) (hn:vs.length=n) (hl:Nat.ble (off+n) cs.length=true) (hok:vs.all cellOk=true)
  (hc:setL cs off vs=cs') (hk:K (.atom undef) ((b,.cells ty' cs')::F)):LStep C ⟨dst,.store t x y,ty,pos,aft,g⟩ e H K X:=by
 subst hc
 exact LStep.at1 hp (LStep.store hx hy hn (by simpa using hl) hok hk)
theorem S.appNil {sT xT el s bytes:Nat} [ht:TSlice C.P sT el s] [hr:TRow C.P el s bytes] {e2 s2:Nat} [hx2:TSlice C.P xT e2 s2] {ms:List LV}
  (hx:e.ev x=nilSlice) (hy:elems (e.ev y)=some ms) (hne:ms≠[]) (hs:∀ v∈ms,v.cells.length=s) (hroom:ms.length * bytes≤140737488355328)
  (hk:∀ b cap,K (.app b cap s ms) ((b,.row (ms.length * s))::H)):LStep C ⟨dst,.call { callee:=.builtin .append,args:=#[x,y],argTypes:=#[sT,xT] },ty,pos,aft,g⟩ e H K X:=
 LStep.at0 (LStep.appendNil rfl ⟨e2,hx2.und⟩ hx hy hne hs hroom fun b cap=>hk b cap)
theorem S.app {sT xT el s bytes:Nat} [ht:TSlice C.P sT el s] [hr:TRow C.P el s bytes] {e2 s2:Nat} [hx2:TSlice C.P xT e2 s2] {b cap n:Nat} {es ms:List LV} {F:Heap}
  (hx:e.ev x=.app b cap s es) (hp:Pick (b,.row n) H F) (hn:n=es.length * s) (hy:elems (e.ev y)=some ms) (hs:∀ v∈ms,v.cells.length=s) (hok:(ms.flatMap LV.cells).all cellOk=true) (hroom:(es.length+ms.length) * bytes≤140737488355328)
  (hk:∀ b' cap',K (.app b' cap' s (es++ms)) ((b',.row ((es++ms).length * s))::F)):LStep C ⟨dst,.call { callee:=.builtin .append,args:=#[x,y],argTypes:=#[sT,xT] },ty,pos,aft,g⟩ e H K X:=
 LStep.at1 hp (LStep.appendApp rfl ⟨e2,hx2.und⟩ hx hn hy hs hok hroom fun b' cap'=>hk b' cap')
theorem S.appNilNil {sT xT el s:Nat} [ht:TSlice C.P sT el s] {e2 s2:Nat} [hx2:TSlice C.P xT e2 s2] (hx:e.ev x=nilSlice) (hy:elems (e.ev y)=some []) (hk:K nilSlice H) :
  LStep C ⟨dst,.call { callee:=.builtin .append,args:=#[x,y],argTypes:=#[sT,xT] },ty,pos,aft,g⟩ e H K X:=LStep.appendNilNil rfl ⟨e2,hx2.und⟩ hx hy hk
inductive Acc (s:Nat):LV→List LV→Heap→Heap→Prop
 |nil {F:Heap}:Acc s nilSlice [] F F
 |row {b cap:Nat} {es:List LV} {F:Heap}:Acc s (.app b cap s es) es ((b,.row (es.length * s))::F) F
theorem Acc.sub {s:Nat} {lv:LV} {es:List LV} {H F:Heap} (h:Acc s lv es H F):lv.Sub (.list es):=by
 cases h with
 |nil=>exact LV.Sub.nil
 |row=>exact LV.Sub.app _ _ _ _
theorem Acc.hsub {s:Nat} {lv:LV} {es:List LV} {H F:Heap} (h:Acc s lv es H F):HSub F H:=by
 cases h with
 |nil=>exact zhR _
 |row=>exact zhD (zhR _)
theorem Acc.elems {s:Nat} {lv:LV} {es:List LV} {H F:Heap} (h:Acc s lv es H F):GL.elems lv=some es:=by
 cases h <;> rfl
theorem S.acc {sT xT el s bytes:Nat} [ht:TSlice C.P sT el s] [hr:TRow C.P el s bytes] {e2 s2:Nat} [hx2:TSlice C.P xT e2 s2] {v:LV} {es ms:List LV} {F:Heap}
  (hx:e.ev x=v) (ha:Acc s v es H F) (hy:GL.elems (e.ev y)=some ms) (hs:∀ v∈ms,v.cells.length=s) (hok:(ms.flatMap LV.cells).all cellOk=true) (hroom:(es.length+ms.length) * bytes≤140737488355328)
  (hk:∀ v' H',Acc s v' (es++ms) H' F→K v' H'):LStep C ⟨dst,.call { callee:=.builtin .append,args:=#[x,y],argTypes:=#[sT,xT] },ty,pos,aft,g⟩ e H K X:=by
 cases ha with
 |nil=>
  by_cases hne:ms=[]
  ·subst hne
   exact S.appNilNil hx hy (hk _ _ (by simpa using Acc.nil))
  ·refine S.appNil hx hy hne hs (by simpa using hroom) fun b cap=>hk _ _ ?_
   exact Acc.row
 |row=>exact S.app hx pH rfl hy hs hok hroom fun b' cap'=>hk _ _ Acc.row
theorem S.call0 {f:FuncId} [TEnter C.P f] (args:List Operand) {ats:Array TypeId} {avs:List LV} {R:LRes→Heap→Prop} (has:args.map e.ev=avs)
  (hc:LCalls C f avs [] R) (hk:∀ v H',R (.ret v) H'→K v (H'++H)) (hx:∀ ch H',R (.panic ch) H'→X ch (H'++H)) :
  LStep C ⟨dst,.call { callee:=.value (.func f),args:=args.toArray,argTypes:=ats },ty,pos,aft,g⟩ e H K X:=by
 subst has
 exact LStep.at0 (LStep.call hc hk hx)
theorem S.call1 {f:FuncId} [TEnter C.P f] (args:List Operand) {ats:Array TypeId} {avs:List LV} {R:LRes→Heap→Prop} {p:Nat×LObj} {F:Heap} (has:args.map e.ev=avs) (hp:Pick p H F)
  (hc:LCalls C f avs [p] R) (hk:∀ v H',R (.ret v) H'→K v (H'++F)) (hx:∀ ch H',R (.panic ch) H'→X ch (H'++F)) :
  LStep C ⟨dst,.call { callee:=.value (.func f),args:=args.toArray,argTypes:=ats },ty,pos,aft,g⟩ e H K X:=by
 subst has
 exact LStep.at1 hp (LStep.call hc hk hx)
theorem S.callH {f:FuncId} [TEnter C.P f] (args:List Operand) {ats:Array TypeId} {avs:List LV} {R:LRes→Heap→Prop} {H1 F:Heap} (has:args.map e.ev=avs) (hp:H.Perm (H1++F))
  (hc:LCalls C f avs H1 R) (hk:∀ v H',R (.ret v) H'→K v (H'++F)) (hx:∀ ch H',R (.panic ch) H'→X ch (H'++F)) :
  LStep C ⟨dst,.call { callee:=.value (.func f),args:=args.toArray,argTypes:=ats },ty,pos,aft,g⟩ e H K X:=by
 subst has
 exact LStep.frame hp (LStep.call hc hk hx)
theorem S.callV {fo:Operand} {f:FuncId} [TEnter C.P f] {first caps:Array Value} (args:List Operand) {ats:Array TypeId} {avs:List LV} {R:LRes→Heap→Prop} {H1 F:Heap} (hf:e.ev fo=.atom (.func (.func f) first caps))
  (has:first.toList.map .atom++args.map e.ev++caps.toList.map .atom=avs) (hp:H.Perm (H1++F)) (hc:LCalls C f avs H1 R) (hk:∀ v H',R (.ret v) H'→K v (H'++F)) (hx:∀ ch H',R (.panic ch) H'→X ch (H'++F)) :
  LStep C ⟨dst,.call { callee:=.value fo,args:=args.toArray,argTypes:=ats },ty,pos,aft,g⟩ e H K X:=by
 subst has
 exact LStep.frame hp (LStep.callV hf hc hk hx)
end steps
section ret
variable {C:Ctx} {n:Nat} {e:Env} {H H':Heap} {R:LRes→Heap→Prop}
theorem rN:AllRes C n e H [] []:=trivial
theorem rC {r:ResultVar} {rs:List ResultVar} {v:LV} {vs:List LV} (h:ResIs C n e H r v) (k:AllRes C n e H rs vs):AllRes C n e H (r::rs) (v::vs):=⟨h,k⟩
theorem rR {rs:List ResultVar} {vs:List LV} (hd:e.ds=[]) (h:AllRes C n e H rs vs) (hH:HSub H' H) (hR:R (.ret (resLV vs)) H'):RetPost C n rs R .ret e H:=⟨hd,vs,H',h,hH,hR⟩
theorem rO {rs:List ResultVar} {vs:List LV} (hd:e.ds=[]) (h:AllRes C n e H rs vs) (hH:HSub H' H) (hR:R (.ret (resLV vs)) H'):RetPost C n rs R .normal e H:=⟨hd,vs,H',h,hH,hR⟩
theorem RetPost.panic {rs:List ResultVar} {ch:List PanicEntry} (hd:e.ds=[]) (hH:HSub H' H) (hR:R (.panic ch) H'):RetPost C n rs R (.panic ch) e H:=⟨hd,H',hH,hR⟩
theorem rA {a t k:Nat} [TAgg C.P t k] {b off ty':Nat} {cs:List LV} {lv:LV} (hx:e.s a=ptr b off) (hm:(b,LObj.cells ty' cs)∈H) (hn:Nat.ble (off+k) cs.length=true) (hs:(LV.agg ((cs.drop off).take k)).Sub lv):ResIs C n e H (.cell a t) lv:=fun ac w L hE hH=>by
 obtain ⟨xs,h1,h2⟩:=hH.cells hm
 have hl:=h2.length
 have hn':off+k≤cs.length:=by simpa using hn
 have hv:=hE.vals a
 rw[hx] at hv
 simp only[Rep] at hv
 refine ⟨.agg ((xs.drop off).take k).toArray,?_,hs _ _ _ (by simp only[Rep];exact ⟨_,rfl,(h2.drop off).take k⟩)⟩
 have hlen:((xs.drop off).take k).length=k:=by simp;omega
 simp only[readRes,hv,asAddr,Sem.run_bind,Sem.run_pure,Result.andThen_ok]
 exact loadVar_agg (t:=t) (w:=w) (b:=b) (off:=off) hlen (fun j y hy=>by
  rw[List.getElem?_take] at hy
  split at hy
  ·simpa [World.cell?,h1,List.getElem?_drop] using hy
  ·cases hy)
theorem ResIs.cellOne {a t:Nat} [TOne C.P t] {b off ty':Nat} {c lv:LV} {cs:List LV} (hx:e.s a=ptr b off) (hm:(b,LObj.cells ty' cs)∈H) (hc:cs[off]? = some c) (hs:c.Sub lv):ResIs C n e H (.cell a t) lv:=fun ac w L hE hH=>by
 obtain ⟨xs,h1,h2⟩:=hH.cells hm
 obtain ⟨v,h3,h4⟩:=h2.get hc
 have hv:=hE.vals a
 rw[hx] at hv
 simp only[Rep] at hv
 refine ⟨v,?_,hs _ _ _ h4⟩
 have hc':w.cell? ⟨b,off,none⟩=some v:=by simp[World.cell?,h1,h3]
 simp only[readRes,hv,asAddr,Sem.run_bind,Sem.run_pure,Result.andThen_ok]
 exact loadVar_one hc'
end ret
theorem zhr {H:Heap}:HSub H H:=zhR _
theorem zhn {H:Heap}:HSub [] H:=HSub.nil _
theorem zhp {p:Nat×LObj} {H:Heap}:HSub [p] (p::H):=zhP pH (HSub.nil _)
theorem zsr {v:LV}:v.Sub v:=LV.Sub.refl _
theorem zp1 {p a:Nat×LObj} {F:Heap}:Pick p (a::p::F) (a::F):=(pT pH)
theorem zp2 {p a b:Nat×LObj} {F:Heap}:Pick p (a::b::p::F) (a::b::F):=(pT (pT pH))
theorem zp3 {p a b c:Nat×LObj} {F:Heap}:Pick p (a::b::c::p::F) (a::b::c::F):=(pT (pT (pT pH)))
theorem zp4 {p a b c d:Nat×LObj} {F:Heap}:Pick p (a::b::c::d::p::F) (a::b::c::d::F):=(pT (pT (pT (pT pH))))
theorem zp5 {p a b c d e:Nat×LObj} {F:Heap}:Pick p (a::b::c::d::e::p::F) (a::b::c::d::e::F):=(pT (pT (pT (pT (pT pH)))))
theorem zp6 {p a b c d e f:Nat×LObj} {F:Heap}:Pick p (a::b::c::d::e::f::p::F) (a::b::c::d::e::f::F):=(pT (pT (pT (pT (pT (pT pH))))))
theorem zp7 {p a b c d e f g:Nat×LObj} {F:Heap}:Pick p (a::b::c::d::e::f::g::p::F) (a::b::c::d::e::f::g::F):=(pT (pT (pT (pT (pT (pT (pT pH)))))))
theorem zp8 {p a b c d e f g h:Nat×LObj} {F:Heap}:Pick p (a::b::c::d::e::f::g::h::p::F) (a::b::c::d::e::f::g::h::F):=(pT (pT (pT (pT (pT (pT (pT (pT pH))))))))
theorem zrt {C:Ctx} {n:Nat} {e:Env} {H:Heap} {t:Nat} {v:Value} (h:e.s t=.atom v):ResIs C n e H (.tmp t) (.atom v):=rT h (LV.Sub.refl _)
theorem zra {C:Ctx} {n:Nat} {e:Env} {H:Heap} {t:Nat} {v:Value} (h:e.s t=.atom v):AllRes C n e H [.tmp t] [.atom v]:=rC (rT h (LV.Sub.refl _)) rN
end Go.GL
namespace Go.Proofs.YtpbbgkoalnonoaaGreatDoor
open Go.GL
instance:TMixed Tryz.prog:=⟨by kernel_rfl⟩
instance:TSize Tryz.prog 3 1:=.of zk
instance:TOne Tryz.prog 3:=.of zk
instance:TKind Tryz.prog 3 .i64:=.of zk
instance:TZero Tryz.prog 3 [.int .i64 0]:=.of (v:=.int .i64 0) (n:=1) zk rfl rfl
instance:TRow Tryz.prog 3 1 8:=.of zk
instance:TOne Tryz.prog 4:=.of zk
instance:TKind Tryz.prog 5 .u8:=.of zk
instance:TZero Tryz.prog 5 [.int .u8 0]:=.of (v:=.int .u8 0) (n:=1) zk rfl rfl
instance:TRow Tryz.prog 5 1 1:=.of zk
instance:TSize Tryz.prog 9 1:=.of zk
instance:TOne Tryz.prog 9:=.of zk
instance:TStr Tryz.prog 9:=.of zk
instance:TZero Tryz.prog 9 [.string ⟨#[]⟩]:=.of (v:=.string ⟨#[]⟩) (n:=1) zk rfl rfl
instance:TRow Tryz.prog 9 1 16:=.of zk
instance:TSize Tryz.prog 22 1:=.of zk
instance:TOne Tryz.prog 22:=.of zk
instance:TSlice Tryz.prog 22 9 1:=.of zk
instance:TZero Tryz.prog 22 [.slice none 0 0]:=.of (v:=.slice none 0 0) (n:=1) zk rfl rfl
instance:TSize Tryz.prog 23 1:=.of zk
instance:TOne Tryz.prog 23:=.of zk
instance:TSlice Tryz.prog 23 56 2:=.of zk
instance:TSize Tryz.prog 24 1:=.of zk
instance:TOne Tryz.prog 24:=.of zk
instance:TSlice Tryz.prog 24 59 4:=.of zk
instance:TSize Tryz.prog 26 3:=.of zk
instance:TAgg Tryz.prog 26 3:=.of zk
instance:TField Tryz.prog 26 0 0:=.of zk
instance:TField Tryz.prog 26 1 1:=.of zk
instance:TField Tryz.prog 26 2 2:=.of zk
instance:TStruct Tryz.prog 26 [(0,1),(1,1),(2,1)]:=.of zk
instance:TZero Tryz.prog 26 [.slice none 0 0,.slice none 0 0,.slice none 0 0]:=.of (v:=.agg #[.slice none 0 0,.slice none 0 0,.slice none 0 0]) (n:=3) zk rfl rfl
instance:TSize Tryz.prog 28 3:=.of zk
instance:TAgg Tryz.prog 28 3:=.of zk
instance:TField Tryz.prog 28 0 0:=.of zk
instance:TField Tryz.prog 28 1 1:=.of zk
instance:TField Tryz.prog 28 2 2:=.of zk
instance:TStruct Tryz.prog 28 [(0,1),(1,1),(2,1)]:=.of zk
instance:TZero Tryz.prog 28 [.int .i64 0,.int .i64 0,.int .i64 0]:=.of (v:=.agg #[.int .i64 0,.int .i64 0,.int .i64 0]) (n:=3) zk rfl rfl
instance:TSize Tryz.prog 31 1:=.of zk
instance:TOne Tryz.prog 31:=.of zk
instance:TZero Tryz.prog 31 [.int .i64 0]:=.of (v:=.int .i64 0) (n:=1) zk rfl rfl
instance:TSize Tryz.prog 56 2:=.of zk
instance:TAgg Tryz.prog 56 2:=.of zk
instance:TField Tryz.prog 56 0 0:=.of zk
instance:TField Tryz.prog 56 1 1:=.of zk
instance:TStruct Tryz.prog 56 [(0,1),(1,1)]:=.of zk
instance:TZero Tryz.prog 56 [.string ⟨#[]⟩,.int .i64 0]:=.of (v:=.agg #[.string ⟨#[]⟩,.int .i64 0]) (n:=2) zk rfl rfl
instance:TRow Tryz.prog 56 2 24:=.of zk
instance:TSize Tryz.prog 57 1:=.of zk
instance:TOne Tryz.prog 57:=.of zk
instance:TSlice Tryz.prog 57 102 6:=.of zk
instance:TSize Tryz.prog 59 4:=.of zk
instance:TAgg Tryz.prog 59 4:=.of zk
instance:TField Tryz.prog 59 0 0:=.of zk
instance:TField Tryz.prog 59 1 1:=.of zk
instance:TField Tryz.prog 59 2 2:=.of zk
instance:TField Tryz.prog 59 3 3:=.of zk
instance:TStruct Tryz.prog 59 [(0,1),(1,1),(2,1),(3,1)]:=.of zk
instance:TZero Tryz.prog 59 [.string ⟨#[]⟩,.slice none 0 0,.slice none 0 0,.slice none 0 0]:=.of (v:=.agg #[.string ⟨#[]⟩,.slice none 0 0,.slice none 0 0,.slice none 0 0]) (n:=4) zk rfl rfl
instance:TRow Tryz.prog 59 4 88:=.of zk
instance:TOne Tryz.prog 61:=.of zk
instance:TOne Tryz.prog 62:=.of zk
instance:TField Tryz.prog 64 0 0:=.of zk
instance:TField Tryz.prog 64 1 1:=.of zk
instance:TField Tryz.prog 64 2 2:=.of zk
instance:TField Tryz.prog 64 3 3:=.of zk
instance:TField Tryz.prog 64 4 4:=.of zk
instance:TField Tryz.prog 64 5 5:=.of zk
instance:TStruct Tryz.prog 64 [(0,1),(1,1),(2,1),(3,1),(4,1),(5,1)]:=.of zk
instance:TZero Tryz.prog 64 [.slice none 0 0,.int .i64 0,.int .i64 0,.map none,.map none,.string ⟨#[]⟩]:=.of (v:=.agg #[.slice none 0 0,.int .i64 0,.int .i64 0,.map none,.map none,.string ⟨#[]⟩]) (n:=6) zk rfl rfl
instance:TOne Tryz.prog 66:=.of zk
instance:TSlice Tryz.prog 66 70 2:=.of zk
instance:TSize Tryz.prog 70 2:=.of zk
instance:TAgg Tryz.prog 70 2:=.of zk
instance:TField Tryz.prog 70 0 0:=.of zk
instance:TField Tryz.prog 70 1 1:=.of zk
instance:TStruct Tryz.prog 70 [(0,1),(1,1)]:=.of zk
instance:TZero Tryz.prog 70 [.string ⟨#[]⟩,.int .i64 0]:=.of (v:=.agg #[.string ⟨#[]⟩,.int .i64 0]) (n:=2) zk rfl rfl
instance:TRow Tryz.prog 70 2 24:=.of zk
instance:TSize Tryz.prog 79 2:=.of zk
instance:TAgg Tryz.prog 79 2:=.of zk
instance:TField Tryz.prog 79 0 0:=.of zk
instance:TField Tryz.prog 79 1 1:=.of zk
instance:TStruct Tryz.prog 79 [(0,1),(1,1)]:=.of zk
instance:TZero Tryz.prog 79 [.string ⟨#[]⟩,.int .i64 0]:=.of (v:=.agg #[.string ⟨#[]⟩,.int .i64 0]) (n:=2) zk rfl rfl
instance:TSize Tryz.prog 83 6:=.of zk
instance:TAgg Tryz.prog 83 6:=.of zk
instance:TField Tryz.prog 83 0 0:=.of zk
instance:TField Tryz.prog 83 1 1:=.of zk
instance:TField Tryz.prog 83 2 2:=.of zk
instance:TField Tryz.prog 83 3 3:=.of zk
instance:TField Tryz.prog 83 4 4:=.of zk
instance:TField Tryz.prog 83 5 5:=.of zk
instance:TStruct Tryz.prog 83 [(0,1),(1,1),(2,1),(3,1),(4,1),(5,1)]:=.of zk
instance:TZero Tryz.prog 83 [.string ⟨#[]⟩,.slice none 0 0,.slice none 0 0,.slice none 0 0,.slice none 0 0,.slice none 0 0]:=.of (v:=.agg #[.string ⟨#[]⟩,.slice none 0 0,.slice none 0 0,.slice none 0 0,.slice none 0 0,.slice none 0 0]) (n:=6) zk rfl rfl
instance:TSlice Tryz.prog 85 3 1:=.of zk
instance:TField Tryz.prog 89 0 0:=.of zk
instance:TField Tryz.prog 89 1 1:=.of zk
instance:TStruct Tryz.prog 89 [(0,1),(1,1)]:=.of zk
instance:TZero Tryz.prog 89 [.int .i64 0,.int .i64 0]:=.of (v:=.agg #[.int .i64 0,.int .i64 0]) (n:=2) zk rfl rfl
instance:TSlice Tryz.prog 90 89 2:=.of zk
instance:TOne Tryz.prog 93:=.of zk
instance:TKind Tryz.prog 93 .u32:=.of zk
instance:TSize Tryz.prog 96 1:=.of zk
instance:TOne Tryz.prog 96:=.of zk
instance:TSlice Tryz.prog 96 5 1:=.of zk
instance:TSize Tryz.prog 100 1:=.of zk
instance:TOne Tryz.prog 100:=.of zk
instance:TSlice Tryz.prog 100 104 4:=.of zk
instance:TSize Tryz.prog 102 6:=.of zk
instance:TAgg Tryz.prog 102 6:=.of zk
instance:TField Tryz.prog 102 0 0:=.of zk
instance:TField Tryz.prog 102 1 1:=.of zk
instance:TField Tryz.prog 102 2 2:=.of zk
instance:TField Tryz.prog 102 3 3:=.of zk
instance:TField Tryz.prog 102 4 4:=.of zk
instance:TField Tryz.prog 102 5 5:=.of zk
instance:TStruct Tryz.prog 102 [(0,1),(1,1),(2,1),(3,1),(4,1),(5,1)]:=.of zk
instance:TZero Tryz.prog 102 [.int .i64 0,.string ⟨#[]⟩,.slice none 0 0,.slice none 0 0,.slice none 0 0,.slice none 0 0]:=.of (v:=.agg #[.int .i64 0,.string ⟨#[]⟩,.slice none 0 0,.slice none 0 0,.slice none 0 0,.slice none 0 0]) (n:=6) zk rfl rfl
instance:TRow Tryz.prog 102 6 120:=.of zk
instance:TSize Tryz.prog 104 4:=.of zk
instance:TAgg Tryz.prog 104 4:=.of zk
instance:TField Tryz.prog 104 0 0:=.of zk
instance:TField Tryz.prog 104 1 1:=.of zk
instance:TField Tryz.prog 104 2 2:=.of zk
instance:TField Tryz.prog 104 3 3:=.of zk
instance:TStruct Tryz.prog 104 [(0,1),(1,1),(2,1),(3,1)]:=.of zk
instance:TZero Tryz.prog 104 [.string ⟨#[]⟩,.int .u32 0,.string ⟨#[]⟩,.slice none 0 0]:=.of (v:=.agg #[.string ⟨#[]⟩,.int .u32 0,.string ⟨#[]⟩,.slice none 0 0]) (n:=4) zk rfl rfl
instance:TRow Tryz.prog 104 4 64:=.of zk
instance:TSize Tryz.prog 107 2:=.of zk
instance:TConcrete Tryz.prog 107:=.of zk
instance:TField Tryz.prog 107 0 0:=.of zk
instance:TField Tryz.prog 107 1 1:=.of zk
instance:TStruct Tryz.prog 107 [(0,1),(1,1)]:=.of zk
instance:TZero Tryz.prog 107 [.string ⟨#[]⟩,.int .i64 0]:=.of (v:=.agg #[.string ⟨#[]⟩,.int .i64 0]) (n:=2) zk rfl rfl
instance:TSize Tryz.prog 110 1:=.of zk
instance:TOne Tryz.prog 110:=.of zk
instance:TOne Tryz.prog 111:=.of zk
instance:TField Tryz.prog 113 0 0:=.of zk
instance:TField Tryz.prog 113 1 1:=.of zk
instance:TField Tryz.prog 113 2 2:=.of zk
instance:TField Tryz.prog 113 3 3:=.of zk
instance:TField Tryz.prog 113 4 4:=.of zk
instance:TField Tryz.prog 113 5 5:=.of zk
instance:TField Tryz.prog 113 6 6:=.of zk
instance:TStruct Tryz.prog 113 [(0,1),(1,1),(2,1),(3,1),(4,1),(5,1),(6,1)]:=.of zk
instance:TZero Tryz.prog 113 [.map none,.map none,.map none,.map none,.string ⟨#[]⟩,.map none,.int .i64 0]:=.of (v:=.agg #[.map none,.map none,.map none,.map none,.string ⟨#[]⟩,.map none,.int .i64 0]) (n:=7) zk rfl rfl
instance:TSize Tryz.prog 115 2:=.of zk
instance:TAgg Tryz.prog 115 2:=.of zk
instance:TField Tryz.prog 115 0 0:=.of zk
instance:TField Tryz.prog 115 1 1:=.of zk
instance:TStruct Tryz.prog 115 [(0,1),(1,1)]:=.of zk
instance:TZero Tryz.prog 115 [.int .i64 0,.int .i64 0]:=.of (v:=.agg #[.int .i64 0,.int .i64 0]) (n:=2) zk rfl rfl
instance:TSlice Tryz.prog 116 115 2:=.of zk
instance:TField Tryz.prog 126 1 1:=.of zk
instance:TZero Tryz.prog 126 [.pointer none,.slice none 0 0]:=.of (v:=.agg #[.pointer none,.slice none 0 0]) (n:=2) zk rfl rfl
instance:TSlice Tryz.prog 133 208 2:=.of zk
instance:TSize Tryz.prog 140 6:=.of zk
instance:TAgg Tryz.prog 140 6:=.of zk
instance:TField Tryz.prog 140 0 0:=.of zk
instance:TField Tryz.prog 140 1 3:=.of zk
instance:TField Tryz.prog 140 2 4:=.of zk
instance:TField Tryz.prog 140 3 5:=.of zk
instance:TStruct Tryz.prog 140 [(0,3),(3,1),(4,1),(5,1)]:=.of zk
instance:TZero Tryz.prog 140 [.slice none 0 0,.slice none 0 0,.slice none 0 0,.int .i64 0,.slice none 0 0,.string ⟨#[]⟩]:=.of (v:=.agg #[.slice none 0 0,.slice none 0 0,.slice none 0 0,.int .i64 0,.slice none 0 0,.string ⟨#[]⟩]) (n:=6) zk rfl rfl
instance:TSize Tryz.prog 142 2:=.of zk
instance:TAgg Tryz.prog 142 2:=.of zk
instance:TField Tryz.prog 142 0 0:=.of zk
instance:TField Tryz.prog 142 1 1:=.of zk
instance:TStruct Tryz.prog 142 [(0,1),(1,1)]:=.of zk
instance:TZero Tryz.prog 142 [.string ⟨#[]⟩,.int .i64 0]:=.of (v:=.agg #[.string ⟨#[]⟩,.int .i64 0]) (n:=2) zk rfl rfl
instance:TSlice Tryz.prog 145 149 2:=.of zk
instance:TField Tryz.prog 149 0 0:=.of zk
instance:TField Tryz.prog 149 1 1:=.of zk
instance:TStruct Tryz.prog 149 [(0,1),(1,1)]:=.of zk
instance:TZero Tryz.prog 149 [.string ⟨#[]⟩,.int .i64 0]:=.of (v:=.agg #[.string ⟨#[]⟩,.int .i64 0]) (n:=2) zk rfl rfl
instance:TRow Tryz.prog 149 2 24:=.of zk
instance:TOne Tryz.prog 151:=.of zk
instance:TSlice Tryz.prog 151 219 3:=.of zk
instance:TSize Tryz.prog 155 2:=.of zk
instance:TConcrete Tryz.prog 155:=.of zk
instance:TField Tryz.prog 155 0 0:=.of zk
instance:TField Tryz.prog 155 1 1:=.of zk
instance:TStruct Tryz.prog 155 [(0,1),(1,1)]:=.of zk
instance:TZero Tryz.prog 155 [.int .i64 0,.int .i64 0]:=.of (v:=.agg #[.int .i64 0,.int .i64 0]) (n:=2) zk rfl rfl
instance:TOne Tryz.prog 157:=.of zk
instance:TField Tryz.prog 159 0 0:=.of zk
instance:TField Tryz.prog 159 1 1:=.of zk
instance:TField Tryz.prog 159 2 2:=.of zk
instance:TStruct Tryz.prog 159 [(0,1),(1,1),(2,1)]:=.of zk
instance:TZero Tryz.prog 159 [.slice none 0 0,.int .i64 0,.int .i64 0]:=.of (v:=.agg #[.slice none 0 0,.int .i64 0,.int .i64 0]) (n:=3) zk rfl rfl
instance:TSize Tryz.prog 197 3:=.of zk
instance:TField Tryz.prog 197 0 0:=.of zk
instance:TField Tryz.prog 197 1 1:=.of zk
instance:TField Tryz.prog 197 2 2:=.of zk
instance:TStruct Tryz.prog 197 [(0,1),(1,1),(2,1)]:=.of zk
instance:TZero Tryz.prog 197 [.int .i64 0,.int .i64 0,.int .i64 0]:=.of (v:=.agg #[.int .i64 0,.int .i64 0,.int .i64 0]) (n:=3) zk rfl rfl
instance:TOne Tryz.prog 198:=.of zk
instance:TSlice Tryz.prog 198 22 1:=.of zk
instance:TSize Tryz.prog 208 2:=.of zk
instance:TAgg Tryz.prog 208 2:=.of zk
instance:TField Tryz.prog 208 0 0:=.of zk
instance:TField Tryz.prog 208 1 1:=.of zk
instance:TStruct Tryz.prog 208 [(0,1),(1,1)]:=.of zk
instance:TZero Tryz.prog 208 [.string ⟨#[]⟩,.int .i64 0]:=.of (v:=.agg #[.string ⟨#[]⟩,.int .i64 0]) (n:=2) zk rfl rfl
instance:TRow Tryz.prog 208 2 24:=.of zk
instance:TSize Tryz.prog 219 3:=.of zk
instance:TAgg Tryz.prog 219 3:=.of zk
instance:TField Tryz.prog 219 0 0:=.of zk
instance:TField Tryz.prog 219 1 1:=.of zk
instance:TField Tryz.prog 219 2 2:=.of zk
instance:TStruct Tryz.prog 219 [(0,1),(1,1),(2,1)]:=.of zk
instance:TZero Tryz.prog 219 [.int .i64 0,.string ⟨#[]⟩,.int .i64 0]:=.of (v:=.agg #[.int .i64 0,.string ⟨#[]⟩,.int .i64 0]) (n:=3) zk rfl rfl
instance:TRow Tryz.prog 219 3 32:=.of zk
instance:TKind Tryz.prog 242 .u64:=.of zk
instance:TSize Tryz.prog 287 1:=.of zk
instance:TOne Tryz.prog 287:=.of zk
instance:TZero Tryz.prog 287 [.nilFunc]:=.of (v:=.nilFunc) (n:=1) zk rfl rfl
instance:TEnter Tryz.prog 9:=.of zk
instance:TEnter Tryz.prog 10:=.of zk
instance:TEnter Tryz.prog 11:=.of zk
instance:TEnter Tryz.prog 12:=.of zk
instance:TEnter Tryz.prog 13:=.of zk
instance:TEnter Tryz.prog 15:=.of zk
instance:TEnter Tryz.prog 16:=.of zk
instance:TEnter Tryz.prog 17:=.of zk
instance:TEnter Tryz.prog 22:=.of zk
instance:TEnter Tryz.prog 23:=.of zk
instance:TEnter Tryz.prog 24:=.of zk
instance:TEnter Tryz.prog 25:=.of zk
instance:TEnter Tryz.prog 26:=.of zk
instance:TEnter Tryz.prog 27:=.of zk
instance:TEnter Tryz.prog 28:=.of zk
instance:TEnter Tryz.prog 29:=.of zk
instance:TEnter Tryz.prog 30:=.of zk
instance:TEnter Tryz.prog 31:=.of zk
instance:TEnter Tryz.prog 32:=.of zk
instance:TEnter Tryz.prog 33:=.of zk
instance:TEnter Tryz.prog 35:=.of zk
instance:TEnter Tryz.prog 36:=.of zk
instance:TEnter Tryz.prog 37:=.of zk
instance:TEnter Tryz.prog 38:=.of zk
instance:TEnter Tryz.prog 43:=.of zk
instance:TEnter Tryz.prog 44:=.of zk
instance:TEnter Tryz.prog 45:=.of zk
instance:TEnter Tryz.prog 46:=.of zk
instance:TEnter Tryz.prog 47:=.of zk
instance:TEnter Tryz.prog 48:=.of zk
instance:TEnter Tryz.prog 49:=.of zk
instance:TEnter Tryz.prog 50:=.of zk
instance:TEnter Tryz.prog 51:=.of zk
instance:TEnter Tryz.prog 52:=.of zk
instance:TEnter Tryz.prog 53:=.of zk
instance:TEnter Tryz.prog 55:=.of zk
instance:TEnter Tryz.prog 56:=.of zk
instance:TEnter Tryz.prog 57:=.of zk
instance:TEnter Tryz.prog 58:=.of zk
instance:TEnter Tryz.prog 59:=.of zk
instance:TEnter Tryz.prog 60:=.of zk
instance:TEnter Tryz.prog 61:=.of zk
instance:TEnter Tryz.prog 62:=.of zk
instance:TEnter Tryz.prog 63:=.of zk
instance:TEnter Tryz.prog 64:=.of zk
instance:TEnter Tryz.prog 65:=.of zk
instance:TEnter Tryz.prog 66:=.of zk
instance:TEnter Tryz.prog 67:=.of zk
instance:TEnter Tryz.prog 68:=.of zk
instance:TEnter Tryz.prog 69:=.of zk
instance:TEnter Tryz.prog 70:=.of zk
instance:TEnter Tryz.prog 81:=.of zk
instance:TEnter Tryz.prog 82:=.of zk
instance:TEnter Tryz.prog 83:=.of zk
instance:TEnter Tryz.prog 84:=.of zk
instance:TEnter Tryz.prog 85:=.of zk
instance:TEnter Tryz.prog 86:=.of zk
instance:TEnter Tryz.prog 87:=.of zk
instance:TEnter Tryz.prog 88:=.of zk
instance:TEnter Tryz.prog 89:=.of zk
instance:TEnter Tryz.prog 102:=.of zk
instance:TEnter Tryz.prog 103:=.of zk
instance:TEnter Tryz.prog 104:=.of zk
instance:TEnter Tryz.prog 105:=.of zk
instance:TEnter Tryz.prog 106:=.of zk
instance:TEnter Tryz.prog 107:=.of zk
instance:TEnter Tryz.prog 108:=.of zk
instance:TEnter Tryz.prog 109:=.of zk
instance:TEnter Tryz.prog 110:=.of zk
instance:TEnter Tryz.prog 112:=.of zk
instance:TEnter Tryz.prog 113:=.of zk
instance:TEnter Tryz.prog 114:=.of zk
instance:TEnter Tryz.prog 115:=.of zk
instance:TEnter Tryz.prog 116:=.of zk
instance:TEnter Tryz.prog 117:=.of zk
instance:TEnter Tryz.prog 118:=.of zk
instance:TEnter Tryz.prog 119:=.of zk
instance:TEnter Tryz.prog 120:=.of zk
instance:TEnter Tryz.prog 121:=.of zk
instance:TEnter Tryz.prog 122:=.of zk
instance:TEnter Tryz.prog 123:=.of zk
instance:TEnter Tryz.prog 124:=.of zk
instance:TEnter Tryz.prog 125:=.of zk
instance:TEnter Tryz.prog 126:=.of zk
instance:TEnter Tryz.prog 127:=.of zk
instance:TEnter Tryz.prog 128:=.of zk
instance:TEnter Tryz.prog 129:=.of zk
instance:TEnter Tryz.prog 130:=.of zk
instance:TEnter Tryz.prog 131:=.of zk
instance:TEnter Tryz.prog 132:=.of zk
instance:TEnter Tryz.prog 133:=.of zk
instance:TEnter Tryz.prog 134:=.of zk
instance:TEnter Tryz.prog 135:=.of zk
instance:TEnter Tryz.prog 136:=.of zk
instance:TEnter Tryz.prog 137:=.of zk
instance:TEnter Tryz.prog 141:=.of zk
instance:TEnter Tryz.prog 142:=.of zk
instance:TEnter Tryz.prog 143:=.of zk
instance:TEnter Tryz.prog 144:=.of zk
instance:TEnter Tryz.prog 166:=.of zk
instance:TEnter Tryz.prog 167:=.of zk
instance:TEnter Tryz.prog 169:=.of zk
instance:TEnter Tryz.prog 170:=.of zk
instance:TEnter Tryz.prog 171:=.of zk
instance:TEnter Tryz.prog 172:=.of zk
instance:TEnter Tryz.prog 177:=.of zk
instance:TEnter Tryz.prog 178:=.of zk
instance:TEnter Tryz.prog 179:=.of zk
instance:TEnter Tryz.prog 180:=.of zk
instance:TEnter Tryz.prog 181:=.of zk
instance:TEnter Tryz.prog 182:=.of zk
instance:TEnter Tryz.prog 183:=.of zk
instance:TEnter Tryz.prog 184:=.of zk
instance:TEnter Tryz.prog 185:=.of zk
instance:TEnter Tryz.prog 186:=.of zk
instance:TEnter Tryz.prog 187:=.of zk
instance:TEnter Tryz.prog 188:=.of zk
instance:TEnter Tryz.prog 189:=.of zk
instance:TEnter Tryz.prog 190:=.of zk
instance:TEnter Tryz.prog 191:=.of zk
instance:TEnter Tryz.prog 192:=.of zk
instance:TEnter Tryz.prog 193:=.of zk
instance:TEnter Tryz.prog 194:=.of zk
instance:TEnter Tryz.prog 195:=.of zk
instance:TEnter Tryz.prog 199:=.of zk
instance:TEnter Tryz.prog 200:=.of zk
instance:TEnter Tryz.prog 201:=.of zk
instance:TEnter Tryz.prog 202:=.of zk
instance:TEnter Tryz.prog 203:=.of zk
instance:TEnter Tryz.prog 204:=.of zk
instance:TEnter Tryz.prog 205:=.of zk
instance:TEnter Tryz.prog 206:=.of zk
instance:TEnter Tryz.prog 213:=.of zk
instance:TEnter Tryz.prog 214:=.of zk
instance:TEnter Tryz.prog 216:=.of zk
instance:TEnter Tryz.prog 217:=.of zk
instance:TEnter Tryz.prog 219:=.of zk
instance:TEnter Tryz.prog 220:=.of zk
instance:TEnter Tryz.prog 221:=.of zk
instance:TEnter Tryz.prog 233:=.of zk
instance:TEnter Tryz.prog 234:=.of zk
instance:TEnter Tryz.prog 235:=.of zk
instance:TEnter Tryz.prog 236:=.of zk
instance:TEnter Tryz.prog 246:=.of zk
instance:TEnter Tryz.prog 247:=.of zk
instance:TEnter Tryz.prog 248:=.of zk
instance:TEnter Tryz.prog 249:=.of zk
instance:TEnter Tryz.prog 265:=.of zk
instance:TEnter Tryz.prog 266:=.of zk
instance:TEnter Tryz.prog 267:=.of zk
instance:TEnter Tryz.prog 272:=.of zk
instance:TEnter Tryz.prog 273:=.of zk
instance:TEnter Tryz.prog 290:=.of zk
instance:TEnter Tryz.prog 291:=.of zk
instance:TEnter Tryz.prog 292:=.of zk
instance:TEnter Tryz.prog 293:=.of zk
instance:TEnter Tryz.prog 294:=.of zk
instance:TEnter Tryz.prog 295:=.of zk
instance:TEnter Tryz.prog 304:=.of zk
instance:TEnter Tryz.prog 305:=.of zk
instance:TEnter Tryz.prog 306:=.of zk
end Go.Proofs.YtpbbgkoalnonoaaGreatDoor
namespace Go.GL
open Go.RowKit
@[reducible] def Ret (v:LV):LRes→Heap→Prop:=fun r H=>r=.ret v∧H=[]
@[reducible] def RetIf (p:LV→Prop):LRes→Heap→Prop:=fun r H=>∃ v,r=.ret v∧p v∧H=[]
section
variable {C:Ctx} {e:Env} {H:Heap} {dst:Option Nat} {ty:TypeId} {pos:String} {aft:Array Edge} {g:Option (Nat×Bool)} {K:LV→Heap→Prop} {X:List PanicEntry→Heap→Prop}
theorem sF {f:FuncId} [TEnter C.P f] (args:List Operand) {ats:Array TypeId} {avs:List LV} {lv:LV} (has:args.map e.ev=avs) (hc:LCalls C f avs [] (Ret lv)) (hk:K lv H) :
  LStep C ⟨dst,.call { callee:=.value (.func f),args:=args.toArray,argTypes:=ats },ty,pos,aft,g⟩ e H K X:=
 S.call0 args has hc (by rintro v H' ⟨h,rfl⟩;cases h;exact hk) (by rintro ch H' ⟨h,_⟩;cases h)
theorem S.fnIf {f:FuncId} [TEnter C.P f] (args:List Operand) {ats:Array TypeId} {avs:List LV} {p:LV→Prop} (has:args.map e.ev=avs) (hc:LCalls C f avs [] (RetIf p)) (hk:∀ lv,p lv→K lv H) :
  LStep C ⟨dst,.call { callee:=.value (.func f),args:=args.toArray,argTypes:=ats },ty,pos,aft,g⟩ e H K X:=
 S.call0 args has hc (by rintro v H' ⟨u,h,hp,rfl⟩;cases h;exact hk _ hp) (by rintro ch H' ⟨u,h,_⟩;cases h)
theorem S.fnV {fo:Operand} {f:FuncId} [TEnter C.P f] {first caps:Array Value} (args:List Operand) {ats:Array TypeId} {avs:List LV} {lv:LV} (hf:e.ev fo=.atom (.func (.func f) first caps))
  (has:first.toList.map .atom++args.map e.ev++caps.toList.map .atom=avs) (hc:LCalls C f avs [] (Ret lv)) (hk:K lv H) :
  LStep C ⟨dst,.call { callee:=.value fo,args:=args.toArray,argTypes:=ats },ty,pos,aft,g⟩ e H K X:=
 S.callV (H1:=[]) (F:=H) args hf has zpr hc (by rintro v H' ⟨h,rfl⟩;cases h;exact hk) (by rintro ch H' ⟨h,_⟩;cases h)
theorem retRet {n:Nat} {rs:List ResultVar} {vs:List LV} {lv:LV} (hd:e.ds=[]) (h:AllRes C n e H rs vs) (hv:resLV vs=lv):RetPost C n rs (Ret lv) .ret e H:=
 rR hd h zhn ⟨by rw[hv],rfl⟩
theorem retRetIf {n:Nat} {rs:List ResultVar} {vs:List LV} {p:LV→Prop} (hd:e.ds=[]) (h:AllRes C n e H rs vs) (hv:p (resLV vs)):RetPost C n rs (RetIf p) .ret e H:=
 rR hd h zhn ⟨_,rfl,hv,rfl⟩
end
theorem fr_below {C:Ctx} {w w':World} {L:Live} (hH:RelH C w L []) (h:Below w.heap.size w w'):Fr (keys []) w L w' L []∧RelH C w' L []:=by
 refine ⟨⟨h.os,h.tape,h.output,⟨h.size,fun b hb=>shape_of_heap (h.block b hb),fun b i hi=>?_,fun _=>zNr _⟩,fun b hb _=>h.block b hb,fun _ _ _=>rfl,by simp⟩,
  ⟨hH.base.trans (h.mono hH.b0),hH.lbase,zNt hH.b0 h.size,fun b hb=>hH.wf b (zNt h.size hb),List.nodup_nil,by simp⟩⟩
 have hb:b<w.heap.size:=by
  rcases Nat.lt_or_ge b w.heap.size with h1|h1
  ·exact h1
  ·have:=hH.wf b h1;omega
 exact cell_of_heap (h.block b hb) i
theorem LCalls.of_below {C:Ctx} {f:FuncId} {vs:List Value} {p:Value→Prop}
  (h:∀ w,Below C.B0 C.w0 w→Calls C.P f vs.toArray w (fun e w'=>∃ v,e=.returned v∧p v∧Below w.heap.size w w')):LCalls C f (vs.map .atom) [] (fun r H=>∃ v,r=.ret (.atom v)∧p v∧H=[]):=fun xs w L hv hH=>by
 have hx:xs=vs:=by
  clear h hH
  induction vs generalizing xs with
  |nil=>simpa [RepL] using hv
  |cons v vs ih=>
   simp only[zMc,RepL,Rep] at hv
   obtain ⟨y,ys,rfl,rfl,hv⟩:=hv
   rw[ih _ hv]
 subst hx
 refine (h w hH.base).mono fun e w' he=>?_
 obtain ⟨v,rfl,hp,hb⟩:=he
 obtain ⟨h1,h2⟩:=fr_below hH hb
 exact ⟨.atom v,[],L,h1,h2,rep_atom,v,rfl,hp,rfl⟩
theorem LCalls.of_belowT {C:Ctx} {f:FuncId} {vs:List Value} {p:List Value→Prop}
  (h:∀ w,Below C.B0 C.w0 w→Calls C.P f vs.toArray w (fun e w'=>∃ us:List Value,e=.returned (.tuple us.toArray)∧p us∧Below w.heap.size w w')):LCalls C f (vs.map .atom) [] (RetIf fun lv=>∃ us,p us∧lv=.tuple (us.map .atom)):=fun xs w L hv hH=>by
 have hx:xs=vs:=by
  clear h hH
  induction vs generalizing xs with
  |nil=>simpa [RepL] using hv
  |cons v vs ih=>
   simp only[zMc,RepL,Rep] at hv
   obtain ⟨y,ys,rfl,rfl,hv⟩:=hv
   rw[ih _ hv]
 subst hx
 refine (h w hH.base).mono fun e w' he=>?_
 obtain ⟨us,rfl,hp,hb⟩:=he
 obtain ⟨h1,h2⟩:=fr_below hH hb
 exact ⟨.tuple (us.map .atom),[],L,h1,h2,by simp only[Rep];exact ⟨us,rfl,repL_atoms _⟩,_,rfl,⟨us,hp,rfl⟩,rfl⟩
theorem LCalls.ret_of {C:Ctx} {f:FuncId} {vs:List Value} {u:Value}
  (h:∀ w,Below C.B0 C.w0 w→Calls C.P f vs.toArray w (fun e w'=>e=.returned u∧Below w.heap.size w w')):LCalls C f (vs.map .atom) [] (Ret (.atom u)):=
 LCalls.mono (LCalls.of_below (p:=fun v=>v=u) fun w hw=>(h w hw).mono fun e w' he=>⟨u,he.1,rfl,he.2⟩) fun r H' ⟨v,h1,h2,h3⟩=>⟨by rw[h1,h2],h3⟩
def AllSlots (e:Env):List (Nat×LV)→Prop
 |[]=>True
 |(d,v)::r=>e.s d=v∧AllSlots e r
theorem AllSlots.mem {e:Env}:∀ {l:List (Nat×LV)},AllSlots e l→∀ p∈l,e.s p.1=p.2
 |[],_,p,hp=>by cases hp
 |(d,v)::r,h,p,hp=>by
  rcases zMi.1 hp with rfl|hp
  ·exact h.1
  ·exact AllSlots.mem h.2 p hp
def Again (I:Nat→List (Nat×LV)→Heap→Prop) (k:Nat) (ds:List Deferred) (e':Env) (H':Heap):Prop:=
 ∃ m l' H'',m<k∧I m l' H''∧AllSlots e' l'∧HSub H'' H'∧e'.ds=ds
theorem oL {C:Ctx} {n:Nat} {c:Code} {Q:Post} {e:Env} {H:Heap} (I:Nat→List (Nat×LV)→Heap→Prop) (h0:∃ k l H0,I k l H0∧AllSlots e l∧HSub H0 H)
  (round:∀ k l H,I k l H→∀ j:Env,j.ds=e.ds→LCode C n c (QThen (Again I k e.ds) Q) (Env.slots j l) H):LCode C n (.loop c) Q e H:=by
 obtain ⟨k,l,H0,h0,h1,h2⟩:=h0
 refine LCode.weak h2 (LCode.loop (fun k e' H'=>∃ l H0,I k l H0∧AllSlots e' l∧HSub H0 H'∧e'.ds=e.ds) k ⟨l,H0,h0,h1,zhR _,rfl⟩ ?_)
 rintro k e' H' ⟨l,H0,g0,g1,g2,g3⟩
 have:=round k l H0 g0 e' g3
 rw[Env.slots_self g1.mem] at this
 refine LCode.weak g2 (LCode.conseq this ?_)
 rintro ex e2 H2 hq
 cases ex with
 |normal=>
  obtain ⟨m,l',H3,r1,r2,r3,r4,r5⟩:=hq
  exact ⟨m,r1,l',H3,r2,r3,r4,r5⟩
 |exit id=>exact hq
 |goto id=>exact hq
 |ret=>exact hq
 |panic ch=>exact hq
 |outgrown=>exact hq
theorem bool_eq {a b:Bool} (h:a=b):bool a=bool b:=by rw[h]
def At (l:List (Nat×LV)) (H1:Heap) (ds:List Deferred) (e':Env) (H':Heap):Prop:=AllSlots e' l∧H'=H1∧e'.ds=ds
theorem LOps.cutTo {C:Ctx} {n:Nat} {ops:Array Oper} {rest:List Oper} {Q:Post} {e:Env} {H:Heap} {k:Env→Heap→Prop} (l:List (Nat×LV)) (H1:Heap)
  (hx:LOps C n ops (QThen (At l H1 e.ds) Q) rest e H) (hy:∀ j:Env,j.ds=e.ds→k (Env.slots j l) H1):LOps C n ops (QThen k Q) rest e H:=by
 refine LOps.conseq hx ?_
 rintro ex e' H' hq
 cases ex with
 |normal=>
  obtain ⟨h1,rfl,h3⟩:=hq
  have:=hy e' h3
  rw[Env.slots_self h1.mem] at this
  exact this
 |exit id=>exact hq
 |goto id=>exact hq
 |ret=>exact hq
 |panic ch=>exact hq
 |outgrown=>exact hq
theorem LCode.cutTo {C:Ctx} {n:Nat} {c:Code} {Q:Post} {e:Env} {H:Heap} {k:Env→Heap→Prop} (l:List (Nat×LV)) (H1:Heap)
  (hx:LCode C n c (QThen (At l H1 e.ds) Q) e H) (hy:∀ j:Env,j.ds=e.ds→k (Env.slots j l) H1):LCode C n c (QThen k Q) e H:=by
 refine LCode.conseq hx ?_
 rintro ex e' H' hq
 cases ex with
 |normal=>
  obtain ⟨h1,rfl,h3⟩:=hq
  have:=hy e' h3
  rw[Env.slots_self h1.mem] at this
  exact this
 |exit id=>exact hq
 |goto id=>exact hq
 |ret=>exact hq
 |panic ch=>exact hq
 |outgrown=>exact hq
theorem LOps.cut {C:Ctx} {n:Nat} {ops:Array Oper} {rest:List Oper} {Q:Post} {e:Env} {H:Heap} {k:Env→Heap→Prop} (l:List (Nat×LV))
  (hx:LOps C n ops (QThen (At l H e.ds) Q) rest e H) (hy:∀ j:Env,j.ds=e.ds→k (Env.slots j l) H):LOps C n ops (QThen k Q) rest e H:=LOps.cutTo l H hx hy
theorem LCode.cut {C:Ctx} {n:Nat} {c:Code} {Q:Post} {e:Env} {H:Heap} {k:Env→Heap→Prop} (l:List (Nat×LV))
  (hx:LCode C n c (QThen (At l H e.ds) Q) e H) (hy:∀ j:Env,j.ds=e.ds→k (Env.slots j l) H):LCode C n c (QThen k Q) e H:=LCode.cutTo l H hx hy
theorem yielded_undef {ops:Array Oper} {n:Nat} {a:Act} {e:Env} {w:World} {L:Live} (hE:RelE n a e w L) {j d:Nat} (hj:(ops[j]?).bind (·.dst)=some d) (hb:e.s d=.atom undef):yielded ops a.tmps j=none:=by
 have h:=hE.vals d
 rw[hb] at h
 simp only[Rep] at h
 unfold yielded
 rw[hj]
 simp only[Option.bind_some]
 rw[Array.getD_eq_getD_getElem?] at h
 cases hx:a.tmps[d]? with
 |none=>rfl
 |some x=>rw[hx] at h;simp only[Option.getD_some] at h;subst h;rfl
theorem LOps.skipU {C:Ctx} {n:Nat} {ops:Array Oper} {Q:Post} {e:Env} {H:Heap} {dst:Option Nat} {op:Op} {ty:TypeId} {pos:String} {aft:Array Edge} {rest:List Oper} {j d:Nat} {c:Bool}
  (hj:(ops[j]?).bind (·.dst)=some d) (hb:e.s d=.atom undef) (hd:dstOk n dst)
  (k:LOps C n ops Q rest (e.put dst (.atom undef)) H):LOps C n ops Q (⟨dst,op,ty,pos,aft,some (j,c)⟩::rest) e H:=fun a w L hE hH=>by
 unfold wpList
 rw[if_neg (by simp[Region.wanted,yielded_undef hE hj hb])]
 exact k _ w L (hE.put hd (by simp only[Rep])) hH
theorem int_eq {k:IntKind} {a b:Int} (h:a=b):int k a=int k b:=by rw[h]
end Go.GL
namespace Go.Stele
@[reducible] def cv (c:UInt8):Int:=(c.toNat:Int)
def isDigit (c:UInt8):Bool:=decide (48≤cv c) && decide (cv c≤57)
def isLetter (c:UInt8):Bool:=decide (97≤cv c) && decide (cv c≤122)
def isInner (c:UInt8):Bool:=isLetter c || isDigit c || decide (cv c=95)
def notNl (c:UInt8):Bool:=!decide (cv c=10)
def isWhite (c:UInt8):Bool:=decide (cv c=32) || decide (cv c=9) || decide (cv c=10)
structure Tok where
 kind:Int
 text:List UInt8
 line:Int
 deriving DecidableEq,Inhabited
end Go.Stele
namespace Go.Stele
theorem takeWhile_step {p:UInt8→Bool} {s:List UInt8} {m:Nat} (hm:m<s.length) (h:s.takeWhile p=s.take m++(s.drop m).takeWhile p) :
  (p s[m]=true→s.takeWhile p=s.take (m+1)++(s.drop (m+1)).takeWhile p)∧(p s[m]=false→s.takeWhile p=s.take m):=by
 have h1:s.drop m=s[m]::s.drop (m+1):=List.drop_eq_getElem_cons hm
 constructor
 ·intro hp
  rw[h,h1,List.takeWhile_cons_of_pos hp,List.take_succ_eq_append_getElem hm]
  simp only[zAs,List.singleton_append]
 ·intro hp
  rw[h,h1,List.takeWhile_cons_of_neg (by simp[hp])]
  simp
theorem takeWhile_end {p:UInt8→Bool} {s:List UInt8} {m:Nat} (hm:s.length≤m) (h:s.takeWhile p=s.take m++(s.drop m).takeWhile p):s.takeWhile p=s.take m:=by
 rw[h,List.drop_eq_nil_of_le hm]
 simp
def skipLen (s:List UInt8):Nat:=if [47,47].isPrefixOf s then (s.takeWhile notNl).length else (s.takeWhile isWhite).length
end Go.Stele
/- What the lexer computes, in plain Lean: tokens. -/
namespace Go.Stele
def zeroTok:Tok:=⟨0,[],0⟩
abbrev TokR:=Tok×Nat×Int
def tokErr (e:Int):TokR:=(zeroTok,0,e)
def wordNext (s:List UInt8) (n:Nat):Bool:=match s[n]? with
 |some c=>isLetter c || decide (cv c=95)
 |none=>false
def lexNumber (s:List UInt8):TokR:=
 if wordNext s (s.takeWhile isDigit).length then tokErr 3 else
  match Go.Lib.parseUintB 32 (s.takeWhile isDigit) with
  |.ok u=>(⟨1,Go.Lib.decDigits u,0⟩,(s.takeWhile isDigit).length,0)
  |_=>tokErr 2
def lexLiteral:List UInt8→TokR
 |_::b::c::_=>if (!decide (cv c=39)) || decide (cv b<32) || decide (126<cv b) || decide (cv b=39) || decide (cv b=92) then tokErr 3 else (⟨1,Go.Lib.decDigits b.toNat,0⟩,3,0)
 |_=>tokErr 3
def keywords:List (List UInt8):=[[97,114,114,97,121],[101,108,115,101],[102,117,110,99],[104,97,108,116],[105,102],[114,101,116,117,114,110],[118,97,114],[119,104,105,108,101]]
def signs:List (List UInt8):=[[38,38],[124,124],[61,61],[33,61],[60,61],[62,61],[60],[62],[94],[43],[45],[42],[47],[37],[33],[61],[40],[41],[123],[125],[91],[93],[44],[59]]
def lexName (s:List UInt8):TokR:=
 if 24<(s.takeWhile isInner).length then tokErr 7 else (⟨if keywords.contains (s.takeWhile isInner) then 3 else 2,s.takeWhile isInner,0⟩,(s.takeWhile isInner).length,0)
def lexSign (s:List UInt8):TokR:=match signs.find? (fun x=>x.isPrefixOf s) with
 |some x=>(⟨4,x,0⟩,x.length,0)
 |none=>tokErr 3
def lexToken (s:List UInt8):TokR:=match s with
 |[]=>tokErr 3
 |c::_=>if isDigit c then lexNumber s else if isLetter c then lexName s else if decide (cv c=39) then lexLiteral s else lexSign s
def lexP:Nat→List UInt8→Int→Except (Int×Int) (List Tok)
 |0,_,_=>.ok []
 |fuel+1,s,line=>
  if s=[] then .ok [] else
  if skipLen s=0 then
   if (lexToken s).2.2≠0 then .error (line,(lexToken s).2.2)
   else (lexP fuel (s.drop (lexToken s).2.1) (line+((s.take (lexToken s).2.1).count 10:Nat))).map ({ (lexToken s).1 with line:=line }::·)
  else lexP fuel (s.drop (skipLen s)) (line+((s.take (skipLen s)).count 10:Nat))
end Go.Stele
namespace Go.Stele
theorem takeWhile_le (p:UInt8→Bool) (s:List UInt8):(s.takeWhile p).length≤s.length:=(List.takeWhile_prefix p).length_le
theorem lexToken_size (s:List UInt8) (h:(lexToken s).2.2=0):0<(lexToken s).2.1∧(lexToken s).2.1≤s.length:=by
 match s with
 |[]=>simp[lexToken,tokErr] at h
 |c::r=>
  simp only[lexToken] at h ⊢
  split at h <;> rename_i hc
  ·rw[if_pos hc]
   unfold lexNumber at h ⊢
   split at h
   ·simp[tokErr] at h
   ·rename_i hw
    rw[if_neg hw]
    split at h
    ·rename_i u hu
     refine ⟨?_,takeWhile_le _ _⟩
     rw[List.takeWhile_cons_of_pos hc]
     simp
    ·simp[tokErr] at h
  ·rw[if_neg hc]
   split at h <;> rename_i hl
   ·rw[if_pos hl]
    unfold lexName at h ⊢
    split at h
    ·simp[tokErr] at h
    ·rename_i hw
     rw[if_neg hw]
     refine ⟨?_,takeWhile_le _ _⟩
     rw[List.takeWhile_cons_of_pos (by simp[isInner,hl])]
     simp
   ·rw[if_neg hl]
    split at h <;> rename_i hq
    ·rw[if_pos hq]
     unfold lexLiteral at h ⊢
     split at h
     ·split at h
      ·simp[tokErr] at h
      ·rename_i hx
       rename_i heq
       rw[if_neg hx,heq]
       simp
     ·simp[tokErr] at h
    ·rw[if_neg hq]
     unfold lexSign at h ⊢
     split at h
     ·rename_i x hx
      have h1:=List.find?_some hx
      have h2:=List.mem_of_find?_eq_some hx
      refine ⟨?_,(List.isPrefixOf_iff_prefix.1 h1).length_le⟩
      have:∀ x∈signs,0<x.length:=by decide
      exact this x h2
     ·simp[tokErr] at h
theorem skipLen_le (s:List UInt8):skipLen s≤s.length:=by
 unfold skipLen
 split <;> exact takeWhile_le _ _
end Go.Stele
namespace Go.Proofs.YtpbbgkoalnonoaaGreatDoor
open Go.GL Go.RowKit Go.Stele
noncomputable abbrev KC (B0:Nat) (w0:World):Ctx:=⟨Tryz.prog,B0,w0⟩
attribute [local irreducible] LOps LCode LStep LCalls Go.GL.Pure QThen QBlock RetPost
section
variable {B0:Nat} {w0:World}
theorem digit_spec (c:UInt8):LCalls (KC B0 w0) 190 [int .u8 c.toNat] [] (Ret (bool (isDigit c))):=by
 refine cI Tryz.func190 rfl (n:=9) rfl rfl rfl ?_
 refine gab ?_
 refine oB 5 rfl (fun ht=>?_) (fun ht=>?_)
 ·refine gac ?_
  exact retRet rfl (zra rfl) (by simp[resLV,isDigit,ht])
 ·refine gae ?_
  exact retRet rfl (zra rfl) (by simp[resLV,isDigit,ht])
theorem letter_spec (c:UInt8):LCalls (KC B0 w0) 192 [int .u8 c.toNat] [] (Ret (bool (isLetter c))):=by
 refine cI Tryz.func192 rfl (n:=9) rfl rfl rfl ?_
 refine gab ?_
 refine oB 5 rfl (fun ht=>?_) (fun ht=>?_)
 ·refine gac ?_
  exact retRet rfl (zra rfl) (by simp[resLV,isLetter,ht])
 ·refine gae ?_
  exact retRet rfl (zra rfl) (by simp[resLV,isLetter,ht])
theorem notNl_spec (c:UInt8):LCalls (KC B0 w0) 188 [int .u8 c.toNat] [] (Ret (bool (notNl c))):=by
 refine cI Tryz.func188 rfl (n:=5) rfl rfl rfl ?_
 refine gab ?_
 exact retRet rfl (zra rfl) rfl
theorem inner_spec (c:UInt8):LCalls (KC B0 w0) 234 [int .u8 c.toNat] [] (Ret (bool (isInner c))):=by
 refine cI Tryz.func234 rfl (n:=13) rfl rfl rfl ?_
 refine gaa ?_
 refine oS (sF [_] rfl (letter_spec c) ?_) rfl
 refine gav ?_
 refine oB 5 rfl (fun ht=>?_) (fun ht=>?_)
 ·refine gad ?_
  exact retRet rfl (zra rfl) (by simp[resLV,isInner,ht])
 ·refine gam ?_
  refine oS (sF [_] rfl (digit_spec c) ?_) rfl
  refine gae ?_
  refine oB 9 rfl (fun hd=>?_) (fun hd=>?_)
  ·refine gad ?_
   exact retRet rfl (zra rfl) (by simp[resLV,isInner,ht,hd])
  ·refine gad ?_
   exact retRet rfl (zra rfl) (by simp[resLV,isInner,ht,hd])
theorem white_spec (c:UInt8):LCalls (KC B0 w0) 189 [int .u8 c.toNat] [] (Ret (bool (isWhite c))):=by
 refine cI Tryz.func189 rfl (n:=13) rfl rfl rfl ?_
 refine gaa ?_
 refine oB 5 rfl (fun ht=>?_) (fun ht=>?_)
 ·refine gad ?_
  exact retRet rfl (zra rfl) (by simp[resLV,isWhite,ht])
 ·refine gad ?_
  refine oB 9 rfl (fun hd=>?_) (fun hd=>?_)
  ·refine gad ?_
   exact retRet rfl (zra rfl) (by simp[resLV,isWhite,ht,hd])
  ·refine gad ?_
   exact retRet rfl (zra rfl) (by simp[resLV,isWhite,ht,hd])
end
end Go.Proofs.YtpbbgkoalnonoaaGreatDoor
namespace Go.Stele
inductive Res (A:Type) where
 |ok (v:A) (at' op:Nat)
 |err (line e:Int)
def failLine (T:List Tok) (i:Nat):Int:=match T[min i (T.length-1)]? with
 |some t=>t.line
 |none=>1
def synErr {A:Type} (T:List Tok) (i:Nat):Res A:=.err (failLine T i) 3
def isTok (T:List Tok) (i:Nat) (xs:List (List UInt8)):Bool:=match T[i]? with
 |some t=>(decide (t.kind=3) || decide (t.kind=4)) && xs.contains t.text
 |none=>false
def sWord (T:List Tok) (k:Int) (i op:Nat):Res (List UInt8):=match T[i]? with
 |some t=>if t.kind=k then .ok t.text (i+1) op else synErr T i
 |none=>synErr T i
def sNeed (T:List Tok) (x:List UInt8) (i op:Nat):Res Unit:=if isTok T i [x] then .ok () (i+1) op else synErr T i
def sBegin (T:List Tok) (x:List UInt8) (i op:Nat):Res Unit:=
 if isTok T i [x] then (if 100≤op then .err (failLine T i) 6 else .ok () (i+1) (op+1)) else synErr T i
def Res.bind {A B:Type} (r:Res A) (f:A→Nat→Nat→Res B):Res B:=match r with
 |.ok v i op=>f v i op
 |.err l e=>.err l e
def numOf (s:List UInt8):Nat:=match Go.Lib.parseUintB 32 s with
 |.ok u=>u
 |_=>0
end Go.Stele
/- What the parser computes, in plain Lean: expressions and statements, by fuel. -/
namespace Go.Stele
inductive Ex where
 |mk (op:List UInt8) (num:Nat) (name:List UInt8) (args:List Ex)
 deriving Inhabited
inductive Sm where
 |mk (kind:Int) (name:List UInt8) (index value:List Ex) (thn els:List Sm)
 deriving Inhabited
structure FnD where
 name:List UInt8
 params:List (List UInt8)
 locals:List (List UInt8)
 body:List Sm
 deriving Inhabited
structure Ar where
 name:List UInt8
 size:Nat
 deriving Inhabited
structure Pr where
 vars:List (List UInt8)
 arrays:List Ar
 funcs:List FnD
 deriving Inhabited
def lvOps:Nat→List (List UInt8)
 |0=>[[124,124]]
 |1=>[[38,38]]
 |2=>[[61,61],[33,61],[60],[62],[60,61],[62,61]]
 |3=>[[94]]
 |4=>[[43],[45]]
 |5=>[[42],[47],[37]]
 |_=>[]
abbrev OR (A:Type):=Option (Res A)
def obind {A B:Type} (r:OR A) (f:A→Nat→Nat→OR B):OR B:=match r with
 |none=>none
 |some (.ok v i op)=>f v i op
 |some (.err l e)=>some (.err l e)
def textAt (T:List Tok) (i:Nat):List UInt8:=match T[i]? with
 |some t=>t.text
 |none=>[]
def kindAt (T:List Tok) (i:Nat):Int:=match T[i]? with
 |some t=>t.kind
 |none=>0
def sEnd (T:List Tok) (x:List UInt8) (i op:Nat):Res Unit:=(sNeed T x i op).bind fun _ i' op'=>.ok () i' (op'-1)
def sNumber (T:List Tok) (i op:Nat):Res Nat:=(sWord T 1 i op).bind fun s i' op'=>.ok (numOf s) i' op'
def sNamesLoop (T:List Tok):Nat→List (List UInt8)→Nat→Nat→OR (List (List UInt8))
 |0,_,_,_=>none
 |f+1,acc,i,op=>if isTok T i [[44]] then obind (some (sWord T 2 (i+1) op)) fun s i' op'=>sNamesLoop T f (acc++[s]) i' op' else some (.ok acc i op)
def sNames (T:List Tok) (f:Nat) (i op:Nat):OR (List (List UInt8)):=obind (some (sWord T 2 i op)) fun s i' op'=>sNamesLoop T f [s] i' op'
def nNeg:List UInt8:=[110,101,103]
def nNot:List UInt8:=[110,111,116]
def nNum:List UInt8:=[110,117,109]
def nElem:List UInt8:=[101,108,101,109]
def nCall:List UInt8:=[99,97,108,108]
def nVar:List UInt8:=[118,97,114]
mutual
def eLev (T:List Tok):Nat→Nat→Nat→Nat→OR Ex
 |0,_,_,_=>none
 |f+1,k,i,op=>if k=6 then eUnary T f i op else obind (eLev T f (k+1) i op) fun e i' op'=>eLoop T f k e i' op'
def eLoop (T:List Tok):Nat→Nat→Ex→Nat→Nat→OR Ex
 |0,_,_,_,_=>none
 |f+1,k,e,i,op=>
  if isTok T i (lvOps k) then obind (eLev T f (k+1) (i+1) op) fun e2 i' op'=>
   if k=2 then some (.ok (.mk (textAt T i) 0 [] [e,e2]) i' op') else eLoop T f k (.mk (textAt T i) 0 [] [e,e2]) i' op'
  else some (.ok e i op)
def eUnary (T:List Tok):Nat→Nat→Nat→OR Ex
 |0,_,_=>none
 |f+1,i,op=>
  if isTok T i [[45]] then obind (some (sBegin T [45] i op)) fun _ i' op'=>obind (eUnary T f i' op') fun e i' op'=>some (.ok (.mk nNeg 0 [] [e]) i' (op'-1))
  else if isTok T i [[33]] then obind (some (sBegin T [33] i op)) fun _ i' op'=>obind (eUnary T f i' op') fun e i' op'=>some (.ok (.mk nNot 0 [] [e]) i' (op'-1))
  else ePrim T f i op
def ePrim (T:List Tok):Nat→Nat→Nat→OR Ex
 |0,_,_=>none
 |f+1,i,op=>
  if isTok T i [[40]] then obind (some (sBegin T [40] i op)) fun _ i' op'=>obind (eLev T f 0 i' op') fun e i' op'=>obind (some (sEnd T [41] i' op')) fun _ i' op'=>some (.ok e i' op')
  else if kindAt T i=1 then obind (some (sNumber T i op)) fun n i' op'=>some (.ok (.mk nNum n [] []) i' op')
  else obind (some (sWord T 2 i op)) fun s i' op'=>
   if isTok T i' [[91]] then obind (eIndex T f i' op') fun e i' op'=>some (.ok (.mk nElem 0 s [e]) i' op')
   else if isTok T i' [[40]] then obind (eArgs T f i' op') fun l i' op'=>some (.ok (.mk nCall 0 s l) i' op')
   else some (.ok (.mk nVar 0 s []) i' op')
def eIndex (T:List Tok):Nat→Nat→Nat→OR Ex
 |0,_,_=>none
 |f+1,i,op=>obind (some (sBegin T [91] i op)) fun _ i' op'=>obind (eLev T f 0 i' op') fun e i' op'=>obind (some (sEnd T [93] i' op')) fun _ i' op'=>some (.ok e i' op')
def eArgs (T:List Tok):Nat→Nat→Nat→OR (List Ex)
 |0,_,_=>none
 |f+1,i,op=>obind (some (sBegin T [40] i op)) fun _ i' op'=>obind (eArgsLoop T f [] i' op') fun l i' op'=>obind (some (sEnd T [41] i' op')) fun _ i' op'=>some (.ok l i' op')
def eArgsLoop (T:List Tok):Nat→List Ex→Nat→Nat→OR (List Ex)
 |0,_,_,_=>none
 |f+1,acc,i,op=>
  if isTok T i [[41]] then some (.ok acc i op)
  else obind (some (if acc=[] then .ok () i op else sNeed T [44] i op)) fun _ i' op'=>obind (eLev T f 0 i' op') fun e i' op'=>eArgsLoop T f (acc++[e]) i' op'
end
def kwIf:List UInt8:=[105,102]
def kwElse:List UInt8:=[101,108,115,101]
def kwWhile:List UInt8:=[119,104,105,108,101]
def kwReturn:List UInt8:=[114,101,116,117,114,110]
def kwHalt:List UInt8:=[104,97,108,116]
def kwVar:List UInt8:=[118,97,114]
def kwArray:List UInt8:=[97,114,114,97,121]
def kwFunc:List UInt8:=[102,117,110,99]
end Go.Stele
namespace Go.Stele
mutual
def sBlock (T:List Tok):Nat→Nat→Nat→OR (List Sm)
 |0,_,_=>none
 |f+1,i,op=>obind (some (sBegin T [123] i op)) fun _ i' op'=>obind (sStmts T f [] i' op') fun l i' op'=>obind (some (sEnd T [125] i' op')) fun _ i' op'=>some (.ok l i' op')
def sStmts (T:List Tok):Nat→List Sm→Nat→Nat→OR (List Sm)
 |0,_,_,_=>none
 |f+1,acc,i,op=>if isTok T i [[125]] then some (.ok acc i op) else obind (sStmt T f i op) fun s i' op'=>sStmts T f (acc++[s]) i' op'
def sStmt (T:List Tok):Nat→Nat→Nat→OR Sm
 |0,_,_=>none
 |f+1,i,op=>
  if isTok T i [kwIf] then obind (eLev T f 0 (i+1) op) fun e i' op'=>obind (sBlock T f i' op') fun th i' op'=>
   if isTok T i' [kwElse] then obind (sBlock T f (i'+1) op') fun el i' op'=>some (.ok (.mk 3 [] [] [e] th el) i' op') else some (.ok (.mk 3 [] [] [e] th []) i' op')
  else if isTok T i [kwWhile] then obind (eLev T f 0 (i+1) op) fun e i' op'=>obind (sBlock T f i' op') fun th i' op'=>some (.ok (.mk 4 [] [] [e] th []) i' op')
  else obind (sSimple T f i op) fun s i' op'=>obind (some (sNeed T [59] i' op')) fun _ i' op'=>some (.ok s i' op')
def sSimple (T:List Tok):Nat→Nat→Nat→OR Sm
 |0,_,_=>none
 |f+1,i,op=>
  if isTok T i [kwReturn] then obind (eLev T f 0 (i+1) op) fun e i' op'=>some (.ok (.mk 5 [] [] [e] [] []) i' op')
  else if isTok T i [kwHalt] then some (.ok (.mk 7 [] [] [] [] []) (i+1) op)
  else obind (some (sWord T 2 i op)) fun s i' op'=>
   if isTok T i' [[40]] then obind (eArgs T f i' op') fun l i' op'=>some (.ok (.mk 6 [] [] [.mk nCall 0 s l] [] []) i' op')
   else if isTok T i' [[91]] then obind (eIndex T f i' op') fun x i' op'=>obind (some (sNeed T [61] i' op')) fun _ i' op'=>obind (eLev T f 0 i' op') fun e i' op'=>some (.ok (.mk 2 s [x] [e] [] []) i' op')
   else obind (some (sNeed T [61] i' op')) fun _ i' op'=>obind (eLev T f 0 i' op') fun e i' op'=>some (.ok (.mk 1 s [] [e] [] []) i' op')
end
def sVars (T:List Tok):Nat→List (List UInt8)→Nat→Nat→OR (List (List UInt8))
 |0,_,_,_=>none
 |f+1,acc,i,op=>if isTok T i [kwVar] then obind (sNames T f (i+1) op) fun l i' op'=>obind (some (sNeed T [59] i' op')) fun _ i' op'=>sVars T f (acc++l) i' op' else some (.ok acc i op)
def sFunc (T:List Tok) (f:Nat) (i op:Nat):OR FnD:=
 obind (some (sWord T 2 i op)) fun nm i' op'=>obind (some (sBegin T [40] i' op')) fun _ i' op'=>
 obind (if isTok T i' [[41]] then some (.ok [] i' op') else sNames T f i' op') fun ps i' op'=>obind (some (sEnd T [41] i' op')) fun _ i' op'=>
 obind (some (sBegin T [123] i' op')) fun _ i' op'=>obind (sVars T f [] i' op') fun ls i' op'=>obind (sStmts T f [] i' op') fun b i' op'=>
 obind (some (sEnd T [125] i' op')) fun _ i' op'=>some (.ok ⟨nm,ps,ls,b⟩ i' op')
def sArray (T:List Tok) (i op:Nat):OR Ar:=
 obind (some (sWord T 2 i op)) fun nm i' op'=>obind (some (sBegin T [91] i' op')) fun _ i' op'=>obind (some (sNumber T i' op')) fun n i' op'=>
 obind (some (sEnd T [93] i' op')) fun _ i' op'=>obind (some (sNeed T [59] i' op')) fun _ i' op'=>some (.ok ⟨nm,n⟩ i' op')
def sProg (T:List Tok):Nat→Pr→Nat→Nat→OR Pr
 |0,_,_,_=>none
 |f+1,p,i,op=>
  if T.length≤i then some (.ok p i op)
  else if isTok T i [kwVar] then obind (sVars T f [] i op) fun l i' op'=>sProg T f { p with vars:=p.vars++l } i' op'
  else if isTok T i [kwArray] then obind (sArray T (i+1) op) fun a i' op'=>sProg T f { p with arrays:=p.arrays++[a] } i' op'
  else if isTok T i [kwFunc] then obind (sFunc T f (i+1) op) fun a i' op'=>sProg T f { p with funcs:=p.funcs++[a] } i' op'
  else some (synErr T i)
end Go.Stele
namespace Go.Stele
def exOp:Ex→List UInt8|.mk o _ _ _=>o
def exNum:Ex→Nat|.mk _ n _ _=>n
def exName:Ex→List UInt8|.mk _ _ n _=>n
def exArgs:Ex→List Ex|.mk _ _ _ a=>a
def smKind:Sm→Int|.mk k _ _ _ _ _=>k
def smName:Sm→List UInt8|.mk _ n _ _ _ _=>n
def smIndex:Sm→List Ex|.mk _ _ i _ _ _=>i
def smValue:Sm→List Ex|.mk _ _ _ v _ _=>v
def smThen:Sm→List Sm|.mk _ _ _ _ t _=>t
def smElse:Sm→List Sm|.mk _ _ _ _ _ e=>e
end Go.Stele
namespace Go.Proofs.YtpbbgkoalnonoaaGreatDoor
open Go.GL Go.RowKit Go.Stele
mutual
def encArgs:Ex→List LV
 |.mk _ _ _ a=>encEs a
def encEs:List Ex→List LV
 |[]=>[]
 |e::r=>.agg [str (exOp e),int .u32 (exNum e),str (exName e),.list (encArgs e)]::encEs r
end
def encE (e:Ex):LV:=.agg [str (exOp e),int .u32 (exNum e),str (exName e),.list (encArgs e)]
theorem encEs_map:∀ l:List Ex,encEs l=l.map encE
 |[]=>by simp[encEs]
 |e::r=>by rw[encEs,encEs_map r];try rfl
theorem encArgs_map (o:List UInt8) (n:Nat) (nm:List UInt8) (a:List Ex):encArgs (.mk o n nm a)=a.map encE:=by rw[encArgs,encEs_map]
theorem encE_mk (o:List UInt8) (n:Nat) (nm:List UInt8) (a:List Ex):encE (.mk o n nm a)=.agg [str o,int .u32 n,str nm,.list (a.map encE)]:=by rw[encE,encArgs_map];try rfl
mutual
def encThen:Sm→List LV
 |.mk _ _ _ _ t _=>encSs t
def encElse:Sm→List LV
 |.mk _ _ _ _ _ e=>encSs e
def encSs:List Sm→List LV
 |[]=>[]
 |s::r=>.agg [int .i64 (smKind s),str (smName s),.list ((smIndex s).map encE),.list ((smValue s).map encE),.list (encThen s),.list (encElse s)]::encSs r
end
def encS (s:Sm):LV:=.agg [int .i64 (smKind s),str (smName s),.list ((smIndex s).map encE),.list ((smValue s).map encE),.list (encThen s),.list (encElse s)]
theorem encSs_map:∀ l:List Sm,encSs l=l.map encS
 |[]=>by simp[encSs]
 |e::r=>by rw[encSs,encSs_map r];try rfl
theorem encS_mk (k:Int) (n:List UInt8) (i v:List Ex) (t e:List Sm):encS (.mk k n i v t e)=.agg [int .i64 k,str n,.list (i.map encE),.list (v.map encE),.list (t.map encS),.list (e.map encS)]:=by
 rw[encS,encThen,encElse,encSs_map,encSs_map];try rfl
def encAr (a:Ar):LV:=.agg [str a.name,int .i64 a.size]
def encFn (f:FnD):LV:=.agg [str f.name,.list (f.params.map str),.list (f.locals.map str),.list (f.body.map encS)]
def encPr (p:Pr):LV:=.agg [.list (p.vars.map str),.list (p.arrays.map encAr),.list (p.funcs.map encFn)]
end Go.Proofs.YtpbbgkoalnonoaaGreatDoor
namespace Go.GL
open Go.RowKit
class TIface (P:Program) (t:TypeId):Prop where
 und:∃ ms,P.underlying t=some (.interface ms)
def chkIface (P:Program) (t:Nat):Bool:=match P.underlying t with|some (.interface _)=>true|_=>false
theorem TIface.of {P:Program} {t:Nat} (h:chkIface P t=true):TIface P t:=by
 unfold chkIface at h
 refine ⟨?_⟩
 cases hu:P.underlying t with
 |none=>rw[hu] at h;simp at h
 |some d=>rw[hu] at h;cases d <;> simp_all
section
variable {C:Ctx} {e:Env} {H:Heap} {dst:Option Nat} {ty:TypeId} {pos:String} {aft:Array Edge} {g:Option (Nat×Bool)} {xT yT:TypeId} {x:Operand}
theorem equal_step (t:TypeId) (x y:Value):Op.equal t x y=Op.equalIn (9999+1) t x y:=rfl
theorem run_equal_nil {P:Program} {t:TypeId} [h:TIface P t] (w:World):(Op.equal t .nilIface .nilIface).run P w=.ok true w:=by
 obtain ⟨ms,hu⟩:=h.und
 rw[equal_step,Op.equalIn]
 simp only[Sem.run_bind,run_underlying' hu,Result.andThen_ok,Sem.run_pure]
theorem run_equal_iface {P:Program} {t:TypeId} [h:TIface P t] (u:TypeId) (p:Value) (w:World):(Op.equal t (.iface u p) .nilIface).run P w=.ok false w:=by
 obtain ⟨ms,hu⟩:=h.und
 rw[equal_step,Op.equalIn]
 simp only[Sem.run_bind,run_underlying' hu,Result.andThen_ok,Sem.run_pure]
theorem Pure.nilNeqNil [TIface C.P xT] (hx:e.ev x=.atom .nilIface):Pure C ⟨dst,.binOp .neq xT x (.const .nilIface) yT,ty,pos,aft,g⟩ e H (bool false):=
 .of_any fun ρ _ _ h=>⟨_,rep_atom,fun w'=>by
  have h1:=atom_of h hx
  have h2:=atom_of h (x:=.const .nilIface) rfl
  have he:eqGuard .neq xT x (.const .nilIface) .nilIface .nilIface=Pure.pure ():=by simp[eqGuard]
  have hb:binOp .neq xT .nilIface .nilIface=(do Pure.pure (.bool (!(←Op.equal xT .nilIface .nilIface)))):=rfl
  simp only[execOp,h1,h2,he,hb,Sem.run_bind,Sem.run_pure,Result.andThen_ok,run_equal_nil,Bool.not_true]⟩
theorem Pure.ifaceNeqNil [TIface C.P xT] {u:TypeId} {p:Value} (hx:e.ev x=.atom (.iface u p)):Pure C ⟨dst,.binOp .neq xT x (.const .nilIface) yT,ty,pos,aft,g⟩ e H (bool true):=
 .of_any fun ρ _ _ h=>⟨_,rep_atom,fun w'=>by
  have h1:=atom_of h hx
  have h2:=atom_of h (x:=.const .nilIface) rfl
  have he:eqGuard .neq xT x (.const .nilIface) (.iface u p) .nilIface=Pure.pure ():=by simp[eqGuard]
  have hb:binOp .neq xT (.iface u p) .nilIface=(do Pure.pure (.bool (!(←Op.equal xT (.iface u p) .nilIface)))):=rfl
  simp only[execOp,h1,h2,he,hb,Sem.run_bind,Sem.run_pure,Result.andThen_ok,run_equal_iface,Bool.not_false]⟩
theorem str_eq {a b:List UInt8} (h:a=b):str a=str b:=by rw[h]
theorem Pure.cvt {k k0 k':IntKind} {s d:TypeId} {n:Int} [hs:TKind C.P s k0] [hd:TKind C.P d k'] (hx:e.ev x=int k n):Pure C ⟨dst,.convert s d x,ty,pos,aft,g⟩ e H (int k' (k'.wrap n)):=Pure.convInt ⟨_,hs.und⟩ hx
end
end Go.GL
/- A small logic over the walk's 'Code.wp': drawn regions in which more than one operation may come up; division; bytes to a string. -/
namespace Go.GL
open Go.RowKit
section any
variable {C:Ctx} {n:Nat} {ops:Array Oper} {Q:Post} {HF:Heap} {fuel:Nat} {listed:Array Bool} {e:Env} {H:Heap}
def LLateOp (C:Ctx) (n:Nat) (ops:Array Oper) (Q:Post) (HF:Heap) (fuel:Nat) (listed:Array Bool) (e:Env) (H:Heap) (i:Nat):Prop:=
 ∀ w0 L0 a w L,(∀ b,L0 b≤L b)→Agree w0 L0 HF w→(∀ p∈HF,p.1<w.heap.size)→RelE n a e w L→RelH C w L H →
  wpOp C.P ops (lift C n w L (keys H) Q) i (fun a' w'=>Agree w0 L0 HF w'∧wpAnyH C.P .any ops (lift C n w L (keys H) Q) (Agree w0 L0 HF) fuel (listed.setIfInBounds i true) a' w') a w
theorem LLate.all {is:List Nat} (hr:Region.ready .any ops listed=is) (hne:is≠[]) (h:∀ i∈is,LLateOp C n ops Q HF fuel listed e H i):LLate C n ops Q HF (fuel+1) listed e H:=fun w0 L0 a w L hL hA hsz hE hH=>
 wpAnyH_all hr hne fun j hj=>h j hj w0 L0 a w L hL hA hsz hE hH
theorem lS {i:Nat} {dst:Option Nat} {op:Op} {ty:TypeId} {pos:String} {aft:Array Edge} {g:Option (Nat×Bool)} {H1 F:Heap} (hi:ops[i]? = some ⟨dst,op,ty,pos,aft,g⟩) (hg:g=none∨∃ j b d,g=some (j,b)∧(ops[j]?).bind (·.dst)=some d∧e.s d=.atom (.bool b)) (hd:dstOk n dst)
  (p:H.Perm (H1++F)) (hHF:HSub HF F)
  (h:LStep C ⟨dst,op,ty,pos,aft,g⟩ e H1 (fun lv H'=>LLate C n ops Q HF fuel (listed.setIfInBounds i true) (e.put dst lv) (H'++F)) (fun ch H'=>∀ e',e'.ds=e.ds→Q (.panic ch) e' (H'++F))) :
  LLateOp C n ops Q HF fuel listed e H i:=fun w0 L0 a w L hL hA hsz hE hH=>by
 have hH':=hH.perm p
 have hn:(keys H1++keys F).Nodup:=by simpa [keys] using hH'.nodup
 have hdis:∀ q∈HF,q.1 ∉ keys H1:=fun q hq hm=>(List.nodup_append.1 hn).2.2 _ hm _ (List.mem_map_of_mem (hHF.mem q hq)) rfl
 have hw:Region.wanted ⟨dst,op,ty,pos,aft,g⟩ (yielded ops a.tmps)=true:=by
  rcases hg with rfl|⟨j,b,d,rfl,hj,hb⟩
  ·simp[Region.wanted]
  ·simp[Region.wanted,yielded_env hE hj hb]
 unfold wpOp
 rw[hi]
 simp only
 rw[if_pos hw]
 refine .inl (step_wp (H:=H1) h hd hE hH'.left (fun lv H' L' w' a' h1 h2 h3 h4=>?_) (fun ch H' L' w' h1 h2 h3=>?_))
 ·have hfr:=hH'.frame h1 h2
  have hag:Agree w0 L0 HF w':=⟨fun q hq=>(h1.block q.1 (hsz q hq) (hdis q hq)).trans (hA.1 q hq),fun b i hi=>(h1.ext.live b i (Nat.lt_of_lt_of_le hi (hL b))).trans (hA.2 b i hi)⟩
  exact ⟨hag,wpAnyH_mono (fun _ _ _=>lift_trans (hfr.2.perm p.symm)) _ _ _ _ (h4 w0 L0 a' w' L' (fun b=>zNt (hL b) (h1.ext.mono b)) hag (fun q hq=>Nat.lt_of_lt_of_le (hsz q hq) h1.ext.size) h3 hfr.1)⟩
 ·have hfr:=hH'.frame h1 h2
  exact ⟨e,H'++F,L',hfr.2.perm p.symm,hfr.1,hE.ds,h3 e rfl⟩
theorem zl1 {i:Nat} (hr:Region.ready .any ops listed=[i]) (h:LLateOp C n ops Q HF fuel listed e H i):LLate C n ops Q HF (fuel+1) listed e H:=
 LLate.all hr (by simp) fun j hj=>by
  obtain rfl:=List.mem_singleton.1 hj
  exact h
theorem LLate.two {i j:Nat} (hr:Region.ready .any ops listed=[i,j]) (h:LLateOp C n ops Q HF fuel listed e H i) (h':LLateOp C n ops Q HF fuel listed e H j):LLate C n ops Q HF (fuel+1) listed e H:=
 LLate.all hr (by simp) fun k hk=>by
  rcases zMi.1 hk with rfl|hk
  ·exact h
  ·obtain rfl:=List.mem_singleton.1 hk
   exact h'
theorem lW {i:Nat} {dst:Option Nat} {op:Op} {ty:TypeId} {pos:String} {aft:Array Edge} {g:Option (Nat×Bool)} (hi:ops[i]? = some ⟨dst,op,ty,pos,aft,g⟩) (hg:g=none∨∃ j b d,g=some (j,b)∧(ops[j]?).bind (·.dst)=some d∧e.s d=.atom (.bool b)) (hd:dstOk n dst)
  (h:LStep C ⟨dst,op,ty,pos,aft,g⟩ e H (fun lv H'=>LLate C n ops Q [] fuel (listed.setIfInBounds i true) (e.put dst lv) H') (fun ch H'=>∀ e',e'.ds=e.ds→Q (.panic ch) e' H')) :
  LLateOp C n ops Q [] fuel listed e H i:=lS (H1:=H) (F:=[]) hi hg hd (by simp) zhn (by simpa using h)
end any
theorem LQ.bcase {C:Ctx} {n:Nat} {ops:Array Oper} {K:Env→Prop} {e:Env} {H:Heap} {rest:List Oper} (d:Nat) {b:Bool} (hb:e.s d=bool b) (ht:b=true→LQ C n ops K rest (e.upd d (bool true)) H) (hf:b=false→LQ C n ops K rest (e.upd d (bool false)) H):LQ C n ops K rest e H:=by
 cases b
 ·have:=hf rfl;rwa [Env.upd_self hb] at this
 ·have:=ht rfl;rwa [Env.upd_self hb] at this
section pure
variable {C:Ctx} {e:Env} {H:Heap} {dst:Option Nat} {ty:TypeId} {pos:String} {aft:Array Edge} {g:Option (Nat×Bool)} {xT yT:TypeId} {x y:Operand} {k:IntKind} {a b:Int}
theorem Pure.quo (hx:e.ev x=int .i64 a) (hy:e.ev y=int .i64 b) (hb:0<b) (ha:0≤a) (h:a≤9223372036854775807):Pure C ⟨dst,.binOp .quo xT x y yT,ty,pos,aft,g⟩ e H (int .i64 (a / b)):=
 .of_any fun _ _ _ h'=>⟨_,rep_atom,run_int (atom_of h' hx) (atom_of h' hy) (by simp) (by simp) (s:=Op.intDiv .quo .i64 a b) (by simp only[binOp,ne_eq,not_true_eq_false,if_false]) (fun w=>by
  have h1:a.tdiv b=a / b:=Int.tdiv_eq_ediv_of_nonneg ha
  have h2:0≤a / b:=Int.ediv_nonneg ha zo
  have h3:a / b≤a:=Int.ediv_le_self _ ha
  rw[Op.intDiv,if_neg zo]
  simp only[h1]
  rw[wrap_i64 zo]
  rfl)⟩
theorem Pure.rem (hx:e.ev x=int .i64 a) (hy:e.ev y=int .i64 b) (hb:0<b) (ha:0≤a):Pure C ⟨dst,.binOp .rem xT x y yT,ty,pos,aft,g⟩ e H (int .i64 (a % b)):=
 .of_any fun _ _ _ h'=>⟨_,rep_atom,run_int (atom_of h' hx) (atom_of h' hy) (by simp) (by simp) (s:=Op.intDiv .rem .i64 a b) (by simp only[binOp,ne_eq,not_true_eq_false,if_false]) (fun w=>by
  have h1:a.tmod b=a % b:=Int.tmod_eq_emod_of_nonneg ha
  rw[Op.intDiv,if_neg zo]
  simp only[h1]
  rfl)⟩
theorem Pure.bytesStr {s d el:TypeId} [hs:TSlice C.P s el 1] [he:TKind C.P el .u8] [hd:TStr C.P d] {l:List UInt8} (hx:elems (e.ev x)=some (l.map fun b=>int .u8 b.toNat)) (hne:l≠[]) :
  Pure C ⟨dst,.convert s d x,ty,pos,aft,g⟩ e H (str l):=fun ρ w L h _=>by
 obtain ⟨a,cap,hv,hcap,hr⟩:=(h x).elems hx
 obtain ⟨b,off,k',rfl,hrr⟩:=hr (by simpa using hne)
 refine ⟨_,rep_atom,fun w' ha=>?_⟩
 have h0:execOp ρ ⟨dst,.convert s d x,ty,pos,aft,g⟩=(do Pure.pure (.value (←convert s d (ρ x)))):=rfl
 have hlen:(l.map fun b=>int .u8 b.toNat).length=l.length:=by simp
 have:=run_convert_bytes_back (P:=C.P) w' s d el ⟨b,off,none⟩ cap l hs.und he.und hd.und (fun j hj=>by
  obtain ⟨h1,h2⟩:=hrr.get (i:=j) (e:=int .u8 l[j].toNat) (by simp[hj])
  simp only[LV.cells,RepC,List.length_singleton] at h1 h2
  obtain ⟨h3,⟨v,h4,h5⟩,_⟩:=h2
  simp only[Rep] at h5
  subst h5
  subst h1
  rw[Nat.mul_one] at h3 h4
  rw[add_mk]
  rw[ha.2 b _ h3]
  exact h4)
 rw[h0,hv,hlen]
 simp only[Sem.run_bind,this,Result.andThen_ok,Sem.run_pure]
end pure
end Go.GL
namespace Go.GL
open Go.RowKit
theorem aT (i:Nat) {C:Ctx} {n:Nat} {ops:Array Oper} {Q:Post} {HF:Heap} {fuel:Nat} {listed:Array Bool} {e:Env} {H:Heap} {dst:Option Nat} {op:Op} {ty:TypeId} {pos:String} {aft:Array Edge} {lv:LV}
  (hi:ops[i]? = some ⟨dst,op,ty,pos,aft,none⟩) (hd:dstOk n dst) (hp:Pure C ⟨dst,op,ty,pos,aft,none⟩ e HF lv) (k:LAny C n ops Q HF fuel (listed.setIfInBounds i true) (e.put dst lv) H) (hs:Region.noSelect ops=true:=by kernel_rfl) (hf:Region.free .any ops listed i=true:=by kernel_rfl) (hr:(Region.ready .any ops listed).contains i=true:=by kernel_rfl)
  (hHF:HSub HF H:=by first|exact HSub.nil _|exact zhR _|exact zhD zhr|exact zhP pH zhn|exact zhP zp1 zhn|exact zhP zp2 zhn|exact zhP pH zhp|exact ⟨_,List.Perm.refl _⟩):LAny C n ops Q HF (fuel+1) listed e H:=LAny.take hHF hi hs hf hr hd hp k
theorem LAny.tkW (i:Nat) {C:Ctx} {n:Nat} {ops:Array Oper} {Q:Post} {HF:Heap} {fuel:Nat} {listed:Array Bool} {e:Env} {H:Heap} {j d:Nat} {b:Bool} {dst:Option Nat} {op:Op} {ty:TypeId} {pos:String} {aft:Array Edge} {lv:LV}
  (hi:ops[i]? = some ⟨dst,op,ty,pos,aft,some (j,b)⟩) (hj:(ops[j]?).bind (·.dst)=some d) (hb:e.s d=.atom (.bool b)) (hd:dstOk n dst) (hp:Pure C ⟨dst,op,ty,pos,aft,some (j,b)⟩ e HF lv) (k:LAny C n ops Q HF fuel (listed.setIfInBounds i true) (e.put dst lv) H) (hs:Region.noSelect ops=true:=by kernel_rfl) (hf:Region.free .any ops listed i=true:=by kernel_rfl) (hr:(Region.ready .any ops listed).contains i=true:=by kernel_rfl)
  (hHF:HSub HF H:=by first|exact HSub.nil _|exact zhR _|exact zhD zhr|exact zhP pH zhn|exact zhP zp1 zhn|exact zhP zp2 zhn|exact zhP pH zhp|exact ⟨_,List.Perm.refl _⟩):LAny C n ops Q HF (fuel+1) listed e H:=LAny.takeWant hHF hi hj hb hs hf hr hd hp k
theorem lO {C:Ctx} {n:Nat} {ops:Array Oper} {Q:Post} {HF:Heap} {fuel:Nat} {listed:Array Bool} {e:Env} {H:Heap} (i:Nat) (h:LLateOp C n ops Q HF fuel listed e H i) (hr:Region.ready .any ops listed=[i]:=by kernel_rfl):LLate C n ops Q HF (fuel+1) listed e H:=zl1 hr h
end Go.GL
namespace Go.GL
open Go.RowKit
section
variable {C:Ctx} {e:Env} {H:Heap} {dst:Option Nat} {ty:TypeId} {pos:String} {aft:Array Edge} {g:Option (Nat×Bool)} {K:LV→Heap→Prop} {X:List PanicEntry→Heap→Prop} {x y:Operand}
theorem S.accF {sT xT el s bytes:Nat} [ht:TSlice C.P sT el s] [hr:TRow C.P el s bytes] {e2 s2:Nat} [hx2:TSlice C.P xT e2 s2] {v:LV} {es ms:List LV} {H1 F A:Heap}
  (hp:H.Perm (H1++A)) (hx:e.ev x=v) (ha:Acc s v es H1 F) (hy:GL.elems (e.ev y)=some ms) (hs:∀ v∈ms,v.cells.length=s) (hok:(ms.flatMap LV.cells).all cellOk=true) (hroom:(es.length+ms.length) * bytes≤140737488355328)
  (hk:∀ v' H',Acc s v' (es++ms) H' F→K v' (A++H')):LStep C ⟨dst,.call { callee:=.builtin .append,args:=#[x,y],argTypes:=#[sT,xT] },ty,pos,aft,g⟩ e H K X:=by
 refine LStep.conseq (K:=fun lv H'=>∃ H2,H'=H2++A∧Acc s lv (es++ms) H2 F) (LStep.frame hp (S.acc hx ha hy hs hok hroom fun v' H' h=>⟨H',rfl,h⟩)) ?_
 rintro lv H' ⟨H2,rfl,h⟩
 exact ⟨lv,A++H2,LV.Sub.refl _,⟨[],by simpa using zPc⟩,hk _ _ h⟩
theorem S.acc1 {sT xT el s bytes:Nat} [ht:TSlice C.P sT el s] [hr:TRow C.P el s bytes] {e2 s2:Nat} [hx2:TSlice C.P xT e2 s2] {v:LV} {es ms:List LV} {H1 F:Heap} {q:Nat×LObj}
  (hx:e.ev x=v) (ha:Acc s v es H1 F) (hy:GL.elems (e.ev y)=some ms) (hs:∀ v∈ms,v.cells.length=s) (hok:(ms.flatMap LV.cells).all cellOk=true) (hroom:(es.length+ms.length) * bytes≤140737488355328)
  (hk:∀ v' H',Acc s v' (es++ms) H' F→K v' (q::H')):LStep C ⟨dst,.call { callee:=.builtin .append,args:=#[x,y],argTypes:=#[sT,xT] },ty,pos,aft,g⟩ e (q::H1) K X:=
 S.accF (A:=[q]) ((List.perm_append_singleton _ _).symm) hx ha hy hs hok hroom hk
end
end Go.GL
namespace Go.GL
open Go.RowKit
def noCells:Obj→Bool
 |.cells _ _ _=>false
 |_=>true
theorem shape_none {w:World} {b:Nat} {o:Obj} (h:w.heap[b]? = some o) (ho:noCells o=true):w.shape? b=none:=by
 simp only[World.shape?,h]
 cases o <;> simp_all [noCells]
section
variable {C:Ctx} {e:Env} {H:Heap} {dst:Option Nat} {ty:TypeId} {pos:String} {aft:Array Edge} {g:Option (Nat×Bool)} {K:LV→Heap→Prop} {X:List PanicEntry→Heap→Prop} {x y:Operand}
theorem left_newObj {w:World} {L:Live} (hH:RelH C w L []) {o:Obj} (ho:noCells o=true) {v:Value} (hk:K (.atom v) [(w.heap.size,.obj o)]):Left C w L [] (World.push w o) v K:=by
 have:=fr_push hH o 0 [(w.heap.size,.obj o)] (fun p hp=>by
  simp only[List.mem_singleton] at hp
  subst hp
  exact ⟨rfl,by simp[Live.upd],heap_push_self,shape_none heap_push_self ho⟩) (by simp)
 exact ⟨_,_,_,this.1,this.2,rep_atom,hk⟩
theorem left_obj {w w':World} {L:Live} {b:Nat} {o o':Obj} (hH:RelH C w L [(b,.obj o)]) (ho':noCells o'=true) (h1:w'.os=w.os) (h2:w'.tape=w.tape) (h3:w'.output=w.output)
  (h4:w'.heap.size=w.heap.size) (h5:∀ c,c≠b→w'.heap[c]? = w.heap[c]?) (h6:w'.heap[b]? = some o') {v:Value} {lv:LV} (hv:∀ L,Rep w' L lv v) (hk:K lv [(b,.obj o')]):Left C w L [(b,.obj o)] w' v K:=by
 obtain ⟨hb0,hbs,hl,hx1,hx2⟩:=hH.objs _ (List.mem_singleton.2 rfl)
 simp only at hb0 hbs hl hx1 hx2
 have hx:Ext w L w' L:=by
  refine ⟨by rw[h4];exact zNr _,fun c hc=>?_,fun c i hi=>?_,fun _=>zNr _⟩
  ·by_cases he:c=b
   ·subst he
    rw[hx2]
    exact shape_none h6 ho'
   ·exact shape_of_heap (h5 c he)
  ·by_cases he:c=b
   ·subst he;rw[hl] at hi;omega
   ·exact cell_of_heap (h5 c he) i
 refine ⟨lv,[(b,.obj o')],L,⟨h1,h2,h3,hx,fun c hc hn=>h5 c (by simpa using hn),fun _ _ _=>rfl,fun p hp=>.inl (by simp only[List.mem_singleton] at hp;subst hp;simp)⟩,
  ⟨?_,hH.lbase,by rw[h4];exact hH.b0,by rw[h4];exact hH.wf,by simp,fun p hp=>?_⟩,hv L,hk⟩
 ·exact hH.base.trans ⟨h1,h2,h3,by rw[h4];exact zNr _,fun c hc=>h5 c zo⟩
 ·simp only[List.mem_singleton] at hp
  subst hp
  exact ⟨hb0,by rw[h4];exact hbs,hl,h6,shape_none h6 ho'⟩
theorem S.makeMap {t:TypeId} (hk:∀ b,K (.atom (.map (some b))) ((b,.obj (.map #[] 0))::H)):LStep C ⟨dst,.makeMap t none,ty,pos,aft,g⟩ e H K X:=by
 refine LStep.at0 fun ρ w L _ hH=>?_
 have h3:execOp ρ ⟨dst,.makeMap t none,ty,pos,aft,g⟩=(do Pure.pure (.value (←Instr.makeMap t none))):=rfl
 have h4:(Instr.makeMap t none).run C.P w=.ok (.map (some w.heap.size)) (World.push w (.map #[] 0)):=rfl
 rw[h3,Sem.run_bind,h4]
 exact left_newObj hH rfl (hk _)
def setW (w:World) (b:Nat) (o:Obj):World:={ w with heap:=w.heap.setIfInBounds b o }
theorem setW_other {w:World} {b c:Nat} {o:Obj} (h:c≠b):(setW w b o).heap[c]? = w.heap[c]? := by
 simp only[setW,Array.getElem?_setIfInBounds]
 rw[if_neg (Ne.symm h)]
theorem setW_self {w:World} {b:Nat} {o:Obj} (h:b<w.heap.size):(setW w b o).heap[b]? = some o:=by
 simp only[setW,Array.getElem?_setIfInBounds]
 simp[h]
theorem run_setObj {P:Program} {w:World} {b:Nat} {o o':Obj} (h:w.heap[b]? = some o) (ho:noCells o=true):(setObj b o').run P w=.ok () (setW w b o'):=by
 simp only[setObj,Sem.run,h]
 cases o <;> first|rfl|(simp[noCells] at ho)
theorem findNow_str (k:ByteArray):∀ (es:List MapEntry) (i:Nat),(∀ e∈es,∃ s,e.key=.string s∧¬ (k == s)=true)→Instr.findNow .string (.string k) es i=some none
 |[],_,_=>rfl
 |e::es,i,h=>by
  obtain ⟨s,hs,hne⟩:=h e List.mem_cons_self
  have hne':(k == s)=false:=by simpa using hne
  simp only[Instr.findNow,hs,Instr.sameNow,hne']
  exact findNow_str k es (i+1) (fun e he=>h e (zMo _ he))
theorem S.insert {t kt el:TypeId} (ht:C.P.underlying t=some (.map kt el)) (hkt:C.P.underlying kt=some .string) {b clock:Nat} {es:Array MapEntry} {F:Heap} {m z:Operand} {k:ByteArray} {v:Value} (hm:e.ev m=.atom (.map (some b))) (hx:e.ev x=.atom (.string k)) (hz:e.ev z=.atom v)
  (hp:Pick (b,.obj (.map es clock)) H F) (hnew:∀ e∈es.toList,∃ s,e.key=.string s∧¬ (k == s)=true) (hk:K (.atom undef) ((b,.obj (.map (es.push { key:=.string k,val:=v,born:=clock }) (clock+1)))::F)):LStep C ⟨dst,.insert t m x z,ty,pos,aft,g⟩ e H K X:=by
 refine LStep.at1 hp fun ρ w L h hH=>?_
 obtain ⟨hb0,hbs,hl,hx1,hx2⟩:=hH.objs _ (List.mem_singleton.2 rfl)
 simp only at hb0 hbs hl hx1 hx2
 have h3:execOp ρ ⟨dst,.insert t m x z,ty,pos,aft,g⟩=(do Instr.mapUpdate t (ρ m) (ρ x) (ρ z);Pure.pure .skip):=rfl
 have hf:(Instr.findKey kt (.string k) es.toList).run C.P w=.ok none w:=by
  simp only[Instr.findKey,Sem.run_bind,run_underlying' hkt,Result.andThen_ok,findNow_str k es.toList 0 hnew,Sem.run_pure]
 have hc:(Instr.checkKey false 10000 kt (.string k)).run C.P w=.ok () w:=by
  have hck:Instr.checkKey false 10000 kt (.string k)=Instr.checkKey false (9999+1) kt (.string k):=rfl
  rw[hck,Instr.checkKey]
  simp only[Sem.run_bind,run_underlying' hkt,Result.andThen_ok,Sem.run_pure]
 have hg:(getObj b).run C.P w=.ok (.map es clock) w:=by simp only[getObj,Sem.run,hx1]
 rw[h3,atom_of h hm,atom_of h hx,atom_of h hz]
 simp only[Instr.mapUpdate,Sem.run_bind,run_underlying' ht,Result.andThen_ok,hg,hc,hf]
 have hs:(setObj b (.map (es.push { key:=.string k,val:=v,born:=clock }) (clock+1))).run C.P w=.ok () (setW w b (.map (es.push { key:=.string k,val:=v,born:=clock }) (clock+1))):=run_setObj hx1 rfl
 rw[hs]
 exact left_obj (w':=setW w b (.map (es.push { key:=.string k,val:=v,born:=clock }) (clock+1))) hH rfl rfl rfl rfl (by simp[setW]) (fun c hc=>setW_other hc) (setW_self hbs) (fun _=>rep_atom) hk
theorem S.range {t kt el:TypeId} (ht:C.P.underlying t=some (.map kt el)) {b clock:Nat} {es:Array MapEntry} (hx:e.ev x=.atom (.map (some b))) (hm:(b,.obj (.map es clock))∈H)
  (hk:∀ r,K (ptr r 0) ((r,.obj (.mapIter (some b) clock #[] clock))::H)):LStep C ⟨dst,.range t x,ty,pos,aft,g⟩ e H K X:=by
 obtain ⟨F,hF⟩:∃ F,H.Perm ((b,.obj (.map es clock))::F):=by
  obtain ⟨l1,l2,rfl⟩:=List.append_of_mem hm
  exact ⟨l1++l2,List.perm_middle⟩
 have main:∀ X,LStep C ⟨dst,.range t x,ty,pos,aft,g⟩ e [(b,.obj (.map es clock))] (fun lv H'=>∃ r,lv=ptr r 0∧H'=[(r,.obj (.mapIter (some b) clock #[] clock)),(b,.obj (.map es clock))]) X:=fun X ρ w L h hH=>by
  obtain ⟨hb0,hbs,hl,hx1,hx2⟩:=hH.objs _ (List.mem_singleton.2 rfl)
  simp only at hb0 hbs hl hx1 hx2
  have h3:execOp ρ ⟨dst,.range t x,ty,pos,aft,g⟩=(do Pure.pure (.value (←Instr.range t (ρ x)))):=rfl
  have hg:(getObj b).run C.P w=.ok (.map es clock) w:=by simp only[getObj,Sem.run,hx1]
  have hn:∀ o,(newObj o).run C.P w=.ok w.heap.size (World.push w o):=fun _=>rfl
  rw[h3,atom_of h hx]
  simp only[Instr.range,Sem.run_bind,run_underlying' ht,Result.andThen_ok,hg,Sem.run_pure,hn]
  have:=Left.frame (F:=[(b,.obj (.map es clock))]) (K:=fun lv H'=>∃ r,lv=ptr r 0∧H'=[(r,.obj (.mapIter (some b) clock #[] clock)),(b,.obj (.map es clock))]) (v:=.pointer (some ⟨w.heap.size,0,none⟩)) (by simpa using hH) (left_newObj (w:=w) (L:=L) (hH.sub (List.nil_sublist _)) (o:=.mapIter (some b) clock #[] clock) rfl ⟨w.heap.size,rfl,rfl⟩)
  show Left C w L _ _ _ _
  simpa using this
 refine LStep.conseq (LStep.frame (H:=[(b,.obj (.map es clock))]) (F:=F) hF (K:=fun lv H'=>∃ r,lv=ptr r 0∧H'=[(r,.obj (.mapIter (some b) clock #[] clock)),(b,.obj (.map es clock))]++F) ?_) ?_
 ·exact LStep.conseq (main _) (fun lv H' ⟨r,h1,h2⟩=>⟨lv,H',LV.Sub.refl _,zhR _,r,h1,by rw[h2]⟩)
 ·rintro lv H' ⟨r,rfl,rfl⟩
  exact ⟨ptr r 0,_,LV.Sub.refl _,⟨[],by simpa using hF.symm⟩,hk r⟩
theorem S.next {r b since last clock:Nat} {seen:Array Nat} {es:Array MapEntry} {F:Heap} (hx:e.ev x=ptr r 0) (hp:H.Perm ((r,.obj (.mapIter (some b) since seen last))::(b,.obj (.map es clock))::F))
  (hold:∀ e∈es.toList,e.born<since∧e.born<last)
  (hover:es.filter (fun e=>!seen.contains e.born)=#[]→K (.tuple [bool false]) ((r,.obj (.mapIter (some b) since seen last))::(b,.obj (.map es clock))::F))
  (hstep:∀ e∈(es.filter (fun e=>!seen.contains e.born)).toList,K (.tuple [bool true,.atom e.key,.atom e.val]) ((r,.obj (.mapIter (some b) since (seen.push e.born) clock))::(b,.obj (.map es clock))::F)) :
  LStep C ⟨dst,.next x false,ty,pos,aft,g⟩ e H K X:=by
 refine LStep.frame (H:=[(r,.obj (.mapIter (some b) since seen last)),(b,.obj (.map es clock))]) (F:=F) hp fun ρ w L h hH=>?_
 have hr:=hH.objs (r,.obj (.mapIter (some b) since seen last)) zm0
 have hb:=hH.objs (b,.obj (.map es clock)) zm1
 obtain ⟨_,hrs,_,hr1,_⟩:=hr
 obtain ⟨_,hbs,_,hb1,_⟩:=hb
 simp only at hrs hr1 hbs hb1
 have h3:execOp ρ ⟨dst,.next x false,ty,pos,aft,g⟩=(do Pure.pure (.value (←Instr.next (ρ x) false ty))):=rfl
 have hg1:(getObj r).run C.P w=.ok (.mapIter (some b) since seen last) w:=by simp only[getObj,Sem.run,hr1]
 have hg2:(getObj b).run C.P w=.ok (.map es clock) w:=by simp only[getObj,Sem.run,hb1]
 have htest:(!seen.isEmpty && !es.isEmpty && es.all (fun e=>decide (e.born ≥ last)))=false:=by
  rw[Bool.eq_false_iff]
  intro hall
  simp only[zBa] at hall
  obtain ⟨⟨_,h1⟩,h2⟩:=hall
  have hne:0<es.size:=by
   rcases Nat.eq_zero_or_pos es.size with h0|h0
   ·have:es=#[]:=Array.eq_empty_of_size_eq_zero h0
    subst this
    simp at h1
   ·exact h0
  have h3:=(Array.all_eq_true.1 h2) 0 hne
  have h4:=(hold es[0] (by simp)).2
  simp at h3
  omega
 rw[h3,atom_of h hx]
 simp only[Instr.next,Sem.run_bind,Result.andThen_ok,hg1,hg2,htest,Bool.false_eq_true,if_false]
 generalize hL:es.filter (fun e=>!seen.contains e.born)=left at hover hstep ⊢
 have hmem:∀ x∈left.toList,x.born<since:=fun x hx=>by
  subst hL
  simp at hx
  exact (hold x (by simpa using hx.1)).1
 have e1:left.filter (fun x=>decide (x.born<since))=left:=Array.filter_eq_self.2 (fun x hx=>by simpa using hmem x (by simpa using hx))
 have e2:left.filter (fun x=>decide (x.born ≥ since))=#[]:=by
  rw[Array.filter_eq_empty_iff]
  intro x hx
  have:=hmem x (by simpa using hx)
  simp
  omega
 simp only[e1,e2,Array.append_empty]
 by_cases h0:left.size=0
 ·have:left=#[]:=Array.eq_empty_of_size_eq_zero h0
  subst this
  have hch:(choose (.mapNext 1)).run C.P w=.ok 0 w:=by simp[choose,Sem.run,Question.forced]
  simp only[Array.isEmpty_empty,if_true,Array.map_empty,Array.append_empty,List.size_toArray,List.length_singleton,hch,Sem.run_bind,Result.andThen_ok,Sem.run_pure]
  exact ⟨.tuple [bool false],_,L,Fr.refl _ _ _,hH,by simp only[Rep];exact ⟨[.bool false],rfl,by simp only[RepL,Rep];exact ⟨_,_,rfl,rfl,rfl⟩⟩,hover rfl⟩
 ·have hne:left.isEmpty=false:=by simp[Array.isEmpty,h0]
  simp only[hne,Bool.false_eq_true,if_false,Array.empty_append,Array.size_map]
  obtain ⟨j,w1,hj,hw1,hrun⟩:∃ (j:Nat) (w1:World),j<left.size∧(w1=w∨w1=w.drew)∧(choose (Question.mapNext left.size)).run C.P w=.ok j w1:=by
   by_cases hf:left.size≤1
   ·exact ⟨0,w,by omega,.inl rfl,by simp[choose,Sem.run,Question.forced,hf]⟩
   ·exact ⟨_,w.drew,Nat.mod_lt _ zo,.inr rfl,by
     simp only[choose,Sem.run,Question.forced,zDe,hf,if_false,Question.cut]
     rfl⟩
  have hr1':w1.heap[r]? = some (.mapIter (some b) since seen last):=by rcases hw1 with rfl|rfl <;> exact hr1
  have hsz:w1.heap.size=w.heap.size:=by rcases hw1 with rfl|rfl <;> rfl
  have hheap:w1.heap=w.heap:=by rcases hw1 with rfl|rfl <;> rfl
  simp only[hrun,Array.getElem?_map,Array.getElem?_eq_getElem hj,Option.map_some,Sem.run_bind,Result.andThen_ok,run_setObj hr1' rfl,Sem.run_pure]
  have hl:Left C w L [(r,.obj (.mapIter (some b) since seen last))] (setW w1 r (.mapIter (some b) since (seen.push left[j].born) clock)) (.tuple #[.bool true,left[j].key,left[j].val]) (fun lv H'=>K lv (H'++[(b,.obj (.map es clock))]++F)):=
   left_obj (lv:=.tuple [bool true,.atom left[j].key,.atom left[j].val]) (RelH.left (F:=[(b,.obj (.map es clock))]) hH) rfl (by rcases hw1 with rfl|rfl <;> rfl) (by rcases hw1 with rfl|rfl <;> rfl) (by rcases hw1 with rfl|rfl <;> rfl) (by simp[setW,hsz]) (fun c hc=>by rw[setW_other hc,hheap]) (setW_self zo)
    (fun _=>by simp only[Rep];exact ⟨[.bool true,left[j].key,left[j].val],rfl,by simp only[RepL,Rep];exact ⟨_,_,rfl,rfl,_,_,rfl,rfl,_,_,rfl,rfl,rfl⟩⟩) (hstep left[j] (by simp))
  exact Left.frame (F:=[(b,.obj (.map es clock))]) (K:=fun lv H'=>K lv (H'++F)) hH hl
theorem Pure.entry {r b since last clock stamp:Nat} {seen:Array Nat} {es:Array MapEntry} {en:MapEntry} (hx:e.ev x=ptr r 0) (hi:(r,LObj.obj (.mapIter (some b) since seen last))∈H) (hm:(b,LObj.obj (.map es clock))∈H)
  (hl:clock=last) (hb:seen.back? = some stamp) (hf:es.find? (·.born == stamp)=some en):Pure C ⟨dst,.entry x,ty,pos,aft,g⟩ e H (.tuple [.atom en.key,.atom en.val]):=fun ρ w L h hH=>by
 refine ⟨.tuple #[en.key,en.val],by simp only[Rep];exact ⟨[en.key,en.val],rfl,by simp only[RepL,Rep];exact ⟨_,_,rfl,rfl,_,_,rfl,rfl,rfl⟩⟩,fun w' ha=>?_⟩
 have h1:w'.heap[r]? = some (.mapIter (some b) since seen last):=(ha.1 _ hi).trans (hH.objs _ hi).2.2.2.1
 have h2:w'.heap[b]? = some (.map es clock):=(ha.1 _ hm).trans (hH.objs _ hm).2.2.2.1
 have h3:execOp ρ ⟨dst,.entry x,ty,pos,aft,g⟩=(do Pure.pure (.value (←Instr.entry (ρ x)))):=rfl
 have hg1:(getObj r).run C.P w'=.ok (.mapIter (some b) since seen last) w':=by simp only[getObj,Sem.run,h1]
 have hg2:(getObj b).run C.P w'=.ok (.map es clock) w':=by simp only[getObj,Sem.run,h2]
 have hne:(clock != last)=false:=by rw[hl];simp
 rw[h3,atom_of h hx]
 simp only[Instr.entry,Sem.run_bind,Result.andThen_ok,hg1,hb,hg2,hne,Bool.false_eq_true,if_false,Sem.run_pure,hf]
theorem lH {n:Nat} {ops:Array Oper} {Q:Post} {HF:Heap} {fuel:Nat} {listed:Array Bool} {i:Nat} {op:Op} {lv:LV} (hi:ops[i]? = some ⟨dst,op,ty,pos,aft,none⟩) (hd:dstOk n dst)
  (hp:Pure C ⟨dst,op,ty,pos,aft,none⟩ e H lv) (k:LLate C n ops Q HF fuel (listed.setIfInBounds i true) (e.put dst lv) H):LLateOp C n ops Q HF fuel listed e H i:=fun w0 L0 a w L hL hA hsz hE hH=>by
 obtain ⟨v,hv,hrun⟩:=hp a.eval w L hE.ev hH
 unfold wpOp
 rw[hi]
 simp only
 rw[if_pos (by simp[Region.wanted])]
 refine .inl ?_
 unfold Oper.wp
 rw[hrun w (Agree.refl _ _ _)]
 exact ⟨hA,k w0 L0 _ w L hL hA hsz (hE.put hd hv) hH⟩
end
end Go.GL
namespace Go.GL
open Go.RowKit
structure SetMap (es:Array MapEntry) (p:List UInt8→Bool):Prop where
 keys:∀ e∈es.toList,∃ s:List UInt8,e.key=.string ⟨s.toArray⟩∧e.val=.bool true∧p s=true
 all:∀ s,p s=true→∃ e∈es.toList,e.key=.string ⟨s.toArray⟩
theorem bytes_beq (a b:List UInt8):((⟨a.toArray⟩:ByteArray) == ⟨b.toArray⟩)=decide (a=b):=by
 show (a.toArray == b.toArray)=_
 rw[Bool.eq_iff_iff]
 simp
theorem findNow_in (k:List UInt8):∀ (es:List MapEntry) (i:Nat),(∀ e∈es,∃ s:List UInt8,e.key=.string ⟨s.toArray⟩∧e.val=.bool true)→(∃ e∈es,e.key=.string ⟨k.toArray⟩) →
  ∃ (j:Nat) (e:MapEntry),Instr.findNow .string (.string ⟨k.toArray⟩) es i=some (some (i+j,.bool true))∧es[j]? = some e∧e.key=.string ⟨k.toArray⟩
 |[],_,_,h=>by obtain ⟨e,he,_⟩:=h;cases he
 |e::es,i,h,hk=>by
  obtain ⟨s,h1,h2⟩:=h e List.mem_cons_self
  by_cases hs:k=s
  ·refine ⟨0,e,?_,rfl,by rw[h1,hs]⟩
   have hb:((⟨k.toArray⟩:ByteArray) == ⟨s.toArray⟩)=true:=by rw[bytes_beq,decide_eq_true hs]
   simp only[Instr.findNow,h1,Instr.sameNow,hb,h2,Nat.add_zero]
  ·have hb:((⟨k.toArray⟩:ByteArray) == ⟨s.toArray⟩)=false:=by rw[bytes_beq,decide_eq_false hs]
   obtain ⟨e',he',hk'⟩:=hk
   have hin:e'∈es:=by
    rcases zMi.1 he' with rfl|h3
    ·rw[h1] at hk'
     have:s=k:=by simpa using hk'
     exact absurd this.symm hs
    ·exact h3
   obtain ⟨j,e2,g1,g2,g3⟩:=findNow_in k es (i+1) (fun x hx=>h x (zMo _ hx)) ⟨e',hin,hk'⟩
   refine ⟨j+1,e2,?_,g2,g3⟩
   simp only[Instr.findNow,h1,Instr.sameNow,hb]
   rw[g1]
   congr 3
   omega
section
variable {C:Ctx} {e:Env} {H:Heap} {dst:Option Nat} {ty:TypeId} {pos:String} {aft:Array Edge} {g:Option (Nat×Bool)} {K:LV→Heap→Prop} {X:List PanicEntry→Heap→Prop} {x y:Operand}
theorem run_checkStr {w:World} {kt:TypeId} (hkt:C.P.underlying kt=some .string) (b:Bool) (k:ByteArray):(Instr.checkKey b 10000 kt (.string k)).run C.P w=.ok () w:=by
 have hck:Instr.checkKey b 10000 kt (.string k)=Instr.checkKey b (9999+1) kt (.string k):=rfl
 rw[hck,Instr.checkKey]
 simp only[Sem.run_bind,run_underlying' hkt,Result.andThen_ok,Sem.run_pure]
theorem S.setAdd {t kt el:TypeId} (ht:C.P.underlying t=some (.map kt el)) (hkt:C.P.underlying kt=some .string) {b clock:Nat} {es:Array MapEntry} {p:List UInt8→Bool} {F:Heap} {m z:Operand} {k:List UInt8} (hm:e.ev m=.atom (.map (some b))) (hx:e.ev x=str k) (hz:e.ev z=bool true)
  (hp:Pick (b,.obj (.map es clock)) H F) (hs:SetMap es p) (hk:∀ es' clock',SetMap es' (fun s=>p s || decide (s=k))→K (.atom undef) ((b,.obj (.map es' clock'))::F)):LStep C ⟨dst,.insert t m x z,ty,pos,aft,g⟩ e H K X:=by
 by_cases hin:p k=true
 ·refine LStep.at1 hp fun ρ w L h hH=>?_
  obtain ⟨hb0,hbs,hl,hx1,hx2⟩:=hH.objs _ (List.mem_singleton.2 rfl)
  simp only at hb0 hbs hl hx1 hx2
  have h3:execOp ρ ⟨dst,.insert t m x z,ty,pos,aft,g⟩=(do Instr.mapUpdate t (ρ m) (ρ x) (ρ z);Pure.pure .skip):=rfl
  obtain ⟨j,e2,g1,g2,g3⟩:=findNow_in k es.toList 0 (fun e he=>by obtain ⟨s,h1,h2,_⟩:=hs.keys e he;exact ⟨s,h1,h2⟩) (hs.all k hin)
  have hf:(Instr.findKey kt (.string ⟨k.toArray⟩) es.toList).run C.P w=.ok (some (0+j,.bool true)) w:=by
   simp only[Instr.findKey,Sem.run_bind,run_underlying' hkt,Result.andThen_ok,g1,Sem.run_pure]
  have hg:(getObj b).run C.P w=.ok (.map es clock) w:=by simp only[getObj,Sem.run,hx1]
  have hg2:es[j]? = some e2:=by simpa using g2
  have hst:(Instr.keyThatStays (((es[0+j]?).map (·.key)).getD (.string ⟨k.toArray⟩)) (.string ⟨k.toArray⟩)).run C.P w=.ok (.string ⟨k.toArray⟩) w:=by
   rw[Nat.zero_add,hg2]
   simp only[Option.map_some,Option.getD_some,g3]
   unfold Instr.keyThatStays
   rw[if_pos (by simp only[Instr.sameBits];rw[bytes_beq];simp)]
   try rfl
  rw[h3,atom_of h hm,atom_of h hx,atom_of h hz]
  simp only[Instr.mapUpdate,Sem.run_bind,run_underlying' ht,Result.andThen_ok,hg,run_checkStr hkt,hf,hst]
  have hset:∀ o',(setObj b o').run C.P w=.ok () (setW w b o'):=fun o'=>run_setObj hx1 rfl
  rw[hset]
  refine left_obj (w':=setW w b _) hH rfl rfl rfl rfl (by simp[setW]) (fun c hc=>setW_other hc) (setW_self hbs) (fun _=>rep_atom) (hk _ clock ⟨fun e' he'=>?_,fun s hs'=>?_⟩)
  ·rw[Nat.zero_add] at he'
   obtain ⟨i,hi,rfl⟩:=List.mem_iff_getElem.1 he'
   simp only[Array.length_toList,Array.size_modify] at hi
   rw[Array.getElem_toList,Array.getElem_modify]
   split
   ·exact ⟨k,rfl,rfl,by simp⟩
   ·obtain ⟨s,h1,h2,h4⟩:=hs.keys es[i] (by simp)
    exact ⟨s,h1,h2,by simp[h4]⟩
  ·have hps:p s=true:=by
    rcases Bool.or_eq_true_iff.1 hs' with h4|h4
    ·exact h4
    ·rw[zt h4];exact hin
   obtain ⟨e3,h5,h6⟩:=hs.all s hps
   obtain ⟨i,hi,rfl⟩:=List.mem_iff_getElem.1 h5
   simp only[Array.length_toList] at hi
   rw[Array.getElem_toList] at h6
   rw[Nat.zero_add]
   by_cases hij:j=i
   ·refine ⟨{ es[i] with key:=.string ⟨k.toArray⟩,val:=.bool true },?_,?_⟩
    ·rw[List.mem_iff_getElem]
     refine ⟨i,by simpa using hi,?_⟩
     rw[Array.getElem_toList,Array.getElem_modify,if_pos hij]
    ·subst hij
     rw[Array.getElem?_eq_getElem hi] at hg2
     obtain rfl:=Option.some.inj hg2
     rw[g3] at h6
     exact h6
   ·refine ⟨es[i],?_,h6⟩
    rw[List.mem_iff_getElem]
    refine ⟨i,by simpa using hi,?_⟩
    rw[Array.getElem_toList,Array.getElem_modify,if_neg hij]
 ·refine S.insert ht hkt hm hx hz hp (fun e he=>?_) (hk _ _ ⟨fun e' he'=>?_,fun s hs'=>?_⟩)
  ·obtain ⟨s,h1,_,h2⟩:=hs.keys e he
   refine ⟨_,h1,?_⟩
   rw[bytes_beq]
   intro h3
   rw[zt h3] at hin
   exact hin h2
  ·rw[Array.toList_push] at he'
   rcases List.mem_append.1 he' with h1|h1
   ·obtain ⟨s,h2,h3,h4⟩:=hs.keys e' h1
    exact ⟨s,h2,h3,by simp[h4]⟩
   ·obtain rfl:=List.mem_singleton.1 h1
    exact ⟨k,rfl,rfl,by simp⟩
  ·rw[Array.toList_push]
   rcases Bool.or_eq_true_iff.1 hs' with h4|h4
   ·obtain ⟨e,h5,h6⟩:=hs.all s h4
    exact ⟨e,List.mem_append_left _ h5,h6⟩
   ·exact ⟨_,List.mem_append_right _ (List.mem_singleton.2 rfl),by rw[zt h4]⟩
theorem Pure.setGet {t kt el:TypeId} (ht:C.P.underlying t=some (.map kt el)) (hkt:C.P.underlying kt=some .string) (hz:∀ w,(zeroValue el).run C.P w=.ok (.bool false) w) {b clock:Nat} {es:Array MapEntry} {p:List UInt8→Bool} {k:List UInt8} (hm:e.ev x=.atom (.map (some b))) (hx:e.ev y=str k)
  (hb:(b,.obj (.map es clock))∈H) (hs:SetMap es p):Pure C ⟨dst,.lookup t x y false,ty,pos,aft,g⟩ e H (bool (p k)):=fun ρ w L h hH=>by
 obtain ⟨_,_,_,hx1,_⟩:=hH.objs _ hb
 simp only at hx1
 refine ⟨.bool (p k),rep_atom,fun w' ha=>?_⟩
 have hw:w'.heap[b]? = some (.map es clock):=(ha.1 _ hb).trans hx1
 have h3:execOp ρ ⟨dst,.lookup t x y false,ty,pos,aft,g⟩=(do Pure.pure (.value (←Instr.lookup t (ρ x) (ρ y) false))):=rfl
 have hg:(getObj b).run C.P w'=.ok (.map es clock) w':=by simp only[getObj,Sem.run,hw]
 rw[h3,atom_of h hm,atom_of h hx]
 by_cases hin:p k=true
 ·obtain ⟨j,e2,g1,g2,g3⟩:=findNow_in k es.toList 0 (fun e he=>by obtain ⟨s,h1,h2,_⟩:=hs.keys e he;exact ⟨s,h1,h2⟩) (hs.all k hin)
  have hf:(Instr.findKey kt (.string ⟨k.toArray⟩) es.toList).run C.P w'=.ok (some (0+j,.bool true)) w':=by
   simp only[Instr.findKey,Sem.run_bind,run_underlying' hkt,Result.andThen_ok,g1,Sem.run_pure]
  simp only[Instr.lookup,Sem.run_bind,run_underlying' ht,Result.andThen_ok,hg,Sem.run_pure,run_checkStr hkt,hf,hin]
  rfl
 ·have hf:(Instr.findKey kt (.string ⟨k.toArray⟩) es.toList).run C.P w'=.ok none w':=by
   have hmiss:=findNow_str ⟨k.toArray⟩ es.toList 0 fun e he=>by
    obtain ⟨s,h1,_,h2⟩:=hs.keys e he
    refine ⟨_,h1,?_⟩
    rw[bytes_beq]
    intro h3
    rw[zt h3] at hin
    exact hin h2
   simp only[Instr.findKey,Sem.run_bind,run_underlying' hkt,Result.andThen_ok,hmiss,Sem.run_pure]
  have hin':p k=false:=Bool.eq_false_iff.2 hin
  simp only[Instr.lookup,Sem.run_bind,run_underlying' ht,Result.andThen_ok,hg,Sem.run_pure,run_checkStr hkt,hf,hz,hin']
  rfl
end
end Go.GL
namespace Go.GL
open Go.RowKit
section
variable {C:Ctx} {e:Env} {H:Heap} {dst:Option Nat} {ty:TypeId} {pos:String} {aft:Array Edge} {g:Option (Nat×Bool)} {K:LV→Heap→Prop} {X:List PanicEntry→Heap→Prop} {x y:Operand}
theorem Pure.nilGet {t kt el:TypeId} (ht:C.P.underlying t=some (.map kt el)) (hkt:C.P.underlying kt=some .string) (hz:∀ w,(zeroValue el).run C.P w=.ok (.int .i64 0) w) {k:List UInt8} (hm:e.ev x=.atom (.map none)) (hx:e.ev y=str k):Pure C ⟨dst,.lookup t x y false,ty,pos,aft,g⟩ e H (int .i64 0):=fun ρ w L h hH=>by
 refine ⟨.int .i64 0,rep_atom,fun w' ha=>?_⟩
 have h3:execOp ρ ⟨dst,.lookup t x y false,ty,pos,aft,g⟩=(do Pure.pure (.value (←Instr.lookup t (ρ x) (ρ y) false))):=rfl
 rw[h3,atom_of h hm,atom_of h hx]
 have hf:(Instr.findKey kt (.string ⟨k.toArray⟩) []).run C.P w'=.ok none w':=by
  simp only[Instr.findKey,Sem.run_bind,run_underlying' hkt,Result.andThen_ok,Instr.findNow,Sem.run_pure]
 simp only[Instr.lookup,Sem.run_bind,run_underlying' ht,Result.andThen_ok,Sem.run_pure,run_checkStr hkt,hf,hz]
 rfl
end
end Go.GL
