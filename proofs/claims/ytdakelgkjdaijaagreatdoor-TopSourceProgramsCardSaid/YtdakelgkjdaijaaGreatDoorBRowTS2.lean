/- Texts joined: GlRules, Types, GlCall, LexSpec2, Lex1, Shelf, Lex2, FmtUint, Lex3, Lex4. -/
import Derived.Test.YtdakelgkjdaijaaGreatDoorProg
import Derived.Lib.ParseIntB
import Derived.Lib.ItoaNum
import Derived.Shelf.Strings.Builder1
import Derived.Shelf.Strings.Builder2
import Derived.Shelf.Strings.OnBuilder
import Derived.Shelf.Strings.Trim
import Derived.Shelf.Small.Utf8
import Derived.Shelf.Small.Strs
import Derived.Shelf.Small.Wraps
import Derived.Shelf.Strings.BuilderF
import Derived.Shelf.Strings.BuilderK
import Derived.Shelf.Utf8.RuneCount
import Derived.Shelf.Strings.Builder2Cap
import Derived.Shelf.Strconv.Itoa0
import Derived.Shelf.Strconv.Itoa1
import Derived.Shelf.LaysM
import Derived.Shelf.Strconv.Itoa2
import Derived.Shelf.Strconv.Itoa3
import Derived.Shelf.Strconv.Clone
import Derived.Shelf.Strconv.SyntaxError
import Derived.Shelf.LaysC
import Derived.Shelf.Strconv.ToError
import Derived.Shelf.Strconv.Lower
import Derived.Shelf.Strconv.ParseUint10
import Derived.Shelf.Strconv.ParseUint10Empty
import Derived.Shelf.Strconv.ParseUint10Any
import Derived.Shelf.Strconv.RangeError
import Derived.Shelf.Strconv.ToErrorRange
import Derived.Shelf.Strconv.ParseUintEmpty
import Derived.Shelf.Strconv.ParseUint10b64
import Derived.Shelf.Strconv.ParseUint10b32
import Derived.Shelf.Strconv.ParseUint10b16
import Derived.Shelf.Strconv.ParseUint10b8
import Derived.Shelf.Strconv.ParseUint10At
import Derived.Ground.MpProg
import Derived.Shelf.Pu.ParseUintPublic10
import Derived.Shelf.Pu.ErrVarParseUint
import Derived.Shelf.Strings.Search1
import Derived.Shelf.Strings.Search2
import Derived.Shelf.Strings.Search3
import Derived.Shelf.Strings.Cut
import Derived.Shelf.Strings.Count
import Derived.Shelf.Strings.Shaped
import Derived.Shelf.Strings.Prefix
import Derived.Shelf.Strings.Split
import Derived.Shelf.Strings.SplitShaped
import Derived.Shelf.Unicode.Decode
import Derived.Shelf.Strings.Runes
import Derived.Shelf.Strings.RuneCount
import Derived.Shelf.Strings.AsciiSet
import Derived.Shelf.Strings.Explode
import Derived.Shelf.Unicode.DecodeSlow
import Derived.Shelf.Unicode.DecodeAny
import Derived.Shelf.Strings.BuilderCap
import Derived.Shelf.Slices.Turned
import Derived.Ground.Names2Prog
import Derived.Shelf.Slices.Clone
import Derived.Lib.Walk
import Derived.Lib.ItoaMem
import Derived.Lib.AppendIntMem
import Derived.WalkKit
import Derived.BigCall
import Derived.BigGuard
import Derived.Below
import Derived.WalkSmall
import Derived.Test.YtdakelgkjdaijaaGreatDoorBRowTS1
set_option linter.unusedVariables false
set_option linter.unusedSimpArgs false
set_option maxRecDepth 100000
set_option maxHeartbeats 4000000
namespace Go.GL
open Go.RowKit
section pure
variable {C:Ctx} {e:Env} {H:Heap} {dst:Option Nat} {ty:TypeId} {pos:String} {aft:Array Edge} {g:Option (Nat×Bool)} {x y c a b:Operand} {xT:TypeId} {k:IntKind} {lv:LV}
theorem pM (hx:e.ev x=lv):Pure C ⟨dst,.move x,ty,pos,aft,g⟩ e H lv:=hx▸Pure.move
theorem pA (hx:e.ev x=lv):Pure C ⟨dst,.assign x,ty,pos,aft,g⟩ e H lv:=hx▸Pure.assign
theorem Pure.pickT (hc:e.ev c=bool true) (ha:e.ev a=lv):Pure C ⟨dst,.pick c a b,ty,pos,aft,g⟩ e H lv:=by
 have:=Pure.pick (C:=C) (H:=H) (dst:=dst) (ty:=ty) (pos:=pos) (aft:=aft) (g:=g) (a:=a) (b:=b) hc;simp only[if_true] at this;exact ha▸this
theorem Pure.pickF (hc:e.ev c=bool false) (hb:e.ev b=lv):Pure C ⟨dst,.pick c a b,ty,pos,aft,g⟩ e H lv:=by
 have:=Pure.pick (C:=C) (H:=H) (dst:=dst) (ty:=ty) (pos:=pos) (aft:=aft) (g:=g) (a:=a) (b:=b) hc;simp only[Bool.false_eq_true,if_false] at this;exact hb▸this
theorem pR {t n:Nat} [TAgg C.P t n] {cs cs':List LV} (hx:e.ev x=.ref cs) (hn:Nat.ble n cs.length=true) (hc:cs.take n=cs'):Pure C ⟨dst,.load t x,ty,pos,aft,g⟩ e H (.agg cs'):=by
 subst hc;exact Pure.loadRefAgg hx (by simpa using hn)
theorem pG {t n:Nat} [TAgg C.P t n] {b off ty':Nat} {cs cs':List LV} (hx:e.ev x=ptr b off) (hm:(b,LObj.cells ty' cs)∈H) (hn:Nat.ble (off+n) cs.length=true) (hc:(cs.drop off).take n=cs') :
  Pure C ⟨dst,.load t x,ty,pos,aft,g⟩ e H (.agg cs'):=by
 subst hc;exact Pure.loadHAgg hx hm (by simpa using hn)
theorem xR {t el s:Nat} [ht:TSlice C.P t el s] {es:List LV} {n:Int} {el':LV} {cs:List LV} (hx:elems (e.ev x)=some es) (hy:e.ev y=int k n) (h0:0<=n) (hn:es[n.toNat]? = some el') (hc:el'.cells=cs) (hs:cs.length=s) :
  Pure C ⟨dst,.indexAddr t x y,ty,pos,aft,g⟩ e H (.ref cs):=by
 subst hc;exact Pure.indexAddr hx hy h0 hn hs
theorem Pure.field1 {s f n:Nat} [TField C.P s f n] {cs cs':List LV} (hx:e.ev x=.ref cs) (hc:cs.drop n=cs'):Pure C ⟨dst,.fieldAddr s x f,ty,pos,aft,g⟩ e H (.ref cs'):=by
 subst hc;exact Pure.fieldRef hx
theorem pB {t:TypeId} {pl:List (Nat×Nat)} {zs:List Value} [hs:TStruct C.P t pl] [hz:TZero C.P t zs] (parts:List (Nat×Operand)) {cs:List LV}
  (h:qpI pl (zs.map .atom) (parts.map fun p=>(p.1,e.ev p.2))=some cs):Pure C ⟨dst,.build t parts.toArray,ty,pos,aft,g⟩ e H (.agg cs):=Pure.build h
end pure
section steps
variable {C:Ctx} {e:Env} {H H':Heap} {dst:Option Nat} {op:Op} {ty:TypeId} {pos:String} {aft:Array Edge} {g:Option (Nat×Bool)} {x y:Operand} {K K':LV->Heap->Prop} {X:List PanicEntry->Heap->Prop}
theorem qad.conseq {o:Oper} (h:qad C o e H K X) (hk:∀ lv H',K lv H'->∃ lv' H'',lv.Sub lv'/\HSub H'' H'/\K' lv' H''):qad C o e H K' X:=fun ρ w L h1 h2=>by
 have:=h ρ w L h1 h2
 have lf:∀ {w' v},Left C w L H w' v K->Left C w L H w' v K':=fun h=>by
  obtain ⟨lv,H',L',r1,r2,r3,r4⟩:=h;obtain ⟨lv',H'',s1,s2,s3⟩:=hk _ _ r4;exact ⟨lv',H'',L',r1.weak s2,r2.weak s2,s1 _ _ _ r3,s3⟩
 unfold qeW at this ⊢;split at this
 ·exact lf this
 ·exact lf this
 ·refine ⟨this.1,this.2.mono fun e w' he=>?_⟩
  cases e with
  |returned v=>exact lf he
  |panicked ch=>exact he
  |outgrown=>exact he
 ·exact this
 ·exact this.elim
theorem qad.at1 {o:Oper} {p:Nat×LObj} {F:Heap} (hp:Pick p H F) (h:qad C o e [p] (fun lv H'=>K lv (H'++F)) (fun ch H'=>X ch (H'++F))):qad C o e H K X:=qad.frame (H:=[p]) hp h
theorem qad.at0 {o:Oper} (h:qad C o e [] (fun lv H'=>K lv (H'++H)) (fun ch H'=>X ch (H'++H))):qad C o e H K X:=qad.frame (H:=[]) (List.Perm.refl _) h
theorem sA {t:TypeId} {zs:List Value} [hz:TZero C.P t zs] (hk:∀ b,K (ptr b 0) ((b,.cells t (zs.map .atom))::H)):qad C ⟨dst,.alloc t,ty,pos,aft,g⟩ e H K X:=qad.at0 (qad.alloc hk)
theorem sB {t:TypeId} {cs:List LV} (hx:(e.ev x).cells? = some cs) (hk:∀ b,K (ptr b 0) ((b,.cells t cs)::H)):qad C ⟨dst,.box t x,ty,pos,aft,g⟩ e H K X:=qad.at0 (qad.box hx hk)
theorem sL {t el s:Nat} {zs:List Value} [ht:TSlice C.P t el s] [hz:TZero C.P el zs] (xs:List Operand) {es:List LV} (hes:xs.map e.ev=es) (hok:qds s es) {len:Nat} {parts:List (Nat×Operand)} (hp:parts=(List.range xs.length).zip xs) (hlen:len=xs.length)
  (hsz:Nat.ble (len * s) 16777216=true) (hk:K (.list es) H):qad C ⟨dst,.buildSlice t len parts.toArray,ty,pos,aft,g⟩ e H K X:=by
 subst hes;refine qad.at0 (qad.conseq (K:=fun lv H'=>∃ b,lv=.app b len s (xs.map e.ev)) (qad.buildSlice hok (by subst hlen;simpa using hsz) hp hlen fun b=>⟨b,rfl⟩) ?_);rintro lv H' ⟨b,rfl⟩;exact ⟨_,[],LV.Sub.app _ _ _ _,HSub.nil _,hk⟩
theorem S.litA {t el s:Nat} {zs:List Value} [ht:TSlice C.P t el s] [hz:TZero C.P el zs] (xs:List Operand) {es:List LV} (hes:xs.map e.ev=es) (hok:qds s es) {len:Nat} {parts:List (Nat×Operand)} (hp:parts=(List.range xs.length).zip xs) (hlen:len=xs.length)
  (hsz:Nat.ble (len * s) 16777216=true) (hk:∀ b,K (.app b len s es) ((b,.row (len * s))::H)):qad C ⟨dst,.buildSlice t len parts.toArray,ty,pos,aft,g⟩ e H K X:=by
 subst hes;exact qad.at0 (qad.buildSlice hok (by subst hlen;simpa using hsz) hp hlen fun b=>hk b)
theorem sS {t n:Nat} [ht:TSize C.P t n] {b off ty':Nat} {cs vs cs':List LV} {F:Heap} (hx:e.ev x=ptr b off) (hp:Pick (b,.cells ty' cs) H F) (hy:(e.ev y).cells? = some vs) (hn:vs.length=n) (hl:Nat.ble (off+n) cs.length=true) (hok:vs.all qc0=true)
  (hc:setL cs off vs=cs') (hk:K (.atom undef) ((b,.cells ty' cs')::F)):qad C ⟨dst,.store t x y,ty,pos,aft,g⟩ e H K X:=by
 subst hc;exact qad.at1 hp (qad.store hx hy hn (by simpa using hl) hok hk)
theorem S.appNil {sT xT el s bytes:Nat} [ht:TSlice C.P sT el s] [hr:TRow C.P el s bytes] {e2 s2:Nat} [hx2:TSlice C.P xT e2 s2] {ms:List LV}
  (hx:e.ev x=qab) (hy:elems (e.ev y)=some ms) (hne:ms≠[]) (hs:∀ v∈ms,v.cells.length=s) (hroom:ms.length * bytes<=140737488355328)
  (hk:∀ b cap,K (.app b cap s ms) ((b,.row (ms.length * s))::H)):qad C ⟨dst,.call { callee:=.builtin .append,args:=#[x,y],argTypes:=#[sT,xT] },ty,pos,aft,g⟩ e H K X:=
 qad.at0 (qad.appendNil rfl ⟨e2,hx2.und⟩ hx hy hne hs hroom fun b cap=>hk b cap)
theorem S.app {sT xT el s bytes:Nat} [ht:TSlice C.P sT el s] [hr:TRow C.P el s bytes] {e2 s2:Nat} [hx2:TSlice C.P xT e2 s2] {b cap n:Nat} {es ms:List LV} {F:Heap}
  (hx:e.ev x=.app b cap s es) (hp:Pick (b,.row n) H F) (hn:n=es.length * s) (hy:elems (e.ev y)=some ms) (hs:∀ v∈ms,v.cells.length=s) (hok:(ms.flatMap LV.cells).all qc0=true) (hroom:(es.length+ms.length) * bytes<=140737488355328)
  (hk:∀ b' cap',K (.app b' cap' s (es++ms)) ((b',.row ((es++ms).length * s))::F)):qad C ⟨dst,.call { callee:=.builtin .append,args:=#[x,y],argTypes:=#[sT,xT] },ty,pos,aft,g⟩ e H K X:=
 qad.at1 hp (qad.appendApp rfl ⟨e2,hx2.und⟩ hx hn hy hs hok hroom fun b' cap'=>hk b' cap')
theorem S.appNilNil {sT xT el s:Nat} [ht:TSlice C.P sT el s] {e2 s2:Nat} [hx2:TSlice C.P xT e2 s2] (hx:e.ev x=qab) (hy:elems (e.ev y)=some []) (hk:K qab H) :
  qad C ⟨dst,.call { callee:=.builtin .append,args:=#[x,y],argTypes:=#[sT,xT] },ty,pos,aft,g⟩ e H K X:=qad.appendNilNil rfl ⟨e2,hx2.und⟩ hx hy hk
inductive Acc (s:Nat):LV->List LV->Heap->Heap->Prop
 |nil {F:Heap}:Acc s qab [] F F
 |row {b cap:Nat} {es:List LV} {F:Heap}:Acc s (.app b cap s es) es ((b,.row (es.length * s))::F) F
theorem Acc.sub {s:Nat} {lv:LV} {es:List LV} {H F:Heap} (h:Acc s lv es H F):lv.Sub (.list es):=by
 cases h with
 |nil=>exact vN
 |row=>exact LV.Sub.app _ _ _ _
theorem Acc.hsub {s:Nat} {lv:LV} {es:List LV} {H F:Heap} (h:Acc s lv es H F):HSub F H:=by
 cases h with
 |nil=>exact zhR _
 |row=>exact zhD (zhR _)
theorem Acc.elems {s:Nat} {lv:LV} {es:List LV} {H F:Heap} (h:Acc s lv es H F):GL.elems lv=some es:=by
 cases h <;> rfl
theorem S.acc {sT xT el s bytes:Nat} [ht:TSlice C.P sT el s] [hr:TRow C.P el s bytes] {e2 s2:Nat} [hx2:TSlice C.P xT e2 s2] {v:LV} {es ms:List LV} {F:Heap}
  (hx:e.ev x=v) (ha:Acc s v es H F) (hy:GL.elems (e.ev y)=some ms) (hs:∀ v∈ms,v.cells.length=s) (hok:(ms.flatMap LV.cells).all qc0=true) (hroom:(es.length+ms.length) * bytes<=140737488355328)
  (hk:∀ v' H',Acc s v' (es++ms) H' F->K v' H'):qad C ⟨dst,.call { callee:=.builtin .append,args:=#[x,y],argTypes:=#[sT,xT] },ty,pos,aft,g⟩ e H K X:=by
 cases ha with
 |nil=>
  by_cases hne:ms=[]
  ·subst hne;exact S.appNilNil hx hy (hk _ _ (by simpa using Acc.nil))
  ·refine S.appNil hx hy hne hs (by simpa using hroom) fun b cap=>hk _ _ ?_
   exact Acc.row
 |row=>exact S.app hx pH rfl hy hs hok hroom fun b' cap'=>hk _ _ Acc.row
theorem S.call0 {f:FuncId} [TEnter C.P f] (args:List Operand) {ats:Array TypeId} {avs:List LV} {R:LRes->Heap->Prop} (has:args.map e.ev=avs)
  (hc:LCalls C f avs [] R) (hk:∀ v H',R (.ret v) H'->K v (H'++H)) (hx:∀ ch H',R (.panic ch) H'->X ch (H'++H)) :
  qad C ⟨dst,.call { callee:=.value (.func f),args:=args.toArray,argTypes:=ats },ty,pos,aft,g⟩ e H K X:=by
 subst has;exact qad.at0 (qad.call hc hk hx)
theorem S.call1 {f:FuncId} [TEnter C.P f] (args:List Operand) {ats:Array TypeId} {avs:List LV} {R:LRes->Heap->Prop} {p:Nat×LObj} {F:Heap} (has:args.map e.ev=avs) (hp:Pick p H F)
  (hc:LCalls C f avs [p] R) (hk:∀ v H',R (.ret v) H'->K v (H'++F)) (hx:∀ ch H',R (.panic ch) H'->X ch (H'++F)) :
  qad C ⟨dst,.call { callee:=.value (.func f),args:=args.toArray,argTypes:=ats },ty,pos,aft,g⟩ e H K X:=by
 subst has;exact qad.at1 hp (qad.call hc hk hx)
theorem S.callH {f:FuncId} [TEnter C.P f] (args:List Operand) {ats:Array TypeId} {avs:List LV} {R:LRes->Heap->Prop} {H1 F:Heap} (has:args.map e.ev=avs) (hp:H.Perm (H1++F))
  (hc:LCalls C f avs H1 R) (hk:∀ v H',R (.ret v) H'->K v (H'++F)) (hx:∀ ch H',R (.panic ch) H'->X ch (H'++F)) :
  qad C ⟨dst,.call { callee:=.value (.func f),args:=args.toArray,argTypes:=ats },ty,pos,aft,g⟩ e H K X:=by
 subst has;exact qad.frame hp (qad.call hc hk hx)
theorem S.callV {fo:Operand} {f:FuncId} [TEnter C.P f] {first caps:Array Value} (args:List Operand) {ats:Array TypeId} {avs:List LV} {R:LRes->Heap->Prop} {H1 F:Heap} (hf:e.ev fo=.atom (.func (.func f) first caps))
  (has:first.toList.map .atom++args.map e.ev++caps.toList.map .atom=avs) (hp:H.Perm (H1++F)) (hc:LCalls C f avs H1 R) (hk:∀ v H',R (.ret v) H'->K v (H'++F)) (hx:∀ ch H',R (.panic ch) H'->X ch (H'++F)) :
  qad C ⟨dst,.call { callee:=.value fo,args:=args.toArray,argTypes:=ats },ty,pos,aft,g⟩ e H K X:=by
 subst has;exact qad.frame hp (qad.callV hf hc hk hx)
end steps
section ret
variable {C:Ctx} {n:Nat} {e:Env} {H H':Heap} {R:LRes->Heap->Prop}
theorem rN:qbA C n e H [] []:=trivial
theorem rC {r:ResultVar} {rs:List ResultVar} {v:LV} {vs:List LV} (h:qcJ C n e H r v) (k:qbA C n e H rs vs):qbA C n e H (r::rs) (v::vs):=⟨h,k⟩
theorem rR {rs:List ResultVar} {vs:List LV} (hd:e.ds=[]) (h:qbA C n e H rs vs) (hH:HSub H' H) (hR:R (.ret (qbq vs)) H'):qac C n rs R .ret e H:=⟨hd,vs,H',h,hH,hR⟩
theorem rO {rs:List ResultVar} {vs:List LV} (hd:e.ds=[]) (h:qbA C n e H rs vs) (hH:HSub H' H) (hR:R (.ret (qbq vs)) H'):qac C n rs R .normal e H:=⟨hd,vs,H',h,hH,hR⟩
theorem qac.panic {rs:List ResultVar} {ch:List PanicEntry} (hd:e.ds=[]) (hH:HSub H' H) (hR:R (.panic ch) H'):qac C n rs R (.panic ch) e H:=⟨hd,H',hH,hR⟩
theorem rA {a t k:Nat} [TAgg C.P t k] {b off ty':Nat} {cs:List LV} {lv:LV} (hx:e.s a=ptr b off) (hm:(b,LObj.cells ty' cs)∈H) (hn:Nat.ble (off+k) cs.length=true) (hs:(LV.agg ((cs.drop off).take k)).Sub lv):qcJ C n e H (.cell a t) lv:=fun ac w L hE hH=>by
 obtain ⟨xs,h1,h2⟩:=hH.cells hm;have hl:=h2.length;have hn':off+k<=cs.length:=by simpa using hn
 have hv:=hE.vals a;rw[hx] at hv;simp only[Rep] at hv;refine ⟨.agg ((xs.drop off).take k).toArray,?_,hs _ _ _ (by simp only[Rep];exact ⟨_,rfl,(h2.drop off).take k⟩)⟩;have hlen:((xs.drop off).take k).length=k:=by simp;omega
 simp only[qa7,hv,asAddr,Sem.run_bind,Sem.run_pure,Result.andThen_ok]
 exact qge (t:=t) (w:=w) (b:=b) (off:=off) hlen (fun j y hy=>by
  rw[List.getElem?_take] at hy;split at hy
  ·simpa [World.cell?,h1,List.getElem?_drop] using hy
  ·cases hy)
theorem qcJ.cellOne {a t:Nat} [TOne C.P t] {b off ty':Nat} {c lv:LV} {cs:List LV} (hx:e.s a=ptr b off) (hm:(b,LObj.cells ty' cs)∈H) (hc:cs[off]? = some c) (hs:c.Sub lv):qcJ C n e H (.cell a t) lv:=fun ac w L hE hH=>by
 obtain ⟨xs,h1,h2⟩:=hH.cells hm;obtain ⟨v,h3,h4⟩:=h2.get hc;have hv:=hE.vals a;rw[hx] at hv;simp only[Rep] at hv;refine ⟨v,?_,hs _ _ _ h4⟩;have hc':w.cell? ⟨b,off,none⟩=some v:=by simp[World.cell?,h1,h3]
 simp only[qa7,hv,asAddr,Sem.run_bind,Sem.run_pure,Result.andThen_ok];exact qgc hc'
end ret
theorem zhr {H:Heap}:HSub H H:=zhR _
theorem zhn {H:Heap}:HSub [] H:=HSub.nil _
theorem zhp {p:Nat×LObj} {H:Heap}:HSub [p] (p::H):=zhP pH (HSub.nil _)
theorem zsr {v:LV}:v.Sub v:=vR _
theorem zp1 {p a:Nat×LObj} {F:Heap}:Pick p (a::p::F) (a::F):=(pT pH)
theorem zp2 {p a b:Nat×LObj} {F:Heap}:Pick p (a::b::p::F) (a::b::F):=(pT (pT pH))
theorem zp3 {p a b c:Nat×LObj} {F:Heap}:Pick p (a::b::c::p::F) (a::b::c::F):=(pT (pT (pT pH)))
theorem zp4 {p a b c d:Nat×LObj} {F:Heap}:Pick p (a::b::c::d::p::F) (a::b::c::d::F):=(pT (pT (pT (pT pH))))
theorem zp5 {p a b c d e:Nat×LObj} {F:Heap}:Pick p (a::b::c::d::e::p::F) (a::b::c::d::e::F):=(pT (pT (pT (pT (pT pH)))))
theorem zp6 {p a b c d e f:Nat×LObj} {F:Heap}:Pick p (a::b::c::d::e::f::p::F) (a::b::c::d::e::f::F):=(pT (pT (pT (pT (pT (pT pH))))))
theorem zp7 {p a b c d e f g:Nat×LObj} {F:Heap}:Pick p (a::b::c::d::e::f::g::p::F) (a::b::c::d::e::f::g::F):=(pT (pT (pT (pT (pT (pT (pT pH)))))))
theorem zp8 {p a b c d e f g h:Nat×LObj} {F:Heap}:Pick p (a::b::c::d::e::f::g::h::p::F) (a::b::c::d::e::f::g::h::F):=(pT (pT (pT (pT (pT (pT (pT (pT pH))))))))
theorem zrt {C:Ctx} {n:Nat} {e:Env} {H:Heap} {t:Nat} {v:Value} (h:e.s t=.atom v):qcJ C n e H (.tmp t) (.atom v):=rT h (vR _)
theorem zra {C:Ctx} {n:Nat} {e:Env} {H:Heap} {t:Nat} {v:Value} (h:e.s t=.atom v):qbA C n e H [.tmp t] [.atom v]:=rC (rT h (vR _)) rN
end Go.GL
namespace Go.Proofs.YtdakelgkjdaijaaGreatDoor
open Go.GL
instance:TMixed Tryz.prog:=⟨by kernel_rfl⟩
instance:TSize Tryz.prog 3 1:=.of zk
instance:TOne Tryz.prog 3:=.of zk
instance:TKind Tryz.prog 3 .i64:=.of zk
instance:TZero Tryz.prog 3 [.int .i64 0]:=.of (v:=.int .i64 0) (n:=1) zk rfl rfl
instance:TRow Tryz.prog 3 1 8:=.of zk
instance:TSize Tryz.prog 4 1:=.of zk
instance:TOne Tryz.prog 4:=.of zk
instance:TKind Tryz.prog 5 .u8:=.of zk
instance:TZero Tryz.prog 5 [.int .u8 0]:=.of (v:=.int .u8 0) (n:=1) zk rfl rfl
instance:TRow Tryz.prog 5 1 1:=.of zk
instance:TSize Tryz.prog 9 1:=.of zk
instance:TOne Tryz.prog 9:=.of zk
instance:TStr Tryz.prog 9:=.of zk
instance:TZero Tryz.prog 9 [.string ⟨#[]⟩]:=.of (v:=.string ⟨#[]⟩) (n:=1) zk rfl rfl
instance:TRow Tryz.prog 9 1 16:=.of zk
instance:TSize Tryz.prog 22 1:=.of zk
instance:TOne Tryz.prog 22:=.of zk
instance:TSlice Tryz.prog 22 56 1:=.of zk
instance:TSize Tryz.prog 24 1:=.of zk
instance:TOne Tryz.prog 24:=.of zk
instance:TSlice Tryz.prog 24 9 1:=.of zk
instance:TZero Tryz.prog 24 [.slice none 0 0]:=.of (v:=.slice none 0 0) (n:=1) zk rfl rfl
instance:TSize Tryz.prog 25 1:=.of zk
instance:TOne Tryz.prog 25:=.of zk
instance:TSlice Tryz.prog 25 76 2:=.of zk
instance:TSize Tryz.prog 26 1:=.of zk
instance:TOne Tryz.prog 26:=.of zk
instance:TSlice Tryz.prog 26 79 4:=.of zk
instance:TSize Tryz.prog 28 3:=.of zk
instance:TAgg Tryz.prog 28 3:=.of zk
instance:TField Tryz.prog 28 0 0:=.of zk
instance:TField Tryz.prog 28 1 1:=.of zk
instance:TField Tryz.prog 28 2 2:=.of zk
instance:TStruct Tryz.prog 28 [(0,1),(1,1),(2,1)]:=.of zk
instance:TZero Tryz.prog 28 [.slice none 0 0,.slice none 0 0,.slice none 0 0]:=.of (v:=.agg #[.slice none 0 0,.slice none 0 0,.slice none 0 0]) (n:=3) zk rfl rfl
instance:TSize Tryz.prog 29 1:=.of zk
instance:TOne Tryz.prog 29:=.of zk
instance:TZero Tryz.prog 29 [.int .i64 0]:=.of (v:=.int .i64 0) (n:=1) zk rfl rfl
instance:TSize Tryz.prog 36 3:=.of zk
instance:TAgg Tryz.prog 36 3:=.of zk
instance:TField Tryz.prog 36 0 0:=.of zk
instance:TField Tryz.prog 36 1 1:=.of zk
instance:TField Tryz.prog 36 2 2:=.of zk
instance:TStruct Tryz.prog 36 [(0,1),(1,1),(2,1)]:=.of zk
instance:TZero Tryz.prog 36 [.int .i64 0,.int .i64 0,.int .i64 0]:=.of (v:=.agg #[.int .i64 0,.int .i64 0,.int .i64 0]) (n:=3) zk rfl rfl
instance:TSize Tryz.prog 39 3:=.of zk
instance:TAgg Tryz.prog 39 3:=.of zk
instance:TField Tryz.prog 39 0 0:=.of zk
instance:TField Tryz.prog 39 1 1:=.of zk
instance:TStruct Tryz.prog 39 [(0,1),(1,1),(2,1)]:=.of zk
instance:TZero Tryz.prog 39 [.string ⟨#[]⟩,.int .i64 0,.int .i64 0]:=.of (v:=.agg #[.string ⟨#[]⟩,.int .i64 0,.int .i64 0]) (n:=3) zk rfl rfl
instance:TSlice Tryz.prog 53 111 2:=.of zk
instance:TSize Tryz.prog 56 1:=.of zk
instance:TOne Tryz.prog 56:=.of zk
instance:TKind Tryz.prog 56 .u32:=.of zk
instance:TZero Tryz.prog 56 [.int .u32 0]:=.of (v:=.int .u32 0) (n:=1) zk rfl rfl
instance:TRow Tryz.prog 56 1 4:=.of zk
instance:TOne Tryz.prog 57:=.of zk
instance:TSlice Tryz.prog 57 121 3:=.of zk
instance:TSize Tryz.prog 61 2:=.of zk
instance:TConcrete Tryz.prog 61:=.of zk
instance:TField Tryz.prog 61 0 0:=.of zk
instance:TField Tryz.prog 61 1 1:=.of zk
instance:TStruct Tryz.prog 61 [(0,1),(1,1)]:=.of zk
instance:TZero Tryz.prog 61 [.int .i64 0,.int .i64 0]:=.of (v:=.agg #[.int .i64 0,.int .i64 0]) (n:=2) zk rfl rfl
instance:TOne Tryz.prog 63:=.of zk
instance:TField Tryz.prog 65 0 0:=.of zk
instance:TField Tryz.prog 65 1 1:=.of zk
instance:TField Tryz.prog 65 2 2:=.of zk
instance:TStruct Tryz.prog 65 [(0,1),(1,1),(2,1)]:=.of zk
instance:TZero Tryz.prog 65 [.slice none 0 0,.int .i64 0,.int .i64 0]:=.of (v:=.agg #[.slice none 0 0,.int .i64 0,.int .i64 0]) (n:=3) zk rfl rfl
instance:TSize Tryz.prog 68 1:=.of zk
instance:TOne Tryz.prog 68:=.of zk
instance:TSlice Tryz.prog 68 5 1:=.of zk
instance:TField Tryz.prog 70 1 1:=.of zk
instance:TZero Tryz.prog 70 [.pointer none,.slice none 0 0]:=.of (v:=.agg #[.pointer none,.slice none 0 0]) (n:=2) zk rfl rfl
instance:TSize Tryz.prog 76 2:=.of zk
instance:TAgg Tryz.prog 76 2:=.of zk
instance:TField Tryz.prog 76 0 0:=.of zk
instance:TField Tryz.prog 76 1 1:=.of zk
instance:TStruct Tryz.prog 76 [(0,1),(1,1)]:=.of zk
instance:TZero Tryz.prog 76 [.string ⟨#[]⟩,.int .i64 0]:=.of (v:=.agg #[.string ⟨#[]⟩,.int .i64 0]) (n:=2) zk rfl rfl
instance:TRow Tryz.prog 76 2 24:=.of zk
instance:TSize Tryz.prog 77 1:=.of zk
instance:TOne Tryz.prog 77:=.of zk
instance:TSlice Tryz.prog 77 134 6:=.of zk
instance:TSize Tryz.prog 79 4:=.of zk
instance:TAgg Tryz.prog 79 4:=.of zk
instance:TField Tryz.prog 79 0 0:=.of zk
instance:TField Tryz.prog 79 1 1:=.of zk
instance:TField Tryz.prog 79 2 2:=.of zk
instance:TField Tryz.prog 79 3 3:=.of zk
instance:TStruct Tryz.prog 79 [(0,1),(1,1),(2,1),(3,1)]:=.of zk
instance:TZero Tryz.prog 79 [.string ⟨#[]⟩,.slice none 0 0,.slice none 0 0,.slice none 0 0]:=.of (v:=.agg #[.string ⟨#[]⟩,.slice none 0 0,.slice none 0 0,.slice none 0 0]) (n:=4) zk rfl rfl
instance:TRow Tryz.prog 79 4 88:=.of zk
instance:TSize Tryz.prog 84 1:=.of zk
instance:TOne Tryz.prog 84:=.of zk
instance:TSlice Tryz.prog 88 89 1:=.of zk
instance:TOne Tryz.prog 89:=.of zk
instance:TZero Tryz.prog 89 [.nilFunc]:=.of (v:=.nilFunc) (n:=1) zk rfl rfl
instance:TAgg Tryz.prog 92 2:=.of zk
instance:TField Tryz.prog 92 0 0:=.of zk
instance:TField Tryz.prog 92 1 1:=.of zk
instance:TStruct Tryz.prog 92 [(0,1),(1,1)]:=.of zk
instance:TZero Tryz.prog 92 [.slice none 0 0,.map none]:=.of (v:=.agg #[.slice none 0 0,.map none]) (n:=2) zk rfl rfl
instance:TSize Tryz.prog 95 2:=.of zk
instance:TAgg Tryz.prog 95 2:=.of zk
instance:TField Tryz.prog 95 0 0:=.of zk
instance:TField Tryz.prog 95 1 1:=.of zk
instance:TStruct Tryz.prog 95 [(0,1),(1,1)]:=.of zk
instance:TZero Tryz.prog 95 [.int .i64 0,.string ⟨#[]⟩]:=.of (v:=.agg #[.int .i64 0,.string ⟨#[]⟩]) (n:=2) zk rfl rfl
instance:TSlice Tryz.prog 96 95 2:=.of zk
instance:TKind Tryz.prog 99 .u64:=.of zk
instance:TOne Tryz.prog 103:=.of zk
instance:TOne Tryz.prog 104:=.of zk
instance:TField Tryz.prog 106 0 0:=.of zk
instance:TField Tryz.prog 106 1 1:=.of zk
instance:TField Tryz.prog 106 2 2:=.of zk
instance:TField Tryz.prog 106 3 3:=.of zk
instance:TField Tryz.prog 106 4 4:=.of zk
instance:TField Tryz.prog 106 5 5:=.of zk
instance:TStruct Tryz.prog 106 [(0,1),(1,1),(2,1),(3,1),(4,1),(5,1)]:=.of zk
instance:TZero Tryz.prog 106 [.slice none 0 0,.int .i64 0,.int .i64 0,.map none,.map none,.string ⟨#[]⟩]:=.of (v:=.agg #[.slice none 0 0,.int .i64 0,.int .i64 0,.map none,.map none,.string ⟨#[]⟩]) (n:=6) zk rfl rfl
instance:TSize Tryz.prog 111 2:=.of zk
instance:TAgg Tryz.prog 111 2:=.of zk
instance:TField Tryz.prog 111 0 0:=.of zk
instance:TField Tryz.prog 111 1 1:=.of zk
instance:TStruct Tryz.prog 111 [(0,1),(1,1)]:=.of zk
instance:TZero Tryz.prog 111 [.string ⟨#[]⟩,.int .i64 0]:=.of (v:=.agg #[.string ⟨#[]⟩,.int .i64 0]) (n:=2) zk rfl rfl
instance:TRow Tryz.prog 111 2 24:=.of zk
instance:TSlice Tryz.prog 113 167 2:=.of zk
instance:TSize Tryz.prog 121 3:=.of zk
instance:TAgg Tryz.prog 121 3:=.of zk
instance:TField Tryz.prog 121 0 0:=.of zk
instance:TField Tryz.prog 121 1 1:=.of zk
instance:TField Tryz.prog 121 2 2:=.of zk
instance:TStruct Tryz.prog 121 [(0,1),(1,1),(2,1)]:=.of zk
instance:TZero Tryz.prog 121 [.int .i64 0,.string ⟨#[]⟩,.int .i64 0]:=.of (v:=.agg #[.int .i64 0,.string ⟨#[]⟩,.int .i64 0]) (n:=3) zk rfl rfl
instance:TRow Tryz.prog 121 3 32:=.of zk
instance:TSize Tryz.prog 131 1:=.of zk
instance:TOne Tryz.prog 131:=.of zk
instance:TSlice Tryz.prog 131 193 4:=.of zk
instance:TSize Tryz.prog 134 6:=.of zk
instance:TAgg Tryz.prog 134 6:=.of zk
instance:TField Tryz.prog 134 0 0:=.of zk
instance:TField Tryz.prog 134 1 1:=.of zk
instance:TField Tryz.prog 134 2 2:=.of zk
instance:TField Tryz.prog 134 3 3:=.of zk
instance:TField Tryz.prog 134 4 4:=.of zk
instance:TField Tryz.prog 134 5 5:=.of zk
instance:TStruct Tryz.prog 134 [(0,1),(1,1),(2,1),(3,1),(4,1),(5,1)]:=.of zk
instance:TZero Tryz.prog 134 [.int .i64 0,.string ⟨#[]⟩,.slice none 0 0,.slice none 0 0,.slice none 0 0,.slice none 0 0]:=.of (v:=.agg #[.int .i64 0,.string ⟨#[]⟩,.slice none 0 0,.slice none 0 0,.slice none 0 0,.slice none 0 0]) (n:=6) zk rfl rfl
instance:TRow Tryz.prog 134 6 120:=.of zk
instance:TSize Tryz.prog 137 2:=.of zk
instance:TConcrete Tryz.prog 137:=.of zk
instance:TField Tryz.prog 137 0 0:=.of zk
instance:TField Tryz.prog 137 1 1:=.of zk
instance:TStruct Tryz.prog 137 [(0,1),(1,1)]:=.of zk
instance:TZero Tryz.prog 137 [.string ⟨#[]⟩,.int .i64 0]:=.of (v:=.agg #[.string ⟨#[]⟩,.int .i64 0]) (n:=2) zk rfl rfl
instance:TOne Tryz.prog 140:=.of zk
instance:TField Tryz.prog 142 0 0:=.of zk
instance:TField Tryz.prog 142 1 1:=.of zk
instance:TField Tryz.prog 142 2 2:=.of zk
instance:TField Tryz.prog 142 3 3:=.of zk
instance:TField Tryz.prog 142 4 4:=.of zk
instance:TField Tryz.prog 142 5 5:=.of zk
instance:TField Tryz.prog 142 6 6:=.of zk
instance:TStruct Tryz.prog 142 [(0,1),(1,1),(2,1),(3,1),(4,1),(5,1),(6,1)]:=.of zk
instance:TZero Tryz.prog 142 [.map none,.map none,.map none,.map none,.string ⟨#[]⟩,.map none,.int .i64 0]:=.of (v:=.agg #[.map none,.map none,.map none,.map none,.string ⟨#[]⟩,.map none,.int .i64 0]) (n:=7) zk rfl rfl
instance:TOne Tryz.prog 144:=.of zk
instance:TOne Tryz.prog 146:=.of zk
instance:TOne Tryz.prog 147:=.of zk
instance:TOne Tryz.prog 148:=.of zk
instance:TField Tryz.prog 150 0 0:=.of zk
instance:TField Tryz.prog 150 1 3:=.of zk
instance:TField Tryz.prog 150 2 4:=.of zk
instance:TField Tryz.prog 150 3 5:=.of zk
instance:TField Tryz.prog 150 4 6:=.of zk
instance:TField Tryz.prog 150 5 7:=.of zk
instance:TField Tryz.prog 150 6 8:=.of zk
instance:TField Tryz.prog 150 7 9:=.of zk
instance:TField Tryz.prog 150 8 10:=.of zk
instance:TStruct Tryz.prog 150 [(0,3),(3,1),(4,1),(5,1),(6,1),(7,1),(8,1),(9,1),(10,1)]:=.of zk
instance:TZero Tryz.prog 150 [.slice none 0 0,.slice none 0 0,.slice none 0 0,.map none,.slice none 0 0,.slice none 0 0,.int .i64 0,.int .i64 0,.map none,.map none,.map none]:=.of (v:=.agg #[.slice none 0 0,.slice none 0 0,.slice none 0 0,.map none,.slice none 0 0,.slice none 0 0,.int .i64 0,.int .i64 0,.map none,.map none,.map none]) (n:=11) zk rfl rfl
instance:TOne Tryz.prog 161:=.of zk
instance:TField Tryz.prog 164 0 0:=.of zk
instance:TField Tryz.prog 164 1 1:=.of zk
instance:TField Tryz.prog 164 2 2:=.of zk
instance:TField Tryz.prog 164 3 3:=.of zk
instance:TField Tryz.prog 164 4 4:=.of zk
instance:TField Tryz.prog 164 5 5:=.of zk
instance:TField Tryz.prog 164 6 6:=.of zk
instance:TField Tryz.prog 164 7 7:=.of zk
instance:TField Tryz.prog 164 8 8:=.of zk
instance:TField Tryz.prog 164 9 9:=.of zk
instance:TStruct Tryz.prog 164 [(0,1),(1,1),(2,1),(3,1),(4,1),(5,1),(6,1),(7,1),(8,1),(9,1)]:=.of zk
instance:TZero Tryz.prog 164 [.slice none 0 0,.int .u32 0,.slice none 0 0,.slice none 0 0,.slice none 0 0,.slice none 0 0,.bool false,.int .i64 0,.bool false,.map none]:=.of (v:=.agg #[.slice none 0 0,.int .u32 0,.slice none 0 0,.slice none 0 0,.slice none 0 0,.slice none 0 0,.bool false,.int .i64 0,.bool false,.map none]) (n:=10) zk rfl rfl
instance:TSize Tryz.prog 167 2:=.of zk
instance:TAgg Tryz.prog 167 2:=.of zk
instance:TField Tryz.prog 167 0 0:=.of zk
instance:TField Tryz.prog 167 1 1:=.of zk
instance:TStruct Tryz.prog 167 [(0,1),(1,1)]:=.of zk
instance:TZero Tryz.prog 167 [.string ⟨#[]⟩,.int .i64 0]:=.of (v:=.agg #[.string ⟨#[]⟩,.int .i64 0]) (n:=2) zk rfl rfl
instance:TRow Tryz.prog 167 2 24:=.of zk
instance:TSize Tryz.prog 169 2:=.of zk
instance:TAgg Tryz.prog 169 2:=.of zk
instance:TField Tryz.prog 169 0 0:=.of zk
instance:TField Tryz.prog 169 1 1:=.of zk
instance:TStruct Tryz.prog 169 [(0,1),(1,1)]:=.of zk
instance:TZero Tryz.prog 169 [.int .i64 0,.int .i64 0]:=.of (v:=.agg #[.int .i64 0,.int .i64 0]) (n:=2) zk rfl rfl
instance:TSlice Tryz.prog 170 169 2:=.of zk
instance:TSize Tryz.prog 193 4:=.of zk
instance:TAgg Tryz.prog 193 4:=.of zk
instance:TField Tryz.prog 193 0 0:=.of zk
instance:TField Tryz.prog 193 1 1:=.of zk
instance:TField Tryz.prog 193 2 2:=.of zk
instance:TField Tryz.prog 193 3 3:=.of zk
instance:TStruct Tryz.prog 193 [(0,1),(1,1),(2,1),(3,1)]:=.of zk
instance:TZero Tryz.prog 193 [.string ⟨#[]⟩,.int .u32 0,.string ⟨#[]⟩,.slice none 0 0]:=.of (v:=.agg #[.string ⟨#[]⟩,.int .u32 0,.string ⟨#[]⟩,.slice none 0 0]) (n:=4) zk rfl rfl
instance:TRow Tryz.prog 193 4 64:=.of zk
instance:TSize Tryz.prog 198 3:=.of zk
instance:TField Tryz.prog 198 0 0:=.of zk
instance:TField Tryz.prog 198 1 1:=.of zk
instance:TField Tryz.prog 198 2 2:=.of zk
instance:TStruct Tryz.prog 198 [(0,1),(1,1),(2,1)]:=.of zk
instance:TZero Tryz.prog 198 [.int .i64 0,.int .i64 0,.int .i64 0]:=.of (v:=.agg #[.int .i64 0,.int .i64 0,.int .i64 0]) (n:=3) zk rfl rfl
instance:TSize Tryz.prog 200 1:=.of zk
instance:TConcrete Tryz.prog 200:=.of zk
instance:TField Tryz.prog 200 0 0:=.of zk
instance:TStruct Tryz.prog 200 [(0,1)]:=.of zk
instance:TZero Tryz.prog 200 [.int .i64 0]:=.of (v:=.agg #[.int .i64 0]) (n:=1) zk rfl rfl
instance:TSize Tryz.prog 201 1:=.of zk
instance:TOne Tryz.prog 201:=.of zk
instance:TZero Tryz.prog 201 [.nilFunc]:=.of (v:=.nilFunc) (n:=1) zk rfl rfl
instance:TSize Tryz.prog 217 0:=.of zk
instance:TConcrete Tryz.prog 217:=.of zk
instance:TStruct Tryz.prog 217 []:=.of zk
instance:TZero Tryz.prog 217 []:=.of (v:=.agg #[]) (n:=0) zk rfl rfl
instance:TOne Tryz.prog 221:=.of zk
instance:TSlice Tryz.prog 221 24 1:=.of zk
instance:TSize Tryz.prog 250 1:=.of zk
instance:TOne Tryz.prog 250:=.of zk
instance:TZero Tryz.prog 250 [.nilFunc]:=.of (v:=.nilFunc) (n:=1) zk rfl rfl
instance:TSlice Tryz.prog 285 3 1:=.of zk
instance:TEnter Tryz.prog 6:=.of zk
instance:TEnter Tryz.prog 7:=.of zk
instance:TEnter Tryz.prog 8:=.of zk
instance:TEnter Tryz.prog 9:=.of zk
instance:TEnter Tryz.prog 10:=.of zk
instance:TEnter Tryz.prog 11:=.of zk
instance:TEnter Tryz.prog 13:=.of zk
instance:TEnter Tryz.prog 14:=.of zk
instance:TEnter Tryz.prog 16:=.of zk
instance:TEnter Tryz.prog 18:=.of zk
instance:TEnter Tryz.prog 19:=.of zk
instance:TEnter Tryz.prog 20:=.of zk
instance:TEnter Tryz.prog 21:=.of zk
instance:TEnter Tryz.prog 22:=.of zk
instance:TEnter Tryz.prog 23:=.of zk
instance:TEnter Tryz.prog 24:=.of zk
instance:TEnter Tryz.prog 25:=.of zk
instance:TEnter Tryz.prog 26:=.of zk
instance:TEnter Tryz.prog 27:=.of zk
instance:TEnter Tryz.prog 28:=.of zk
instance:TEnter Tryz.prog 29:=.of zk
instance:TEnter Tryz.prog 31:=.of zk
instance:TEnter Tryz.prog 32:=.of zk
instance:TEnter Tryz.prog 33:=.of zk
instance:TEnter Tryz.prog 34:=.of zk
instance:TEnter Tryz.prog 35:=.of zk
instance:TEnter Tryz.prog 36:=.of zk
instance:TEnter Tryz.prog 37:=.of zk
instance:TEnter Tryz.prog 38:=.of zk
instance:TEnter Tryz.prog 39:=.of zk
instance:TEnter Tryz.prog 40:=.of zk
instance:TEnter Tryz.prog 41:=.of zk
instance:TEnter Tryz.prog 43:=.of zk
instance:TEnter Tryz.prog 44:=.of zk
instance:TEnter Tryz.prog 45:=.of zk
instance:TEnter Tryz.prog 46:=.of zk
instance:TEnter Tryz.prog 47:=.of zk
instance:TEnter Tryz.prog 48:=.of zk
instance:TEnter Tryz.prog 49:=.of zk
instance:TEnter Tryz.prog 50:=.of zk
instance:TEnter Tryz.prog 51:=.of zk
instance:TEnter Tryz.prog 52:=.of zk
instance:TEnter Tryz.prog 53:=.of zk
instance:TEnter Tryz.prog 54:=.of zk
instance:TEnter Tryz.prog 55:=.of zk
instance:TEnter Tryz.prog 56:=.of zk
instance:TEnter Tryz.prog 57:=.of zk
instance:TEnter Tryz.prog 58:=.of zk
instance:TEnter Tryz.prog 59:=.of zk
instance:TEnter Tryz.prog 60:=.of zk
instance:TEnter Tryz.prog 61:=.of zk
instance:TEnter Tryz.prog 62:=.of zk
instance:TEnter Tryz.prog 63:=.of zk
instance:TEnter Tryz.prog 64:=.of zk
instance:TEnter Tryz.prog 65:=.of zk
instance:TEnter Tryz.prog 66:=.of zk
instance:TEnter Tryz.prog 67:=.of zk
instance:TEnter Tryz.prog 69:=.of zk
instance:TEnter Tryz.prog 70:=.of zk
instance:TEnter Tryz.prog 71:=.of zk
instance:TEnter Tryz.prog 72:=.of zk
instance:TEnter Tryz.prog 73:=.of zk
instance:TEnter Tryz.prog 74:=.of zk
instance:TEnter Tryz.prog 75:=.of zk
instance:TEnter Tryz.prog 76:=.of zk
instance:TEnter Tryz.prog 77:=.of zk
instance:TEnter Tryz.prog 78:=.of zk
instance:TEnter Tryz.prog 80:=.of zk
instance:TEnter Tryz.prog 81:=.of zk
instance:TEnter Tryz.prog 82:=.of zk
instance:TEnter Tryz.prog 83:=.of zk
instance:TEnter Tryz.prog 84:=.of zk
instance:TEnter Tryz.prog 85:=.of zk
instance:TEnter Tryz.prog 86:=.of zk
instance:TEnter Tryz.prog 87:=.of zk
instance:TEnter Tryz.prog 88:=.of zk
instance:TEnter Tryz.prog 89:=.of zk
instance:TEnter Tryz.prog 90:=.of zk
instance:TEnter Tryz.prog 91:=.of zk
instance:TEnter Tryz.prog 92:=.of zk
instance:TEnter Tryz.prog 93:=.of zk
instance:TEnter Tryz.prog 94:=.of zk
instance:TEnter Tryz.prog 95:=.of zk
instance:TEnter Tryz.prog 96:=.of zk
instance:TEnter Tryz.prog 97:=.of zk
instance:TEnter Tryz.prog 98:=.of zk
instance:TEnter Tryz.prog 99:=.of zk
instance:TEnter Tryz.prog 100:=.of zk
instance:TEnter Tryz.prog 101:=.of zk
instance:TEnter Tryz.prog 102:=.of zk
instance:TEnter Tryz.prog 103:=.of zk
instance:TEnter Tryz.prog 104:=.of zk
instance:TEnter Tryz.prog 105:=.of zk
instance:TEnter Tryz.prog 106:=.of zk
instance:TEnter Tryz.prog 107:=.of zk
instance:TEnter Tryz.prog 111:=.of zk
instance:TEnter Tryz.prog 112:=.of zk
instance:TEnter Tryz.prog 113:=.of zk
instance:TEnter Tryz.prog 114:=.of zk
instance:TEnter Tryz.prog 115:=.of zk
instance:TEnter Tryz.prog 116:=.of zk
instance:TEnter Tryz.prog 117:=.of zk
instance:TEnter Tryz.prog 118:=.of zk
instance:TEnter Tryz.prog 120:=.of zk
instance:TEnter Tryz.prog 121:=.of zk
instance:TEnter Tryz.prog 122:=.of zk
instance:TEnter Tryz.prog 123:=.of zk
instance:TEnter Tryz.prog 124:=.of zk
instance:TEnter Tryz.prog 125:=.of zk
instance:TEnter Tryz.prog 126:=.of zk
instance:TEnter Tryz.prog 127:=.of zk
instance:TEnter Tryz.prog 128:=.of zk
instance:TEnter Tryz.prog 129:=.of zk
instance:TEnter Tryz.prog 130:=.of zk
instance:TEnter Tryz.prog 131:=.of zk
instance:TEnter Tryz.prog 132:=.of zk
instance:TEnter Tryz.prog 133:=.of zk
instance:TEnter Tryz.prog 134:=.of zk
instance:TEnter Tryz.prog 135:=.of zk
instance:TEnter Tryz.prog 136:=.of zk
instance:TEnter Tryz.prog 137:=.of zk
instance:TEnter Tryz.prog 138:=.of zk
instance:TEnter Tryz.prog 139:=.of zk
instance:TEnter Tryz.prog 140:=.of zk
instance:TEnter Tryz.prog 141:=.of zk
instance:TEnter Tryz.prog 147:=.of zk
instance:TEnter Tryz.prog 148:=.of zk
instance:TEnter Tryz.prog 149:=.of zk
instance:TEnter Tryz.prog 150:=.of zk
instance:TEnter Tryz.prog 151:=.of zk
instance:TEnter Tryz.prog 152:=.of zk
instance:TEnter Tryz.prog 153:=.of zk
instance:TEnter Tryz.prog 154:=.of zk
instance:TEnter Tryz.prog 155:=.of zk
instance:TEnter Tryz.prog 156:=.of zk
instance:TEnter Tryz.prog 157:=.of zk
instance:TEnter Tryz.prog 158:=.of zk
instance:TEnter Tryz.prog 159:=.of zk
instance:TEnter Tryz.prog 160:=.of zk
instance:TEnter Tryz.prog 162:=.of zk
instance:TEnter Tryz.prog 163:=.of zk
instance:TEnter Tryz.prog 164:=.of zk
instance:TEnter Tryz.prog 165:=.of zk
instance:TEnter Tryz.prog 168:=.of zk
instance:TEnter Tryz.prog 170:=.of zk
instance:TEnter Tryz.prog 171:=.of zk
instance:TEnter Tryz.prog 173:=.of zk
instance:TEnter Tryz.prog 174:=.of zk
instance:TEnter Tryz.prog 175:=.of zk
instance:TEnter Tryz.prog 176:=.of zk
instance:TEnter Tryz.prog 177:=.of zk
instance:TEnter Tryz.prog 178:=.of zk
instance:TEnter Tryz.prog 179:=.of zk
instance:TEnter Tryz.prog 195:=.of zk
instance:TEnter Tryz.prog 196:=.of zk
instance:TEnter Tryz.prog 197:=.of zk
instance:TEnter Tryz.prog 198:=.of zk
instance:TEnter Tryz.prog 199:=.of zk
instance:TEnter Tryz.prog 200:=.of zk
instance:TEnter Tryz.prog 206:=.of zk
instance:TEnter Tryz.prog 207:=.of zk
instance:TEnter Tryz.prog 208:=.of zk
instance:TEnter Tryz.prog 209:=.of zk
instance:TEnter Tryz.prog 210:=.of zk
instance:TEnter Tryz.prog 211:=.of zk
instance:TEnter Tryz.prog 212:=.of zk
instance:TEnter Tryz.prog 213:=.of zk
instance:TEnter Tryz.prog 214:=.of zk
instance:TEnter Tryz.prog 228:=.of zk
instance:TEnter Tryz.prog 229:=.of zk
instance:TEnter Tryz.prog 232:=.of zk
instance:TEnter Tryz.prog 233:=.of zk
instance:TEnter Tryz.prog 234:=.of zk
instance:TEnter Tryz.prog 235:=.of zk
instance:TEnter Tryz.prog 236:=.of zk
instance:TEnter Tryz.prog 237:=.of zk
instance:TEnter Tryz.prog 238:=.of zk
instance:TEnter Tryz.prog 239:=.of zk
instance:TEnter Tryz.prog 240:=.of zk
instance:TEnter Tryz.prog 241:=.of zk
instance:TEnter Tryz.prog 247:=.of zk
instance:TEnter Tryz.prog 248:=.of zk
instance:TEnter Tryz.prog 249:=.of zk
instance:TEnter Tryz.prog 250:=.of zk
instance:TEnter Tryz.prog 251:=.of zk
end Go.Proofs.YtdakelgkjdaijaaGreatDoor
namespace Go.GL
open Go.RowKit
@[reducible] def Ret (v:LV):LRes->Heap->Prop:=fun r H=>r=.ret v/\H=[]
@[reducible] def qgz (p:LV->Prop):LRes->Heap->Prop:=fun r H=>∃ v,r=.ret v/\p v/\H=[]
section
variable {C:Ctx} {e:Env} {H:Heap} {dst:Option Nat} {ty:TypeId} {pos:String} {aft:Array Edge} {g:Option (Nat×Bool)} {K:LV->Heap->Prop} {X:List PanicEntry->Heap->Prop}
theorem sF {f:FuncId} [TEnter C.P f] (args:List Operand) {ats:Array TypeId} {avs:List LV} {lv:LV} (has:args.map e.ev=avs) (hc:LCalls C f avs [] (Ret lv)) (hk:K lv H) :
  qad C ⟨dst,.call { callee:=.value (.func f),args:=args.toArray,argTypes:=ats },ty,pos,aft,g⟩ e H K X:=
 S.call0 args has hc (by rintro v H' ⟨h,rfl⟩;cases h;exact hk) (by rintro ch H' ⟨h,_⟩;cases h)
theorem S.fnIf {f:FuncId} [TEnter C.P f] (args:List Operand) {ats:Array TypeId} {avs:List LV} {p:LV->Prop} (has:args.map e.ev=avs) (hc:LCalls C f avs [] (qgz p)) (hk:∀ lv,p lv->K lv H) :
  qad C ⟨dst,.call { callee:=.value (.func f),args:=args.toArray,argTypes:=ats },ty,pos,aft,g⟩ e H K X:=
 S.call0 args has hc (by rintro v H' ⟨u,h,hp,rfl⟩;cases h;exact hk _ hp) (by rintro ch H' ⟨u,h,_⟩;cases h)
theorem S.fnV {fo:Operand} {f:FuncId} [TEnter C.P f] {first caps:Array Value} (args:List Operand) {ats:Array TypeId} {avs:List LV} {lv:LV} (hf:e.ev fo=.atom (.func (.func f) first caps))
  (has:first.toList.map .atom++args.map e.ev++caps.toList.map .atom=avs) (hc:LCalls C f avs [] (Ret lv)) (hk:K lv H) :
  qad C ⟨dst,.call { callee:=.value fo,args:=args.toArray,argTypes:=ats },ty,pos,aft,g⟩ e H K X:=
 S.callV (H1:=[]) (F:=H) args hf has zpr hc (by rintro v H' ⟨h,rfl⟩;cases h;exact hk) (by rintro ch H' ⟨h,_⟩;cases h)
theorem qaf {n:Nat} {rs:List ResultVar} {vs:List LV} {lv:LV} (hd:e.ds=[]) (h:qbA C n e H rs vs) (hv:qbq vs=lv):qac C n rs (Ret lv) .ret e H:=
 rR hd h zhn ⟨by rw[hv],rfl⟩
theorem qb0 {n:Nat} {rs:List ResultVar} {vs:List LV} {p:LV->Prop} (hd:e.ds=[]) (h:qbA C n e H rs vs) (hv:p (qbq vs)):qac C n rs (qgz p) .ret e H:=
 rR hd h zhn ⟨_,rfl,hv,rfl⟩
end
theorem qgX {C:Ctx} {w w':World} {L:Live} (hH:RelH C w L []) (h:Below w.heap.size w w'):Fr (keys []) w L w' L []/\RelH C w' L []:=by
 refine ⟨⟨h.os,h.tape,h.output,⟨h.size,fun b hb=>qbF (h.block b hb),fun b i hi=>?_,fun _=>zNr _⟩,fun b hb _=>h.block b hb,fun _ _ _=>rfl,by simp⟩,
  ⟨hH.base.trans (h.mono hH.b0),hH.lbase,zNt hH.b0 h.size,fun b hb=>hH.wf b (zNt h.size hb),List.nodup_nil,by simp⟩⟩
 have hb:b<w.heap.size:=by
  rcases Nat.lt_or_ge b w.heap.size with h1|h1
  ·exact h1
  ·have:=hH.wf b h1;omega
 exact cell_of_heap (h.block b hb) i
theorem LCalls.of_below {C:Ctx} {f:FuncId} {vs:List Value} {p:Value->Prop}
  (h:∀ w,Below C.B0 C.w0 w->Calls C.P f vs.toArray w (fun e w'=>∃ v,e=.returned v/\p v/\Below w.heap.size w w')):LCalls C f (vs.map .atom) [] (fun r H=>∃ v,r=.ret (.atom v)/\p v/\H=[]):=fun xs w L hv hH=>by
 have hx:xs=vs:=by
  clear h hH
  induction vs generalizing xs with
  |nil=>simpa [RepL] using hv
  |cons v vs ih=>
   simp only[zMc,RepL,Rep] at hv;obtain ⟨y,ys,rfl,rfl,hv⟩:=hv;rw[ih _ hv]
 subst hx;refine (h w hH.base).mono fun e w' he=>?_;obtain ⟨v,rfl,hp,hb⟩:=he;obtain ⟨h1,h2⟩:=qgX hH hb;exact ⟨.atom v,[],L,h1,h2,qah,v,rfl,hp,rfl⟩
theorem LCalls.of_belowT {C:Ctx} {f:FuncId} {vs:List Value} {p:List Value->Prop}
  (h:∀ w,Below C.B0 C.w0 w->Calls C.P f vs.toArray w (fun e w'=>∃ us:List Value,e=.returned (.tuple us.toArray)/\p us/\Below w.heap.size w w')):LCalls C f (vs.map .atom) [] (qgz fun lv=>∃ us,p us/\lv=.tuple (us.map .atom)):=fun xs w L hv hH=>by
 have hx:xs=vs:=by
  clear h hH
  induction vs generalizing xs with
  |nil=>simpa [RepL] using hv
  |cons v vs ih=>
   simp only[zMc,RepL,Rep] at hv;obtain ⟨y,ys,rfl,rfl,hv⟩:=hv;rw[ih _ hv]
 subst hx;refine (h w hH.base).mono fun e w' he=>?_;obtain ⟨us,rfl,hp,hb⟩:=he;obtain ⟨h1,h2⟩:=qgX hH hb;exact ⟨.tuple (us.map .atom),[],L,h1,h2,by simp only[Rep];exact ⟨us,rfl,qaT _⟩,_,rfl,⟨us,hp,rfl⟩,rfl⟩
theorem LCalls.ret_of {C:Ctx} {f:FuncId} {vs:List Value} {u:Value}
  (h:∀ w,Below C.B0 C.w0 w->Calls C.P f vs.toArray w (fun e w'=>e=.returned u/\Below w.heap.size w w')):LCalls C f (vs.map .atom) [] (Ret (.atom u)):=
 LCalls.mono (LCalls.of_below (p:=fun v=>v=u) fun w hw=>(h w hw).mono fun e w' he=>⟨u,he.1,rfl,he.2⟩) fun r H' ⟨v,h1,h2,h3⟩=>⟨by rw[h1,h2],h3⟩
def qcv (e:Env):List (Nat×LV)->Prop
 |[]=>True
 |(d,v)::r=>e.s d=v/\qcv e r
theorem qcv.mem {e:Env}:∀ {l:List (Nat×LV)},qcv e l->∀ p∈l,e.s p.1=p.2
 |[],_,p,hp=>by cases hp
 |(d,v)::r,h,p,hp=>by
  rcases zMi.1 hp with rfl|hp
  ·exact h.1
  ·exact qcv.mem h.2 p hp
def qdF (I:Nat->List (Nat×LV)->Heap->Prop) (k:Nat) (ds:List Deferred) (e':Env) (H':Heap):Prop:=
 ∃ m l' H'',m<k/\I m l' H''/\qcv e' l'/\HSub H'' H'/\e'.ds=ds
theorem oL {C:Ctx} {n:Nat} {c:Code} {Q:Post} {e:Env} {H:Heap} (I:Nat->List (Nat×LV)->Heap->Prop) (h0:∃ k l H0,I k l H0/\qcv e l/\HSub H0 H)
  (round:∀ k l H,I k l H->∀ j:Env,j.ds=e.ds->qae C n c (qax (qdF I k e.ds) Q) (Env.slots j l) H):qae C n (.loop c) Q e H:=by
 obtain ⟨k,l,H0,h0,h1,h2⟩:=h0;refine cW h2 (qae.loop (fun k e' H'=>∃ l H0,I k l H0/\qcv e' l/\HSub H0 H'/\e'.ds=e.ds) k ⟨l,H0,h0,h1,zhR _,rfl⟩ ?_);rintro k e' H' ⟨l,H0,g0,g1,g2,g3⟩;have:=round k l H0 g0 e' g3;rw[Env.slots_self g1.mem] at this;refine cW g2 (qae.conseq this ?_);rintro ex e2 H2 hq
 cases ex with
 |normal=>
  obtain ⟨m,l',H3,r1,r2,r3,r4,r5⟩:=hq
  exact ⟨m,r1,l',H3,r2,r3,r4,r5⟩
 |exit id=>exact hq
 |goto id=>exact hq
 |ret=>exact hq
 |panic ch=>exact hq
 |outgrown=>exact hq
theorem qas {a b:Bool} (h:a=b):bool a=bool b:=by rw[h]
def At (l:List (Nat×LV)) (H1:Heap) (ds:List Deferred) (e':Env) (H':Heap):Prop:=qcv e' l/\H'=H1/\e'.ds=ds
theorem LOps.cutTo {C:Ctx} {n:Nat} {ops:Array Oper} {rest:List Oper} {Q:Post} {e:Env} {H:Heap} {k:Env->Heap->Prop} (l:List (Nat×LV)) (H1:Heap)
  (hx:LOps C n ops (qax (At l H1 e.ds) Q) rest e H) (hy:∀ j:Env,j.ds=e.ds->k (Env.slots j l) H1):LOps C n ops (qax k Q) rest e H:=by
 refine LOps.conseq hx ?_;rintro ex e' H' hq
 cases ex with
 |normal=>
  obtain ⟨h1,rfl,h3⟩:=hq;have:=hy e' h3;rw[Env.slots_self h1.mem] at this
  exact this
 |exit id=>exact hq
 |goto id=>exact hq
 |ret=>exact hq
 |panic ch=>exact hq
 |outgrown=>exact hq
theorem qae.cutTo {C:Ctx} {n:Nat} {c:Code} {Q:Post} {e:Env} {H:Heap} {k:Env->Heap->Prop} (l:List (Nat×LV)) (H1:Heap)
  (hx:qae C n c (qax (At l H1 e.ds) Q) e H) (hy:∀ j:Env,j.ds=e.ds->k (Env.slots j l) H1):qae C n c (qax k Q) e H:=by
 refine qae.conseq hx ?_;rintro ex e' H' hq
 cases ex with
 |normal=>
  obtain ⟨h1,rfl,h3⟩:=hq;have:=hy e' h3;rw[Env.slots_self h1.mem] at this
  exact this
 |exit id=>exact hq
 |goto id=>exact hq
 |ret=>exact hq
 |panic ch=>exact hq
 |outgrown=>exact hq
theorem LOps.cut {C:Ctx} {n:Nat} {ops:Array Oper} {rest:List Oper} {Q:Post} {e:Env} {H:Heap} {k:Env->Heap->Prop} (l:List (Nat×LV))
  (hx:LOps C n ops (qax (At l H e.ds) Q) rest e H) (hy:∀ j:Env,j.ds=e.ds->k (Env.slots j l) H):LOps C n ops (qax k Q) rest e H:=LOps.cutTo l H hx hy
theorem cC {C:Ctx} {n:Nat} {c:Code} {Q:Post} {e:Env} {H:Heap} {k:Env->Heap->Prop} (l:List (Nat×LV))
  (hx:qae C n c (qax (At l H e.ds) Q) e H) (hy:∀ j:Env,j.ds=e.ds->k (Env.slots j l) H):qae C n c (qax k Q) e H:=qae.cutTo l H hx hy
theorem qlK {ops:Array Oper} {n:Nat} {a:Act} {e:Env} {w:World} {L:Live} (hE:RelE n a e w L) {j d:Nat} (hj:(ops[j]?).bind (·.dst)=some d) (hb:e.s d=.atom undef):yielded ops a.tmps j=none:=by
 have h:=hE.vals d;rw[hb] at h;simp only[Rep] at h;unfold yielded;rw[hj];simp only[Option.bind_some];rw[Array.getD_eq_getD_getElem?] at h
 cases hx:a.tmps[d]? with
 |none=>rfl
 |some x=>rw[hx] at h;simp only[Option.getD_some] at h;subst h;rfl
theorem LOps.skipU {C:Ctx} {n:Nat} {ops:Array Oper} {Q:Post} {e:Env} {H:Heap} {dst:Option Nat} {op:Op} {ty:TypeId} {pos:String} {aft:Array Edge} {rest:List Oper} {j d:Nat} {c:Bool}
  (hj:(ops[j]?).bind (·.dst)=some d) (hb:e.s d=.atom undef) (hd:qcK n dst)
  (k:LOps C n ops Q rest (e.put dst (.atom undef)) H):LOps C n ops Q (⟨dst,op,ty,pos,aft,some (j,c)⟩::rest) e H:=fun a w L hE hH=>by
 unfold wpList;rw[if_neg (by simp[Region.wanted,qlK hE hj hb])];exact k _ w L (hE.put hd (by simp only[Rep])) hH
theorem qak {k:IntKind} {a b:Int} (h:a=b):int k a=int k b:=by rw[h]
end Go.GL
namespace Go.Stele
@[reducible] def cv (c:UInt8):Int:=(c.toNat:Int)
def qaB (c:UInt8):Bool:=decide (48<=cv c) && decide (cv c<=57)
def qaV (c:UInt8):Bool:=decide (97<=cv c) && decide (cv c<=122)
def qaM (c:UInt8):Bool:=qaV c || qaB c || decide (cv c=95)
def qvO (c:UInt8):Bool:=!decide (cv c=10)
def qbt (c:UInt8):Bool:=decide (cv c=32) || decide (cv c=9) || decide (cv c=10)
structure Tok where
 kind:Int
 text:List UInt8
 line:Int
 deriving DecidableEq,Inhabited
end Go.Stele
namespace Go.Stele
theorem qf8 {p:UInt8->Bool} {s:List UInt8} {m:Nat} (hm:m<s.length) (h:s.takeWhile p=s.take m++(s.drop m).takeWhile p) :
  (p s[m]=true->s.takeWhile p=s.take (m+1)++(s.drop (m+1)).takeWhile p)/\(p s[m]=false->s.takeWhile p=s.take m):=by
 have h1:s.drop m=s[m]::s.drop (m+1):=List.drop_eq_getElem_cons hm;constructor
 ·intro hp;rw[h,h1,List.takeWhile_cons_of_pos hp,List.take_succ_eq_append_getElem hm];simp only[zAs,List.singleton_append]
 ·intro hp;rw[h,h1,List.takeWhile_cons_of_neg (by simp[hp])]
  simp
theorem qkA {p:UInt8->Bool} {s:List UInt8} {m:Nat} (hm:s.length<=m) (h:s.takeWhile p=s.take m++(s.drop m).takeWhile p):s.takeWhile p=s.take m:=by
 rw[h,List.drop_eq_nil_of_le hm]
 simp
def qaY (s:List UInt8):Nat:=if [47,47].isPrefixOf s then (s.takeWhile qvO).length else (s.takeWhile qbt).length
end Go.Stele
/- What the lexer computes, in plain Lean: tokens. -/
namespace Go.Stele
def qvI:Tok:=⟨0,[],0⟩
abbrev TokR:=Tok×Nat×Int
def qbm (e:Int):TokR:=(qvI,0,e)
def qcV (s:List UInt8) (n:Nat):Bool:=match s[n]? with
 |some c=>qaV c || decide (cv c=95)
 |none=>false
def qb9 (s:List UInt8):TokR:=
 if qcV s (s.takeWhile qaB).length then qbm 3 else
  match Go.Lib.parseUintB 32 (s.takeWhile qaB) with
  |.ok u=>(⟨1,Go.Lib.decDigits u,0⟩,(s.takeWhile qaB).length,0)
  |_=>qbm 2
def qbO:List UInt8->TokR
 |_::b::c::_=>if (!decide (cv c=39)) || decide (cv b<32) || decide (126<cv b) || decide (cv b=39) || decide (cv b=92) then qbm 3 else (⟨1,Go.Lib.decDigits b.toNat,0⟩,3,0)
 |_=>qbm 3
def qch:List (List UInt8):=[[97,114,114,97,121],[101,108,115,101],[102,117,110,99],[104,97,108,116],[105,102],[114,101,116,117,114,110],[118,97,114],[119,104,105,108,101]]
def signs:List (List UInt8):=[[38,38],[124,124],[61,61],[33,61],[60,61],[62,61],[60],[62],[94],[43],[45],[42],[47],[37],[33],[61],[40],[41],[123],[125],[91],[93],[44],[59]]
def qdZ (s:List UInt8):TokR:=
 if 24<(s.takeWhile qaM).length then qbm 7 else (⟨if qch.contains (s.takeWhile qaM) then 3 else 2,s.takeWhile qaM,0⟩,(s.takeWhile qaM).length,0)
def qdo (s:List UInt8):TokR:=match signs.find? (fun x=>x.isPrefixOf s) with
 |some x=>(⟨4,x,0⟩,x.length,0)
 |none=>qbm 3
def qay (s:List UInt8):TokR:=match s with
 |[]=>qbm 3
 |c::_=>if qaB c then qb9 s else if qaV c then qdZ s else if decide (cv c=39) then qbO s else qdo s
def lexP:Nat->List UInt8->Int->Except (Int×Int) (List Tok)
 |0,_,_=>.ok []
 |fuel+1,s,line=>
  if s=[] then .ok [] else
  if qaY s=0 then
   if (qay s).2.2≠0 then .error (line,(qay s).2.2)
   else (lexP fuel (s.drop (qay s).2.1) (line+((s.take (qay s).2.1).count 10:Nat))).map ({ (qay s).1 with line:=line }::·)
  else lexP fuel (s.drop (qaY s)) (line+((s.take (qaY s)).count 10:Nat))
end Go.Stele
namespace Go.Stele
theorem qei (p:UInt8->Bool) (s:List UInt8):(s.takeWhile p).length<=s.length:=(List.takeWhile_prefix p).length_le
theorem qgT (s:List UInt8) (h:(qay s).2.2=0):0<(qay s).2.1/\(qay s).2.1<=s.length:=by
 match s with
 |[]=>simp[qay,qbm] at h
 |c::r=>
  simp only[qay] at h ⊢;split at h <;> rename_i hc
  ·rw[if_pos hc];unfold qb9 at h ⊢;split at h
   ·simp[qbm] at h
   ·rename_i hw
    rw[if_neg hw];split at h
    ·rename_i u hu
     refine ⟨?_,qei _ _⟩;rw[List.takeWhile_cons_of_pos hc]
     simp
    ·simp[qbm] at h
  ·rw[if_neg hc];split at h <;> rename_i hl
   ·rw[if_pos hl];unfold qdZ at h ⊢;split at h
    ·simp[qbm] at h
    ·rename_i hw
     rw[if_neg hw];refine ⟨?_,qei _ _⟩;rw[List.takeWhile_cons_of_pos (by simp[qaM,hl])]
     simp
   ·rw[if_neg hl];split at h <;> rename_i hq
    ·rw[if_pos hq];unfold qbO at h ⊢;split at h
     ·split at h
      ·simp[qbm] at h
      ·rename_i hx
       rename_i heq
       rw[if_neg hx,heq]
       simp
     ·simp[qbm] at h
    ·rw[if_neg hq];unfold qdo at h ⊢;split at h
     ·rename_i x hx
      have h1:=List.find?_some hx;have h2:=List.mem_of_find?_eq_some hx;refine ⟨?_,(List.isPrefixOf_iff_prefix.1 h1).length_le⟩;have:∀ x∈signs,0<x.length:=by decide
      exact this x h2
     ·simp[qbm] at h
theorem qpv (s:List UInt8):qaY s<=s.length:=by
 unfold qaY;split <;> exact qei _ _
end Go.Stele
namespace Go.Proofs.YtdakelgkjdaijaaGreatDoor
open Go.GL Go.RowKit Go.Stele
noncomputable abbrev KC (B0:Nat) (w0:World):Ctx:=⟨Tryz.prog,B0,w0⟩
attribute [local irreducible] LOps qae qad LCalls Go.GL.Pure qax qaj qac
section
variable {B0:Nat} {w0:World}
theorem qhr (c:UInt8):LCalls (KC B0 w0) 102 [int .u8 c.toNat] [] (Ret (bool (qaB c))):=by
 refine cI Tryz.func102 rfl (n:=9) rfl rfl rfl ?_;refine gac ?_;refine oB 5 rfl (fun ht=>?_) (fun ht=>?_)
 ·refine gav ?_;exact qaf rfl (zra rfl) (by simp[qbq,qaB,ht])
 ·refine gab ?_;exact qaf rfl (zra rfl) (by simp[qbq,qaB,ht])
theorem qgl (c:UInt8):LCalls (KC B0 w0) 104 [int .u8 c.toNat] [] (Ret (bool (qaV c))):=by
 refine cI Tryz.func104 rfl (n:=9) rfl rfl rfl ?_;refine gac ?_;refine oB 5 rfl (fun ht=>?_) (fun ht=>?_)
 ·refine gav ?_;exact qaf rfl (zra rfl) (by simp[qbq,qaV,ht])
 ·refine gab ?_;exact qaf rfl (zra rfl) (by simp[qbq,qaV,ht])
theorem qpR (c:UInt8):LCalls (KC B0 w0) 100 [int .u8 c.toNat] [] (Ret (bool (qvO c))):=by
 refine cI Tryz.func100 rfl (n:=5) rfl rfl rfl ?_;refine gaa ?_;exact qaf rfl (zra rfl) rfl
theorem qpG (c:UInt8):LCalls (KC B0 w0) 170 [int .u8 c.toNat] [] (Ret (bool (qaM c))):=by
 refine cI Tryz.func170 rfl (n:=13) rfl rfl rfl ?_;refine gao ?_;refine oS (sF [_] rfl (qgl c) ?_) rfl;refine gab ?_;refine oB 5 rfl (fun ht=>?_) (fun ht=>?_)
 ·refine gab ?_;exact qaf rfl (zra rfl) (by simp[qbq,qaM,ht])
 ·refine gab ?_;refine oS (sF [_] rfl (qhr c) ?_) rfl;refine gab ?_;refine oB 9 rfl (fun hd=>?_) (fun hd=>?_)
  ·refine gab ?_;exact qaf rfl (zra rfl) (by simp[qbq,qaM,ht,hd])
  ·refine gab ?_;exact qaf rfl (zra rfl) (by simp[qbq,qaM,ht,hd])
theorem qpC (c:UInt8):LCalls (KC B0 w0) 101 [int .u8 c.toNat] [] (Ret (bool (qbt c))):=by
 refine cI Tryz.func101 rfl (n:=13) rfl rfl rfl ?_;refine gaa ?_;refine oB 5 rfl (fun ht=>?_) (fun ht=>?_)
 ·refine gab ?_;exact qaf rfl (zra rfl) (by simp[qbq,qbt,ht])
 ·refine gab ?_;refine oB 9 rfl (fun hd=>?_) (fun hd=>?_)
  ·refine gab ?_;exact qaf rfl (zra rfl) (by simp[qbq,qbt,ht,hd])
  ·refine gab ?_;exact qaf rfl (zra rfl) (by simp[qbq,qbt,ht,hd])
end
end Go.Proofs.YtdakelgkjdaijaaGreatDoor
namespace Go.Proofs
def Tryz.lays156_ren:Go.Shelf.Ren:=⟨fun|156=>16|165=>42|166=>25|169=>27|240=>61|241=>79|276=>119|277=>161|n=>n,fun|31=>24|9=>9|3=>3|4=>4|0=>0|20=>20|72=>70|76=>73|70=>67|37=>68|75=>72|127=>135|164=>190|5=>5|80=>81|n=>n,fun|n=>n⟩
theorem Tryz.lays156:Go.Proofs.Lays.n156 Tryz.prog Tryz.lays156_ren:={
 mixed:=by kernel_rfl
 f156:=Tryz.func16.trans zCs
 f165:=Tryz.func42.trans zCs
 f166:=Tryz.func25.trans zCs
 f169:=Tryz.func27.trans zCs
 f240:=Tryz.func61.trans zCs
 f241:=Tryz.func79.trans zCs
 f276:=Tryz.func119.trans zCs
 f277:=Tryz.func161.trans zCs
 t0:=Tryz.underlying0
 a0:=Tryz.isAgg0
 z0:=Tryz.sizeOf0
 v0:=Tryz.zeroValue0
 t3:=Tryz.underlying3
 a3:=Tryz.isAgg3
 z3:=Tryz.sizeOf3
 v3:=Tryz.zeroValue3
 t4:=Tryz.underlying4
 a4:=Tryz.isAgg4
 z4:=Tryz.sizeOf4
 v4:=Tryz.zeroValue4
 t9:=Tryz.underlying9
 a9:=Tryz.isAgg9
 z9:=Tryz.sizeOf9
 v9:=Tryz.zeroValue9
 t20:=Tryz.underlying20
 a20:=Tryz.isAgg20
 z20:=Tryz.sizeOf20
 v20:=Tryz.zeroValue20
 t31:=Tryz.underlying24
 a31:=Tryz.isAgg24
 z31:=Tryz.sizeOf24
 v31:=Tryz.zeroValue24
 t37:=Tryz.underlying68
 a37:=Tryz.isAgg68
 z37:=Tryz.sizeOf68
 v37:=Tryz.zeroValue68
 t70:=Tryz.underlying67
 a70:=Tryz.isAgg67
 z70:=Tryz.sizeOf67
 v70:=Tryz.zeroValue67
 t72:=Tryz.underlying70
 a72:=Tryz.isAgg70
 z72:=Tryz.sizeOf70
 v72:=Tryz.zeroValue70
 t75:=Tryz.underlying72
 a75:=Tryz.isAgg72
 z75:=Tryz.sizeOf72
 v75:=Tryz.zeroValue72
 t76:=Tryz.underlying73
 a76:=Tryz.isAgg73
 z76:=Tryz.sizeOf73
 v76:=Tryz.zeroValue73
 t127:=Tryz.underlying135
 a127:=Tryz.isAgg135
 z127:=Tryz.sizeOf135
 v127:=Tryz.zeroValue135
 t164:=Tryz.underlying190
 a164:=Tryz.isAgg190
 z164:=Tryz.sizeOf190
 v164:=Tryz.zeroValue190 }
theorem Tryz.Builder_Extra_156:Builder.Extra Tryz.prog Tryz.lays156_ren:={
 sizeBuilder:=by kernel_rfl
 liesBuilder:=by kernel_rfl
 t5:=Tryz.underlying5
 a5:=Tryz.isAgg5
 z5:=Tryz.sizeOf5
 v5:=Tryz.zeroValue5
 infoByte:=by kernel_rfl
 cellsByte:=by kernel_rfl
 sizeByte:=by kernel_rfl
 neB5:=by decide }
open Go.RowKit in
theorem Tryz.strings_Join_none (a:Option Addr) (c:Nat) (sep:ByteArray) (w:World) :
  Calls Tryz.prog 16 #[.slice a 0 c,.string sep] w fun e w'=>e=.returned (.string ⟨#[]⟩)/\w'=w:=Any.strings_Join_none Tryz.lays156 Tryz.Builder_Extra_156 a c sep w
open Go.RowKit in
theorem Tryz.strings_Join (bk o c:Nat) (xs:List ByteArray) (sep:ByteArray) (w:World) (hcells:∀ (j:Nat) x,xs[j]? = some x->w.cell? ⟨bk,o+j,none⟩=some (.string x)) (hbk:bk<w.heap.size) (hN:xs.length<=140737488355328) (hcap:xs.length<=c) (hlen:(Lib.join (xs.map (·.data.toList)) sep.data.toList).length<=140737488355328) :
  Calls Tryz.prog 16 #[.slice (some ⟨bk,o,none⟩) xs.length c,.string sep] w fun e w'=>e=.returned (.string ⟨(Lib.join (xs.map (·.data.toList)) sep.data.toList).toArray⟩)/\Below w.heap.size w w':=Any.strings_Join Tryz.lays156 Tryz.Builder_Extra_156 bk o c xs sep w hcells hbk hN hcap hlen
def Tryz.lays160_ren:Go.Shelf.Ren:=⟨fun|160=>147|232=>186|231=>185|227=>187|234=>189|233=>188|236=>191|235=>190|228=>217|271=>220|151=>219|197=>218|120=>244|152=>243|260=>242|137=>252|119=>253|224=>204|225=>203|217=>202|266=>230|n=>n,fun|9=>9|4=>4|3=>3|5=>5|117=>242|116=>241|0=>0|124=>245|21=>21|105=>257|46=>237|119=>287|139=>290|138=>289|n=>n,fun|3=>6|4=>7|n=>n⟩
theorem Tryz.lays160:Go.Proofs.Lays.n160 Tryz.prog Tryz.lays160_ren:={
 mixed:=by kernel_rfl
 f119:=Tryz.func253.trans zCs
 f120:=Tryz.func244.trans zCs
 f137:=Tryz.func252.trans zCs
 f151:=Tryz.func219.trans zCs
 f152:=Tryz.func243.trans zCs
 f160:=Tryz.func147.trans zCs
 f197:=Tryz.func218.trans zCs
 f217:=Tryz.func202.trans zCs
 f224:=Tryz.func204.trans zCs
 f225:=Tryz.func203.trans zCs
 f227:=Tryz.func187.trans zCs
 f228:=Tryz.func217.trans zCs
 f231:=Tryz.func185.trans zCs
 f232:=Tryz.func186.trans zCs
 f233:=Tryz.func188.trans zCs
 f234:=Tryz.func189.trans zCs
 f235:=Tryz.func190.trans zCs
 f236:=Tryz.func191.trans zCs
 f260:=Tryz.func242.trans zCs
 f266:=Tryz.func230.trans zCs
 f271:=Tryz.func220.trans zCs
 t0:=Tryz.underlying0
 a0:=Tryz.isAgg0
 z0:=Tryz.sizeOf0
 v0:=Tryz.zeroValue0
 t3:=Tryz.underlying3
 a3:=Tryz.isAgg3
 z3:=Tryz.sizeOf3
 v3:=Tryz.zeroValue3
 t4:=Tryz.underlying4
 a4:=Tryz.isAgg4
 z4:=Tryz.sizeOf4
 v4:=Tryz.zeroValue4
 t5:=Tryz.underlying5
 a5:=Tryz.isAgg5
 z5:=Tryz.sizeOf5
 v5:=Tryz.zeroValue5
 t9:=Tryz.underlying9
 a9:=Tryz.isAgg9
 z9:=Tryz.sizeOf9
 v9:=Tryz.zeroValue9
 t21:=Tryz.underlying21
 a21:=Tryz.isAgg21
 z21:=Tryz.sizeOf21
 v21:=Tryz.zeroValue21
 t46:=Tryz.underlying237
 a46:=Tryz.isAgg237
 z46:=Tryz.sizeOf237
 v46:=Tryz.zeroValue237
 t105:=Tryz.underlying257
 a105:=Tryz.isAgg257
 z105:=Tryz.sizeOf257
 v105:=Tryz.zeroValue257
 t116:=Tryz.underlying241
 a116:=Tryz.isAgg241
 z116:=Tryz.sizeOf241
 t117:=Tryz.underlying242
 a117:=Tryz.isAgg242
 z117:=Tryz.sizeOf242
 v117:=Tryz.zeroValue242
 t119:=Tryz.underlying287
 a119:=Tryz.isAgg287
 z119:=Tryz.sizeOf287
 t124:=Tryz.underlying245
 a124:=Tryz.isAgg245
 z124:=Tryz.sizeOf245
 v124:=Tryz.zeroValue245
 t138:=Tryz.underlying289
 a138:=Tryz.isAgg289
 z138:=Tryz.sizeOf289
 v138:=Tryz.zeroValue289
 t139:=Tryz.underlying290
 a139:=Tryz.isAgg290
 z139:=Tryz.sizeOf290
 v139:=Tryz.zeroValue290
 g3:=by kernel_rfl
 g4:=by kernel_rfl }
def Tryz.lays103_ren:Go.Shelf.Ren:=⟨fun|103=>69|210=>146|206=>169|n=>n,fun|9=>9|4=>4|24=>85|3=>3|n=>n,fun|n=>n⟩
theorem Tryz.lays103:Go.Proofs.Lays.n103 Tryz.prog Tryz.lays103_ren:={
 mixed:=by kernel_rfl
 f103:=Tryz.func69.trans zCs
 f206:=Tryz.func169.trans zCs
 f210:=Tryz.func146.trans zCs
 t3:=Tryz.underlying3
 a3:=Tryz.isAgg3
 z3:=Tryz.sizeOf3
 v3:=Tryz.zeroValue3
 t4:=Tryz.underlying4
 a4:=Tryz.isAgg4
 z4:=Tryz.sizeOf4
 v4:=Tryz.zeroValue4
 t9:=Tryz.underlying9
 a9:=Tryz.isAgg9
 z9:=Tryz.sizeOf9
 v9:=Tryz.zeroValue9
 t24:=Tryz.underlying85
 a24:=Tryz.isAgg85
 z24:=Tryz.sizeOf85
 v24:=Tryz.zeroValue85 }
open Go.RowKit in
theorem Tryz.strings_CutPrefix (s p:ByteArray) (w:World) :
  Calls Tryz.prog 69 #[.string s,.string p] w fun e w'=>e=.returned (.tuple #[.string ⟨(Lib.trimPrefix s.data.toList p.data.toList).toArray⟩,.bool (Lib.hasPrefix s.data.toList p.data.toList)])/\w'=w:=Any.strings_CutPrefix Tryz.lays103 s p w
def Tryz.lays104_ren:Go.Shelf.Ren:=⟨fun|104=>150|211=>194|207=>227|n=>n,fun|9=>9|4=>4|24=>85|3=>3|n=>n,fun|n=>n⟩
theorem Tryz.lays104:Go.Proofs.Lays.n104 Tryz.prog Tryz.lays104_ren:={
 mixed:=by kernel_rfl
 f104:=Tryz.func150.trans zCs
 f207:=Tryz.func227.trans zCs
 f211:=Tryz.func194.trans zCs
 t3:=Tryz.underlying3
 a3:=Tryz.isAgg3
 z3:=Tryz.sizeOf3
 v3:=Tryz.zeroValue3
 t4:=Tryz.underlying4
 a4:=Tryz.isAgg4
 z4:=Tryz.sizeOf4
 v4:=Tryz.zeroValue4
 t9:=Tryz.underlying9
 a9:=Tryz.isAgg9
 z9:=Tryz.sizeOf9
 v9:=Tryz.zeroValue9
 t24:=Tryz.underlying85
 a24:=Tryz.isAgg85
 z24:=Tryz.sizeOf85
 v24:=Tryz.zeroValue85 }
open Go.RowKit in
theorem Tryz.strings_CutSuffix (s p:ByteArray) (w:World) (hs:s.size<=9223372036854775807) :
  Calls Tryz.prog 150 #[.string s,.string p] w fun e w'=>e=.returned (.tuple #[.string ⟨(Lib.trimSuffix s.data.toList p.data.toList).toArray⟩,.bool (Lib.hasSuffix s.data.toList p.data.toList)])/\w'=w:=Any.strings_CutSuffix Tryz.lays104 s p w hs
def Tryz.lays283_ren:Go.Shelf.Ren:=⟨fun|283=>142|n=>n,fun|3=>3|9=>9|4=>4|n=>n,fun|n=>n⟩
theorem Tryz.lays283:Go.Proofs.Lays.n283 Tryz.prog Tryz.lays283_ren:={
 mixed:=by kernel_rfl
 f283:=Tryz.func142.trans zCs
 t3:=Tryz.underlying3
 a3:=Tryz.isAgg3
 z3:=Tryz.sizeOf3
 v3:=Tryz.zeroValue3
 t4:=Tryz.underlying4
 a4:=Tryz.isAgg4
 z4:=Tryz.sizeOf4
 v4:=Tryz.zeroValue4
 t9:=Tryz.underlying9
 a9:=Tryz.isAgg9
 z9:=Tryz.sizeOf9
 v9:=Tryz.zeroValue9 }
open Go.Lib in
theorem Tryz.internal_strconv_small (i:Nat) (h:i<100) (w:World) :
  Calls Tryz.prog 142 #[.int .i64 i] w fun e w'=>e=.returned (.string ⟨(Lib.decDigits i).toArray⟩)/\w'=w:=Any.internal_strconv_small Tryz.lays283 i h w
def Tryz.laysM284_ren:Go.Shelf.Ren:=⟨fun|284=>143|129=>181|317=>180|318=>182|n=>n,fun|53=>99|3=>3|212=>234|0=>0|4=>4|46=>237|5=>5|9=>9|n=>n,fun|17=>1|n=>n⟩
theorem Tryz.laysM284:Go.Proofs.LaysM.n284 Tryz.prog Tryz.laysM284_ren:={
 mixed:=by kernel_rfl
 f129:=Tryz.func181.trans zCs
 f284:=Tryz.func143.trans zCs
 f317:=Tryz.func180.trans zCs
 f318:=Tryz.func182.trans zCs
 t0:=Tryz.underlying0
 a0:=Tryz.isAgg0
 z0:=Tryz.sizeOf0
 v0:=Tryz.zeroValue0
 t3:=Tryz.underlying3
 a3:=Tryz.isAgg3
 z3:=Tryz.sizeOf3
 v3:=Tryz.zeroValue3
 t4:=Tryz.underlying4
 a4:=Tryz.isAgg4
 z4:=Tryz.sizeOf4
 v4:=Tryz.zeroValue4
 t5:=Tryz.underlying5
 a5:=Tryz.isAgg5
 z5:=Tryz.sizeOf5
 v5:=Tryz.zeroValue5
 t9:=Tryz.underlying9
 a9:=Tryz.isAgg9
 z9:=Tryz.sizeOf9
 v9:=Tryz.zeroValue9
 t46:=Tryz.underlying237
 a46:=Tryz.isAgg237
 z46:=Tryz.sizeOf237
 v46:=Tryz.zeroValue237
 t53:=Tryz.underlying99
 a53:=Tryz.isAgg99
 z53:=Tryz.sizeOf99
 v53:=Tryz.zeroValue99
 t212:=Tryz.underlying234
 a212:=Tryz.isAgg234
 z212:=Tryz.sizeOf234
 v212:=Tryz.zeroValue234
 g17:=by kernel_rfl
 i0:=by kernel_rfl
 i3:=by kernel_rfl
 i4:=by kernel_rfl
 i5:=by kernel_rfl
 i9:=by kernel_rfl
 i46:=by kernel_rfl
 i53:=by kernel_rfl
 i212:=by kernel_rfl
 m17:=by kernel_rfl }
open Go.Lib in
theorem Tryz.internal_strconv_numDigits (u : Nat) (h1 : 1 ≤ u) (h2 : u < 18446744073709551616) (w : World) (htab : Lib.TabIs Tryz.prog w "internal/strconv.uint64pow10" .u64 Lib.pow10Tab) :
  Calls Tryz.prog 143 #[.int .u64 u] w fun e w'=>e=.returned (.int .i64 (Lib.nDigits u))/\w'=w:=Any.internal_strconv_numDigits Tryz.laysM284 u h1 h2 w htab
def Tryz.lays285_ren:Go.Shelf.Ren:=⟨fun|285=>144|n=>n,fun|37=>68|53=>99|3=>3|4=>4|51=>56|9=>9|5=>5|0=>0|n=>n,fun|n=>n⟩
theorem Tryz.lays285:Go.Proofs.Lays.n285 Tryz.prog Tryz.lays285_ren:={
 mixed:=by kernel_rfl
 f285:=Tryz.func144.trans zCs
 t0:=Tryz.underlying0
 a0:=Tryz.isAgg0
 z0:=Tryz.sizeOf0
 v0:=Tryz.zeroValue0
 t3:=Tryz.underlying3
 a3:=Tryz.isAgg3
 z3:=Tryz.sizeOf3
 v3:=Tryz.zeroValue3
 t4:=Tryz.underlying4
 a4:=Tryz.isAgg4
 z4:=Tryz.sizeOf4
 v4:=Tryz.zeroValue4
 t5:=Tryz.underlying5
 a5:=Tryz.isAgg5
 z5:=Tryz.sizeOf5
 v5:=Tryz.zeroValue5
 t9:=Tryz.underlying9
 a9:=Tryz.isAgg9
 z9:=Tryz.sizeOf9
 v9:=Tryz.zeroValue9
 t37:=Tryz.underlying68
 a37:=Tryz.isAgg68
 z37:=Tryz.sizeOf68
 v37:=Tryz.zeroValue68
 t51:=Tryz.underlying56
 a51:=Tryz.isAgg56
 z51:=Tryz.sizeOf56
 v51:=Tryz.zeroValue56
 t53:=Tryz.underlying99
 a53:=Tryz.isAgg99
 z53:=Tryz.sizeOf99
 v53:=Tryz.zeroValue99 }
open Go.RowKit Go.Sort Go.Lib in
theorem Tryz.internal_strconv_formatBase10 (blk off cap:Nat) (u:Nat) (d:Array UInt8) (w:World) (hH:Holds (fun (b:UInt8)=>Value.int .u8 (b.toNat:Int)) w blk off d) (hu:u<10 ^ d.size) (hu64:u<18446744073709551616) (hsz:d.size<4611686018427387904) :
  Calls Tryz.prog 144 #[.slice (some ⟨blk,off,none⟩) d.size cap,.int .u64 u] w fun e w'=>
   e=.returned (.tuple #[])/\∃ (n v':Nat) (dk:Array UInt8),w'=(putRow (fun (b:UInt8)=>Value.int .u8 (b.toNat:Int)) w blk off dk).drewN n/\FmtInv d.size u 0 v' dk:=Any.internal_strconv_formatBase10 Tryz.lays285 blk off cap u d w hH hu hu64 hsz
def Tryz.laysM171_ren:Go.Shelf.Ren:=⟨fun|171=>13|243=>30|246=>68|283=>142|284=>143|285=>144|286=>145|129=>181|317=>180|318=>182|319=>183|320=>184|337=>215|338=>216|n=>n,fun|3=>3|9=>9|2=>2|4=>4|171=>206|0=>0|53=>99|37=>68|5=>5|173=>209|212=>234|51=>56|20=>20|213=>235|46=>237|232=>277|233=>278|n=>n,fun|17=>1|18=>2|19=>3|n=>n⟩
theorem Tryz.laysM171:Go.Proofs.LaysM.n171 Tryz.prog Tryz.laysM171_ren:={
 mixed:=by kernel_rfl
 f129:=Tryz.func181.trans zCs
 f171:=Tryz.func13.trans zCs
 f243:=Tryz.func30.trans zCs
 f246:=Tryz.func68.trans zCs
 f283:=Tryz.func142.trans zCs
 f284:=Tryz.func143.trans zCs
 f285:=Tryz.func144.trans zCs
 f286:=Tryz.func145.trans zCs
 f317:=Tryz.func180.trans zCs
 f318:=Tryz.func182.trans zCs
 f319:=Tryz.func183.trans zCs
 f320:=Tryz.func184.trans zCs
 f337:=Tryz.func215.trans zCs
 f338:=Tryz.func216.trans zCs
 t0:=Tryz.underlying0
 a0:=Tryz.isAgg0
 z0:=Tryz.sizeOf0
 v0:=Tryz.zeroValue0
 t2:=Tryz.underlying2
 a2:=Tryz.isAgg2
 z2:=Tryz.sizeOf2
 v2:=Tryz.zeroValue2
 t3:=Tryz.underlying3
 a3:=Tryz.isAgg3
 z3:=Tryz.sizeOf3
 v3:=Tryz.zeroValue3
 t4:=Tryz.underlying4
 a4:=Tryz.isAgg4
 z4:=Tryz.sizeOf4
 v4:=Tryz.zeroValue4
 t5:=Tryz.underlying5
 a5:=Tryz.isAgg5
 z5:=Tryz.sizeOf5
 v5:=Tryz.zeroValue5
 t9:=Tryz.underlying9
 a9:=Tryz.isAgg9
 z9:=Tryz.sizeOf9
 v9:=Tryz.zeroValue9
 t20:=Tryz.underlying20
 a20:=Tryz.isAgg20
 z20:=Tryz.sizeOf20
 v20:=Tryz.zeroValue20
 t37:=Tryz.underlying68
 a37:=Tryz.isAgg68
 z37:=Tryz.sizeOf68
 v37:=Tryz.zeroValue68
 t46:=Tryz.underlying237
 a46:=Tryz.isAgg237
 z46:=Tryz.sizeOf237
 v46:=Tryz.zeroValue237
 t51:=Tryz.underlying56
 a51:=Tryz.isAgg56
 z51:=Tryz.sizeOf56
 v51:=Tryz.zeroValue56
 t53:=Tryz.underlying99
 a53:=Tryz.isAgg99
 z53:=Tryz.sizeOf99
 v53:=Tryz.zeroValue99
 t171:=Tryz.underlying206
 a171:=Tryz.isAgg206
 z171:=Tryz.sizeOf206
 v171:=Tryz.zeroValue206
 t173:=Tryz.underlying209
 a173:=Tryz.isAgg209
 z173:=Tryz.sizeOf209
 v173:=Tryz.zeroValue209
 t212:=Tryz.underlying234
 a212:=Tryz.isAgg234
 z212:=Tryz.sizeOf234
 v212:=Tryz.zeroValue234
 t213:=Tryz.underlying235
 a213:=Tryz.isAgg235
 z213:=Tryz.sizeOf235
 t232:=Tryz.underlying277
 a232:=Tryz.isAgg277
 z232:=Tryz.sizeOf277
 v232:=Tryz.zeroValue277
 t233:=Tryz.underlying278
 a233:=Tryz.isAgg278
 z233:=Tryz.sizeOf278
 v233:=Tryz.zeroValue278
 g17:=by kernel_rfl
 g18:=by kernel_rfl
 g19:=by kernel_rfl
 i0:=by kernel_rfl
 i2:=by kernel_rfl
 i3:=by kernel_rfl
 i4:=by kernel_rfl
 i5:=by kernel_rfl
 i9:=by kernel_rfl
 i20:=by kernel_rfl
 i37:=by kernel_rfl
 i46:=by kernel_rfl
 i51:=by kernel_rfl
 i53:=by kernel_rfl
 i171:=by kernel_rfl
 i173:=by kernel_rfl
 i212:=by kernel_rfl
 i232:=by kernel_rfl
 i233:=by kernel_rfl
 m17:=by kernel_rfl
 m18:=by kernel_rfl
 m19:=by kernel_rfl }
open Go.RowKit Go.Sort Go.Lib in
theorem Tryz.strconv_Itoa (n : Int) (h0 : -9223372036854775808 ≤ n) (h1 : n ≤ 9223372036854775807) (w : World) (htab : Lib.TabIs Tryz.prog w "internal/strconv.uint64pow10" .u64 Lib.pow10Tab) :
  Calls Tryz.prog 13 #[.int .i64 n] w fun e w'=>e=.returned (.string ⟨(Lib.itoa n).toArray⟩)/\∃ k os,w'=grow (w.drewN k) os:=Any.strconv_Itoa Tryz.laysM171 n h0 h1 w htab
def Tryz.laysPu14_ren:Go.Shelf.Ren:=⟨fun|14=>149|16=>192|17=>193|19=>221|20=>222|21=>223|22=>224|23=>225|24=>226|25=>245|27=>13|26=>246|28=>30|29=>68|30=>142|31=>143|32=>144|33=>145|35=>181|34=>180|36=>182|37=>183|38=>184|39=>215|40=>216|n=>n,fun|9=>9|3=>3|22=>99|24=>72|25=>213|4=>4|34=>260|5=>5|36=>237|37=>68|0=>0|39=>262|21=>21|44=>281|47=>135|50=>294|48=>292|2=>2|52=>206|55=>209|59=>234|60=>56|20=>20|61=>235|65=>277|66=>278|67=>81|n=>n,fun|0=>4|1=>5|2=>1|3=>2|4=>3|n=>n⟩
theorem Tryz.laysPu14:Go.Proofs.LaysPu.n14 Tryz.prog Tryz.laysPu14_ren:={
 mixed:=by kernel_rfl
 f14:=Tryz.func149.trans zCs
 f16:=Tryz.func192.trans zCs
 f17:=Tryz.func193.trans zCs
 f19:=Tryz.func221.trans zCs
 f20:=Tryz.func222.trans zCs
 f21:=Tryz.func223.trans zCs
 f22:=Tryz.func224.trans zCs
 f23:=Tryz.func225.trans zCs
 f24:=Tryz.func226.trans zCs
 f25:=Tryz.func245.trans zCs
 f26:=Tryz.func246.trans zCs
 f27:=Tryz.func13.trans zCs
 f28:=Tryz.func30.trans zCs
 f29:=Tryz.func68.trans zCs
 f30:=Tryz.func142.trans zCs
 f31:=Tryz.func143.trans zCs
 f32:=Tryz.func144.trans zCs
 f33:=Tryz.func145.trans zCs
 f34:=Tryz.func180.trans zCs
 f35:=Tryz.func181.trans zCs
 f36:=Tryz.func182.trans zCs
 f37:=Tryz.func183.trans zCs
 f38:=Tryz.func184.trans zCs
 f39:=Tryz.func215.trans zCs
 f40:=Tryz.func216.trans zCs
 t0:=Tryz.underlying0
 a0:=Tryz.isAgg0
 z0:=Tryz.sizeOf0
 v0:=Tryz.zeroValue0
 i0:=by kernel_rfl
 t2:=Tryz.underlying2
 a2:=Tryz.isAgg2
 z2:=Tryz.sizeOf2
 v2:=Tryz.zeroValue2
 i2:=by kernel_rfl
 t3:=Tryz.underlying3
 a3:=Tryz.isAgg3
 z3:=Tryz.sizeOf3
 v3:=Tryz.zeroValue3
 i3:=by kernel_rfl
 t4:=Tryz.underlying4
 a4:=Tryz.isAgg4
 z4:=Tryz.sizeOf4
 v4:=Tryz.zeroValue4
 i4:=by kernel_rfl
 t5:=Tryz.underlying5
 a5:=Tryz.isAgg5
 z5:=Tryz.sizeOf5
 v5:=Tryz.zeroValue5
 i5:=by kernel_rfl
 t9:=Tryz.underlying9
 a9:=Tryz.isAgg9
 z9:=Tryz.sizeOf9
 v9:=Tryz.zeroValue9
 i9:=by kernel_rfl
 t20:=Tryz.underlying20
 a20:=Tryz.isAgg20
 z20:=Tryz.sizeOf20
 v20:=Tryz.zeroValue20
 i20:=by kernel_rfl
 t21:=Tryz.underlying21
 a21:=Tryz.isAgg21
 z21:=Tryz.sizeOf21
 v21:=Tryz.zeroValue21
 i21:=by kernel_rfl
 t22:=Tryz.underlying99
 a22:=Tryz.isAgg99
 z22:=Tryz.sizeOf99
 v22:=Tryz.zeroValue99
 i22:=by kernel_rfl
 t24:=Tryz.underlying72
 a24:=Tryz.isAgg72
 z24:=Tryz.sizeOf72
 v24:=Tryz.zeroValue72
 i24:=by kernel_rfl
 t25:=Tryz.underlying213
 a25:=Tryz.isAgg213
 z25:=Tryz.sizeOf213
 v25:=Tryz.zeroValue213
 i25:=by kernel_rfl
 t34:=Tryz.underlying260
 a34:=Tryz.isAgg260
 z34:=Tryz.sizeOf260
 v34:=Tryz.zeroValue260
 i34:=by kernel_rfl
 c34:=by kernel_rfl
 t36:=Tryz.underlying237
 a36:=Tryz.isAgg237
 z36:=Tryz.sizeOf237
 v36:=Tryz.zeroValue237
 i36:=by kernel_rfl
 t37:=Tryz.underlying68
 a37:=Tryz.isAgg68
 z37:=Tryz.sizeOf68
 v37:=Tryz.zeroValue68
 i37:=by kernel_rfl
 t39:=Tryz.underlying262
 a39:=Tryz.isAgg262
 z39:=Tryz.sizeOf262
 v39:=Tryz.zeroValue262
 i39:=by kernel_rfl
 t44:=Tryz.underlying281
 a44:=Tryz.isAgg281
 z44:=Tryz.sizeOf281
 v44:=Tryz.zeroValue281
 i44:=by kernel_rfl
 t47:=Tryz.underlying135
 a47:=Tryz.isAgg135
 z47:=Tryz.sizeOf135
 v47:=Tryz.zeroValue135
 i47:=by kernel_rfl
 t48:=Tryz.underlying292
 a48:=Tryz.isAgg292
 z48:=Tryz.sizeOf292
 v48:=Tryz.zeroValue292
 i48:=by kernel_rfl
 t50:=Tryz.underlying294
 a50:=Tryz.isAgg294
 z50:=Tryz.sizeOf294
 v50:=Tryz.zeroValue294
 i50:=by kernel_rfl
 t52:=Tryz.underlying206
 a52:=Tryz.isAgg206
 z52:=Tryz.sizeOf206
 v52:=Tryz.zeroValue206
 i52:=by kernel_rfl
 t55:=Tryz.underlying209
 a55:=Tryz.isAgg209
 z55:=Tryz.sizeOf209
 v55:=Tryz.zeroValue209
 i55:=by kernel_rfl
 t59:=Tryz.underlying234
 a59:=Tryz.isAgg234
 z59:=Tryz.sizeOf234
 v59:=Tryz.zeroValue234
 i59:=by kernel_rfl
 t60:=Tryz.underlying56
 a60:=Tryz.isAgg56
 z60:=Tryz.sizeOf56
 v60:=Tryz.zeroValue56
 i60:=by kernel_rfl
 t61:=Tryz.underlying235
 a61:=Tryz.isAgg235
 z61:=Tryz.sizeOf235
 t65:=Tryz.underlying277
 a65:=Tryz.isAgg277
 z65:=Tryz.sizeOf277
 v65:=Tryz.zeroValue277
 i65:=by kernel_rfl
 t66:=Tryz.underlying278
 a66:=Tryz.isAgg278
 z66:=Tryz.sizeOf278
 v66:=Tryz.zeroValue278
 i66:=by kernel_rfl
 t67:=Tryz.underlying81
 a67:=Tryz.isAgg81
 z67:=Tryz.sizeOf81
 v67:=Tryz.zeroValue81
 i67:=by kernel_rfl
 g0:=by kernel_rfl
 m0:=by kernel_rfl
 g1:=by kernel_rfl
 m1:=by kernel_rfl
 g2:=by kernel_rfl
 m2:=by kernel_rfl
 g3:=by kernel_rfl
 m3:=by kernel_rfl
 g4:=by kernel_rfl
 m4:=by kernel_rfl }
open Go.RowKit in
theorem Tryz.strconv_ParseUint_10_at32_ok (s:ByteArray) (hmax:s.size<=9223372036854775806) (u:Nat) (h:Lib.parseUintB 32 s.data.toList=.ok u) (w:World) :
  Calls Tryz.prog 149 #[.string s,.int .i64 10,.int .i64 32] w fun e w'=>e=.returned (.tuple #[.int .u64 u,.nilIface])/\(w'=w∨w'=Lib.bytesWorld w 5 s):=Any.strconv_ParseUint_10_at32_ok Tryz.laysPu14 s hmax u h w
open Go.RowKit in
theorem Tryz.strconv_ParseUint_10_at32_syntax_var (s : ByteArray) (hlim : s.size ≤ 281474976710656) (h : (∀ u, Lib.parseUintB 32 s.data.toList ≠ .ok u) ∧ Lib.parseUintB 32 s.data.toList ≠ .range) (tp : TypeId) (p : Value) (w : World) (hvar : w.var? Tryz.prog "strconv.ErrSyntax" = some #[.iface tp p]) :
  Calls Tryz.prog 149 #[.string s,.int .i64 10,.int .i64 32] w fun e w'=>∃ N,e=.returned (.tuple #[.int .u64 0,.iface 262 (.pointer (some ⟨N,0,none⟩))])/\w.heap.size<=N/\w'.heap[N]? = some (.cells #[.string ⟨#[80,97,114,115,101,85,105,110,116]⟩,.string s,.iface tp p] 281 (0,0))/\Below w.heap.size w w':=by
 refine Any.strconv_ParseUint_10_at32_syntax_var Tryz.laysPu14 s hlim ?_ tp p w hvar
 cases hq:Lib.parseUintB 32 s.data.toList with
 |ok u=>exact absurd hq (h.1 u)
 |range=>exact absurd hq h.2
 |_=>rfl
open Go.RowKit in
theorem Tryz.strconv_ParseUint_10_at32_range_var (s : ByteArray) (hlim : s.size ≤ 281474976710656) (h : Lib.parseUintB 32 s.data.toList = .range) (tp : TypeId) (p : Value) (w : World) (hvar : w.var? Tryz.prog "strconv.ErrRange" = some #[.iface tp p]) :
  Calls Tryz.prog 149 #[.string s,.int .i64 10,.int .i64 32] w fun e w'=>∃ N,e=.returned (.tuple #[.int .u64 4294967295,.iface 262 (.pointer (some ⟨N,0,none⟩))])/\w.heap.size<=N/\w'.heap[N]? = some (.cells #[.string ⟨#[80,97,114,115,101,85,105,110,116]⟩,.string s,.iface tp p] 281 (0,0))/\Below w.heap.size w w':=Any.strconv_ParseUint_10_at32_range_var Tryz.laysPu14 s hlim h tp p w hvar
def Tryz.lays145_ren:Go.Shelf.Ren:=⟨fun|145=>90|220=>167|219=>172|217=>202|225=>203|224=>204|267=>205|266=>230|314=>231|n=>n,fun|9=>9|4=>4|59=>177|3=>3|5=>5|46=>237|146=>266|51=>56|n=>n,fun|1=>0|n=>n⟩
theorem Tryz.lays145:Go.Proofs.Lays.n145 Tryz.prog Tryz.lays145_ren:={
 mixed:=by kernel_rfl
 f145:=Tryz.func90.trans zCs
 f217:=Tryz.func202.trans zCs
 f219:=Tryz.func172.trans zCs
 f220:=Tryz.func167.trans zCs
 f224:=Tryz.func204.trans zCs
 f225:=Tryz.func203.trans zCs
 f266:=Tryz.func230.trans zCs
 f267:=Tryz.func205.trans zCs
 f314:=Tryz.func231.trans zCs
 t3:=Tryz.underlying3
 a3:=Tryz.isAgg3
 z3:=Tryz.sizeOf3
 v3:=Tryz.zeroValue3
 t4:=Tryz.underlying4
 a4:=Tryz.isAgg4
 z4:=Tryz.sizeOf4
 v4:=Tryz.zeroValue4
 t5:=Tryz.underlying5
 a5:=Tryz.isAgg5
 z5:=Tryz.sizeOf5
 v5:=Tryz.zeroValue5
 t9:=Tryz.underlying9
 a9:=Tryz.isAgg9
 z9:=Tryz.sizeOf9
 v9:=Tryz.zeroValue9
 t46:=Tryz.underlying237
 a46:=Tryz.isAgg237
 z46:=Tryz.sizeOf237
 v46:=Tryz.zeroValue237
 t51:=Tryz.underlying56
 a51:=Tryz.isAgg56
 z51:=Tryz.sizeOf56
 v51:=Tryz.zeroValue56
 t59:=Tryz.underlying177
 a59:=Tryz.isAgg177
 z59:=Tryz.sizeOf177
 v59:=Tryz.zeroValue177
 t146:=Tryz.underlying266
 a146:=Tryz.isAgg266
 z146:=Tryz.sizeOf266
 v146:=Tryz.zeroValue266
 g1:=by kernel_rfl }
open Go.RowKit Go.Lib in
theorem Tryz.strings_Cut (s sep:ByteArray) (m:Int) (w:World) (hs:s.size<4294967281) (hm:w.cell? ⟨0,0,none⟩=some (.int .i64 m)) :
  Calls Tryz.prog 90 #[.string s,.string sep] w fun e w'=>e=.returned (.tuple #[.string ⟨(Lib.cut s.data.toList sep.data.toList).1.toArray⟩,.string ⟨(Lib.cut s.data.toList sep.data.toList).2.1.toArray⟩,.bool (Lib.cut s.data.toList sep.data.toList).2.2])/\∃ n,w'=w.drewN n:=Any.strings_Cut Tryz.lays145 s sep m w hs hm
def Tryz.lays138_ren:Go.Shelf.Ren:=⟨fun|138=>54|195=>108|218=>109|143=>110|219=>172|217=>202|225=>203|224=>204|267=>205|266=>230|314=>231|n=>n,fun|9=>9|3=>3|4=>4|5=>5|0=>0|46=>237|146=>266|51=>56|n=>n,fun|1=>0|n=>n⟩
theorem Tryz.lays138:Go.Proofs.Lays.n138 Tryz.prog Tryz.lays138_ren:={
 mixed:=by kernel_rfl
 f138:=Tryz.func54.trans zCs
 f143:=Tryz.func110.trans zCs
 f195:=Tryz.func108.trans zCs
 f217:=Tryz.func202.trans zCs
 f218:=Tryz.func109.trans zCs
 f219:=Tryz.func172.trans zCs
 f224:=Tryz.func204.trans zCs
 f225:=Tryz.func203.trans zCs
 f266:=Tryz.func230.trans zCs
 f267:=Tryz.func205.trans zCs
 f314:=Tryz.func231.trans zCs
 t0:=Tryz.underlying0
 a0:=Tryz.isAgg0
 z0:=Tryz.sizeOf0
 v0:=Tryz.zeroValue0
 t3:=Tryz.underlying3
 a3:=Tryz.isAgg3
 z3:=Tryz.sizeOf3
 v3:=Tryz.zeroValue3
 t4:=Tryz.underlying4
 a4:=Tryz.isAgg4
 z4:=Tryz.sizeOf4
 v4:=Tryz.zeroValue4
 t5:=Tryz.underlying5
 a5:=Tryz.isAgg5
 z5:=Tryz.sizeOf5
 v5:=Tryz.zeroValue5
 t9:=Tryz.underlying9
 a9:=Tryz.isAgg9
 z9:=Tryz.sizeOf9
 v9:=Tryz.zeroValue9
 t46:=Tryz.underlying237
 a46:=Tryz.isAgg237
 z46:=Tryz.sizeOf237
 v46:=Tryz.zeroValue237
 t51:=Tryz.underlying56
 a51:=Tryz.isAgg56
 z51:=Tryz.sizeOf56
 v51:=Tryz.zeroValue56
 t146:=Tryz.underlying266
 a146:=Tryz.isAgg266
 z146:=Tryz.sizeOf266
 v146:=Tryz.zeroValue266
 g1:=by kernel_rfl }
open Go.RowKit Go.Lib in
theorem Tryz.strings_Count_one (s:ByteArray) (c:UInt8) (w:World) :
  Calls Tryz.prog 54 #[.string s,.string ⟨#[c]⟩] w fun e w'=>e=.returned (.int .i64 (Lib.countByte s.data.toList c))/\w'=w:=Any.strings_Count_one Tryz.lays138 s c w
def Tryz.lays99_ren:Go.Shelf.Ren:=⟨fun|99=>98|206=>169|n=>n,fun|9=>9|4=>4|3=>3|n=>n,fun|n=>n⟩
theorem Tryz.lays99:Go.Proofs.Lays.n99 Tryz.prog Tryz.lays99_ren:={
 mixed:=by kernel_rfl
 f99:=Tryz.func98.trans zCs
 f206:=Tryz.func169.trans zCs
 t3:=Tryz.underlying3
 a3:=Tryz.isAgg3
 z3:=Tryz.sizeOf3
 v3:=Tryz.zeroValue3
 t4:=Tryz.underlying4
 a4:=Tryz.isAgg4
 z4:=Tryz.sizeOf4
 v4:=Tryz.zeroValue4
 t9:=Tryz.underlying9
 a9:=Tryz.isAgg9
 z9:=Tryz.sizeOf9
 v9:=Tryz.zeroValue9 }
open Go.RowKit Go.Lib in
theorem Tryz.strings_HasPrefix (s p:ByteArray) (w:World) :
  Calls Tryz.prog 98 #[.string s,.string p] w fun e w'=>e=.returned (.bool (Lib.hasPrefix s.data.toList p.data.toList))/\w'=w:=Any.strings_HasPrefix Tryz.lays99 s p w
def Tryz.lays146_ren:Go.Shelf.Ren:=⟨fun|146=>89|221=>166|268=>201|138=>54|143=>110|195=>108|197=>218|218=>109|219=>172|260=>242|217=>202|225=>203|224=>204|267=>205|266=>230|314=>231|n=>n,fun|9=>9|31=>24|3=>3|4=>4|0=>0|105=>257|21=>21|5=>5|46=>237|119=>287|139=>290|138=>289|146=>266|51=>56|n=>n,fun|1=>0|3=>6|4=>7|n=>n⟩
theorem Tryz.lays146:Go.Proofs.Lays.n146 Tryz.prog Tryz.lays146_ren:={
 mixed:=by kernel_rfl
 f138:=Tryz.func54.trans zCs
 f143:=Tryz.func110.trans zCs
 f146:=Tryz.func89.trans zCs
 f195:=Tryz.func108.trans zCs
 f197:=Tryz.func218.trans zCs
 f217:=Tryz.func202.trans zCs
 f218:=Tryz.func109.trans zCs
 f219:=Tryz.func172.trans zCs
 f221:=Tryz.func166.trans zCs
 f224:=Tryz.func204.trans zCs
 f225:=Tryz.func203.trans zCs
 f260:=Tryz.func242.trans zCs
 f266:=Tryz.func230.trans zCs
 f267:=Tryz.func205.trans zCs
 f268:=Tryz.func201.trans zCs
 f314:=Tryz.func231.trans zCs
 t0:=Tryz.underlying0
 a0:=Tryz.isAgg0
 z0:=Tryz.sizeOf0
 v0:=Tryz.zeroValue0
 t3:=Tryz.underlying3
 a3:=Tryz.isAgg3
 z3:=Tryz.sizeOf3
 v3:=Tryz.zeroValue3
 t4:=Tryz.underlying4
 a4:=Tryz.isAgg4
 z4:=Tryz.sizeOf4
 v4:=Tryz.zeroValue4
 t5:=Tryz.underlying5
 a5:=Tryz.isAgg5
 z5:=Tryz.sizeOf5
 v5:=Tryz.zeroValue5
 t9:=Tryz.underlying9
 a9:=Tryz.isAgg9
 z9:=Tryz.sizeOf9
 v9:=Tryz.zeroValue9
 t21:=Tryz.underlying21
 a21:=Tryz.isAgg21
 z21:=Tryz.sizeOf21
 v21:=Tryz.zeroValue21
 t31:=Tryz.underlying24
 a31:=Tryz.isAgg24
 z31:=Tryz.sizeOf24
 v31:=Tryz.zeroValue24
 t46:=Tryz.underlying237
 a46:=Tryz.isAgg237
 z46:=Tryz.sizeOf237
 v46:=Tryz.zeroValue237
 t51:=Tryz.underlying56
 a51:=Tryz.isAgg56
 z51:=Tryz.sizeOf56
 v51:=Tryz.zeroValue56
 t105:=Tryz.underlying257
 a105:=Tryz.isAgg257
 z105:=Tryz.sizeOf257
 v105:=Tryz.zeroValue257
 t119:=Tryz.underlying287
 a119:=Tryz.isAgg287
 z119:=Tryz.sizeOf287
 t138:=Tryz.underlying289
 a138:=Tryz.isAgg289
 z138:=Tryz.sizeOf289
 v138:=Tryz.zeroValue289
 t139:=Tryz.underlying290
 a139:=Tryz.isAgg290
 z139:=Tryz.sizeOf290
 v139:=Tryz.zeroValue290
 t146:=Tryz.underlying266
 a146:=Tryz.isAgg266
 z146:=Tryz.sizeOf266
 v146:=Tryz.zeroValue266
 g1:=by kernel_rfl
 g3:=by kernel_rfl
 g4:=by kernel_rfl }
open Go.RowKit Go.Lib in
theorem Tryz.strings_Split (s sep:ByteArray) (m:Int) (w:World) (hs:s.size<4294967281) (hm:w.cell? ⟨0,0,none⟩=some (.int .i64 m)) (h1:1<=sep.size) :
  Calls Tryz.prog 89 #[.string s,.string sep] w fun e w'=>
   e=.returned (.slice (some ⟨w.heap.size,0,none⟩) (Lib.countB s sep+1) (Lib.countB s sep+1))/\w'=w.alloc (.cells ((Lib.splitB sep 0 (Lib.countB s sep) s).map Value.string).toArray 9):=Any.strings_Split Tryz.lays146 (by kernel_rfl) s sep m w hs hm h1
end Go.Proofs
namespace Go.Proofs.YtdakelgkjdaijaaGreatDoor
open Go.GL Go.RowKit Go.Stele
attribute [local irreducible] LOps qae qad LCalls Go.GL.Pure qax qaj qac
section
variable {B0:Nat} {w0:World}
theorem qec {f:FuncId} [TEnter Tryz.prog f] (p:UInt8->Bool) (hp:∀ c:UInt8,LCalls (KC B0 w0) f [int .u8 c.toNat] [] (Ret (bool (p c)))) (s:List UInt8) (hs:s.length<=1000000000) :
  LCalls (KC B0 w0) 99 [str s,.atom (.func (.func f) #[] #[])] [] (Ret (str (s.takeWhile p))):=by
 refine cI Tryz.func99 rfl (n:=22) rfl rfl rfl ?_;refine gaa ?_
 refine oL (fun k l H=>∃ m:Nat,k=s.length-m/\l=[(0,str s),(1,.atom (.func (.func f) #[] #[])),(5,int .i64 m)]/\H=[]/\m<=s.length/\s.takeWhile p=s.take m++(s.drop m).takeWhile p)
  ⟨_,_,_,⟨0,rfl,rfl,rfl,by omega,by simp⟩,⟨rfl,rfl,rfl,trivial⟩,zhR _⟩ ?_
 rintro k l H ⟨m,rfl,rfl,rfl,hm,hI⟩ j hj;refine gac ?_;refine oB 10 rfl (fun ht=>?_) (fun ht=>?_)
 ·have hlt:m<s.length:=by simpa using ht
  refine gab ?_;refine oP (pI (c:=s[m]) rfl rfl zo (by simp)) rfl ?_;refine LOps.want rfl rfl ?_;refine oS (S.fnV [_] rfl rfl (hp s[m]) ?_) rfl;refine gab ?_;refine oC rfl (fun hc=>?_) (fun hc=>?_)
  ·refine gaa ?_;exact ⟨_,_,_,by omega,⟨m+1,rfl,rfl,rfl,by omega,(qf8 hlt hI).1 (by simpa using hc)⟩,⟨rfl,rfl,qak zo,trivial⟩,zhR _,hj⟩
  ·refine gaa ?_;refine oP (Pure.sslice (i:=0) (j:=m) rfl rfl ⟨_,rfl⟩ zo zo zo) rfl ?_;refine gaf ?_
   exact qaf hj (zra rfl) (by
    rw[(qf8 hlt hI).2 (by simpa using hc)]
    simp[qbq])
 ·have hge:s.length<=m:=by simpa using ht
  refine gab ?_;refine oC rfl (fun hc=>?_) (fun hc=>?_)
  ·cases hc
  ·refine gaa ?_;refine oP (Pure.sslice (i:=0) (j:=m) rfl rfl ⟨_,rfl⟩ zo zo zo) rfl ?_;refine gaf ?_
   exact qaf hj (zra rfl) (by
    rw[qkA hge hI]
    simp[qbq])
theorem qga (s p:List UInt8):LCalls (KC B0 w0) 98 [str s,str p] [] (Ret (bool (p.isPrefixOf s))):=
 LCalls.ret_of (vs:=[.string ⟨s.toArray⟩,.string ⟨p.toArray⟩]) fun w _=>(Go.Proofs.Tryz.strings_HasPrefix _ _ w).mono fun e w' he=>by
  obtain ⟨h1,h2⟩:=he;subst h2;exact ⟨by simpa [Go.Lib.hasPrefix] using h1,Below.refl _ _⟩
theorem qra (s:List UInt8) (hs:s.length<=1000000000):LCalls (KC B0 w0) 52 [str s] [] (Ret (int .i64 (qaY s))):=by
 refine cI Tryz.func52 rfl (n:=11) rfl rfl rfl ?_;refine gao ?_;refine oS (sF [_,_] rfl (qga s [47,47]) ?_) rfl;refine gaf ?_;refine oC rfl (fun hc=>?_) (fun hc=>?_)
 ·refine gag ?_;refine oS (sF [_,_] rfl (qec qvO qpR s hs) ?_) rfl;refine gad ?_;exact qaf rfl (zra rfl) (by simp only[qbq,qaY,hc,if_true])
 ·refine gaa ?_;refine oS (sF [_,_] rfl (qec qbt qpC s hs) ?_) rfl;refine gad ?_;exact qaf rfl (zra rfl) (by simp only[qbq,qaY,hc,Bool.false_eq_true,if_false])
end
end Go.Proofs.YtdakelgkjdaijaaGreatDoor
namespace Go.Proofs.YtdakelgkjdaijaaGreatDoor
open Go Go.Shelf Go.RowKit Go.Sort Go.Lib
set_option maxHeartbeats 6400000
theorem qi0 (u : Nat) (hu64 : u < 18446744073709551616) (w : World) (htab : Lib.TabIs Tryz.prog w "internal/strconv.uint64pow10" .u64 Lib.pow10Tab) :
  Calls Tryz.prog 80 #[.int .u64 u,.int .i64 10] w fun e w'=>e=.returned (.string ⟨(Lib.decDigits u).toArray⟩)/\Below w.heap.size w w':=by
 have mixed:Tryz.prog.follows .mixedOrders=true:=by kernel_rfl
 have t3:=Tryz.underlying3;have a3:=Tryz.isAgg3;have z3:=Tryz.sizeOf3;have v3:=Tryz.zeroValue3;have t9:=Tryz.underlying9;have a9:=Tryz.isAgg9;have z9:=Tryz.sizeOf9;have v9:=Tryz.zeroValue9;have t4:=Tryz.underlying4;have a4:=Tryz.isAgg4;have z4:=Tryz.sizeOf4;have v4:=Tryz.zeroValue4;have t142:=Tryz.underlying206;have a142:=Tryz.isAgg206;have z142:=Tryz.sizeOf206;have v142:=Tryz.zeroValue206;have t0:=Tryz.underlying0;have a0:=Tryz.isAgg0;have z0:=Tryz.sizeOf0;have v0:=Tryz.zeroValue0;have t119:=Tryz.underlying99;have a119:=Tryz.isAgg99;have z119:=Tryz.sizeOf99;have v119:=Tryz.zeroValue99;have t85:=Tryz.underlying68;have a85:=Tryz.isAgg68;have z85:=Tryz.sizeOf68;have v85:=Tryz.zeroValue68;have t5:=Tryz.underlying5;have a5:=Tryz.isAgg5;have z5:=Tryz.sizeOf5;have v5:=Tryz.zeroValue5;have e137:∀ args w,(callFunc 142 args).run Tryz.prog w=.ok (.enter 142 args) w:=enters_of Tryz.func142 (by kernel_rfl) rfl;have e138:∀ args w,(callFunc 143 args).run Tryz.prog w=.ok (.enter 143 args) w:=enters_of Tryz.func143 (by kernel_rfl) rfl;have e139:∀ args w,(callFunc 144 args).run Tryz.prog w=.ok (.enter 144 args) w:=enters_of Tryz.func144 (by kernel_rfl) rfl
 by_cases hs:u<100
 ·go_enter Tryz.func80,Tryz.ntmps80
  go_wp2_with (go_at_fn (142);refine (Tryz.internal_strconv_small u hs _).mono ?_;rintro e w' ⟨rfl,rfl⟩)
  go_ret
  exact ⟨rfl,Below.refl _ _⟩
 ·have hu1:1<=u:=by omega
  have hnd20:Lib.nDigits u<=20:=by have:=Lib.numDigits_eq u hu1 hu64;split at this <;> omega
  have hal:Tryz.prog.arrayLen 206=24:=by simp[Program.arrayLen,Tryz.underlying206]
  have hsl:∀ W,(Instr.sliceAt 206 (.pointer (some ⟨w.heap.size,0,none⟩)) none (some (.int .i64 (Lib.nDigits u:Int))) none).run Tryz.prog W=.ok (.slice (some ⟨w.heap.size,0,none⟩) (Lib.nDigits u) 24) W:=fun W=>by
   rw[run_sliceAt_array_h W 206 ⟨w.heap.size,0,none⟩ (by simp[Program.arrayLen,Program.elem,Tryz.underlying206]) .i64 (Lib.nDigits u:Int) (by omega) (by rw[hal];omega)]
   go_simp
  have hH0:=Lib.holds_zero0 w 206 (Lib.nDigits u) (by omega);have hfmt:=Tryz.internal_strconv_formatBase10 w.heap.size 0 24 u (Array.replicate (Lib.nDigits u) 0) (w.alloc (.cells Lib.zeros24 206)) hH0 (by rw[Array.size_replicate];exact Lib.lt_pow_nDigits u) hu64 (by rw[Array.size_replicate];omega);rw[Array.size_replicate] at hfmt;have HH0:=Lib.hid hH0;clear hH0 hal
  go_enter Tryz.func80,Tryz.ntmps80
  go_wp2_with (first
   |(go_at_fn (143);refine (Tryz.internal_strconv_numDigits u hu1 hu64 _ (Lib.tabIs_alloc htab _)).mono ?_;rintro e w' ⟨rfl,rfl⟩))
  go_at_fn (144)
  refine hfmt.mono ?_;rintro e w' ⟨rfl,k,v',dk,rfl,hF⟩
  have hcv:(convert 68 9 (.slice (some ⟨w.heap.size,0,none⟩) (Lib.nDigits u) 24)).run Tryz.prog ((putRow (fun (b:UInt8)=>Value.int .u8 (b.toNat:Int)) (w.alloc (.cells Lib.zeros24 206)) w.heap.size 0 dk).drewN k)=.ok (.string ⟨(Lib.decDigits u).toArray⟩) ((putRow (fun (b:UInt8)=>Value.int .u8 (b.toNat:Int)) (w.alloc (.cells Lib.zeros24 206)) w.heap.size 0 dk).drewN k):=by
   have h:=run_convert_bytes_back (P:=Tryz.prog) ((putRow (fun (b:UInt8)=>Value.int .u8 (b.toNat:Int)) (w.alloc (.cells Lib.zeros24 206)) w.heap.size 0 dk).drewN k) 68 9 5 ⟨w.heap.size,0,none⟩ 24 (Lib.decDigits u) Tryz.underlying68 Tryz.underlying5 Tryz.underlying9 (fun j hj=>by
    rw[Lib.row_is_numeral hF j hj,Lib.add_plain,World.cell?_drewN]
    exact cell?_putRow (fun (b:UInt8)=>Value.int .u8 (b.toNat:Int)) _ w.heap.size 0 _ dk HH0.out (by rw[hF.size,Array.size_replicate]) j (by rw[hF.size];rw[Lib.decDigits_length] at hj;exact hj))
   rw[Lib.decDigits_length] at h;exact h
  go_wp2
  go_ret
  refine ⟨rfl,?_⟩;obtain ⟨os,eo⟩:=Lib.fin_at w (.cells Lib.zeros24 206) dk k 0;rw[eo];exact Lib.below_grow _ w (zNr _) k os
end Go.Proofs.YtdakelgkjdaijaaGreatDoor
namespace Go.Proofs.YtdakelgkjdaijaaGreatDoor
open Go.GL Go.RowKit Go.Stele
attribute [local irreducible] LOps qae qad LCalls Go.GL.Pure qax qaj qac
structure GW (B0:Nat) (w0:World):Prop where
 pow10 : Go.Lib.TabIs Tryz.prog w0 "internal/strconv.uint64pow10" .u64 Go.Lib.pow10Tab
 errRange : ∃ tp p, w0.var? Tryz.prog "strconv.ErrRange" = some #[.iface tp p]
 big:8<=B0
section
variable {B0:Nat} {w0:World}
theorem GW.tab (h : GW B0 w0) {w : World} (hb : Below B0 w0 w) : Go.Lib.TabIs Tryz.prog w "internal/strconv.uint64pow10" .u64 Go.Lib.pow10Tab := by
 have hg : Tryz.prog.globalNamed "internal/strconv.uint64pow10" = some 1 := by kernel_rfl
 exact var?_below hb hg (Nat.lt_of_lt_of_le zDd h.big) h.pow10
theorem GW.err (h : GW B0 w0) {w : World} (hb : Below B0 w0 w) : ∃ tp p, w.var? Tryz.prog "strconv.ErrRange" = some #[.iface tp p] := by
 have hg : Tryz.prog.globalNamed "strconv.ErrRange" = some 5 := by kernel_rfl
 obtain ⟨tp,p,hv⟩:=h.errRange;exact ⟨tp,p,var?_below hb hg (Nat.lt_of_lt_of_le zDd h.big) hv⟩
theorem qcP (hG:GW B0 w0) (u:Nat) (hu:u<=9223372036854775807):LCalls (KC B0 w0) 13 [int .i64 u] [] (Ret (str (Go.Lib.decDigits u))):=
 LCalls.ret_of (vs:=[.int .i64 u]) fun w hw=>(Go.Proofs.Tryz.strconv_Itoa u zo zo w (hG.tab hw)).mono fun e w' he=>by
  obtain ⟨h1,k,os,h2⟩:=he;rw[Go.Lib.itoa_nonneg] at h1;exact ⟨h1,by rw[h2];exact Go.Lib.below_grow _ w (zNr _) k os⟩
theorem fmtUint_spec (hG:GW B0 w0) (u:Nat) (hu:u<18446744073709551616):LCalls (KC B0 w0) 43 [int .u64 u,int .i64 10] [] (Ret (str (Go.Lib.decDigits u))):=by
 refine cI Tryz.func43 rfl (n:=8) rfl rfl rfl ?_;refine gao ?_;refine oS (sF [_,_] rfl (LCalls.ret_of (vs:=[.int .u64 u,.int .i64 10]) fun w hw=>qi0 u hu w (hG.tab hw)) ?_) rfl;refine gaf ?_;exact qaf rfl (zra rfl) rfl
theorem qhU (s:List UInt8) (hs:s.length<=1000000000) (u:Nat) (h:Go.Lib.parseUintB 32 s=.ok u) :
  LCalls (KC B0 w0) 149 [str s,int .i64 10,int .i64 32] [] (Ret (.tuple [int .u64 u,.atom .nilIface])):=by
 refine LCalls.mono (LCalls.of_belowT (vs:=[.string ⟨s.toArray⟩,.int .i64 10,.int .i64 32]) (p:=fun us=>us=[.int .u64 u,.nilIface]) fun w hw=>?_) ?_
 ·refine (Go.Proofs.Tryz.strconv_ParseUint_10_at32_ok ⟨s.toArray⟩ ?_ u (by simpa using h) w).mono fun e w' he=>⟨_,he.1,rfl,?_⟩
  ·show s.toArray.size<=_
   simp
   omega
  ·rcases he.2 with h2|h2
   ·rw[h2];exact Below.refl _ _
   ·rw[h2];exact ⟨rfl,rfl,rfl,by rw[Go.Lib.bytesWorld_size];omega,fun k hk=>Go.Lib.bytesWorld_at_old w 5 _ k hk⟩
 ·rintro r H ⟨v,rfl,⟨us,rfl,rfl⟩,rfl⟩;exact ⟨rfl,rfl⟩
theorem qjy (hG:GW B0 w0) (s:List UInt8) (hs:s.length<=1000000000) (h:Go.Lib.parseUintB 32 s=.range) :
  LCalls (KC B0 w0) 149 [str s,int .i64 10,int .i64 32] [] (qgz fun lv=>∃ v t p,lv=.tuple [int .u64 v,.atom (.iface t p)]):=by
 refine LCalls.mono (LCalls.of_belowT (vs:=[.string ⟨s.toArray⟩,.int .i64 10,.int .i64 32]) (p:=fun us=>∃ v t p,us=[.int .u64 v,.iface t p]) fun w hw=>?_) ?_
 ·obtain ⟨tp,p,hv⟩:=hG.err hw;refine (Go.Proofs.Tryz.strconv_ParseUint_10_at32_range_var ⟨s.toArray⟩ ?_ (by simpa using h) tp p w hv).mono fun e w' he=>?_
  ·show s.toArray.size<=_
   simp
   omega
  ·obtain ⟨N,h1,_,_,h4⟩:=he;exact ⟨_,h1,⟨_,_,_,rfl⟩,h4⟩
 ·rintro r H ⟨v,rfl,⟨us,⟨a,t,p,rfl⟩,rfl⟩,rfl⟩;exact ⟨_,rfl,⟨a,t,p,rfl⟩,rfl⟩
theorem qh3 (s:List UInt8):LCalls (KC B0 w0) 54 [str s,str [10]] [] (Ret (int .i64 (s.count 10))):=
 LCalls.ret_of (vs:=[.string ⟨s.toArray⟩,.string ⟨#[10]⟩]) fun w _=>(Go.Proofs.Tryz.strings_Count_one _ _ w).mono fun e w' he=>by
  obtain ⟨h1,h2⟩:=he;subst h2;exact ⟨by simpa [Go.Lib.countByte] using h1,Below.refl _ _⟩
end
end Go.Proofs.YtdakelgkjdaijaaGreatDoor
namespace Go.Proofs.YtdakelgkjdaijaaGreatDoor
open Go.GL Go.RowKit Go.Stele
attribute [local irreducible] LOps qae qad LCalls Go.GL.Pure qax qaj qac
def qdg (t:Tok):LV:=.agg [int .i64 t.kind,str t.text,int .i64 t.line]
def qlc (r:TokR):LV:=.tuple [qdg r.1,int .i64 r.2.1,int .i64 r.2.2]
theorem qaU (l:List (List UInt8)):qds 1 (l.map str):=fun v hv=>by
 obtain ⟨x,_,rfl⟩:=List.mem_map.1 hv;exact ⟨rfl,rfl⟩
section
variable {B0:Nat} {w0:World}
theorem qgP:LCalls (KC B0 w0) 171 [] [] (Ret (.list (qch.map str))):=by
 refine cI Tryz.func171 rfl (n:=2) rfl rfl rfl ?_;refine gai ?_;refine oS (sL [_,_,_,_,_,_,_,_] rfl (qaU qch) rfl rfl rfl ?_) rfl;refine gad ?_;exact qaf rfl (rC (rT (v:=.list _) rfl zsr) rN) rfl
theorem qpu:LCalls (KC B0 w0) 107 [] [] (Ret (.list (signs.map str))):=by
 refine cI Tryz.func107 rfl (n:=2) rfl rfl rfl ?_;refine gai ?_;refine oS (sL [_,_,_,_,_,_,_,_,_,_,_,_,_,_,_,_,_,_,_,_,_,_,_,_] rfl (qaU signs) rfl rfl rfl ?_) rfl;refine gad ?_;exact qaf rfl (rC (rT (v:=.list _) rfl zsr) rN) rfl
theorem qpg (l:List (List UInt8)) (x:List UInt8) (hl:l.length<=1000000000):LCalls (KC B0 w0) 173 [.list (l.map str),str x] [] (qgz fun lv=>∃ n:Int,lv=int .i64 n/\decide (0<=n)=l.contains x):=by
 refine cI Tryz.func173 rfl (n:=19) rfl rfl rfl ?_;refine gaa ?_
 refine oL (fun k ls H=>∃ m:Nat,k=l.length-m/\ls=[(0,.list (l.map str)),(1,str x),(7,int .i64 (l.map str).length),(8,int .i64 m)]/\H=[]/\m<=l.length/\l.contains x=(l.drop m).contains x)
  ⟨_,_,_,⟨0,rfl,rfl,rfl,by omega,by simp⟩,⟨rfl,rfl,rfl,rfl,trivial⟩,zhR _⟩ ?_
 rintro k ls H ⟨m,rfl,rfl,rfl,hm,hI⟩ j hj;refine gaj ?_;refine oC rfl (fun hc=>?_) (fun hc=>?_)
 ·have hlt:m<l.length:=by simpa using hc
  refine gaa ?_;refine oP (xR (el':=str l[m]) rfl rfl zo (by simp) rfl rfl) rfl ?_;refine gad ?_;refine oC rfl (fun he=>?_) (fun he=>?_)
  ·refine gaa ?_;have hx:x=l[m]:=by simpa using he
   exact qb0 hj (zra rfl) ⟨m,rfl,by
    rw[hx,decide_eq_true zo]
    simp⟩
  ·refine gaa ?_;have hx:¬ x=l[m]:=by simpa using he
   exact ⟨_,_,_,by omega,⟨m+1,rfl,rfl,rfl,by omega,by
    rw[hI,List.drop_eq_getElem_cons hlt,List.contains_cons]
    simp[hx]⟩,⟨rfl,rfl,rfl,qak zo,trivial⟩,zhR _,hj⟩
 ·have hge:l.length<=m:=by simpa using hc
  refine gaa ?_
  exact qb0 hj (zra rfl) ⟨-1,rfl,by
   rw[hI,List.drop_eq_nil_of_le hge]
   rfl⟩
theorem qcS (l:List (List UInt8)) (x:List UInt8) (hl:l.length<=1000000000):LCalls (KC B0 w0) 111 [.list (l.map str),str x] [] (Ret (bool (l.contains x))):=by
 refine cI Tryz.func111 rfl (n:=9) rfl rfl rfl ?_;refine gaa ?_;refine oS (S.fnIf [_,_] rfl (qpg l x hl) ?_) rfl;rintro lv ⟨n,rfl,hn⟩;refine gad ?_;exact qaf rfl (zra rfl) (by rw[<-hn];rfl)
theorem qrO (s:List UInt8) (hs:s.length<=1000000000):LCalls (KC B0 w0) 105 [str s] [] (Ret (qlc (qdZ s))):=by
 refine cI Tryz.func105 rfl (n:=21) rfl rfl rfl ?_;refine gah ?_;refine oS (sA fun b=>?_) rfl;refine gao ?_;refine oS (sF [_,_] rfl (qec qaM qpG s hs) ?_) rfl;refine gal ?_;refine oC rfl (fun hc=>?_) (fun hc=>?_)
 ·refine gac ?_
  exact qaf rfl (rC (rA rfl zm0 rfl zsr) (rC (zrt rfl) (zra rfl))) (by
   rw[qdZ,if_pos (by have:=zt hc;omega)]
   rfl)
 ·refine gaa ?_;refine oS (sF [] rfl qgP ?_) rfl;refine gab ?_;refine oS (sF [_,_] rfl (qcS qch (s.takeWhile qaM) zDd) ?_) rfl;refine gaf ?_;refine oC rfl (fun hk=>?_) (fun hk=>?_)
  ·refine gac ?_
   exact qaf rfl (rC (rA rfl zm0 rfl zsr) (rC (zrt rfl) (zra rfl))) (by
    rw[qdZ,if_neg (by have:=zf hc;omega),if_pos hk]
    rfl)
  ·refine gac ?_
   exact qaf rfl (rC (rA rfl zm0 rfl zsr) (rC (zrt rfl) (zra rfl))) (by
    rw[qdZ,if_neg (by have:=zf hc;omega),if_neg (by rw[hk];decide)]
    rfl)
end
end Go.Proofs.YtdakelgkjdaijaaGreatDoor
