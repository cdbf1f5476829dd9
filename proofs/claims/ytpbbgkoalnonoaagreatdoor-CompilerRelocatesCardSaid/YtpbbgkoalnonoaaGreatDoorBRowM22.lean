/- Texts joined: GlRules, Types, GlCall, LexSpec2, Lex1, Shelf, Lex2, FmtUint, Lex3, Lex4. -/
import Derived.Test.YtpbbgkoalnonoaaGreatDoorProg
import Derived.Lib.ParseIntB
import Derived.Lib.ItoaNum
import Derived.Shelf.Strings.Builder1
import Derived.Shelf.Strings.Builder2
import Derived.Shelf.Strings.OnBuilder
import Derived.Shelf.Strings.Trim
import Derived.Shelf.Small.Utf8
import Derived.Shelf.Small.Strs
import Derived.Shelf.Small.Wraps
import Derived.Shelf.Strings.BuilderF
import Derived.Shelf.Strings.BuilderK
import Derived.Shelf.Utf8.RuneCount
import Derived.Shelf.Strings.Builder2Cap
import Derived.Shelf.Strconv.Itoa0
import Derived.Shelf.Strconv.Itoa1
import Derived.Shelf.LaysM
import Derived.Shelf.Strconv.Itoa2
import Derived.Shelf.Strconv.Itoa3
import Derived.Shelf.Strconv.Clone
import Derived.Shelf.Strconv.SyntaxError
import Derived.Shelf.LaysC
import Derived.Shelf.Strconv.ToError
import Derived.Shelf.Strconv.Lower
import Derived.Shelf.Strconv.ParseUint10
import Derived.Shelf.Strconv.ParseUint10Empty
import Derived.Shelf.Strconv.ParseUint10Any
import Derived.Shelf.Strconv.RangeError
import Derived.Shelf.Strconv.ToErrorRange
import Derived.Shelf.Strconv.ParseUintEmpty
import Derived.Shelf.Strconv.ParseUint10b64
import Derived.Shelf.Strconv.ParseUint10b32
import Derived.Shelf.Strconv.ParseUint10b16
import Derived.Shelf.Strconv.ParseUint10b8
import Derived.Shelf.Strconv.ParseUint10At
import Derived.Ground.MpProg
import Derived.Shelf.Pu.ParseUintPublic10
import Derived.Shelf.Pu.ErrVarParseUint
import Derived.Shelf.Strings.Search1
import Derived.Shelf.Strings.Search2
import Derived.Shelf.Strings.Search3
import Derived.Shelf.Strings.Cut
import Derived.Shelf.Strings.Count
import Derived.Shelf.Strings.Shaped
import Derived.Shelf.Strings.Prefix
import Derived.Shelf.Strings.Split
import Derived.Shelf.Strings.SplitShaped
import Derived.Shelf.Unicode.Decode
import Derived.Shelf.Strings.Runes
import Derived.Shelf.Strings.RuneCount
import Derived.Shelf.Strings.AsciiSet
import Derived.Shelf.Unicode.DecodeSlow
import Derived.Shelf.Unicode.DecodeAny
import Derived.Shelf.Strings.BuilderCap
import Derived.Shelf.Slices.Turned
import Derived.Ground.Names2Prog
import Derived.Shelf.Slices.Clone
import Derived.Lib.Walk
import Derived.Lib.ItoaMem
import Derived.Lib.AppendIntMem
import Derived.WalkKit
import Derived.BigCall
import Derived.BigGuard
import Derived.Below
import Derived.WalkSmall
import Derived.Test.YtpbbgkoalnonoaaGreatDoorBRowM21
set_option linter.unusedVariables false
set_option linter.unusedSimpArgs false
set_option maxRecDepth 100000
set_option maxHeartbeats 4000000
namespace Go.GL
open Go.RowKit
section pure
variable {C:Ctx} {e:Env} {H:Heap} {dst:Option Nat} {ty:TypeId} {pos:String} {aft:Array Edge} {g:Option (Nat×Bool)} {x y c a b:Operand} {xT:TypeId} {k:IntKind} {lv:LV}
theorem pM (hx:e.ev x=lv):Pure C ⟨dst,.move x,ty,pos,aft,g⟩ e H lv:=hx▸Pure.move
theorem pA (hx:e.ev x=lv):Pure C ⟨dst,.assign x,ty,pos,aft,g⟩ e H lv:=hx▸Pure.assign
theorem Pure.pickT (hc:e.ev c=bool true) (ha:e.ev a=lv):Pure C ⟨dst,.pick c a b,ty,pos,aft,g⟩ e H lv:=by
 have:=Pure.pick (C:=C) (H:=H) (dst:=dst) (ty:=ty) (pos:=pos) (aft:=aft) (g:=g) (a:=a) (b:=b) hc
 simp only[if_true] at this
 exact ha▸this
theorem Pure.pickF (hc:e.ev c=bool false) (hb:e.ev b=lv):Pure C ⟨dst,.pick c a b,ty,pos,aft,g⟩ e H lv:=by
 have:=Pure.pick (C:=C) (H:=H) (dst:=dst) (ty:=ty) (pos:=pos) (aft:=aft) (g:=g) (a:=a) (b:=b) hc
 simp only[Bool.false_eq_true,if_false] at this
 exact hb▸this
theorem Pure.ldRefAgg {t n:Nat} [TAgg C.P t n] {cs cs':List LV} (hx:e.ev x=.ref cs) (hn:Nat.ble n cs.length=true) (hc:cs.take n=cs'):Pure C ⟨dst,.load t x,ty,pos,aft,g⟩ e H (.agg cs'):=by
 subst hc;exact Pure.loadRefAgg hx (by simpa using hn)
theorem Pure.ldHAgg {t n:Nat} [TAgg C.P t n] {b off ty':Nat} {cs cs':List LV} (hx:e.ev x=ptr b off) (hm:(b,LObj.cells ty' cs)∈H) (hn:Nat.ble (off+n) cs.length=true) (hc:(cs.drop off).take n=cs') :
  Pure C ⟨dst,.load t x,ty,pos,aft,g⟩ e H (.agg cs'):=by
 subst hc;exact Pure.loadHAgg hx hm (by simpa using hn)
theorem xR {t el s:Nat} [ht:TSlice C.P t el s] {es:List LV} {n:Int} {el':LV} {cs:List LV} (hx:elems (e.ev x)=some es) (hy:e.ev y=int k n) (h0:0≤n) (hn:es[n.toNat]? = some el') (hc:el'.cells=cs) (hs:cs.length=s) :
  Pure C ⟨dst,.indexAddr t x y,ty,pos,aft,g⟩ e H (.ref cs):=by
 subst hc;exact Pure.indexAddr hx hy h0 hn hs
theorem Pure.field1 {s f n:Nat} [TField C.P s f n] {cs cs':List LV} (hx:e.ev x=.ref cs) (hc:cs.drop n=cs'):Pure C ⟨dst,.fieldAddr s x f,ty,pos,aft,g⟩ e H (.ref cs'):=by
 subst hc;exact Pure.fieldRef hx
theorem Pure.bld {t:TypeId} {pl:List (Nat×Nat)} {zs:List Value} [hs:TStruct C.P t pl] [hz:TZero C.P t zs] (parts:List (Nat×Operand)) {cs:List LV}
  (h:fillL pl (zs.map .atom) (parts.map fun p=>(p.1,e.ev p.2))=some cs):Pure C ⟨dst,.build t parts.toArray,ty,pos,aft,g⟩ e H (.agg cs):=Pure.build h
end pure
section steps
variable {C:Ctx} {e:Env} {H H':Heap} {dst:Option Nat} {op:Op} {ty:TypeId} {pos:String} {aft:Array Edge} {g:Option (Nat×Bool)} {x y:Operand} {K K':LV→Heap→Prop} {X:List PanicEntry→Heap→Prop}
theorem LStep.conseq {o:Oper} (h:LStep C o e H K X) (hk:∀ lv H',K lv H'→∃ lv' H'',lv.Sub lv'∧HSub H'' H'∧K' lv' H''):LStep C o e H K' X:=fun ρ w L h1 h2=>by
 have:=h ρ w L h1 h2
 have lf:∀ {w' v},Left C w L H w' v K→Left C w L H w' v K':=fun h=>by
  obtain ⟨lv,H',L',r1,r2,r3,r4⟩:=h
  obtain ⟨lv',H'',s1,s2,s3⟩:=hk _ _ r4
  exact ⟨lv',H'',L',r1.weak s2,r2.weak s2,s1 _ _ _ r3,s3⟩
 unfold StepOut at this ⊢
 split at this
 ·exact lf this
 ·exact lf this
 ·refine ⟨this.1,this.2.mono fun e w' he=>?_⟩
  cases e with
  |returned v=>exact lf he
  |panicked ch=>exact he
  |outgrown=>exact he
 ·exact this
 ·exact this.elim
theorem LStep.at1 {o:Oper} {p:Nat×LObj} {F:Heap} (hp:Pick p H F) (h:LStep C o e [p] (fun lv H'=>K lv (H'++F)) (fun ch H'=>X ch (H'++F))):LStep C o e H K X:=LStep.frame (H:=[p]) hp h
theorem LStep.at0 {o:Oper} (h:LStep C o e [] (fun lv H'=>K lv (H'++H)) (fun ch H'=>X ch (H'++H))):LStep C o e H K X:=LStep.frame (H:=[]) (List.Perm.refl _) h
theorem sA {t:TypeId} {zs:List Value} [hz:TZero C.P t zs] (hk:∀ b,K (ptr b 0) ((b,.cells t (zs.map .atom))::H)):LStep C ⟨dst,.alloc t,ty,pos,aft,g⟩ e H K X:=LStep.at0 (LStep.alloc hk)
theorem S.box {t:TypeId} {cs:List LV} (hx:(e.ev x).cells? = some cs) (hk:∀ b,K (ptr b 0) ((b,.cells t cs)::H)):LStep C ⟨dst,.box t x,ty,pos,aft,g⟩ e H K X:=LStep.at0 (LStep.box hx hk)
theorem sL {t el s:Nat} {zs:List Value} [ht:TSlice C.P t el s] [hz:TZero C.P el zs] (xs:List Operand) {es:List LV} (hes:xs.map e.ev=es) (hok:elemsOk s es) {len:Nat} {parts:List (Nat×Operand)} (hp:parts=(List.range xs.length).zip xs) (hlen:len=xs.length)
  (hsz:Nat.ble (len * s) 16777216=true) (hk:K (.list es) H):LStep C ⟨dst,.buildSlice t len parts.toArray,ty,pos,aft,g⟩ e H K X:=by
 subst hes
 refine LStep.at0 (LStep.conseq (K:=fun lv H'=>∃ b,lv=.app b len s (xs.map e.ev)) (LStep.buildSlice hok (by subst hlen;simpa using hsz) hp hlen fun b=>⟨b,rfl⟩) ?_)
 rintro lv H' ⟨b,rfl⟩
 exact ⟨_,[],LV.Sub.app _ _ _ _,HSub.nil _,hk⟩
theorem S.litA {t el s:Nat} {zs:List Value} [ht:TSlice C.P t el s] [hz:TZero C.P el zs] (xs:List Operand) {es:List LV} (hes:xs.map e.ev=es) (hok:elemsOk s es) {len:Nat} {parts:List (Nat×Operand)} (hp:parts=(List.range xs.length).zip xs) (hlen:len=xs.length)
  (hsz:Nat.ble (len * s) 16777216=true) (hk:∀ b,K (.app b len s es) ((b,.row (len * s))::H)):LStep C ⟨dst,.buildSlice t len parts.toArray,ty,pos,aft,g⟩ e H K X:=by
 subst hes
 exact LStep.at0 (LStep.buildSlice hok (by subst hlen;simpa using hsz) hp hlen fun b=>hk b)
theorem sS {t n:Nat} [ht:TSize C.P t n] {b off ty':Nat} {cs vs cs':List LV} {F:Heap} (hx:e.ev x=ptr b off) (hp:Pick (b,.cells ty' cs) H F) (hy:(e.ev y).cells? = some vs) (hn:vs.length=n) (hl:Nat.ble (off+n) cs.length=true) (hok:vs.all cellOk=true)
  (hc:setL cs off vs=cs') (hk:K (.atom undef) ((b,.cells ty' cs')::F)):LStep C ⟨dst,.store t x y,ty,pos,aft,g⟩ e H K X:=by
 subst hc
 exact LStep.at1 hp (LStep.store hx hy hn (by simpa using hl) hok hk)
theorem S.appNil {sT xT el s bytes:Nat} [ht:TSlice C.P sT el s] [hr:TRow C.P el s bytes] {e2 s2:Nat} [hx2:TSlice C.P xT e2 s2] {ms:List LV}
  (hx:e.ev x=nilSlice) (hy:elems (e.ev y)=some ms) (hne:ms≠[]) (hs:∀ v∈ms,v.cells.length=s) (hroom:ms.length * bytes≤140737488355328)
  (hk:∀ b cap,K (.app b cap s ms) ((b,.row (ms.length * s))::H)):LStep C ⟨dst,.call { callee:=.builtin .append,args:=#[x,y],argTypes:=#[sT,xT] },ty,pos,aft,g⟩ e H K X:=
 LStep.at0 (LStep.appendNil rfl ⟨e2,hx2.und⟩ hx hy hne hs hroom fun b cap=>hk b cap)
theorem S.app {sT xT el s bytes:Nat} [ht:TSlice C.P sT el s] [hr:TRow C.P el s bytes] {e2 s2:Nat} [hx2:TSlice C.P xT e2 s2] {b cap n:Nat} {es ms:List LV} {F:Heap}
  (hx:e.ev x=.app b cap s es) (hp:Pick (b,.row n) H F) (hn:n=es.length * s) (hy:elems (e.ev y)=some ms) (hs:∀ v∈ms,v.cells.length=s) (hok:(ms.flatMap LV.cells).all cellOk=true) (hroom:(es.length+ms.length) * bytes≤140737488355328)
  (hk:∀ b' cap',K (.app b' cap' s (es++ms)) ((b',.row ((es++ms).length * s))::F)):LStep C ⟨dst,.call { callee:=.builtin .append,args:=#[x,y],argTypes:=#[sT,xT] },ty,pos,aft,g⟩ e H K X:=
 LStep.at1 hp (LStep.appendApp rfl ⟨e2,hx2.und⟩ hx hn hy hs hok hroom fun b' cap'=>hk b' cap')
theorem S.appNilNil {sT xT el s:Nat} [ht:TSlice C.P sT el s] {e2 s2:Nat} [hx2:TSlice C.P xT e2 s2] (hx:e.ev x=nilSlice) (hy:elems (e.ev y)=some []) (hk:K nilSlice H) :
  LStep C ⟨dst,.call { callee:=.builtin .append,args:=#[x,y],argTypes:=#[sT,xT] },ty,pos,aft,g⟩ e H K X:=LStep.appendNilNil rfl ⟨e2,hx2.und⟩ hx hy hk
inductive Acc (s:Nat):LV→List LV→Heap→Heap→Prop
 |nil {F:Heap}:Acc s nilSlice [] F F
 |row {b cap:Nat} {es:List LV} {F:Heap}:Acc s (.app b cap s es) es ((b,.row (es.length * s))::F) F
theorem Acc.sub {s:Nat} {lv:LV} {es:List LV} {H F:Heap} (h:Acc s lv es H F):lv.Sub (.list es):=by
 cases h with
 |nil=>exact LV.Sub.nil
 |row=>exact LV.Sub.app _ _ _ _
theorem Acc.hsub {s:Nat} {lv:LV} {es:List LV} {H F:Heap} (h:Acc s lv es H F):HSub F H:=by
 cases h with
 |nil=>exact zhR _
 |row=>exact zhD (zhR _)
theorem Acc.elems {s:Nat} {lv:LV} {es:List LV} {H F:Heap} (h:Acc s lv es H F):GL.elems lv=some es:=by
 cases h <;> rfl
theorem S.acc {sT xT el s bytes:Nat} [ht:TSlice C.P sT el s] [hr:TRow C.P el s bytes] {e2 s2:Nat} [hx2:TSlice C.P xT e2 s2] {v:LV} {es ms:List LV} {F:Heap}
  (hx:e.ev x=v) (ha:Acc s v es H F) (hy:GL.elems (e.ev y)=some ms) (hs:∀ v∈ms,v.cells.length=s) (hok:(ms.flatMap LV.cells).all cellOk=true) (hroom:(es.length+ms.length) * bytes≤140737488355328)
  (hk:∀ v' H',Acc s v' (es++ms) H' F→K v' H'):LStep C ⟨dst,.call { callee:=.builtin .append,args:=#[x,y],argTypes:=#[sT,xT] },ty,pos,aft,g⟩ e H K X:=by
 cases ha with
 |nil=>
  by_cases hne:ms=[]
  ·subst hne
   exact S.appNilNil hx hy (hk _ _ (by simpa using Acc.nil))
  ·refine S.appNil hx hy hne hs (by simpa using hroom) fun b cap=>hk _ _ ?_
   exact Acc.row
 |row=>exact S.app hx pH rfl hy hs hok hroom fun b' cap'=>hk _ _ Acc.row
theorem S.call0 {f:FuncId} [TEnter C.P f] (args:List Operand) {ats:Array TypeId} {avs:List LV} {R:LRes→Heap→Prop} (has:args.map e.ev=avs)
  (hc:LCalls C f avs [] R) (hk:∀ v H',R (.ret v) H'→K v (H'++H)) (hx:∀ ch H',R (.panic ch) H'→X ch (H'++H)) :
  LStep C ⟨dst,.call { callee:=.value (.func f),args:=args.toArray,argTypes:=ats },ty,pos,aft,g⟩ e H K X:=by
 subst has
 exact LStep.at0 (LStep.call hc hk hx)
theorem S.call1 {f:FuncId} [TEnter C.P f] (args:List Operand) {ats:Array TypeId} {avs:List LV} {R:LRes→Heap→Prop} {p:Nat×LObj} {F:Heap} (has:args.map e.ev=avs) (hp:Pick p H F)
  (hc:LCalls C f avs [p] R) (hk:∀ v H',R (.ret v) H'→K v (H'++F)) (hx:∀ ch H',R (.panic ch) H'→X ch (H'++F)) :
  LStep C ⟨dst,.call { callee:=.value (.func f),args:=args.toArray,argTypes:=ats },ty,pos,aft,g⟩ e H K X:=by
 subst has
 exact LStep.at1 hp (LStep.call hc hk hx)
theorem S.callH {f:FuncId} [TEnter C.P f] (args:List Operand) {ats:Array TypeId} {avs:List LV} {R:LRes→Heap→Prop} {H1 F:Heap} (has:args.map e.ev=avs) (hp:H.Perm (H1++F))
  (hc:LCalls C f avs H1 R) (hk:∀ v H',R (.ret v) H'→K v (H'++F)) (hx:∀ ch H',R (.panic ch) H'→X ch (H'++F)) :
  LStep C ⟨dst,.call { callee:=.value (.func f),args:=args.toArray,argTypes:=ats },ty,pos,aft,g⟩ e H K X:=by
 subst has
 exact LStep.frame hp (LStep.call hc hk hx)
theorem S.callV {fo:Operand} {f:FuncId} [TEnter C.P f] {first caps:Array Value} (args:List Operand) {ats:Array TypeId} {avs:List LV} {R:LRes→Heap→Prop} {H1 F:Heap} (hf:e.ev fo=.atom (.func (.func f) first caps))
  (has:first.toList.map .atom++args.map e.ev++caps.toList.map .atom=avs) (hp:H.Perm (H1++F)) (hc:LCalls C f avs H1 R) (hk:∀ v H',R (.ret v) H'→K v (H'++F)) (hx:∀ ch H',R (.panic ch) H'→X ch (H'++F)) :
  LStep C ⟨dst,.call { callee:=.value fo,args:=args.toArray,argTypes:=ats },ty,pos,aft,g⟩ e H K X:=by
 subst has
 exact LStep.frame hp (LStep.callV hf hc hk hx)
end steps
section ret
variable {C:Ctx} {n:Nat} {e:Env} {H H':Heap} {R:LRes→Heap→Prop}
theorem rN:AllRes C n e H [] []:=trivial
theorem rC {r:ResultVar} {rs:List ResultVar} {v:LV} {vs:List LV} (h:ResIs C n e H r v) (k:AllRes C n e H rs vs):AllRes C n e H (r::rs) (v::vs):=⟨h,k⟩
theorem rR {rs:List ResultVar} {vs:List LV} (hd:e.ds=[]) (h:AllRes C n e H rs vs) (hH:HSub H' H) (hR:R (.ret (resLV vs)) H'):RetPost C n rs R .ret e H:=⟨hd,vs,H',h,hH,hR⟩
theorem rO {rs:List ResultVar} {vs:List LV} (hd:e.ds=[]) (h:AllRes C n e H rs vs) (hH:HSub H' H) (hR:R (.ret (resLV vs)) H'):RetPost C n rs R .normal e H:=⟨hd,vs,H',h,hH,hR⟩
theorem RetPost.panic {rs:List ResultVar} {ch:List PanicEntry} (hd:e.ds=[]) (hH:HSub H' H) (hR:R (.panic ch) H'):RetPost C n rs R (.panic ch) e H:=⟨hd,H',hH,hR⟩
theorem rA {a t k:Nat} [TAgg C.P t k] {b off ty':Nat} {cs:List LV} {lv:LV} (hx:e.s a=ptr b off) (hm:(b,LObj.cells ty' cs)∈H) (hn:Nat.ble (off+k) cs.length=true) (hs:(LV.agg ((cs.drop off).take k)).Sub lv):ResIs C n e H (.cell a t) lv:=fun ac w L hE hH=>by
 obtain ⟨xs,h1,h2⟩:=hH.cells hm
 have hl:=h2.length
 have hn':off+k≤cs.length:=by simpa using hn
 have hv:=hE.vals a
 rw[hx] at hv
 simp only[Rep] at hv
 refine ⟨.agg ((xs.drop off).take k).toArray,?_,hs _ _ _ (by simp only[Rep];exact ⟨_,rfl,(h2.drop off).take k⟩)⟩
 have hlen:((xs.drop off).take k).length=k:=by simp;omega
 simp only[readRes,hv,asAddr,Sem.run_bind,Sem.run_pure,Result.andThen_ok]
 exact loadVar_agg (t:=t) (w:=w) (b:=b) (off:=off) hlen (fun j y hy=>by
  rw[List.getElem?_take] at hy
  split at hy
  ·simpa [World.cell?,h1,List.getElem?_drop] using hy
  ·cases hy)
theorem ResIs.cellOne {a t:Nat} [TOne C.P t] {b off ty':Nat} {c lv:LV} {cs:List LV} (hx:e.s a=ptr b off) (hm:(b,LObj.cells ty' cs)∈H) (hc:cs[off]? = some c) (hs:c.Sub lv):ResIs C n e H (.cell a t) lv:=fun ac w L hE hH=>by
 obtain ⟨xs,h1,h2⟩:=hH.cells hm
 obtain ⟨v,h3,h4⟩:=h2.get hc
 have hv:=hE.vals a
 rw[hx] at hv
 simp only[Rep] at hv
 refine ⟨v,?_,hs _ _ _ h4⟩
 have hc':w.cell? ⟨b,off,none⟩=some v:=by simp[World.cell?,h1,h3]
 simp only[readRes,hv,asAddr,Sem.run_bind,Sem.run_pure,Result.andThen_ok]
 exact loadVar_one hc'
end ret
theorem zhr {H:Heap}:HSub H H:=zhR _
theorem zhn {H:Heap}:HSub [] H:=HSub.nil _
theorem zhp {p:Nat×LObj} {H:Heap}:HSub [p] (p::H):=zhP pH (HSub.nil _)
theorem zsr {v:LV}:v.Sub v:=LV.Sub.refl _
theorem zp1 {p a:Nat×LObj} {F:Heap}:Pick p (a::p::F) (a::F):=(pT pH)
theorem zp2 {p a b:Nat×LObj} {F:Heap}:Pick p (a::b::p::F) (a::b::F):=(pT (pT pH))
theorem zp3 {p a b c:Nat×LObj} {F:Heap}:Pick p (a::b::c::p::F) (a::b::c::F):=(pT (pT (pT pH)))
theorem zp4 {p a b c d:Nat×LObj} {F:Heap}:Pick p (a::b::c::d::p::F) (a::b::c::d::F):=(pT (pT (pT (pT pH))))
theorem zp5 {p a b c d e:Nat×LObj} {F:Heap}:Pick p (a::b::c::d::e::p::F) (a::b::c::d::e::F):=(pT (pT (pT (pT (pT pH)))))
theorem zp6 {p a b c d e f:Nat×LObj} {F:Heap}:Pick p (a::b::c::d::e::f::p::F) (a::b::c::d::e::f::F):=(pT (pT (pT (pT (pT (pT pH))))))
theorem zp7 {p a b c d e f g:Nat×LObj} {F:Heap}:Pick p (a::b::c::d::e::f::g::p::F) (a::b::c::d::e::f::g::F):=(pT (pT (pT (pT (pT (pT (pT pH)))))))
theorem zp8 {p a b c d e f g h:Nat×LObj} {F:Heap}:Pick p (a::b::c::d::e::f::g::h::p::F) (a::b::c::d::e::f::g::h::F):=(pT (pT (pT (pT (pT (pT (pT (pT pH))))))))
theorem zrt {C:Ctx} {n:Nat} {e:Env} {H:Heap} {t:Nat} {v:Value} (h:e.s t=.atom v):ResIs C n e H (.tmp t) (.atom v):=rT h (LV.Sub.refl _)
theorem zra {C:Ctx} {n:Nat} {e:Env} {H:Heap} {t:Nat} {v:Value} (h:e.s t=.atom v):AllRes C n e H [.tmp t] [.atom v]:=rC (rT h (LV.Sub.refl _)) rN
end Go.GL
namespace Go.Proofs.YtpbbgkoalnonoaaGreatDoor
open Go.GL
instance:TMixed Tryz.prog:=⟨by kernel_rfl⟩
instance:TSize Tryz.prog 3 1:=.of zk
instance:TOne Tryz.prog 3:=.of zk
instance:TKind Tryz.prog 3 .i64:=.of zk
instance:TZero Tryz.prog 3 [.int .i64 0]:=.of (v:=.int .i64 0) (n:=1) zk rfl rfl
instance:TRow Tryz.prog 3 1 8:=.of zk
instance:TSize Tryz.prog 4 1:=.of zk
instance:TOne Tryz.prog 4:=.of zk
instance:TKind Tryz.prog 5 .u8:=.of zk
instance:TZero Tryz.prog 5 [.int .u8 0]:=.of (v:=.int .u8 0) (n:=1) zk rfl rfl
instance:TRow Tryz.prog 5 1 1:=.of zk
instance:TSize Tryz.prog 9 1:=.of zk
instance:TOne Tryz.prog 9:=.of zk
instance:TStr Tryz.prog 9:=.of zk
instance:TZero Tryz.prog 9 [.string ⟨#[]⟩]:=.of (v:=.string ⟨#[]⟩) (n:=1) zk rfl rfl
instance:TRow Tryz.prog 9 1 16:=.of zk
instance:TSize Tryz.prog 22 1:=.of zk
instance:TOne Tryz.prog 22:=.of zk
instance:TSlice Tryz.prog 22 9 1:=.of zk
instance:TZero Tryz.prog 22 [.slice none 0 0]:=.of (v:=.slice none 0 0) (n:=1) zk rfl rfl
instance:TSize Tryz.prog 23 1:=.of zk
instance:TOne Tryz.prog 23:=.of zk
instance:TSlice Tryz.prog 23 56 2:=.of zk
instance:TSize Tryz.prog 24 1:=.of zk
instance:TOne Tryz.prog 24:=.of zk
instance:TSlice Tryz.prog 24 59 4:=.of zk
instance:TSize Tryz.prog 26 3:=.of zk
instance:TAgg Tryz.prog 26 3:=.of zk
instance:TField Tryz.prog 26 0 0:=.of zk
instance:TField Tryz.prog 26 1 1:=.of zk
instance:TField Tryz.prog 26 2 2:=.of zk
instance:TStruct Tryz.prog 26 [(0,1),(1,1),(2,1)]:=.of zk
instance:TZero Tryz.prog 26 [.slice none 0 0,.slice none 0 0,.slice none 0 0]:=.of (v:=.agg #[.slice none 0 0,.slice none 0 0,.slice none 0 0]) (n:=3) zk rfl rfl
instance:TSize Tryz.prog 28 3:=.of zk
instance:TAgg Tryz.prog 28 3:=.of zk
instance:TField Tryz.prog 28 0 0:=.of zk
instance:TField Tryz.prog 28 1 1:=.of zk
instance:TField Tryz.prog 28 2 2:=.of zk
instance:TStruct Tryz.prog 28 [(0,1),(1,1),(2,1)]:=.of zk
instance:TZero Tryz.prog 28 [.int .i64 0,.int .i64 0,.int .i64 0]:=.of (v:=.agg #[.int .i64 0,.int .i64 0,.int .i64 0]) (n:=3) zk rfl rfl
instance:TSize Tryz.prog 31 1:=.of zk
instance:TOne Tryz.prog 31:=.of zk
instance:TZero Tryz.prog 31 [.int .i64 0]:=.of (v:=.int .i64 0) (n:=1) zk rfl rfl
instance:TSize Tryz.prog 40 1:=.of zk
instance:TOne Tryz.prog 40:=.of zk
instance:TSlice Tryz.prog 40 93 1:=.of zk
instance:TSize Tryz.prog 44 3:=.of zk
instance:TAgg Tryz.prog 44 3:=.of zk
instance:TField Tryz.prog 44 0 0:=.of zk
instance:TField Tryz.prog 44 1 1:=.of zk
instance:TStruct Tryz.prog 44 [(0,1),(1,1),(2,1)]:=.of zk
instance:TZero Tryz.prog 44 [.string ⟨#[]⟩,.int .i64 0,.int .i64 0]:=.of (v:=.agg #[.string ⟨#[]⟩,.int .i64 0,.int .i64 0]) (n:=3) zk rfl rfl
instance:TKind Tryz.prog 47 .u16:=.of zk
instance:TSize Tryz.prog 50 2:=.of zk
instance:TAgg Tryz.prog 50 2:=.of zk
instance:TField Tryz.prog 50 0 0:=.of zk
instance:TField Tryz.prog 50 1 1:=.of zk
instance:TStruct Tryz.prog 50 [(0,1),(1,1)]:=.of zk
instance:TZero Tryz.prog 50 [.int .i64 0,.string ⟨#[]⟩]:=.of (v:=.agg #[.int .i64 0,.string ⟨#[]⟩]) (n:=2) zk rfl rfl
instance:TSlice Tryz.prog 51 50 2:=.of zk
instance:TSize Tryz.prog 56 2:=.of zk
instance:TAgg Tryz.prog 56 2:=.of zk
instance:TField Tryz.prog 56 0 0:=.of zk
instance:TField Tryz.prog 56 1 1:=.of zk
instance:TStruct Tryz.prog 56 [(0,1),(1,1)]:=.of zk
instance:TZero Tryz.prog 56 [.string ⟨#[]⟩,.int .i64 0]:=.of (v:=.agg #[.string ⟨#[]⟩,.int .i64 0]) (n:=2) zk rfl rfl
instance:TRow Tryz.prog 56 2 24:=.of zk
instance:TSize Tryz.prog 57 1:=.of zk
instance:TOne Tryz.prog 57:=.of zk
instance:TSlice Tryz.prog 57 102 6:=.of zk
instance:TSize Tryz.prog 59 4:=.of zk
instance:TAgg Tryz.prog 59 4:=.of zk
instance:TField Tryz.prog 59 0 0:=.of zk
instance:TField Tryz.prog 59 1 1:=.of zk
instance:TField Tryz.prog 59 2 2:=.of zk
instance:TField Tryz.prog 59 3 3:=.of zk
instance:TStruct Tryz.prog 59 [(0,1),(1,1),(2,1),(3,1)]:=.of zk
instance:TZero Tryz.prog 59 [.string ⟨#[]⟩,.slice none 0 0,.slice none 0 0,.slice none 0 0]:=.of (v:=.agg #[.string ⟨#[]⟩,.slice none 0 0,.slice none 0 0,.slice none 0 0]) (n:=4) zk rfl rfl
instance:TRow Tryz.prog 59 4 88:=.of zk
instance:TOne Tryz.prog 61:=.of zk
instance:TOne Tryz.prog 62:=.of zk
instance:TField Tryz.prog 64 0 0:=.of zk
instance:TField Tryz.prog 64 1 1:=.of zk
instance:TField Tryz.prog 64 2 2:=.of zk
instance:TField Tryz.prog 64 3 3:=.of zk
instance:TField Tryz.prog 64 4 4:=.of zk
instance:TField Tryz.prog 64 5 5:=.of zk
instance:TStruct Tryz.prog 64 [(0,1),(1,1),(2,1),(3,1),(4,1),(5,1)]:=.of zk
instance:TZero Tryz.prog 64 [.slice none 0 0,.int .i64 0,.int .i64 0,.map none,.map none,.string ⟨#[]⟩]:=.of (v:=.agg #[.slice none 0 0,.int .i64 0,.int .i64 0,.map none,.map none,.string ⟨#[]⟩]) (n:=6) zk rfl rfl
instance:TSlice Tryz.prog 66 70 2:=.of zk
instance:TSize Tryz.prog 70 2:=.of zk
instance:TAgg Tryz.prog 70 2:=.of zk
instance:TField Tryz.prog 70 0 0:=.of zk
instance:TField Tryz.prog 70 1 1:=.of zk
instance:TStruct Tryz.prog 70 [(0,1),(1,1)]:=.of zk
instance:TZero Tryz.prog 70 [.string ⟨#[]⟩,.int .i64 0]:=.of (v:=.agg #[.string ⟨#[]⟩,.int .i64 0]) (n:=2) zk rfl rfl
instance:TRow Tryz.prog 70 2 24:=.of zk
instance:TSlice Tryz.prog 85 3 1:=.of zk
instance:TSize Tryz.prog 93 1:=.of zk
instance:TOne Tryz.prog 93:=.of zk
instance:TKind Tryz.prog 93 .u32:=.of zk
instance:TZero Tryz.prog 93 [.int .u32 0]:=.of (v:=.int .u32 0) (n:=1) zk rfl rfl
instance:TRow Tryz.prog 93 1 4:=.of zk
instance:TOne Tryz.prog 94:=.of zk
instance:TSize Tryz.prog 96 1:=.of zk
instance:TOne Tryz.prog 96:=.of zk
instance:TSlice Tryz.prog 96 5 1:=.of zk
instance:TField Tryz.prog 98 0 0:=.of zk
instance:TField Tryz.prog 98 1 1:=.of zk
instance:TField Tryz.prog 98 2 2:=.of zk
instance:TField Tryz.prog 98 3 3:=.of zk
instance:TField Tryz.prog 98 4 4:=.of zk
instance:TField Tryz.prog 98 5 5:=.of zk
instance:TField Tryz.prog 98 6 6:=.of zk
instance:TField Tryz.prog 98 7 7:=.of zk
instance:TField Tryz.prog 98 8 8:=.of zk
instance:TField Tryz.prog 98 9 9:=.of zk
instance:TStruct Tryz.prog 98 [(0,1),(1,1),(2,1),(3,1),(4,1),(5,1),(6,1),(7,1),(8,1),(9,1)]:=.of zk
instance:TZero Tryz.prog 98 [.slice none 0 0,.int .u32 0,.slice none 0 0,.slice none 0 0,.slice none 0 0,.slice none 0 0,.bool false,.int .i64 0,.bool false,.map none]:=.of (v:=.agg #[.slice none 0 0,.int .u32 0,.slice none 0 0,.slice none 0 0,.slice none 0 0,.slice none 0 0,.bool false,.int .i64 0,.bool false,.map none]) (n:=10) zk rfl rfl
instance:TSize Tryz.prog 100 1:=.of zk
instance:TOne Tryz.prog 100:=.of zk
instance:TSlice Tryz.prog 100 104 4:=.of zk
instance:TSize Tryz.prog 102 6:=.of zk
instance:TAgg Tryz.prog 102 6:=.of zk
instance:TField Tryz.prog 102 0 0:=.of zk
instance:TField Tryz.prog 102 1 1:=.of zk
instance:TField Tryz.prog 102 2 2:=.of zk
instance:TField Tryz.prog 102 3 3:=.of zk
instance:TField Tryz.prog 102 4 4:=.of zk
instance:TField Tryz.prog 102 5 5:=.of zk
instance:TStruct Tryz.prog 102 [(0,1),(1,1),(2,1),(3,1),(4,1),(5,1)]:=.of zk
instance:TZero Tryz.prog 102 [.int .i64 0,.string ⟨#[]⟩,.slice none 0 0,.slice none 0 0,.slice none 0 0,.slice none 0 0]:=.of (v:=.agg #[.int .i64 0,.string ⟨#[]⟩,.slice none 0 0,.slice none 0 0,.slice none 0 0,.slice none 0 0]) (n:=6) zk rfl rfl
instance:TRow Tryz.prog 102 6 120:=.of zk
instance:TSize Tryz.prog 104 4:=.of zk
instance:TAgg Tryz.prog 104 4:=.of zk
instance:TField Tryz.prog 104 0 0:=.of zk
instance:TField Tryz.prog 104 1 1:=.of zk
instance:TField Tryz.prog 104 2 2:=.of zk
instance:TField Tryz.prog 104 3 3:=.of zk
instance:TStruct Tryz.prog 104 [(0,1),(1,1),(2,1),(3,1)]:=.of zk
instance:TZero Tryz.prog 104 [.string ⟨#[]⟩,.int .u32 0,.string ⟨#[]⟩,.slice none 0 0]:=.of (v:=.agg #[.string ⟨#[]⟩,.int .u32 0,.string ⟨#[]⟩,.slice none 0 0]) (n:=4) zk rfl rfl
instance:TRow Tryz.prog 104 4 64:=.of zk
instance:TSize Tryz.prog 107 2:=.of zk
instance:TConcrete Tryz.prog 107:=.of zk
instance:TField Tryz.prog 107 0 0:=.of zk
instance:TField Tryz.prog 107 1 1:=.of zk
instance:TStruct Tryz.prog 107 [(0,1),(1,1)]:=.of zk
instance:TZero Tryz.prog 107 [.string ⟨#[]⟩,.int .i64 0]:=.of (v:=.agg #[.string ⟨#[]⟩,.int .i64 0]) (n:=2) zk rfl rfl
instance:TSize Tryz.prog 110 1:=.of zk
instance:TOne Tryz.prog 110:=.of zk
instance:TOne Tryz.prog 111:=.of zk
instance:TField Tryz.prog 113 0 0:=.of zk
instance:TField Tryz.prog 113 1 1:=.of zk
instance:TField Tryz.prog 113 2 2:=.of zk
instance:TField Tryz.prog 113 3 3:=.of zk
instance:TField Tryz.prog 113 4 4:=.of zk
instance:TField Tryz.prog 113 5 5:=.of zk
instance:TField Tryz.prog 113 6 6:=.of zk
instance:TStruct Tryz.prog 113 [(0,1),(1,1),(2,1),(3,1),(4,1),(5,1),(6,1)]:=.of zk
instance:TZero Tryz.prog 113 [.map none,.map none,.map none,.map none,.string ⟨#[]⟩,.map none,.int .i64 0]:=.of (v:=.agg #[.map none,.map none,.map none,.map none,.string ⟨#[]⟩,.map none,.int .i64 0]) (n:=7) zk rfl rfl
instance:TSize Tryz.prog 115 2:=.of zk
instance:TAgg Tryz.prog 115 2:=.of zk
instance:TField Tryz.prog 115 0 0:=.of zk
instance:TField Tryz.prog 115 1 1:=.of zk
instance:TStruct Tryz.prog 115 [(0,1),(1,1)]:=.of zk
instance:TZero Tryz.prog 115 [.int .i64 0,.int .i64 0]:=.of (v:=.agg #[.int .i64 0,.int .i64 0]) (n:=2) zk rfl rfl
instance:TSlice Tryz.prog 116 115 2:=.of zk
instance:TField Tryz.prog 126 1 1:=.of zk
instance:TZero Tryz.prog 126 [.pointer none,.slice none 0 0]:=.of (v:=.agg #[.pointer none,.slice none 0 0]) (n:=2) zk rfl rfl
instance:TSlice Tryz.prog 133 208 2:=.of zk
instance:TOne Tryz.prog 151:=.of zk
instance:TSlice Tryz.prog 151 219 3:=.of zk
instance:TSize Tryz.prog 155 2:=.of zk
instance:TConcrete Tryz.prog 155:=.of zk
instance:TField Tryz.prog 155 0 0:=.of zk
instance:TField Tryz.prog 155 1 1:=.of zk
instance:TStruct Tryz.prog 155 [(0,1),(1,1)]:=.of zk
instance:TZero Tryz.prog 155 [.int .i64 0,.int .i64 0]:=.of (v:=.agg #[.int .i64 0,.int .i64 0]) (n:=2) zk rfl rfl
instance:TOne Tryz.prog 157:=.of zk
instance:TField Tryz.prog 159 0 0:=.of zk
instance:TField Tryz.prog 159 1 1:=.of zk
instance:TField Tryz.prog 159 2 2:=.of zk
instance:TStruct Tryz.prog 159 [(0,1),(1,1),(2,1)]:=.of zk
instance:TZero Tryz.prog 159 [.slice none 0 0,.int .i64 0,.int .i64 0]:=.of (v:=.agg #[.slice none 0 0,.int .i64 0,.int .i64 0]) (n:=3) zk rfl rfl
instance:TOne Tryz.prog 179:=.of zk
instance:TOne Tryz.prog 181:=.of zk
instance:TOne Tryz.prog 182:=.of zk
instance:TOne Tryz.prog 183:=.of zk
instance:TField Tryz.prog 185 0 0:=.of zk
instance:TField Tryz.prog 185 1 3:=.of zk
instance:TField Tryz.prog 185 2 4:=.of zk
instance:TField Tryz.prog 185 3 5:=.of zk
instance:TField Tryz.prog 185 4 6:=.of zk
instance:TField Tryz.prog 185 5 7:=.of zk
instance:TField Tryz.prog 185 6 8:=.of zk
instance:TField Tryz.prog 185 7 9:=.of zk
instance:TField Tryz.prog 185 8 10:=.of zk
instance:TStruct Tryz.prog 185 [(0,3),(3,1),(4,1),(5,1),(6,1),(7,1),(8,1),(9,1),(10,1)]:=.of zk
instance:TZero Tryz.prog 185 [.slice none 0 0,.slice none 0 0,.slice none 0 0,.map none,.slice none 0 0,.slice none 0 0,.int .i64 0,.int .i64 0,.map none,.map none,.map none]:=.of (v:=.agg #[.slice none 0 0,.slice none 0 0,.slice none 0 0,.map none,.slice none 0 0,.slice none 0 0,.int .i64 0,.int .i64 0,.map none,.map none,.map none]) (n:=11) zk rfl rfl
instance:TSize Tryz.prog 191 0:=.of zk
instance:TConcrete Tryz.prog 191:=.of zk
instance:TStruct Tryz.prog 191 []:=.of zk
instance:TZero Tryz.prog 191 []:=.of (v:=.agg #[]) (n:=0) zk rfl rfl
instance:TSize Tryz.prog 197 3:=.of zk
instance:TField Tryz.prog 197 0 0:=.of zk
instance:TField Tryz.prog 197 1 1:=.of zk
instance:TField Tryz.prog 197 2 2:=.of zk
instance:TStruct Tryz.prog 197 [(0,1),(1,1),(2,1)]:=.of zk
instance:TZero Tryz.prog 197 [.int .i64 0,.int .i64 0,.int .i64 0]:=.of (v:=.agg #[.int .i64 0,.int .i64 0,.int .i64 0]) (n:=3) zk rfl rfl
instance:TOne Tryz.prog 198:=.of zk
instance:TSlice Tryz.prog 198 22 1:=.of zk
instance:TSize Tryz.prog 208 2:=.of zk
instance:TAgg Tryz.prog 208 2:=.of zk
instance:TField Tryz.prog 208 0 0:=.of zk
instance:TField Tryz.prog 208 1 1:=.of zk
instance:TStruct Tryz.prog 208 [(0,1),(1,1)]:=.of zk
instance:TZero Tryz.prog 208 [.string ⟨#[]⟩,.int .i64 0]:=.of (v:=.agg #[.string ⟨#[]⟩,.int .i64 0]) (n:=2) zk rfl rfl
instance:TRow Tryz.prog 208 2 24:=.of zk
instance:TSize Tryz.prog 219 3:=.of zk
instance:TAgg Tryz.prog 219 3:=.of zk
instance:TField Tryz.prog 219 0 0:=.of zk
instance:TField Tryz.prog 219 1 1:=.of zk
instance:TField Tryz.prog 219 2 2:=.of zk
instance:TStruct Tryz.prog 219 [(0,1),(1,1),(2,1)]:=.of zk
instance:TZero Tryz.prog 219 [.int .i64 0,.string ⟨#[]⟩,.int .i64 0]:=.of (v:=.agg #[.int .i64 0,.string ⟨#[]⟩,.int .i64 0]) (n:=3) zk rfl rfl
instance:TRow Tryz.prog 219 3 32:=.of zk
instance:TSize Tryz.prog 234 1:=.of zk
instance:TConcrete Tryz.prog 234:=.of zk
instance:TField Tryz.prog 234 0 0:=.of zk
instance:TStruct Tryz.prog 234 [(0,1)]:=.of zk
instance:TZero Tryz.prog 234 [.int .i64 0]:=.of (v:=.agg #[.int .i64 0]) (n:=1) zk rfl rfl
instance:TSize Tryz.prog 235 1:=.of zk
instance:TOne Tryz.prog 235:=.of zk
instance:TZero Tryz.prog 235 [.nilFunc]:=.of (v:=.nilFunc) (n:=1) zk rfl rfl
instance:TKind Tryz.prog 242 .u64:=.of zk
instance:TSize Tryz.prog 287 1:=.of zk
instance:TOne Tryz.prog 287:=.of zk
instance:TZero Tryz.prog 287 [.nilFunc]:=.of (v:=.nilFunc) (n:=1) zk rfl rfl
instance:TEnter Tryz.prog 10:=.of zk
instance:TEnter Tryz.prog 11:=.of zk
instance:TEnter Tryz.prog 13:=.of zk
instance:TEnter Tryz.prog 17:=.of zk
instance:TEnter Tryz.prog 18:=.of zk
instance:TEnter Tryz.prog 19:=.of zk
instance:TEnter Tryz.prog 20:=.of zk
instance:TEnter Tryz.prog 21:=.of zk
instance:TEnter Tryz.prog 22:=.of zk
instance:TEnter Tryz.prog 24:=.of zk
instance:TEnter Tryz.prog 25:=.of zk
instance:TEnter Tryz.prog 26:=.of zk
instance:TEnter Tryz.prog 27:=.of zk
instance:TEnter Tryz.prog 28:=.of zk
instance:TEnter Tryz.prog 29:=.of zk
instance:TEnter Tryz.prog 30:=.of zk
instance:TEnter Tryz.prog 33:=.of zk
instance:TEnter Tryz.prog 39:=.of zk
instance:TEnter Tryz.prog 40:=.of zk
instance:TEnter Tryz.prog 41:=.of zk
instance:TEnter Tryz.prog 44:=.of zk
instance:TEnter Tryz.prog 45:=.of zk
instance:TEnter Tryz.prog 46:=.of zk
instance:TEnter Tryz.prog 47:=.of zk
instance:TEnter Tryz.prog 48:=.of zk
instance:TEnter Tryz.prog 49:=.of zk
instance:TEnter Tryz.prog 50:=.of zk
instance:TEnter Tryz.prog 51:=.of zk
instance:TEnter Tryz.prog 52:=.of zk
instance:TEnter Tryz.prog 53:=.of zk
instance:TEnter Tryz.prog 55:=.of zk
instance:TEnter Tryz.prog 56:=.of zk
instance:TEnter Tryz.prog 57:=.of zk
instance:TEnter Tryz.prog 58:=.of zk
instance:TEnter Tryz.prog 59:=.of zk
instance:TEnter Tryz.prog 68:=.of zk
instance:TEnter Tryz.prog 69:=.of zk
instance:TEnter Tryz.prog 70:=.of zk
instance:TEnter Tryz.prog 90:=.of zk
instance:TEnter Tryz.prog 91:=.of zk
instance:TEnter Tryz.prog 92:=.of zk
instance:TEnter Tryz.prog 93:=.of zk
instance:TEnter Tryz.prog 94:=.of zk
instance:TEnter Tryz.prog 95:=.of zk
instance:TEnter Tryz.prog 96:=.of zk
instance:TEnter Tryz.prog 97:=.of zk
instance:TEnter Tryz.prog 98:=.of zk
instance:TEnter Tryz.prog 99:=.of zk
instance:TEnter Tryz.prog 100:=.of zk
instance:TEnter Tryz.prog 101:=.of zk
instance:TEnter Tryz.prog 102:=.of zk
instance:TEnter Tryz.prog 103:=.of zk
instance:TEnter Tryz.prog 104:=.of zk
instance:TEnter Tryz.prog 105:=.of zk
instance:TEnter Tryz.prog 106:=.of zk
instance:TEnter Tryz.prog 107:=.of zk
instance:TEnter Tryz.prog 108:=.of zk
instance:TEnter Tryz.prog 109:=.of zk
instance:TEnter Tryz.prog 110:=.of zk
instance:TEnter Tryz.prog 112:=.of zk
instance:TEnter Tryz.prog 113:=.of zk
instance:TEnter Tryz.prog 114:=.of zk
instance:TEnter Tryz.prog 115:=.of zk
instance:TEnter Tryz.prog 116:=.of zk
instance:TEnter Tryz.prog 117:=.of zk
instance:TEnter Tryz.prog 118:=.of zk
instance:TEnter Tryz.prog 119:=.of zk
instance:TEnter Tryz.prog 120:=.of zk
instance:TEnter Tryz.prog 129:=.of zk
instance:TEnter Tryz.prog 130:=.of zk
instance:TEnter Tryz.prog 131:=.of zk
instance:TEnter Tryz.prog 132:=.of zk
instance:TEnter Tryz.prog 133:=.of zk
instance:TEnter Tryz.prog 134:=.of zk
instance:TEnter Tryz.prog 135:=.of zk
instance:TEnter Tryz.prog 136:=.of zk
instance:TEnter Tryz.prog 137:=.of zk
instance:TEnter Tryz.prog 145:=.of zk
instance:TEnter Tryz.prog 146:=.of zk
instance:TEnter Tryz.prog 147:=.of zk
instance:TEnter Tryz.prog 148:=.of zk
instance:TEnter Tryz.prog 149:=.of zk
instance:TEnter Tryz.prog 150:=.of zk
instance:TEnter Tryz.prog 151:=.of zk
instance:TEnter Tryz.prog 152:=.of zk
instance:TEnter Tryz.prog 153:=.of zk
instance:TEnter Tryz.prog 154:=.of zk
instance:TEnter Tryz.prog 155:=.of zk
instance:TEnter Tryz.prog 156:=.of zk
instance:TEnter Tryz.prog 157:=.of zk
instance:TEnter Tryz.prog 158:=.of zk
instance:TEnter Tryz.prog 159:=.of zk
instance:TEnter Tryz.prog 160:=.of zk
instance:TEnter Tryz.prog 161:=.of zk
instance:TEnter Tryz.prog 162:=.of zk
instance:TEnter Tryz.prog 163:=.of zk
instance:TEnter Tryz.prog 164:=.of zk
instance:TEnter Tryz.prog 165:=.of zk
instance:TEnter Tryz.prog 166:=.of zk
instance:TEnter Tryz.prog 167:=.of zk
instance:TEnter Tryz.prog 169:=.of zk
instance:TEnter Tryz.prog 170:=.of zk
instance:TEnter Tryz.prog 171:=.of zk
instance:TEnter Tryz.prog 172:=.of zk
instance:TEnter Tryz.prog 177:=.of zk
instance:TEnter Tryz.prog 178:=.of zk
instance:TEnter Tryz.prog 179:=.of zk
instance:TEnter Tryz.prog 180:=.of zk
instance:TEnter Tryz.prog 187:=.of zk
instance:TEnter Tryz.prog 188:=.of zk
instance:TEnter Tryz.prog 189:=.of zk
instance:TEnter Tryz.prog 190:=.of zk
instance:TEnter Tryz.prog 191:=.of zk
instance:TEnter Tryz.prog 192:=.of zk
instance:TEnter Tryz.prog 193:=.of zk
instance:TEnter Tryz.prog 194:=.of zk
instance:TEnter Tryz.prog 195:=.of zk
instance:TEnter Tryz.prog 199:=.of zk
instance:TEnter Tryz.prog 200:=.of zk
instance:TEnter Tryz.prog 201:=.of zk
instance:TEnter Tryz.prog 202:=.of zk
instance:TEnter Tryz.prog 203:=.of zk
instance:TEnter Tryz.prog 204:=.of zk
instance:TEnter Tryz.prog 205:=.of zk
instance:TEnter Tryz.prog 206:=.of zk
instance:TEnter Tryz.prog 215:=.of zk
instance:TEnter Tryz.prog 216:=.of zk
instance:TEnter Tryz.prog 217:=.of zk
instance:TEnter Tryz.prog 219:=.of zk
instance:TEnter Tryz.prog 220:=.of zk
instance:TEnter Tryz.prog 221:=.of zk
instance:TEnter Tryz.prog 233:=.of zk
instance:TEnter Tryz.prog 234:=.of zk
instance:TEnter Tryz.prog 235:=.of zk
instance:TEnter Tryz.prog 236:=.of zk
instance:TEnter Tryz.prog 242:=.of zk
instance:TEnter Tryz.prog 243:=.of zk
instance:TEnter Tryz.prog 244:=.of zk
instance:TEnter Tryz.prog 245:=.of zk
instance:TEnter Tryz.prog 246:=.of zk
instance:TEnter Tryz.prog 247:=.of zk
instance:TEnter Tryz.prog 248:=.of zk
instance:TEnter Tryz.prog 249:=.of zk
instance:TEnter Tryz.prog 265:=.of zk
instance:TEnter Tryz.prog 266:=.of zk
instance:TEnter Tryz.prog 267:=.of zk
instance:TEnter Tryz.prog 271:=.of zk
instance:TEnter Tryz.prog 272:=.of zk
instance:TEnter Tryz.prog 273:=.of zk
instance:TEnter Tryz.prog 290:=.of zk
instance:TEnter Tryz.prog 291:=.of zk
instance:TEnter Tryz.prog 292:=.of zk
instance:TEnter Tryz.prog 293:=.of zk
instance:TEnter Tryz.prog 294:=.of zk
instance:TEnter Tryz.prog 295:=.of zk
instance:TEnter Tryz.prog 304:=.of zk
instance:TEnter Tryz.prog 305:=.of zk
instance:TEnter Tryz.prog 306:=.of zk
end Go.Proofs.YtpbbgkoalnonoaaGreatDoor
namespace Go.GL
open Go.RowKit
@[reducible] def Ret (v:LV):LRes→Heap→Prop:=fun r H=>r=.ret v∧H=[]
@[reducible] def RetIf (p:LV→Prop):LRes→Heap→Prop:=fun r H=>∃ v,r=.ret v∧p v∧H=[]
section
variable {C:Ctx} {e:Env} {H:Heap} {dst:Option Nat} {ty:TypeId} {pos:String} {aft:Array Edge} {g:Option (Nat×Bool)} {K:LV→Heap→Prop} {X:List PanicEntry→Heap→Prop}
theorem sF {f:FuncId} [TEnter C.P f] (args:List Operand) {ats:Array TypeId} {avs:List LV} {lv:LV} (has:args.map e.ev=avs) (hc:LCalls C f avs [] (Ret lv)) (hk:K lv H) :
  LStep C ⟨dst,.call { callee:=.value (.func f),args:=args.toArray,argTypes:=ats },ty,pos,aft,g⟩ e H K X:=
 S.call0 args has hc (by rintro v H' ⟨h,rfl⟩;cases h;exact hk) (by rintro ch H' ⟨h,_⟩;cases h)
theorem S.fnIf {f:FuncId} [TEnter C.P f] (args:List Operand) {ats:Array TypeId} {avs:List LV} {p:LV→Prop} (has:args.map e.ev=avs) (hc:LCalls C f avs [] (RetIf p)) (hk:∀ lv,p lv→K lv H) :
  LStep C ⟨dst,.call { callee:=.value (.func f),args:=args.toArray,argTypes:=ats },ty,pos,aft,g⟩ e H K X:=
 S.call0 args has hc (by rintro v H' ⟨u,h,hp,rfl⟩;cases h;exact hk _ hp) (by rintro ch H' ⟨u,h,_⟩;cases h)
theorem S.fnV {fo:Operand} {f:FuncId} [TEnter C.P f] {first caps:Array Value} (args:List Operand) {ats:Array TypeId} {avs:List LV} {lv:LV} (hf:e.ev fo=.atom (.func (.func f) first caps))
  (has:first.toList.map .atom++args.map e.ev++caps.toList.map .atom=avs) (hc:LCalls C f avs [] (Ret lv)) (hk:K lv H) :
  LStep C ⟨dst,.call { callee:=.value fo,args:=args.toArray,argTypes:=ats },ty,pos,aft,g⟩ e H K X:=
 S.callV (H1:=[]) (F:=H) args hf has zpr hc (by rintro v H' ⟨h,rfl⟩;cases h;exact hk) (by rintro ch H' ⟨h,_⟩;cases h)
theorem retRet {n:Nat} {rs:List ResultVar} {vs:List LV} {lv:LV} (hd:e.ds=[]) (h:AllRes C n e H rs vs) (hv:resLV vs=lv):RetPost C n rs (Ret lv) .ret e H:=
 rR hd h zhn ⟨by rw[hv],rfl⟩
theorem retRetIf {n:Nat} {rs:List ResultVar} {vs:List LV} {p:LV→Prop} (hd:e.ds=[]) (h:AllRes C n e H rs vs) (hv:p (resLV vs)):RetPost C n rs (RetIf p) .ret e H:=
 rR hd h zhn ⟨_,rfl,hv,rfl⟩
end
theorem fr_below {C:Ctx} {w w':World} {L:Live} (hH:RelH C w L []) (h:Below w.heap.size w w'):Fr (keys []) w L w' L []∧RelH C w' L []:=by
 refine ⟨⟨h.os,h.tape,h.output,⟨h.size,fun b hb=>shape_of_heap (h.block b hb),fun b i hi=>?_,fun _=>zNr _⟩,fun b hb _=>h.block b hb,fun _ _ _=>rfl,by simp⟩,
  ⟨hH.base.trans (h.mono hH.b0),hH.lbase,zNt hH.b0 h.size,fun b hb=>hH.wf b (zNt h.size hb),List.nodup_nil,by simp⟩⟩
 have hb:b<w.heap.size:=by
  rcases Nat.lt_or_ge b w.heap.size with h1|h1
  ·exact h1
  ·have:=hH.wf b h1;omega
 exact cell_of_heap (h.block b hb) i
theorem LCalls.of_below {C:Ctx} {f:FuncId} {vs:List Value} {p:Value→Prop}
  (h:∀ w,Below C.B0 C.w0 w→Calls C.P f vs.toArray w (fun e w'=>∃ v,e=.returned v∧p v∧Below w.heap.size w w')):LCalls C f (vs.map .atom) [] (fun r H=>∃ v,r=.ret (.atom v)∧p v∧H=[]):=fun xs w L hv hH=>by
 have hx:xs=vs:=by
  clear h hH
  induction vs generalizing xs with
  |nil=>simpa [RepL] using hv
  |cons v vs ih=>
   simp only[zMc,RepL,Rep] at hv
   obtain ⟨y,ys,rfl,rfl,hv⟩:=hv
   rw[ih _ hv]
 subst hx
 refine (h w hH.base).mono fun e w' he=>?_
 obtain ⟨v,rfl,hp,hb⟩:=he
 obtain ⟨h1,h2⟩:=fr_below hH hb
 exact ⟨.atom v,[],L,h1,h2,rep_atom,v,rfl,hp,rfl⟩
theorem LCalls.of_belowT {C:Ctx} {f:FuncId} {vs:List Value} {p:List Value→Prop}
  (h:∀ w,Below C.B0 C.w0 w→Calls C.P f vs.toArray w (fun e w'=>∃ us:List Value,e=.returned (.tuple us.toArray)∧p us∧Below w.heap.size w w')):LCalls C f (vs.map .atom) [] (RetIf fun lv=>∃ us,p us∧lv=.tuple (us.map .atom)):=fun xs w L hv hH=>by
 have hx:xs=vs:=by
  clear h hH
  induction vs generalizing xs with
  |nil=>simpa [RepL] using hv
  |cons v vs ih=>
   simp only[zMc,RepL,Rep] at hv
   obtain ⟨y,ys,rfl,rfl,hv⟩:=hv
   rw[ih _ hv]
 subst hx
 refine (h w hH.base).mono fun e w' he=>?_
 obtain ⟨us,rfl,hp,hb⟩:=he
 obtain ⟨h1,h2⟩:=fr_below hH hb
 exact ⟨.tuple (us.map .atom),[],L,h1,h2,by simp only[Rep];exact ⟨us,rfl,repL_atoms _⟩,_,rfl,⟨us,hp,rfl⟩,rfl⟩
theorem LCalls.ret_of {C:Ctx} {f:FuncId} {vs:List Value} {u:Value}
  (h:∀ w,Below C.B0 C.w0 w→Calls C.P f vs.toArray w (fun e w'=>e=.returned u∧Below w.heap.size w w')):LCalls C f (vs.map .atom) [] (Ret (.atom u)):=
 LCalls.mono (LCalls.of_below (p:=fun v=>v=u) fun w hw=>(h w hw).mono fun e w' he=>⟨u,he.1,rfl,he.2⟩) fun r H' ⟨v,h1,h2,h3⟩=>⟨by rw[h1,h2],h3⟩
def AllSlots (e:Env):List (Nat×LV)→Prop
 |[]=>True
 |(d,v)::r=>e.s d=v∧AllSlots e r
theorem AllSlots.mem {e:Env}:∀ {l:List (Nat×LV)},AllSlots e l→∀ p∈l,e.s p.1=p.2
 |[],_,p,hp=>by cases hp
 |(d,v)::r,h,p,hp=>by
  rcases zMi.1 hp with rfl|hp
  ·exact h.1
  ·exact AllSlots.mem h.2 p hp
def Again (I:Nat→List (Nat×LV)→Heap→Prop) (k:Nat) (ds:List Deferred) (e':Env) (H':Heap):Prop:=
 ∃ m l' H'',m<k∧I m l' H''∧AllSlots e' l'∧HSub H'' H'∧e'.ds=ds
theorem oL {C:Ctx} {n:Nat} {c:Code} {Q:Post} {e:Env} {H:Heap} (I:Nat→List (Nat×LV)→Heap→Prop) (h0:∃ k l H0,I k l H0∧AllSlots e l∧HSub H0 H)
  (round:∀ k l H,I k l H→∀ j:Env,j.ds=e.ds→LCode C n c (QThen (Again I k e.ds) Q) (Env.slots j l) H):LCode C n (.loop c) Q e H:=by
 obtain ⟨k,l,H0,h0,h1,h2⟩:=h0
 refine LCode.weak h2 (LCode.loop (fun k e' H'=>∃ l H0,I k l H0∧AllSlots e' l∧HSub H0 H'∧e'.ds=e.ds) k ⟨l,H0,h0,h1,zhR _,rfl⟩ ?_)
 rintro k e' H' ⟨l,H0,g0,g1,g2,g3⟩
 have:=round k l H0 g0 e' g3
 rw[Env.slots_self g1.mem] at this
 refine LCode.weak g2 (LCode.conseq this ?_)
 rintro ex e2 H2 hq
 cases ex with
 |normal=>
  obtain ⟨m,l',H3,r1,r2,r3,r4,r5⟩:=hq
  exact ⟨m,r1,l',H3,r2,r3,r4,r5⟩
 |exit id=>exact hq
 |goto id=>exact hq
 |ret=>exact hq
 |panic ch=>exact hq
 |outgrown=>exact hq
theorem bool_eq {a b:Bool} (h:a=b):bool a=bool b:=by rw[h]
def At (l:List (Nat×LV)) (H1:Heap) (ds:List Deferred) (e':Env) (H':Heap):Prop:=AllSlots e' l∧H'=H1∧e'.ds=ds
theorem LOps.cutTo {C:Ctx} {n:Nat} {ops:Array Oper} {rest:List Oper} {Q:Post} {e:Env} {H:Heap} {k:Env→Heap→Prop} (l:List (Nat×LV)) (H1:Heap)
  (hx:LOps C n ops (QThen (At l H1 e.ds) Q) rest e H) (hy:∀ j:Env,j.ds=e.ds→k (Env.slots j l) H1):LOps C n ops (QThen k Q) rest e H:=by
 refine LOps.conseq hx ?_
 rintro ex e' H' hq
 cases ex with
 |normal=>
  obtain ⟨h1,rfl,h3⟩:=hq
  have:=hy e' h3
  rw[Env.slots_self h1.mem] at this
  exact this
 |exit id=>exact hq
 |goto id=>exact hq
 |ret=>exact hq
 |panic ch=>exact hq
 |outgrown=>exact hq
theorem LCode.cutTo {C:Ctx} {n:Nat} {c:Code} {Q:Post} {e:Env} {H:Heap} {k:Env→Heap→Prop} (l:List (Nat×LV)) (H1:Heap)
  (hx:LCode C n c (QThen (At l H1 e.ds) Q) e H) (hy:∀ j:Env,j.ds=e.ds→k (Env.slots j l) H1):LCode C n c (QThen k Q) e H:=by
 refine LCode.conseq hx ?_
 rintro ex e' H' hq
 cases ex with
 |normal=>
  obtain ⟨h1,rfl,h3⟩:=hq
  have:=hy e' h3
  rw[Env.slots_self h1.mem] at this
  exact this
 |exit id=>exact hq
 |goto id=>exact hq
 |ret=>exact hq
 |panic ch=>exact hq
 |outgrown=>exact hq
theorem LOps.cut {C:Ctx} {n:Nat} {ops:Array Oper} {rest:List Oper} {Q:Post} {e:Env} {H:Heap} {k:Env→Heap→Prop} (l:List (Nat×LV))
  (hx:LOps C n ops (QThen (At l H e.ds) Q) rest e H) (hy:∀ j:Env,j.ds=e.ds→k (Env.slots j l) H):LOps C n ops (QThen k Q) rest e H:=LOps.cutTo l H hx hy
theorem LCode.cut {C:Ctx} {n:Nat} {c:Code} {Q:Post} {e:Env} {H:Heap} {k:Env→Heap→Prop} (l:List (Nat×LV))
  (hx:LCode C n c (QThen (At l H e.ds) Q) e H) (hy:∀ j:Env,j.ds=e.ds→k (Env.slots j l) H):LCode C n c (QThen k Q) e H:=LCode.cutTo l H hx hy
theorem yielded_undef {ops:Array Oper} {n:Nat} {a:Act} {e:Env} {w:World} {L:Live} (hE:RelE n a e w L) {j d:Nat} (hj:(ops[j]?).bind (·.dst)=some d) (hb:e.s d=.atom undef):yielded ops a.tmps j=none:=by
 have h:=hE.vals d
 rw[hb] at h
 simp only[Rep] at h
 unfold yielded
 rw[hj]
 simp only[Option.bind_some]
 rw[Array.getD_eq_getD_getElem?] at h
 cases hx:a.tmps[d]? with
 |none=>rfl
 |some x=>rw[hx] at h;simp only[Option.getD_some] at h;subst h;rfl
theorem LOps.skipU {C:Ctx} {n:Nat} {ops:Array Oper} {Q:Post} {e:Env} {H:Heap} {dst:Option Nat} {op:Op} {ty:TypeId} {pos:String} {aft:Array Edge} {rest:List Oper} {j d:Nat} {c:Bool}
  (hj:(ops[j]?).bind (·.dst)=some d) (hb:e.s d=.atom undef) (hd:dstOk n dst)
  (k:LOps C n ops Q rest (e.put dst (.atom undef)) H):LOps C n ops Q (⟨dst,op,ty,pos,aft,some (j,c)⟩::rest) e H:=fun a w L hE hH=>by
 unfold wpList
 rw[if_neg (by simp[Region.wanted,yielded_undef hE hj hb])]
 exact k _ w L (hE.put hd (by simp only[Rep])) hH
theorem int_eq {k:IntKind} {a b:Int} (h:a=b):int k a=int k b:=by rw[h]
end Go.GL
namespace Go.Stele
@[reducible] def cv (c:UInt8):Int:=(c.toNat:Int)
def isDigit (c:UInt8):Bool:=decide (48≤cv c) && decide (cv c≤57)
def isLetter (c:UInt8):Bool:=decide (97≤cv c) && decide (cv c≤122)
def isInner (c:UInt8):Bool:=isLetter c || isDigit c || decide (cv c=95)
def notNl (c:UInt8):Bool:=!decide (cv c=10)
def isWhite (c:UInt8):Bool:=decide (cv c=32) || decide (cv c=9) || decide (cv c=10)
structure Tok where
 kind:Int
 text:List UInt8
 line:Int
 deriving DecidableEq,Inhabited
end Go.Stele
namespace Go.Stele
theorem takeWhile_step {p:UInt8→Bool} {s:List UInt8} {m:Nat} (hm:m<s.length) (h:s.takeWhile p=s.take m++(s.drop m).takeWhile p) :
  (p s[m]=true→s.takeWhile p=s.take (m+1)++(s.drop (m+1)).takeWhile p)∧(p s[m]=false→s.takeWhile p=s.take m):=by
 have h1:s.drop m=s[m]::s.drop (m+1):=List.drop_eq_getElem_cons hm
 constructor
 ·intro hp
  rw[h,h1,List.takeWhile_cons_of_pos hp,List.take_succ_eq_append_getElem hm]
  simp only[zAs,List.singleton_append]
 ·intro hp
  rw[h,h1,List.takeWhile_cons_of_neg (by simp[hp])]
  simp
theorem takeWhile_end {p:UInt8→Bool} {s:List UInt8} {m:Nat} (hm:s.length≤m) (h:s.takeWhile p=s.take m++(s.drop m).takeWhile p):s.takeWhile p=s.take m:=by
 rw[h,List.drop_eq_nil_of_le hm]
 simp
def skipLen (s:List UInt8):Nat:=if [47,47].isPrefixOf s then (s.takeWhile notNl).length else (s.takeWhile isWhite).length
end Go.Stele
/- What the lexer computes, in plain Lean: tokens. -/
namespace Go.Stele
def zeroTok:Tok:=⟨0,[],0⟩
abbrev TokR:=Tok×Nat×Int
def tokErr (e:Int):TokR:=(zeroTok,0,e)
def wordNext (s:List UInt8) (n:Nat):Bool:=match s[n]? with
 |some c=>isLetter c || decide (cv c=95)
 |none=>false
def lexNumber (s:List UInt8):TokR:=
 if wordNext s (s.takeWhile isDigit).length then tokErr 3 else
  match Go.Lib.parseUintB 32 (s.takeWhile isDigit) with
  |.ok u=>(⟨1,Go.Lib.decDigits u,0⟩,(s.takeWhile isDigit).length,0)
  |_=>tokErr 2
def lexLiteral:List UInt8→TokR
 |_::b::c::_=>if (!decide (cv c=39)) || decide (cv b<32) || decide (126<cv b) || decide (cv b=39) || decide (cv b=92) then tokErr 3 else (⟨1,Go.Lib.decDigits b.toNat,0⟩,3,0)
 |_=>tokErr 3
def keywords:List (List UInt8):=[[97,114,114,97,121],[101,108,115,101],[102,117,110,99],[104,97,108,116],[105,102],[114,101,116,117,114,110],[118,97,114],[119,104,105,108,101]]
def signs:List (List UInt8):=[[38,38],[124,124],[61,61],[33,61],[60,61],[62,61],[60],[62],[94],[43],[45],[42],[47],[37],[33],[61],[40],[41],[123],[125],[91],[93],[44],[59]]
def lexName (s:List UInt8):TokR:=
 if 24<(s.takeWhile isInner).length then tokErr 7 else (⟨if keywords.contains (s.takeWhile isInner) then 3 else 2,s.takeWhile isInner,0⟩,(s.takeWhile isInner).length,0)
def lexSign (s:List UInt8):TokR:=match signs.find? (fun x=>x.isPrefixOf s) with
 |some x=>(⟨4,x,0⟩,x.length,0)
 |none=>tokErr 3
def lexToken (s:List UInt8):TokR:=match s with
 |[]=>tokErr 3
 |c::_=>if isDigit c then lexNumber s else if isLetter c then lexName s else if decide (cv c=39) then lexLiteral s else lexSign s
def lexP:Nat→List UInt8→Int→Except (Int×Int) (List Tok)
 |0,_,_=>.ok []
 |fuel+1,s,line=>
  if s=[] then .ok [] else
  if skipLen s=0 then
   if (lexToken s).2.2≠0 then .error (line,(lexToken s).2.2)
   else (lexP fuel (s.drop (lexToken s).2.1) (line+((s.take (lexToken s).2.1).count 10:Nat))).map ({ (lexToken s).1 with line:=line }::·)
  else lexP fuel (s.drop (skipLen s)) (line+((s.take (skipLen s)).count 10:Nat))
end Go.Stele
namespace Go.Stele
theorem takeWhile_le (p:UInt8→Bool) (s:List UInt8):(s.takeWhile p).length≤s.length:=(List.takeWhile_prefix p).length_le
theorem lexToken_size (s:List UInt8) (h:(lexToken s).2.2=0):0<(lexToken s).2.1∧(lexToken s).2.1≤s.length:=by
 match s with
 |[]=>simp[lexToken,tokErr] at h
 |c::r=>
  simp only[lexToken] at h ⊢
  split at h <;> rename_i hc
  ·rw[if_pos hc]
   unfold lexNumber at h ⊢
   split at h
   ·simp[tokErr] at h
   ·rename_i hw
    rw[if_neg hw]
    split at h
    ·rename_i u hu
     refine ⟨?_,takeWhile_le _ _⟩
     rw[List.takeWhile_cons_of_pos hc]
     simp
    ·simp[tokErr] at h
  ·rw[if_neg hc]
   split at h <;> rename_i hl
   ·rw[if_pos hl]
    unfold lexName at h ⊢
    split at h
    ·simp[tokErr] at h
    ·rename_i hw
     rw[if_neg hw]
     refine ⟨?_,takeWhile_le _ _⟩
     rw[List.takeWhile_cons_of_pos (by simp[isInner,hl])]
     simp
   ·rw[if_neg hl]
    split at h <;> rename_i hq
    ·rw[if_pos hq]
     unfold lexLiteral at h ⊢
     split at h
     ·split at h
      ·simp[tokErr] at h
      ·rename_i hx
       rename_i heq
       rw[if_neg hx,heq]
       simp
     ·simp[tokErr] at h
    ·rw[if_neg hq]
     unfold lexSign at h ⊢
     split at h
     ·rename_i x hx
      have h1:=List.find?_some hx
      have h2:=List.mem_of_find?_eq_some hx
      refine ⟨?_,(List.isPrefixOf_iff_prefix.1 h1).length_le⟩
      have:∀ x∈signs,0<x.length:=by decide
      exact this x h2
     ·simp[tokErr] at h
theorem skipLen_le (s:List UInt8):skipLen s≤s.length:=by
 unfold skipLen
 split <;> exact takeWhile_le _ _
end Go.Stele
namespace Go.Proofs.YtpbbgkoalnonoaaGreatDoor
open Go.GL Go.RowKit Go.Stele
noncomputable abbrev KC (B0:Nat) (w0:World):Ctx:=⟨Tryz.prog,B0,w0⟩
attribute [local irreducible] LOps LCode LStep LCalls Go.GL.Pure QThen QBlock RetPost
section
variable {B0:Nat} {w0:World}
theorem digit_spec (c:UInt8):LCalls (KC B0 w0) 190 [int .u8 c.toNat] [] (Ret (bool (isDigit c))):=by
 refine cI Tryz.func190 rfl (n:=9) rfl rfl rfl ?_
 refine gac ?_
 refine oB 5 rfl (fun ht=>?_) (fun ht=>?_)
 ·refine gad ?_
  exact retRet rfl (zra rfl) (by simp[resLV,isDigit,ht])
 ·refine gaa ?_
  exact retRet rfl (zra rfl) (by simp[resLV,isDigit,ht])
theorem letter_spec (c:UInt8):LCalls (KC B0 w0) 192 [int .u8 c.toNat] [] (Ret (bool (isLetter c))):=by
 refine cI Tryz.func192 rfl (n:=9) rfl rfl rfl ?_
 refine gac ?_
 refine oB 5 rfl (fun ht=>?_) (fun ht=>?_)
 ·refine gad ?_
  exact retRet rfl (zra rfl) (by simp[resLV,isLetter,ht])
 ·refine gaa ?_
  exact retRet rfl (zra rfl) (by simp[resLV,isLetter,ht])
theorem notNl_spec (c:UInt8):LCalls (KC B0 w0) 188 [int .u8 c.toNat] [] (Ret (bool (notNl c))):=by
 refine cI Tryz.func188 rfl (n:=5) rfl rfl rfl ?_
 refine gab ?_
 exact retRet rfl (zra rfl) rfl
theorem inner_spec (c:UInt8):LCalls (KC B0 w0) 234 [int .u8 c.toNat] [] (Ret (bool (isInner c))):=by
 refine cI Tryz.func234 rfl (n:=13) rfl rfl rfl ?_
 refine gao ?_
 refine oS (sF [_] rfl (letter_spec c) ?_) rfl
 refine gaa ?_
 refine oB 5 rfl (fun ht=>?_) (fun ht=>?_)
 ·refine gaa ?_
  exact retRet rfl (zra rfl) (by simp[resLV,isInner,ht])
 ·refine gaa ?_
  refine oS (sF [_] rfl (digit_spec c) ?_) rfl
  refine gaa ?_
  refine oB 9 rfl (fun hd=>?_) (fun hd=>?_)
  ·refine gaa ?_
   exact retRet rfl (zra rfl) (by simp[resLV,isInner,ht,hd])
  ·refine gaa ?_
   exact retRet rfl (zra rfl) (by simp[resLV,isInner,ht,hd])
theorem white_spec (c:UInt8):LCalls (KC B0 w0) 189 [int .u8 c.toNat] [] (Ret (bool (isWhite c))):=by
 refine cI Tryz.func189 rfl (n:=13) rfl rfl rfl ?_
 refine gab ?_
 refine oB 5 rfl (fun ht=>?_) (fun ht=>?_)
 ·refine gaa ?_
  exact retRet rfl (zra rfl) (by simp[resLV,isWhite,ht])
 ·refine gaa ?_
  refine oB 9 rfl (fun hd=>?_) (fun hd=>?_)
  ·refine gaa ?_
   exact retRet rfl (zra rfl) (by simp[resLV,isWhite,ht,hd])
  ·refine gaa ?_
   exact retRet rfl (zra rfl) (by simp[resLV,isWhite,ht,hd])
end
end Go.Proofs.YtpbbgkoalnonoaaGreatDoor
namespace Go.Proofs
def Tryz.lays156_ren:Go.Shelf.Ren:=⟨fun|156=>29|165=>54|166=>55|169=>56|240=>110|241=>111|276=>173|277=>174|n=>n,fun|31=>22|9=>9|3=>3|4=>4|0=>0|20=>20|72=>126|76=>130|70=>124|37=>96|75=>129|127=>203|164=>244|5=>5|80=>132|n=>n,fun|n=>n⟩
theorem Tryz.lays156:Go.Proofs.Lays.n156 Tryz.prog Tryz.lays156_ren:={
 mixed:=by kernel_rfl
 f156:=Tryz.func29.trans zCs
 f165:=Tryz.func54.trans zCs
 f166:=Tryz.func55.trans zCs
 f169:=Tryz.func56.trans zCs
 f240:=Tryz.func110.trans zCs
 f241:=Tryz.func111.trans zCs
 f276:=Tryz.func173.trans zCs
 f277:=Tryz.func174.trans zCs
 t0:=Tryz.underlying0
 a0:=Tryz.isAgg0
 z0:=Tryz.sizeOf0
 v0:=Tryz.zeroValue0
 t3:=Tryz.underlying3
 a3:=Tryz.isAgg3
 z3:=Tryz.sizeOf3
 v3:=Tryz.zeroValue3
 t4:=Tryz.underlying4
 a4:=Tryz.isAgg4
 z4:=Tryz.sizeOf4
 v4:=Tryz.zeroValue4
 t9:=Tryz.underlying9
 a9:=Tryz.isAgg9
 z9:=Tryz.sizeOf9
 v9:=Tryz.zeroValue9
 t20:=Tryz.underlying20
 a20:=Tryz.isAgg20
 z20:=Tryz.sizeOf20
 v20:=Tryz.zeroValue20
 t31:=Tryz.underlying22
 a31:=Tryz.isAgg22
 z31:=Tryz.sizeOf22
 v31:=Tryz.zeroValue22
 t37:=Tryz.underlying96
 a37:=Tryz.isAgg96
 z37:=Tryz.sizeOf96
 v37:=Tryz.zeroValue96
 t70:=Tryz.underlying124
 a70:=Tryz.isAgg124
 z70:=Tryz.sizeOf124
 v70:=Tryz.zeroValue124
 t72:=Tryz.underlying126
 a72:=Tryz.isAgg126
 z72:=Tryz.sizeOf126
 v72:=Tryz.zeroValue126
 t75:=Tryz.underlying129
 a75:=Tryz.isAgg129
 z75:=Tryz.sizeOf129
 v75:=Tryz.zeroValue129
 t76:=Tryz.underlying130
 a76:=Tryz.isAgg130
 z76:=Tryz.sizeOf130
 v76:=Tryz.zeroValue130
 t127:=Tryz.underlying203
 a127:=Tryz.isAgg203
 z127:=Tryz.sizeOf203
 v127:=Tryz.zeroValue203
 t164:=Tryz.underlying244
 a164:=Tryz.isAgg244
 z164:=Tryz.sizeOf244
 v164:=Tryz.zeroValue244 }
theorem Tryz.Builder_Extra_156:Builder.Extra Tryz.prog Tryz.lays156_ren:={
 sizeBuilder:=by kernel_rfl
 liesBuilder:=by kernel_rfl
 t5:=Tryz.underlying5
 a5:=Tryz.isAgg5
 z5:=Tryz.sizeOf5
 v5:=Tryz.zeroValue5
 infoByte:=by kernel_rfl
 cellsByte:=by kernel_rfl
 sizeByte:=by kernel_rfl
 neB5:=by decide }
open Go.RowKit in
theorem Tryz.strings_Join_none (a:Option Addr) (c:Nat) (sep:ByteArray) (w:World) :
  Calls Tryz.prog 29 #[.slice a 0 c,.string sep] w fun e w'=>e=.returned (.string ⟨#[]⟩)∧w'=w:=Any.strings_Join_none Tryz.lays156 Tryz.Builder_Extra_156 a c sep w
open Go.RowKit in
theorem Tryz.strings_Join (bk o c:Nat) (xs:List ByteArray) (sep:ByteArray) (w:World) (hcells:∀ (j:Nat) x,xs[j]? = some x→w.cell? ⟨bk,o+j,none⟩=some (.string x)) (hbk:bk<w.heap.size) (hN:xs.length≤140737488355328) (hcap:xs.length≤c) (hlen:(Lib.join (xs.map (·.data.toList)) sep.data.toList).length≤140737488355328) :
  Calls Tryz.prog 29 #[.slice (some ⟨bk,o,none⟩) xs.length c,.string sep] w fun e w'=>e=.returned (.string ⟨(Lib.join (xs.map (·.data.toList)) sep.data.toList).toArray⟩)∧Below w.heap.size w w':=Any.strings_Join Tryz.lays156 Tryz.Builder_Extra_156 bk o c xs sep w hcells hbk hN hcap hlen
def Tryz.lays160_ren:Go.Shelf.Ren:=⟨fun|160=>180|232=>227|231=>226|227=>228|234=>230|233=>229|236=>232|235=>231|228=>260|271=>262|151=>261|197=>254|120=>283|152=>282|260=>279|137=>300|119=>301|224=>257|225=>256|217=>255|266=>280|n=>n,fun|9=>9|4=>4|3=>3|5=>5|117=>264|116=>263|0=>0|124=>267|21=>21|105=>281|46=>284|119=>310|139=>313|138=>312|n=>n,fun|3=>2|4=>3|n=>n⟩
theorem Tryz.lays160:Go.Proofs.Lays.n160 Tryz.prog Tryz.lays160_ren:={
 mixed:=by kernel_rfl
 f119:=Tryz.func301.trans zCs
 f120:=Tryz.func283.trans zCs
 f137:=Tryz.func300.trans zCs
 f151:=Tryz.func261.trans zCs
 f152:=Tryz.func282.trans zCs
 f160:=Tryz.func180.trans zCs
 f197:=Tryz.func254.trans zCs
 f217:=Tryz.func255.trans zCs
 f224:=Tryz.func257.trans zCs
 f225:=Tryz.func256.trans zCs
 f227:=Tryz.func228.trans zCs
 f228:=Tryz.func260.trans zCs
 f231:=Tryz.func226.trans zCs
 f232:=Tryz.func227.trans zCs
 f233:=Tryz.func229.trans zCs
 f234:=Tryz.func230.trans zCs
 f235:=Tryz.func231.trans zCs
 f236:=Tryz.func232.trans zCs
 f260:=Tryz.func279.trans zCs
 f266:=Tryz.func280.trans zCs
 f271:=Tryz.func262.trans zCs
 t0:=Tryz.underlying0
 a0:=Tryz.isAgg0
 z0:=Tryz.sizeOf0
 v0:=Tryz.zeroValue0
 t3:=Tryz.underlying3
 a3:=Tryz.isAgg3
 z3:=Tryz.sizeOf3
 v3:=Tryz.zeroValue3
 t4:=Tryz.underlying4
 a4:=Tryz.isAgg4
 z4:=Tryz.sizeOf4
 v4:=Tryz.zeroValue4
 t5:=Tryz.underlying5
 a5:=Tryz.isAgg5
 z5:=Tryz.sizeOf5
 v5:=Tryz.zeroValue5
 t9:=Tryz.underlying9
 a9:=Tryz.isAgg9
 z9:=Tryz.sizeOf9
 v9:=Tryz.zeroValue9
 t21:=Tryz.underlying21
 a21:=Tryz.isAgg21
 z21:=Tryz.sizeOf21
 v21:=Tryz.zeroValue21
 t46:=Tryz.underlying284
 a46:=Tryz.isAgg284
 z46:=Tryz.sizeOf284
 v46:=Tryz.zeroValue284
 t105:=Tryz.underlying281
 a105:=Tryz.isAgg281
 z105:=Tryz.sizeOf281
 v105:=Tryz.zeroValue281
 t116:=Tryz.underlying263
 a116:=Tryz.isAgg263
 z116:=Tryz.sizeOf263
 t117:=Tryz.underlying264
 a117:=Tryz.isAgg264
 z117:=Tryz.sizeOf264
 v117:=Tryz.zeroValue264
 t119:=Tryz.underlying310
 a119:=Tryz.isAgg310
 z119:=Tryz.sizeOf310
 t124:=Tryz.underlying267
 a124:=Tryz.isAgg267
 z124:=Tryz.sizeOf267
 v124:=Tryz.zeroValue267
 t138:=Tryz.underlying312
 a138:=Tryz.isAgg312
 z138:=Tryz.sizeOf312
 v138:=Tryz.zeroValue312
 t139:=Tryz.underlying313
 a139:=Tryz.isAgg313
 z139:=Tryz.sizeOf313
 v139:=Tryz.zeroValue313
 g3:=by kernel_rfl
 g4:=by kernel_rfl }
def Tryz.lays103_ren:Go.Shelf.Ren:=⟨fun|103=>179|210=>225|206=>42|n=>n,fun|9=>9|4=>4|24=>209|3=>3|n=>n,fun|n=>n⟩
theorem Tryz.lays103:Go.Proofs.Lays.n103 Tryz.prog Tryz.lays103_ren:={
 mixed:=by kernel_rfl
 f103:=Tryz.func179.trans zCs
 f206:=Tryz.func42.trans zCs
 f210:=Tryz.func225.trans zCs
 t3:=Tryz.underlying3
 a3:=Tryz.isAgg3
 z3:=Tryz.sizeOf3
 v3:=Tryz.zeroValue3
 t4:=Tryz.underlying4
 a4:=Tryz.isAgg4
 z4:=Tryz.sizeOf4
 v4:=Tryz.zeroValue4
 t9:=Tryz.underlying9
 a9:=Tryz.isAgg9
 z9:=Tryz.sizeOf9
 v9:=Tryz.zeroValue9
 t24:=Tryz.underlying209
 a24:=Tryz.isAgg209
 z24:=Tryz.sizeOf209
 v24:=Tryz.zeroValue209 }
open Go.RowKit in
theorem Tryz.strings_CutPrefix (s p:ByteArray) (w:World) :
  Calls Tryz.prog 179 #[.string s,.string p] w fun e w'=>e=.returned (.tuple #[.string ⟨(Lib.trimPrefix s.data.toList p.data.toList).toArray⟩,.bool (Lib.hasPrefix s.data.toList p.data.toList)])∧w'=w:=Any.strings_CutPrefix Tryz.lays103 s p w
def Tryz.lays104_ren:Go.Shelf.Ren:=⟨fun|104=>177|211=>224|207=>259|n=>n,fun|9=>9|4=>4|24=>209|3=>3|n=>n,fun|n=>n⟩
theorem Tryz.lays104:Go.Proofs.Lays.n104 Tryz.prog Tryz.lays104_ren:={
 mixed:=by kernel_rfl
 f104:=Tryz.func177.trans zCs
 f207:=Tryz.func259.trans zCs
 f211:=Tryz.func224.trans zCs
 t3:=Tryz.underlying3
 a3:=Tryz.isAgg3
 z3:=Tryz.sizeOf3
 v3:=Tryz.zeroValue3
 t4:=Tryz.underlying4
 a4:=Tryz.isAgg4
 z4:=Tryz.sizeOf4
 v4:=Tryz.zeroValue4
 t9:=Tryz.underlying9
 a9:=Tryz.isAgg9
 z9:=Tryz.sizeOf9
 v9:=Tryz.zeroValue9
 t24:=Tryz.underlying209
 a24:=Tryz.isAgg209
 z24:=Tryz.sizeOf209
 v24:=Tryz.zeroValue209 }
open Go.RowKit in
theorem Tryz.strings_CutSuffix (s p:ByteArray) (w:World) (hs:s.size≤9223372036854775807) :
  Calls Tryz.prog 177 #[.string s,.string p] w fun e w'=>e=.returned (.tuple #[.string ⟨(Lib.trimSuffix s.data.toList p.data.toList).toArray⟩,.bool (Lib.hasSuffix s.data.toList p.data.toList)])∧w'=w:=Any.strings_CutSuffix Tryz.lays104 s p w hs
def Tryz.lays283_ren:Go.Shelf.Ren:=⟨fun|283=>250|n=>n,fun|3=>3|9=>9|4=>4|n=>n,fun|n=>n⟩
theorem Tryz.lays283:Go.Proofs.Lays.n283 Tryz.prog Tryz.lays283_ren:={
 mixed:=by kernel_rfl
 f283:=Tryz.func250.trans zCs
 t3:=Tryz.underlying3
 a3:=Tryz.isAgg3
 z3:=Tryz.sizeOf3
 v3:=Tryz.zeroValue3
 t4:=Tryz.underlying4
 a4:=Tryz.isAgg4
 z4:=Tryz.sizeOf4
 v4:=Tryz.zeroValue4
 t9:=Tryz.underlying9
 a9:=Tryz.isAgg9
 z9:=Tryz.sizeOf9
 v9:=Tryz.zeroValue9 }
open Go.Lib in
theorem Tryz.internal_strconv_small (i:Nat) (h:i<100) (w:World) :
  Calls Tryz.prog 250 #[.int .i64 i] w fun e w'=>e=.returned (.string ⟨(Lib.decDigits i).toArray⟩)∧w'=w:=Any.internal_strconv_small Tryz.lays283 i h w
def Tryz.laysM284_ren:Go.Shelf.Ren:=⟨fun|284=>251|129=>275|317=>274|318=>276|n=>n,fun|53=>242|3=>3|212=>292|0=>0|4=>4|46=>284|5=>5|9=>9|n=>n,fun|17=>1|n=>n⟩
theorem Tryz.laysM284:Go.Proofs.LaysM.n284 Tryz.prog Tryz.laysM284_ren:={
 mixed:=by kernel_rfl
 f129:=Tryz.func275.trans zCs
 f284:=Tryz.func251.trans zCs
 f317:=Tryz.func274.trans zCs
 f318:=Tryz.func276.trans zCs
 t0:=Tryz.underlying0
 a0:=Tryz.isAgg0
 z0:=Tryz.sizeOf0
 v0:=Tryz.zeroValue0
 t3:=Tryz.underlying3
 a3:=Tryz.isAgg3
 z3:=Tryz.sizeOf3
 v3:=Tryz.zeroValue3
 t4:=Tryz.underlying4
 a4:=Tryz.isAgg4
 z4:=Tryz.sizeOf4
 v4:=Tryz.zeroValue4
 t5:=Tryz.underlying5
 a5:=Tryz.isAgg5
 z5:=Tryz.sizeOf5
 v5:=Tryz.zeroValue5
 t9:=Tryz.underlying9
 a9:=Tryz.isAgg9
 z9:=Tryz.sizeOf9
 v9:=Tryz.zeroValue9
 t46:=Tryz.underlying284
 a46:=Tryz.isAgg284
 z46:=Tryz.sizeOf284
 v46:=Tryz.zeroValue284
 t53:=Tryz.underlying242
 a53:=Tryz.isAgg242
 z53:=Tryz.sizeOf242
 v53:=Tryz.zeroValue242
 t212:=Tryz.underlying292
 a212:=Tryz.isAgg292
 z212:=Tryz.sizeOf292
 v212:=Tryz.zeroValue292
 g17:=by kernel_rfl
 i0:=by kernel_rfl
 i3:=by kernel_rfl
 i4:=by kernel_rfl
 i5:=by kernel_rfl
 i9:=by kernel_rfl
 i46:=by kernel_rfl
 i53:=by kernel_rfl
 i212:=by kernel_rfl
 m17:=by kernel_rfl }
open Go.Lib in
theorem Tryz.internal_strconv_numDigits (u : Nat) (h1 : 1 ≤ u) (h2 : u < 18446744073709551616) (w : World) (htab : Lib.TabIs Tryz.prog w "internal/strconv.uint64pow10" .u64 Lib.pow10Tab) :
  Calls Tryz.prog 251 #[.int .u64 u] w fun e w'=>e=.returned (.int .i64 (Lib.nDigits u))∧w'=w:=Any.internal_strconv_numDigits Tryz.laysM284 u h1 h2 w htab
def Tryz.lays285_ren:Go.Shelf.Ren:=⟨fun|285=>252|n=>n,fun|37=>96|53=>242|3=>3|4=>4|51=>93|9=>9|5=>5|0=>0|n=>n,fun|n=>n⟩
theorem Tryz.lays285:Go.Proofs.Lays.n285 Tryz.prog Tryz.lays285_ren:={
 mixed:=by kernel_rfl
 f285:=Tryz.func252.trans zCs
 t0:=Tryz.underlying0
 a0:=Tryz.isAgg0
 z0:=Tryz.sizeOf0
 v0:=Tryz.zeroValue0
 t3:=Tryz.underlying3
 a3:=Tryz.isAgg3
 z3:=Tryz.sizeOf3
 v3:=Tryz.zeroValue3
 t4:=Tryz.underlying4
 a4:=Tryz.isAgg4
 z4:=Tryz.sizeOf4
 v4:=Tryz.zeroValue4
 t5:=Tryz.underlying5
 a5:=Tryz.isAgg5
 z5:=Tryz.sizeOf5
 v5:=Tryz.zeroValue5
 t9:=Tryz.underlying9
 a9:=Tryz.isAgg9
 z9:=Tryz.sizeOf9
 v9:=Tryz.zeroValue9
 t37:=Tryz.underlying96
 a37:=Tryz.isAgg96
 z37:=Tryz.sizeOf96
 v37:=Tryz.zeroValue96
 t51:=Tryz.underlying93
 a51:=Tryz.isAgg93
 z51:=Tryz.sizeOf93
 v51:=Tryz.zeroValue93
 t53:=Tryz.underlying242
 a53:=Tryz.isAgg242
 z53:=Tryz.sizeOf242
 v53:=Tryz.zeroValue242 }
open Go.RowKit Go.Sort Go.Lib in
theorem Tryz.internal_strconv_formatBase10 (blk off cap:Nat) (u:Nat) (d:Array UInt8) (w:World) (hH:Holds (fun (b:UInt8)=>Value.int .u8 (b.toNat:Int)) w blk off d) (hu:u<10 ^ d.size) (hu64:u<18446744073709551616) (hsz:d.size<4611686018427387904) :
  Calls Tryz.prog 252 #[.slice (some ⟨blk,off,none⟩) d.size cap,.int .u64 u] w fun e w'=>
   e=.returned (.tuple #[])∧∃ (n v':Nat) (dk:Array UInt8),w'=(putRow (fun (b:UInt8)=>Value.int .u8 (b.toNat:Int)) w blk off dk).drewN n∧FmtInv d.size u 0 v' dk:=Any.internal_strconv_formatBase10 Tryz.lays285 blk off cap u d w hH hu hu64 hsz
def Tryz.laysM171_ren:Go.Shelf.Ren:=⟨fun|171=>106|243=>168|246=>218|283=>250|284=>251|285=>252|286=>253|129=>275|317=>274|318=>276|319=>277|320=>278|337=>298|338=>299|n=>n,fun|3=>3|9=>9|2=>2|4=>4|171=>276|0=>0|53=>242|37=>96|5=>5|173=>279|212=>292|51=>93|20=>20|213=>293|46=>284|232=>320|233=>321|n=>n,fun|17=>1|18=>6|19=>7|n=>n⟩
theorem Tryz.laysM171:Go.Proofs.LaysM.n171 Tryz.prog Tryz.laysM171_ren:={
 mixed:=by kernel_rfl
 f129:=Tryz.func275.trans zCs
 f171:=Tryz.func106.trans zCs
 f243:=Tryz.func168.trans zCs
 f246:=Tryz.func218.trans zCs
 f283:=Tryz.func250.trans zCs
 f284:=Tryz.func251.trans zCs
 f285:=Tryz.func252.trans zCs
 f286:=Tryz.func253.trans zCs
 f317:=Tryz.func274.trans zCs
 f318:=Tryz.func276.trans zCs
 f319:=Tryz.func277.trans zCs
 f320:=Tryz.func278.trans zCs
 f337:=Tryz.func298.trans zCs
 f338:=Tryz.func299.trans zCs
 t0:=Tryz.underlying0
 a0:=Tryz.isAgg0
 z0:=Tryz.sizeOf0
 v0:=Tryz.zeroValue0
 t2:=Tryz.underlying2
 a2:=Tryz.isAgg2
 z2:=Tryz.sizeOf2
 v2:=Tryz.zeroValue2
 t3:=Tryz.underlying3
 a3:=Tryz.isAgg3
 z3:=Tryz.sizeOf3
 v3:=Tryz.zeroValue3
 t4:=Tryz.underlying4
 a4:=Tryz.isAgg4
 z4:=Tryz.sizeOf4
 v4:=Tryz.zeroValue4
 t5:=Tryz.underlying5
 a5:=Tryz.isAgg5
 z5:=Tryz.sizeOf5
 v5:=Tryz.zeroValue5
 t9:=Tryz.underlying9
 a9:=Tryz.isAgg9
 z9:=Tryz.sizeOf9
 v9:=Tryz.zeroValue9
 t20:=Tryz.underlying20
 a20:=Tryz.isAgg20
 z20:=Tryz.sizeOf20
 v20:=Tryz.zeroValue20
 t37:=Tryz.underlying96
 a37:=Tryz.isAgg96
 z37:=Tryz.sizeOf96
 v37:=Tryz.zeroValue96
 t46:=Tryz.underlying284
 a46:=Tryz.isAgg284
 z46:=Tryz.sizeOf284
 v46:=Tryz.zeroValue284
 t51:=Tryz.underlying93
 a51:=Tryz.isAgg93
 z51:=Tryz.sizeOf93
 v51:=Tryz.zeroValue93
 t53:=Tryz.underlying242
 a53:=Tryz.isAgg242
 z53:=Tryz.sizeOf242
 v53:=Tryz.zeroValue242
 t171:=Tryz.underlying276
 a171:=Tryz.isAgg276
 z171:=Tryz.sizeOf276
 v171:=Tryz.zeroValue276
 t173:=Tryz.underlying279
 a173:=Tryz.isAgg279
 z173:=Tryz.sizeOf279
 v173:=Tryz.zeroValue279
 t212:=Tryz.underlying292
 a212:=Tryz.isAgg292
 z212:=Tryz.sizeOf292
 v212:=Tryz.zeroValue292
 t213:=Tryz.underlying293
 a213:=Tryz.isAgg293
 z213:=Tryz.sizeOf293
 t232:=Tryz.underlying320
 a232:=Tryz.isAgg320
 z232:=Tryz.sizeOf320
 v232:=Tryz.zeroValue320
 t233:=Tryz.underlying321
 a233:=Tryz.isAgg321
 z233:=Tryz.sizeOf321
 v233:=Tryz.zeroValue321
 g17:=by kernel_rfl
 g18:=by kernel_rfl
 g19:=by kernel_rfl
 i0:=by kernel_rfl
 i2:=by kernel_rfl
 i3:=by kernel_rfl
 i4:=by kernel_rfl
 i5:=by kernel_rfl
 i9:=by kernel_rfl
 i20:=by kernel_rfl
 i37:=by kernel_rfl
 i46:=by kernel_rfl
 i51:=by kernel_rfl
 i53:=by kernel_rfl
 i171:=by kernel_rfl
 i173:=by kernel_rfl
 i212:=by kernel_rfl
 i232:=by kernel_rfl
 i233:=by kernel_rfl
 m17:=by kernel_rfl
 m18:=by kernel_rfl
 m19:=by kernel_rfl }
open Go.RowKit Go.Sort Go.Lib in
theorem Tryz.strconv_Itoa (n : Int) (h0 : -9223372036854775808 ≤ n) (h1 : n ≤ 9223372036854775807) (w : World) (htab : Lib.TabIs Tryz.prog w "internal/strconv.uint64pow10" .u64 Lib.pow10Tab) :
  Calls Tryz.prog 106 #[.int .i64 n] w fun e w'=>e=.returned (.string ⟨(Lib.itoa n).toArray⟩)∧∃ k os,w'=grow (w.drewN k) os:=Any.strconv_Itoa Tryz.laysM171 n h0 h1 w htab
def Tryz.laysPu14_ren:Go.Shelf.Ren:=⟨fun|14=>233|16=>263|17=>264|19=>284|20=>285|21=>286|22=>287|23=>288|24=>289|25=>302|27=>106|26=>303|28=>168|29=>218|30=>250|31=>251|32=>252|33=>253|35=>275|34=>274|36=>276|37=>277|38=>278|39=>298|40=>299|n=>n,fun|9=>9|3=>3|22=>242|24=>129|25=>268|4=>4|34=>298|5=>5|36=>284|37=>96|0=>0|39=>300|21=>21|44=>316|47=>203|50=>324|48=>322|2=>2|52=>276|55=>279|59=>292|60=>93|20=>20|61=>293|65=>320|66=>321|67=>132|n=>n,fun|0=>4|1=>5|2=>1|3=>6|4=>7|n=>n⟩
theorem Tryz.laysPu14:Go.Proofs.LaysPu.n14 Tryz.prog Tryz.laysPu14_ren:={
 mixed:=by kernel_rfl
 f14:=Tryz.func233.trans zCs
 f16:=Tryz.func263.trans zCs
 f17:=Tryz.func264.trans zCs
 f19:=Tryz.func284.trans zCs
 f20:=Tryz.func285.trans zCs
 f21:=Tryz.func286.trans zCs
 f22:=Tryz.func287.trans zCs
 f23:=Tryz.func288.trans zCs
 f24:=Tryz.func289.trans zCs
 f25:=Tryz.func302.trans zCs
 f26:=Tryz.func303.trans zCs
 f27:=Tryz.func106.trans zCs
 f28:=Tryz.func168.trans zCs
 f29:=Tryz.func218.trans zCs
 f30:=Tryz.func250.trans zCs
 f31:=Tryz.func251.trans zCs
 f32:=Tryz.func252.trans zCs
 f33:=Tryz.func253.trans zCs
 f34:=Tryz.func274.trans zCs
 f35:=Tryz.func275.trans zCs
 f36:=Tryz.func276.trans zCs
 f37:=Tryz.func277.trans zCs
 f38:=Tryz.func278.trans zCs
 f39:=Tryz.func298.trans zCs
 f40:=Tryz.func299.trans zCs
 t0:=Tryz.underlying0
 a0:=Tryz.isAgg0
 z0:=Tryz.sizeOf0
 v0:=Tryz.zeroValue0
 i0:=by kernel_rfl
 t2:=Tryz.underlying2
 a2:=Tryz.isAgg2
 z2:=Tryz.sizeOf2
 v2:=Tryz.zeroValue2
 i2:=by kernel_rfl
 t3:=Tryz.underlying3
 a3:=Tryz.isAgg3
 z3:=Tryz.sizeOf3
 v3:=Tryz.zeroValue3
 i3:=by kernel_rfl
 t4:=Tryz.underlying4
 a4:=Tryz.isAgg4
 z4:=Tryz.sizeOf4
 v4:=Tryz.zeroValue4
 i4:=by kernel_rfl
 t5:=Tryz.underlying5
 a5:=Tryz.isAgg5
 z5:=Tryz.sizeOf5
 v5:=Tryz.zeroValue5
 i5:=by kernel_rfl
 t9:=Tryz.underlying9
 a9:=Tryz.isAgg9
 z9:=Tryz.sizeOf9
 v9:=Tryz.zeroValue9
 i9:=by kernel_rfl
 t20:=Tryz.underlying20
 a20:=Tryz.isAgg20
 z20:=Tryz.sizeOf20
 v20:=Tryz.zeroValue20
 i20:=by kernel_rfl
 t21:=Tryz.underlying21
 a21:=Tryz.isAgg21
 z21:=Tryz.sizeOf21
 v21:=Tryz.zeroValue21
 i21:=by kernel_rfl
 t22:=Tryz.underlying242
 a22:=Tryz.isAgg242
 z22:=Tryz.sizeOf242
 v22:=Tryz.zeroValue242
 i22:=by kernel_rfl
 t24:=Tryz.underlying129
 a24:=Tryz.isAgg129
 z24:=Tryz.sizeOf129
 v24:=Tryz.zeroValue129
 i24:=by kernel_rfl
 t25:=Tryz.underlying268
 a25:=Tryz.isAgg268
 z25:=Tryz.sizeOf268
 v25:=Tryz.zeroValue268
 i25:=by kernel_rfl
 t34:=Tryz.underlying298
 a34:=Tryz.isAgg298
 z34:=Tryz.sizeOf298
 v34:=Tryz.zeroValue298
 i34:=by kernel_rfl
 c34:=by kernel_rfl
 t36:=Tryz.underlying284
 a36:=Tryz.isAgg284
 z36:=Tryz.sizeOf284
 v36:=Tryz.zeroValue284
 i36:=by kernel_rfl
 t37:=Tryz.underlying96
 a37:=Tryz.isAgg96
 z37:=Tryz.sizeOf96
 v37:=Tryz.zeroValue96
 i37:=by kernel_rfl
 t39:=Tryz.underlying300
 a39:=Tryz.isAgg300
 z39:=Tryz.sizeOf300
 v39:=Tryz.zeroValue300
 i39:=by kernel_rfl
 t44:=Tryz.underlying316
 a44:=Tryz.isAgg316
 z44:=Tryz.sizeOf316
 v44:=Tryz.zeroValue316
 i44:=by kernel_rfl
 t47:=Tryz.underlying203
 a47:=Tryz.isAgg203
 z47:=Tryz.sizeOf203
 v47:=Tryz.zeroValue203
 i47:=by kernel_rfl
 t48:=Tryz.underlying322
 a48:=Tryz.isAgg322
 z48:=Tryz.sizeOf322
 v48:=Tryz.zeroValue322
 i48:=by kernel_rfl
 t50:=Tryz.underlying324
 a50:=Tryz.isAgg324
 z50:=Tryz.sizeOf324
 v50:=Tryz.zeroValue324
 i50:=by kernel_rfl
 t52:=Tryz.underlying276
 a52:=Tryz.isAgg276
 z52:=Tryz.sizeOf276
 v52:=Tryz.zeroValue276
 i52:=by kernel_rfl
 t55:=Tryz.underlying279
 a55:=Tryz.isAgg279
 z55:=Tryz.sizeOf279
 v55:=Tryz.zeroValue279
 i55:=by kernel_rfl
 t59:=Tryz.underlying292
 a59:=Tryz.isAgg292
 z59:=Tryz.sizeOf292
 v59:=Tryz.zeroValue292
 i59:=by kernel_rfl
 t60:=Tryz.underlying93
 a60:=Tryz.isAgg93
 z60:=Tryz.sizeOf93
 v60:=Tryz.zeroValue93
 i60:=by kernel_rfl
 t61:=Tryz.underlying293
 a61:=Tryz.isAgg293
 z61:=Tryz.sizeOf293
 t65:=Tryz.underlying320
 a65:=Tryz.isAgg320
 z65:=Tryz.sizeOf320
 v65:=Tryz.zeroValue320
 i65:=by kernel_rfl
 t66:=Tryz.underlying321
 a66:=Tryz.isAgg321
 z66:=Tryz.sizeOf321
 v66:=Tryz.zeroValue321
 i66:=by kernel_rfl
 t67:=Tryz.underlying132
 a67:=Tryz.isAgg132
 z67:=Tryz.sizeOf132
 v67:=Tryz.zeroValue132
 i67:=by kernel_rfl
 g0:=by kernel_rfl
 m0:=by kernel_rfl
 g1:=by kernel_rfl
 m1:=by kernel_rfl
 g2:=by kernel_rfl
 m2:=by kernel_rfl
 g3:=by kernel_rfl
 m3:=by kernel_rfl
 g4:=by kernel_rfl
 m4:=by kernel_rfl }
open Go.RowKit in
theorem Tryz.strconv_ParseUint_10_at32_ok (s:ByteArray) (hmax:s.size≤9223372036854775806) (u:Nat) (h:Lib.parseUintB 32 s.data.toList=.ok u) (w:World) :
  Calls Tryz.prog 233 #[.string s,.int .i64 10,.int .i64 32] w fun e w'=>e=.returned (.tuple #[.int .u64 u,.nilIface])∧(w'=w∨w'=Lib.bytesWorld w 5 s):=Any.strconv_ParseUint_10_at32_ok Tryz.laysPu14 s hmax u h w
open Go.RowKit in
theorem Tryz.strconv_ParseUint_10_at32_range_var (s : ByteArray) (hlim : s.size ≤ 281474976710656) (h : Lib.parseUintB 32 s.data.toList = .range) (tp : TypeId) (p : Value) (w : World) (hvar : w.var? Tryz.prog "strconv.ErrRange" = some #[.iface tp p]) :
  Calls Tryz.prog 233 #[.string s,.int .i64 10,.int .i64 32] w fun e w'=>∃ N,e=.returned (.tuple #[.int .u64 4294967295,.iface 300 (.pointer (some ⟨N,0,none⟩))])∧w.heap.size≤N∧w'.heap[N]? = some (.cells #[.string ⟨#[80,97,114,115,101,85,105,110,116]⟩,.string s,.iface tp p] 316 (0,0))∧Below w.heap.size w w':=Any.strconv_ParseUint_10_at32_range_var Tryz.laysPu14 s hlim h tp p w hvar
def Tryz.lays145_ren:Go.Shelf.Ren:=⟨fun|145=>113|220=>176|219=>223|217=>255|225=>256|224=>257|267=>258|266=>280|314=>281|n=>n,fun|9=>9|4=>4|59=>205|3=>3|5=>5|46=>284|146=>295|51=>93|n=>n,fun|1=>0|n=>n⟩
theorem Tryz.lays145:Go.Proofs.Lays.n145 Tryz.prog Tryz.lays145_ren:={
 mixed:=by kernel_rfl
 f145:=Tryz.func113.trans zCs
 f217:=Tryz.func255.trans zCs
 f219:=Tryz.func223.trans zCs
 f220:=Tryz.func176.trans zCs
 f224:=Tryz.func257.trans zCs
 f225:=Tryz.func256.trans zCs
 f266:=Tryz.func280.trans zCs
 f267:=Tryz.func258.trans zCs
 f314:=Tryz.func281.trans zCs
 t3:=Tryz.underlying3
 a3:=Tryz.isAgg3
 z3:=Tryz.sizeOf3
 v3:=Tryz.zeroValue3
 t4:=Tryz.underlying4
 a4:=Tryz.isAgg4
 z4:=Tryz.sizeOf4
 v4:=Tryz.zeroValue4
 t5:=Tryz.underlying5
 a5:=Tryz.isAgg5
 z5:=Tryz.sizeOf5
 v5:=Tryz.zeroValue5
 t9:=Tryz.underlying9
 a9:=Tryz.isAgg9
 z9:=Tryz.sizeOf9
 v9:=Tryz.zeroValue9
 t46:=Tryz.underlying284
 a46:=Tryz.isAgg284
 z46:=Tryz.sizeOf284
 v46:=Tryz.zeroValue284
 t51:=Tryz.underlying93
 a51:=Tryz.isAgg93
 z51:=Tryz.sizeOf93
 v51:=Tryz.zeroValue93
 t59:=Tryz.underlying205
 a59:=Tryz.isAgg205
 z59:=Tryz.sizeOf205
 v59:=Tryz.zeroValue205
 t146:=Tryz.underlying295
 a146:=Tryz.isAgg295
 z146:=Tryz.sizeOf295
 v146:=Tryz.zeroValue295
 g1:=by kernel_rfl }
open Go.RowKit Go.Lib in
theorem Tryz.strings_Cut (s sep:ByteArray) (m:Int) (w:World) (hs:s.size<4294967281) (hm:w.cell? ⟨0,0,none⟩=some (.int .i64 m)) :
  Calls Tryz.prog 113 #[.string s,.string sep] w fun e w'=>e=.returned (.tuple #[.string ⟨(Lib.cut s.data.toList sep.data.toList).1.toArray⟩,.string ⟨(Lib.cut s.data.toList sep.data.toList).2.1.toArray⟩,.bool (Lib.cut s.data.toList sep.data.toList).2.2])∧∃ n,w'=w.drewN n:=Any.strings_Cut Tryz.lays145 s sep m w hs hm
def Tryz.lays138_ren:Go.Shelf.Ren:=⟨fun|138=>131|195=>196|218=>197|143=>198|219=>223|217=>255|225=>256|224=>257|267=>258|266=>280|314=>281|n=>n,fun|9=>9|3=>3|4=>4|5=>5|0=>0|46=>284|146=>295|51=>93|n=>n,fun|1=>0|n=>n⟩
theorem Tryz.lays138:Go.Proofs.Lays.n138 Tryz.prog Tryz.lays138_ren:={
 mixed:=by kernel_rfl
 f138:=Tryz.func131.trans zCs
 f143:=Tryz.func198.trans zCs
 f195:=Tryz.func196.trans zCs
 f217:=Tryz.func255.trans zCs
 f218:=Tryz.func197.trans zCs
 f219:=Tryz.func223.trans zCs
 f224:=Tryz.func257.trans zCs
 f225:=Tryz.func256.trans zCs
 f266:=Tryz.func280.trans zCs
 f267:=Tryz.func258.trans zCs
 f314:=Tryz.func281.trans zCs
 t0:=Tryz.underlying0
 a0:=Tryz.isAgg0
 z0:=Tryz.sizeOf0
 v0:=Tryz.zeroValue0
 t3:=Tryz.underlying3
 a3:=Tryz.isAgg3
 z3:=Tryz.sizeOf3
 v3:=Tryz.zeroValue3
 t4:=Tryz.underlying4
 a4:=Tryz.isAgg4
 z4:=Tryz.sizeOf4
 v4:=Tryz.zeroValue4
 t5:=Tryz.underlying5
 a5:=Tryz.isAgg5
 z5:=Tryz.sizeOf5
 v5:=Tryz.zeroValue5
 t9:=Tryz.underlying9
 a9:=Tryz.isAgg9
 z9:=Tryz.sizeOf9
 v9:=Tryz.zeroValue9
 t46:=Tryz.underlying284
 a46:=Tryz.isAgg284
 z46:=Tryz.sizeOf284
 v46:=Tryz.zeroValue284
 t51:=Tryz.underlying93
 a51:=Tryz.isAgg93
 z51:=Tryz.sizeOf93
 v51:=Tryz.zeroValue93
 t146:=Tryz.underlying295
 a146:=Tryz.isAgg295
 z146:=Tryz.sizeOf295
 v146:=Tryz.zeroValue295
 g1:=by kernel_rfl }
open Go.RowKit Go.Lib in
theorem Tryz.strings_Count_one (s:ByteArray) (c:UInt8) (w:World) :
  Calls Tryz.prog 131 #[.string s,.string ⟨#[c]⟩] w fun e w'=>e=.returned (.int .i64 (Lib.countByte s.data.toList c))∧w'=w:=Any.strings_Count_one Tryz.lays138 s c w
def Tryz.lays99_ren:Go.Shelf.Ren:=⟨fun|99=>22|206=>42|n=>n,fun|9=>9|4=>4|3=>3|n=>n,fun|n=>n⟩
theorem Tryz.lays99:Go.Proofs.Lays.n99 Tryz.prog Tryz.lays99_ren:={
 mixed:=by kernel_rfl
 f99:=Tryz.func22.trans zCs
 f206:=Tryz.func42.trans zCs
 t3:=Tryz.underlying3
 a3:=Tryz.isAgg3
 z3:=Tryz.sizeOf3
 v3:=Tryz.zeroValue3
 t4:=Tryz.underlying4
 a4:=Tryz.isAgg4
 z4:=Tryz.sizeOf4
 v4:=Tryz.zeroValue4
 t9:=Tryz.underlying9
 a9:=Tryz.isAgg9
 z9:=Tryz.sizeOf9
 v9:=Tryz.zeroValue9 }
open Go.RowKit Go.Lib in
theorem Tryz.strings_HasPrefix (s p:ByteArray) (w:World) :
  Calls Tryz.prog 22 #[.string s,.string p] w fun e w'=>e=.returned (.bool (Lib.hasPrefix s.data.toList p.data.toList))∧w'=w:=Any.strings_HasPrefix Tryz.lays99 s p w
def Tryz.lays146_ren:Go.Shelf.Ren:=⟨fun|146=>112|221=>175|268=>222|138=>131|143=>198|195=>196|197=>254|218=>197|219=>223|260=>279|217=>255|225=>256|224=>257|267=>258|266=>280|314=>281|n=>n,fun|9=>9|31=>22|3=>3|4=>4|0=>0|105=>281|21=>21|5=>5|46=>284|119=>310|139=>313|138=>312|146=>295|51=>93|n=>n,fun|1=>0|3=>2|4=>3|n=>n⟩
theorem Tryz.lays146:Go.Proofs.Lays.n146 Tryz.prog Tryz.lays146_ren:={
 mixed:=by kernel_rfl
 f138:=Tryz.func131.trans zCs
 f143:=Tryz.func198.trans zCs
 f146:=Tryz.func112.trans zCs
 f195:=Tryz.func196.trans zCs
 f197:=Tryz.func254.trans zCs
 f217:=Tryz.func255.trans zCs
 f218:=Tryz.func197.trans zCs
 f219:=Tryz.func223.trans zCs
 f221:=Tryz.func175.trans zCs
 f224:=Tryz.func257.trans zCs
 f225:=Tryz.func256.trans zCs
 f260:=Tryz.func279.trans zCs
 f266:=Tryz.func280.trans zCs
 f267:=Tryz.func258.trans zCs
 f268:=Tryz.func222.trans zCs
 f314:=Tryz.func281.trans zCs
 t0:=Tryz.underlying0
 a0:=Tryz.isAgg0
 z0:=Tryz.sizeOf0
 v0:=Tryz.zeroValue0
 t3:=Tryz.underlying3
 a3:=Tryz.isAgg3
 z3:=Tryz.sizeOf3
 v3:=Tryz.zeroValue3
 t4:=Tryz.underlying4
 a4:=Tryz.isAgg4
 z4:=Tryz.sizeOf4
 v4:=Tryz.zeroValue4
 t5:=Tryz.underlying5
 a5:=Tryz.isAgg5
 z5:=Tryz.sizeOf5
 v5:=Tryz.zeroValue5
 t9:=Tryz.underlying9
 a9:=Tryz.isAgg9
 z9:=Tryz.sizeOf9
 v9:=Tryz.zeroValue9
 t21:=Tryz.underlying21
 a21:=Tryz.isAgg21
 z21:=Tryz.sizeOf21
 v21:=Tryz.zeroValue21
 t31:=Tryz.underlying22
 a31:=Tryz.isAgg22
 z31:=Tryz.sizeOf22
 v31:=Tryz.zeroValue22
 t46:=Tryz.underlying284
 a46:=Tryz.isAgg284
 z46:=Tryz.sizeOf284
 v46:=Tryz.zeroValue284
 t51:=Tryz.underlying93
 a51:=Tryz.isAgg93
 z51:=Tryz.sizeOf93
 v51:=Tryz.zeroValue93
 t105:=Tryz.underlying281
 a105:=Tryz.isAgg281
 z105:=Tryz.sizeOf281
 v105:=Tryz.zeroValue281
 t119:=Tryz.underlying310
 a119:=Tryz.isAgg310
 z119:=Tryz.sizeOf310
 t138:=Tryz.underlying312
 a138:=Tryz.isAgg312
 z138:=Tryz.sizeOf312
 v138:=Tryz.zeroValue312
 t139:=Tryz.underlying313
 a139:=Tryz.isAgg313
 z139:=Tryz.sizeOf313
 v139:=Tryz.zeroValue313
 t146:=Tryz.underlying295
 a146:=Tryz.isAgg295
 z146:=Tryz.sizeOf295
 v146:=Tryz.zeroValue295
 g1:=by kernel_rfl
 g3:=by kernel_rfl
 g4:=by kernel_rfl }
open Go.RowKit Go.Lib in
theorem Tryz.strings_Split (s sep:ByteArray) (m:Int) (w:World) (hs:s.size<4294967281) (hm:w.cell? ⟨0,0,none⟩=some (.int .i64 m)) (h1:1≤sep.size) :
  Calls Tryz.prog 112 #[.string s,.string sep] w fun e w'=>
   e=.returned (.slice (some ⟨w.heap.size,0,none⟩) (Lib.countB s sep+1) (Lib.countB s sep+1))∧w'=w.alloc (.cells ((Lib.splitB sep 0 (Lib.countB s sep) s).map Value.string).toArray 9):=Any.strings_Split Tryz.lays146 (by kernel_rfl) s sep m w hs hm h1
end Go.Proofs
namespace Go.Proofs.YtpbbgkoalnonoaaGreatDoor
open Go.GL Go.RowKit Go.Stele
attribute [local irreducible] LOps LCode LStep LCalls Go.GL.Pure QThen QBlock RetPost
section
variable {B0:Nat} {w0:World}
theorem run_spec {f:FuncId} [TEnter Tryz.prog f] (p:UInt8→Bool) (hp:∀ c:UInt8,LCalls (KC B0 w0) f [int .u8 c.toNat] [] (Ret (bool (p c)))) (s:List UInt8) (hs:s.length≤1000000000) :
  LCalls (KC B0 w0) 187 [str s,.atom (.func (.func f) #[] #[])] [] (Ret (str (s.takeWhile p))):=by
 refine cI Tryz.func187 rfl (n:=22) rfl rfl rfl ?_
 refine gab ?_
 refine oL (fun k l H=>∃ m:Nat,k=s.length-m∧l=[(0,str s),(1,.atom (.func (.func f) #[] #[])),(5,int .i64 m)]∧H=[]∧m≤s.length∧s.takeWhile p=s.take m++(s.drop m).takeWhile p)
  ⟨_,_,_,⟨0,rfl,rfl,rfl,by omega,by simp⟩,⟨rfl,rfl,rfl,trivial⟩,zhR _⟩ ?_
 rintro k l H ⟨m,rfl,rfl,rfl,hm,hI⟩ j hj
 refine gac ?_
 refine oB 10 rfl (fun ht=>?_) (fun ht=>?_)
 ·have hlt:m<s.length:=by simpa using ht
  refine gaa ?_
  refine oP (Pure.sindex (c:=s[m]) rfl rfl zo (by simp)) rfl ?_
  refine LOps.want rfl rfl ?_
  refine oS (S.fnV [_] rfl rfl (hp s[m]) ?_) rfl
  refine gaa ?_
  refine oC rfl (fun hc=>?_) (fun hc=>?_)
  ·refine gab ?_
   exact ⟨_,_,_,by omega,⟨m+1,rfl,rfl,rfl,by omega,(takeWhile_step hlt hI).1 (by simpa using hc)⟩,⟨rfl,rfl,int_eq zo,trivial⟩,zhR _,hj⟩
  ·refine gab ?_
   refine oP (Pure.sslice (i:=0) (j:=m) rfl rfl ⟨_,rfl⟩ zo zo zo) rfl ?_
   refine gak ?_
   exact retRet hj (zra rfl) (by
    rw[(takeWhile_step hlt hI).2 (by simpa using hc)]
    simp[resLV])
 ·have hge:s.length≤m:=by simpa using ht
  refine gaa ?_
  refine oC rfl (fun hc=>?_) (fun hc=>?_)
  ·cases hc
  ·refine gab ?_
   refine oP (Pure.sslice (i:=0) (j:=m) rfl rfl ⟨_,rfl⟩ zo zo zo) rfl ?_
   refine gak ?_
   exact retRet hj (zra rfl) (by
    rw[takeWhile_end hge hI]
    simp[resLV])
theorem hasPrefix_spec (s p:List UInt8):LCalls (KC B0 w0) 22 [str s,str p] [] (Ret (bool (p.isPrefixOf s))):=
 LCalls.ret_of (vs:=[.string ⟨s.toArray⟩,.string ⟨p.toArray⟩]) fun w _=>(Go.Proofs.Tryz.strings_HasPrefix _ _ w).mono fun e w' he=>by
  obtain ⟨h1,h2⟩:=he
  subst h2
  exact ⟨by simpa [Go.Lib.hasPrefix] using h1,Below.refl _ _⟩
theorem skip_spec (s:List UInt8) (hs:s.length≤1000000000):LCalls (KC B0 w0) 129 [str s] [] (Ret (int .i64 (skipLen s))):=by
 refine cI Tryz.func129 rfl (n:=11) rfl rfl rfl ?_
 refine gao ?_
 refine oS (sF [_,_] rfl (hasPrefix_spec s [47,47]) ?_) rfl
 refine gap ?_
 refine oC rfl (fun hc=>?_) (fun hc=>?_)
 ·refine gaf ?_
  refine oS (sF [_,_] rfl (run_spec notNl notNl_spec s hs) ?_) rfl
  refine gad ?_
  exact retRet rfl (zra rfl) (by simp only[resLV,skipLen,hc,if_true])
 ·refine gab ?_
  refine oS (sF [_,_] rfl (run_spec isWhite white_spec s hs) ?_) rfl
  refine gad ?_
  exact retRet rfl (zra rfl) (by simp only[resLV,skipLen,hc,Bool.false_eq_true,if_false])
end
end Go.Proofs.YtpbbgkoalnonoaaGreatDoor
namespace Go.Proofs.YtpbbgkoalnonoaaGreatDoor
open Go Go.Shelf Go.RowKit Go.Sort Go.Lib
set_option maxHeartbeats 6400000
theorem formatUint_main (u : Nat) (hu64 : u < 18446744073709551616) (w : World) (htab : Lib.TabIs Tryz.prog w "internal/strconv.uint64pow10" .u64 Lib.pow10Tab) :
  Calls Tryz.prog 219 #[.int .u64 u,.int .i64 10] w fun e w'=>e=.returned (.string ⟨(Lib.decDigits u).toArray⟩)∧Below w.heap.size w w':=by
 have mixed:Tryz.prog.follows .mixedOrders=true:=by kernel_rfl
 have t3:=Tryz.underlying3;have a3:=Tryz.isAgg3;have z3:=Tryz.sizeOf3;have v3:=Tryz.zeroValue3
 have t9:=Tryz.underlying9;have a9:=Tryz.isAgg9;have z9:=Tryz.sizeOf9;have v9:=Tryz.zeroValue9
 have t4:=Tryz.underlying4;have a4:=Tryz.isAgg4;have z4:=Tryz.sizeOf4;have v4:=Tryz.zeroValue4
 have t142:=Tryz.underlying276;have a142:=Tryz.isAgg276;have z142:=Tryz.sizeOf276;have v142:=Tryz.zeroValue276
 have t0:=Tryz.underlying0;have a0:=Tryz.isAgg0;have z0:=Tryz.sizeOf0;have v0:=Tryz.zeroValue0
 have t119:=Tryz.underlying242;have a119:=Tryz.isAgg242;have z119:=Tryz.sizeOf242;have v119:=Tryz.zeroValue242
 have t85:=Tryz.underlying96;have a85:=Tryz.isAgg96;have z85:=Tryz.sizeOf96;have v85:=Tryz.zeroValue96
 have t5:=Tryz.underlying5;have a5:=Tryz.isAgg5;have z5:=Tryz.sizeOf5;have v5:=Tryz.zeroValue5
 have e137:∀ args w,(callFunc 250 args).run Tryz.prog w=.ok (.enter 250 args) w:=enters_of Tryz.func250 (by kernel_rfl) rfl
 have e138:∀ args w,(callFunc 251 args).run Tryz.prog w=.ok (.enter 251 args) w:=enters_of Tryz.func251 (by kernel_rfl) rfl
 have e139:∀ args w,(callFunc 252 args).run Tryz.prog w=.ok (.enter 252 args) w:=enters_of Tryz.func252 (by kernel_rfl) rfl
 by_cases hs:u<100
 ·go_enter Tryz.func219,Tryz.ntmps219
  go_wp2_with (go_at_fn (250);refine (Tryz.internal_strconv_small u hs _).mono ?_;rintro e w' ⟨rfl,rfl⟩)
  go_ret
  exact ⟨rfl,Below.refl _ _⟩
 ·have hu1:1≤u:=by omega
  have hnd20:Lib.nDigits u≤20:=by have:=Lib.numDigits_eq u hu1 hu64;split at this <;> omega
  have hal:Tryz.prog.arrayLen 276=24:=by simp[Program.arrayLen,Tryz.underlying276]
  have hsl:∀ W,(Instr.sliceAt 276 (.pointer (some ⟨w.heap.size,0,none⟩)) none (some (.int .i64 (Lib.nDigits u:Int))) none).run Tryz.prog W=.ok (.slice (some ⟨w.heap.size,0,none⟩) (Lib.nDigits u) 24) W:=fun W=>by
   rw[run_sliceAt_array_h W 276 ⟨w.heap.size,0,none⟩ (by simp[Program.arrayLen,Program.elem,Tryz.underlying276]) .i64 (Lib.nDigits u:Int) (by omega) (by rw[hal];omega)]
   go_simp
  have hH0:=Lib.holds_zero0 w 276 (Lib.nDigits u) (by omega)
  have hfmt:=Tryz.internal_strconv_formatBase10 w.heap.size 0 24 u (Array.replicate (Lib.nDigits u) 0) (w.alloc (.cells Lib.zeros24 276)) hH0 (by rw[Array.size_replicate];exact Lib.lt_pow_nDigits u) hu64 (by rw[Array.size_replicate];omega)
  rw[Array.size_replicate] at hfmt
  have HH0:=Lib.hid hH0
  clear hH0 hal
  go_enter Tryz.func219,Tryz.ntmps219
  go_wp2_with (first
   |(go_at_fn (251);refine (Tryz.internal_strconv_numDigits u hu1 hu64 _ (Lib.tabIs_alloc htab _)).mono ?_;rintro e w' ⟨rfl,rfl⟩))
  go_at_fn (252)
  refine hfmt.mono ?_
  rintro e w' ⟨rfl,k,v',dk,rfl,hF⟩
  have hcv:(convert 96 9 (.slice (some ⟨w.heap.size,0,none⟩) (Lib.nDigits u) 24)).run Tryz.prog ((putRow (fun (b:UInt8)=>Value.int .u8 (b.toNat:Int)) (w.alloc (.cells Lib.zeros24 276)) w.heap.size 0 dk).drewN k)=.ok (.string ⟨(Lib.decDigits u).toArray⟩) ((putRow (fun (b:UInt8)=>Value.int .u8 (b.toNat:Int)) (w.alloc (.cells Lib.zeros24 276)) w.heap.size 0 dk).drewN k):=by
   have h:=run_convert_bytes_back (P:=Tryz.prog) ((putRow (fun (b:UInt8)=>Value.int .u8 (b.toNat:Int)) (w.alloc (.cells Lib.zeros24 276)) w.heap.size 0 dk).drewN k) 96 9 5 ⟨w.heap.size,0,none⟩ 24 (Lib.decDigits u) Tryz.underlying96 Tryz.underlying5 Tryz.underlying9 (fun j hj=>by
    rw[Lib.row_is_numeral hF j hj,Lib.add_plain,World.cell?_drewN]
    exact cell?_putRow (fun (b:UInt8)=>Value.int .u8 (b.toNat:Int)) _ w.heap.size 0 _ dk HH0.out (by rw[hF.size,Array.size_replicate]) j (by rw[hF.size];rw[Lib.decDigits_length] at hj;exact hj))
   rw[Lib.decDigits_length] at h
   exact h
  go_wp2
  go_ret
  refine ⟨rfl,?_⟩
  obtain ⟨os,eo⟩:=Lib.fin_at w (.cells Lib.zeros24 276) dk k 0
  rw[eo]
  exact Lib.below_grow _ w (zNr _) k os
end Go.Proofs.YtpbbgkoalnonoaaGreatDoor
namespace Go.Proofs.YtpbbgkoalnonoaaGreatDoor
open Go.GL Go.RowKit Go.Stele
attribute [local irreducible] LOps LCode LStep LCalls Go.GL.Pure QThen QBlock RetPost
structure GW (B0:Nat) (w0:World):Prop where
 pow10 : Go.Lib.TabIs Tryz.prog w0 "internal/strconv.uint64pow10" .u64 Go.Lib.pow10Tab
 errRange : ∃ tp p, w0.var? Tryz.prog "strconv.ErrRange" = some #[.iface tp p]
 big:8≤B0
section
variable {B0:Nat} {w0:World}
theorem GW.tab (h : GW B0 w0) {w : World} (hb : Below B0 w0 w) : Go.Lib.TabIs Tryz.prog w "internal/strconv.uint64pow10" .u64 Go.Lib.pow10Tab := by
 have hg : Tryz.prog.globalNamed "internal/strconv.uint64pow10" = some 1 := by kernel_rfl
 exact var?_below hb hg (Nat.lt_of_lt_of_le zDd h.big) h.pow10
theorem GW.err (h : GW B0 w0) {w : World} (hb : Below B0 w0 w) : ∃ tp p, w.var? Tryz.prog "strconv.ErrRange" = some #[.iface tp p] := by
 have hg : Tryz.prog.globalNamed "strconv.ErrRange" = some 5 := by kernel_rfl
 obtain ⟨tp,p,hv⟩:=h.errRange
 exact ⟨tp,p,var?_below hb hg (Nat.lt_of_lt_of_le zDd h.big) hv⟩
theorem itoa_spec (hG:GW B0 w0) (u:Nat) (hu:u≤9223372036854775807):LCalls (KC B0 w0) 106 [int .i64 u] [] (Ret (str (Go.Lib.decDigits u))):=
 LCalls.ret_of (vs:=[.int .i64 u]) fun w hw=>(Go.Proofs.Tryz.strconv_Itoa u zo zo w (hG.tab hw)).mono fun e w' he=>by
  obtain ⟨h1,k,os,h2⟩:=he
  rw[Go.Lib.itoa_nonneg] at h1
  exact ⟨h1,by rw[h2];exact Go.Lib.below_grow _ w (zNr _) k os⟩
theorem fmtUint_spec (hG:GW B0 w0) (u:Nat) (hu:u<18446744073709551616):LCalls (KC B0 w0) 169 [int .u64 u,int .i64 10] [] (Ret (str (Go.Lib.decDigits u))):=by
 refine cI Tryz.func169 rfl (n:=8) rfl rfl rfl ?_
 refine gao ?_
 refine oS (sF [_,_] rfl (LCalls.ret_of (vs:=[.int .u64 u,.int .i64 10]) fun w hw=>formatUint_main u hu w (hG.tab hw)) ?_) rfl
 refine gak ?_
 exact retRet rfl (zra rfl) rfl
theorem parseUint_ok (s:List UInt8) (hs:s.length≤1000000000) (u:Nat) (h:Go.Lib.parseUintB 32 s=.ok u) :
  LCalls (KC B0 w0) 233 [str s,int .i64 10,int .i64 32] [] (Ret (.tuple [int .u64 u,.atom .nilIface])):=by
 refine LCalls.mono (LCalls.of_belowT (vs:=[.string ⟨s.toArray⟩,.int .i64 10,.int .i64 32]) (p:=fun us=>us=[.int .u64 u,.nilIface]) fun w hw=>?_) ?_
 ·refine (Go.Proofs.Tryz.strconv_ParseUint_10_at32_ok ⟨s.toArray⟩ ?_ u (by simpa using h) w).mono fun e w' he=>⟨_,he.1,rfl,?_⟩
  ·show s.toArray.size≤_
   simp
   omega
  ·rcases he.2 with h2|h2
   ·rw[h2];exact Below.refl _ _
   ·rw[h2]
    exact ⟨rfl,rfl,rfl,by rw[Go.Lib.bytesWorld_size];omega,fun k hk=>Go.Lib.bytesWorld_at_old w 5 _ k hk⟩
 ·rintro r H ⟨v,rfl,⟨us,rfl,rfl⟩,rfl⟩
  exact ⟨rfl,rfl⟩
theorem parseUint_range (hG:GW B0 w0) (s:List UInt8) (hs:s.length≤1000000000) (h:Go.Lib.parseUintB 32 s=.range) :
  LCalls (KC B0 w0) 233 [str s,int .i64 10,int .i64 32] [] (RetIf fun lv=>∃ v t p,lv=.tuple [int .u64 v,.atom (.iface t p)]):=by
 refine LCalls.mono (LCalls.of_belowT (vs:=[.string ⟨s.toArray⟩,.int .i64 10,.int .i64 32]) (p:=fun us=>∃ v t p,us=[.int .u64 v,.iface t p]) fun w hw=>?_) ?_
 ·obtain ⟨tp,p,hv⟩:=hG.err hw
  refine (Go.Proofs.Tryz.strconv_ParseUint_10_at32_range_var ⟨s.toArray⟩ ?_ (by simpa using h) tp p w hv).mono fun e w' he=>?_
  ·show s.toArray.size≤_
   simp
   omega
  ·obtain ⟨N,h1,_,_,h4⟩:=he
   exact ⟨_,h1,⟨_,_,_,rfl⟩,h4⟩
 ·rintro r H ⟨v,rfl,⟨us,⟨a,t,p,rfl⟩,rfl⟩,rfl⟩
  exact ⟨_,rfl,⟨a,t,p,rfl⟩,rfl⟩
theorem countNl_spec (s:List UInt8):LCalls (KC B0 w0) 131 [str s,str [10]] [] (Ret (int .i64 (s.count 10))):=
 LCalls.ret_of (vs:=[.string ⟨s.toArray⟩,.string ⟨#[10]⟩]) fun w _=>(Go.Proofs.Tryz.strings_Count_one _ _ w).mono fun e w' he=>by
  obtain ⟨h1,h2⟩:=he
  subst h2
  exact ⟨by simpa [Go.Lib.countByte] using h1,Below.refl _ _⟩
end
end Go.Proofs.YtpbbgkoalnonoaaGreatDoor
namespace Go.Proofs.YtpbbgkoalnonoaaGreatDoor
open Go.GL Go.RowKit Go.Stele
attribute [local irreducible] LOps LCode LStep LCalls Go.GL.Pure QThen QBlock RetPost
def encTok (t:Tok):LV:=.agg [int .i64 t.kind,str t.text,int .i64 t.line]
def encTokR (r:TokR):LV:=.tuple [encTok r.1,int .i64 r.2.1,int .i64 r.2.2]
theorem elemsOk_strs (l:List (List UInt8)):elemsOk 1 (l.map str):=fun v hv=>by
 obtain ⟨x,_,rfl⟩:=List.mem_map.1 hv
 exact ⟨rfl,rfl⟩
section
variable {B0:Nat} {w0:World}
theorem Keywords_spec:LCalls (KC B0 w0) 216 [] [] (Ret (.list (keywords.map str))):=by
 refine cI Tryz.func216 rfl (n:=2) rfl rfl rfl ?_
 refine gai ?_
 refine oS (sL [_,_,_,_,_,_,_,_] rfl (elemsOk_strs keywords) rfl rfl rfl ?_) rfl
 refine gad ?_
 exact retRet rfl (rC (rT (v:=.list _) rfl zsr) rN) rfl
theorem signs_spec:LCalls (KC B0 w0) 195 [] [] (Ret (.list (signs.map str))):=by
 refine cI Tryz.func195 rfl (n:=2) rfl rfl rfl ?_
 refine gai ?_
 refine oS (sL [_,_,_,_,_,_,_,_,_,_,_,_,_,_,_,_,_,_,_,_,_,_,_,_] rfl (elemsOk_strs signs) rfl rfl rfl ?_) rfl
 refine gad ?_
 exact retRet rfl (rC (rT (v:=.list _) rfl zsr) rN) rfl
theorem Index_spec (l:List (List UInt8)) (x:List UInt8) (hl:l.length≤1000000000):LCalls (KC B0 w0) 235 [.list (l.map str),str x] [] (RetIf fun lv=>∃ n:Int,lv=int .i64 n∧decide (0≤n)=l.contains x):=by
 refine cI Tryz.func235 rfl (n:=19) rfl rfl rfl ?_
 refine gac ?_
 refine oL (fun k ls H=>∃ m:Nat,k=l.length-m∧ls=[(0,.list (l.map str)),(1,str x),(7,int .i64 (l.map str).length),(8,int .i64 m)]∧H=[]∧m≤l.length∧l.contains x=(l.drop m).contains x)
  ⟨_,_,_,⟨0,rfl,rfl,rfl,by omega,by simp⟩,⟨rfl,rfl,rfl,rfl,trivial⟩,zhR _⟩ ?_
 rintro k ls H ⟨m,rfl,rfl,rfl,hm,hI⟩ j hj
 refine gal ?_
 refine oC rfl (fun hc=>?_) (fun hc=>?_)
 ·have hlt:m<l.length:=by simpa using hc
  refine gab ?_
  refine oP (xR (el':=str l[m]) rfl rfl zo (by simp) rfl rfl) rfl ?_
  refine gaa ?_
  refine oC rfl (fun he=>?_) (fun he=>?_)
  ·refine gab ?_
   have hx:x=l[m]:=by simpa using he
   exact retRetIf hj (zra rfl) ⟨m,rfl,by
    rw[hx,decide_eq_true zo]
    simp⟩
  ·refine gab ?_
   have hx:¬ x=l[m]:=by simpa using he
   exact ⟨_,_,_,by omega,⟨m+1,rfl,rfl,rfl,by omega,by
    rw[hI,List.drop_eq_getElem_cons hlt,List.contains_cons]
    simp[hx]⟩,⟨rfl,rfl,rfl,int_eq zo,trivial⟩,zhR _,hj⟩
 ·have hge:l.length≤m:=by simpa using hc
  refine gab ?_
  exact retRetIf hj (zra rfl) ⟨-1,rfl,by
   rw[hI,List.drop_eq_nil_of_le hge]
   rfl⟩
theorem Contains_spec (l:List (List UInt8)) (x:List UInt8) (hl:l.length≤1000000000):LCalls (KC B0 w0) 199 [.list (l.map str),str x] [] (Ret (bool (l.contains x))):=by
 refine cI Tryz.func199 rfl (n:=9) rfl rfl rfl ?_
 refine gab ?_
 refine oS (S.fnIf [_,_] rfl (Index_spec l x hl) ?_) rfl
 rintro lv ⟨n,rfl,hn⟩
 refine gad ?_
 exact retRet rfl (zra rfl) (by rw[←hn];rfl)
theorem name_spec (s:List UInt8) (hs:s.length≤1000000000):LCalls (KC B0 w0) 193 [str s] [] (Ret (encTokR (lexName s))):=by
 refine cI Tryz.func193 rfl (n:=21) rfl rfl rfl ?_
 refine gag ?_
 refine oS (sA fun b=>?_) rfl
 refine gao ?_
 refine oS (sF [_,_] rfl (run_spec isInner inner_spec s hs) ?_) rfl
 refine gac ?_
 refine oC rfl (fun hc=>?_) (fun hc=>?_)
 ·refine gac ?_
  exact retRet rfl (rC (rA rfl zm0 rfl zsr) (rC (zrt rfl) (zra rfl))) (by
   rw[lexName,if_pos (by have:=zt hc;omega)]
   rfl)
 ·refine gab ?_
  refine oS (sF [] rfl Keywords_spec ?_) rfl
  refine gaa ?_
  refine oS (sF [_,_] rfl (Contains_spec keywords (s.takeWhile isInner) zDd) ?_) rfl
  refine gap ?_
  refine oC rfl (fun hk=>?_) (fun hk=>?_)
  ·refine gac ?_
   exact retRet rfl (rC (rA rfl zm0 rfl zsr) (rC (zrt rfl) (zra rfl))) (by
    rw[lexName,if_neg (by have:=zf hc;omega),if_pos hk]
    rfl)
  ·refine gac ?_
   exact retRet rfl (rC (rA rfl zm0 rfl zsr) (rC (zrt rfl) (zra rfl))) (by
    rw[lexName,if_neg (by have:=zf hc;omega),if_neg (by rw[hk];decide)]
    rfl)
end
end Go.Proofs.YtpbbgkoalnonoaaGreatDoor
