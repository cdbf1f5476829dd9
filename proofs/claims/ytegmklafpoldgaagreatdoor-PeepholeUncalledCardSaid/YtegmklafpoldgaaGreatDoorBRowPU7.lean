/- Texts joined: ChkW9, ChkW10, Lex5, Lex6, ParP1, ParP2, ParP3, ParP4, ParP5. -/
import Derived.Test.YtegmklafpoldgaaGreatDoorBRowPU3
import Derived.Test.YtegmklafpoldgaaGreatDoorBRowPU4
import Derived.Test.YtegmklafpoldgaaGreatDoorBRowPU5
import Derived.Test.YtegmklafpoldgaaGreatDoorBRowPU6
set_option linter.unusedVariables false
set_option linter.unusedSimpArgs false
set_option maxRecDepth 100000
set_option maxHeartbeats 4000000
namespace Go.Proofs.YtegmklafpoldgaaGreatDoor.Chk
open Go.GL Go.RowKit Go.Stele
theorem hsub_right {X A L:Heap} (h:HSub X L):HSub X (A++L):=
 let ⟨G,hG⟩:=h
 ⟨A++G,(List.Perm.append_left A hG).trans (by
  rw[←zAs,←zAs]
  exact zPc.append_right G)⟩
def pgH (k:KB) (o:Value) (d:Nat):Heap:=[(k.cb,.cells 105 [.atom (.map (some k.gm)),.atom (.map (some k.vm)),.atom (.map (some k.am)),.atom (.map (some k.fm)),str k.name,.atom o,int .i64 (d:Int)]),(k.gm,.map (kvs k.G) k.g1),(k.vm,.map (kvs k.V) k.g2),(k.am,.map (kvs k.A) k.g3),(k.fm,.map (kvs k.F) k.g4)]
def PostE (err:Int) (P:Heap→Prop) (r:LRes) (H:Heap):Prop:=(err=0∧r=.ret (.tuple [])∧P H)∨(err≠0∧(∃ nm,r=.panic (vio nm err))∧H=[])
section
variable {C:Ctx} {n:Nat} {e:Env} {H:Heap} {dst:Option Nat} {ty:TypeId} {pos:String} {aft:Array Edge} {g:Option (Nat×Bool)} {K:LV→Heap→Prop} {X:List PanicEntry→Heap→Prop}
theorem S.callE {err:Int} {P:Heap→Prop} {H1 F:Heap} {f:FuncId} [TEnter C.P f] (args:List Operand) {ats:Array TypeId} {av:List LV} (has:args.map e.ev=av) (hp:H.Perm (H1++F))
  (hc:LCalls C f av H1 (PostE err P)) (hk:∀ H',err=0→P H'→K (.tuple []) (H'++F)) (hx:∀ nm,err≠0→X (vio nm err) F):LStep C ⟨dst,.call { callee:=.value (.func f),args:=args.toArray,argTypes:=ats },ty,pos,aft,g⟩ e H K X:=by
 refine S.callH args has hp hc ?_ ?_
 ·rintro v H2 (⟨h1,h2,h3⟩|⟨_,⟨nm,h2⟩,_⟩)
  ·cases h2
   exact hk _ h1 h3
  ·cases h2
 ·rintro ch H2 (⟨_,h2,_⟩|⟨h1,⟨nm,h2⟩,rfl⟩)
  ·cases h2
  ·cases h2
   exact hx nm h1
theorem retEn {err:Int} {P:Heap→Prop} {H':Heap} {rs:List ResultVar} {vs:List LV} (hd:e.ds=[]) (h:AllRes C n e H rs vs) (he:err=0) (hv:resLV vs=.tuple []) (hH:HSub H' H) (hP:P H'):RetPost C n rs (PostE err P) .normal e H:=
 rO hd h hH (.inl ⟨he,by rw[hv],hP⟩)
theorem panE {err er:Int} {P:Heap→Prop} {rs:List ResultVar} {nm:List UInt8} (hd:e.ds=[]) (he:err=er) (h0:er≠0):RetPost C n rs (PostE err P) (.panic (vio nm er)) e H:=
 RetPost.panic hd zhn (.inr ⟨by rw[he];exact h0,⟨nm,by rw[he]⟩,rfl⟩)
end
def newE (known:List Nm) (s:Nm):Int:=if isNm s=false then 7 else if s∈known then 8 else 0
theorem freshE_cons (known:List Nm) (s:Nm) (l:List Nm):freshE known (s::l)=orE (newE known s) (freshE (s::known) l):=by
 rw[freshE]
 unfold newE
 split
 ·rfl
 split
 ·rfl
 ·rfl
theorem freshE_iff:∀ (l k k':List Nm),(∀ s,s∈k ↔ s∈k')→freshE k l=freshE k' l
 |[],_,_,_=>rfl
 |s::l,k,k',h=>by
  have h2:newE k s=newE k' s:=by
   unfold newE
   simp only[h s]
  rw[freshE_cons,freshE_cons,h2,freshE_iff l (s::k) (s::k') (fun x=>by simp[h x])]
attribute [local irreducible] LOps LCode LStep LCalls Go.GL.Pure QThen QBlock RetPost LQ LAny LLate LLateOp LS
section
variable {B0:Nat} {w0:World}
theorem global_spec {k:KB} {o:Value} {d:Nat} {known:List Nm} (hG:IsSet k.G known) (s:Nm):LCalls (KC B0 w0) 91 [ptr k.cb 0,str s] (pgH k o d)
  (PostE (newE known s) (fun H=>∃ g1,H=pgH { k with G:=GL.kvPut k.G s (bool true),g1:=g1 } o d)):=by
 generalize hI:newE known s=E
 unfold newE at hI
 refine cI Tryz.func91 rfl (n:=22) rfl rfl rfl ?_
 refine gab ?_
 refine oS (sF [_] rfl (isName_spec s) ?_) rfl
 refine gat ?_
 cases hn:isNm s with
 |false=>
  rw[if_pos hn] at hI
  refine oS (sK (H1:=[]) (F:=pgH k o d) [_,_,_] rfl zpr (req_spec false s 7 zDd) (fun h=>absurd h zDd) (fun nm _ e' he'=>?_)) rfl
  refine gad ?_
  exact panE (he'.trans rfl) hI.symm zDd
 |true=>
  rw[if_neg (by rw[hn];decide)] at hI
  refine oS (sK (H1:=[]) (F:=pgH k o d) [_,_,_] rfl zpr (req_spec true s 7 zDd) (fun _=>?_) (fun nm h=>absurd rfl h)) rfl
  refine gcx ?_
  refine oP (Pure.setHas rfl rfl zm1 hG) rfl ?_
  refine oB 13 rfl (fun h1=>?_) (fun h1=>?_)
  ·rw[if_pos (zt h1)] at hI
   refine gea ?_
   refine oS (sK (H1:=[]) (F:=pgH k o d) [_,_,_] rfl zpr (req_spec false s 8 zDd) (fun h=>absurd h zDd) (fun nm _ e' he'=>?_)) rfl
   refine gad ?_
   exact panE (he'.trans rfl) hI.symm zDd
  ·rw[if_neg (zf h1)] at hI
   refine gea ?_
   refine oS (sK (H1:=[]) (F:=pgH k o d) [_,_,_] rfl zpr (req_spec true s 8 zDd) (fun _=>?_) (fun nm h=>absurd rfl h)) rfl
   refine gh1 ?_
   refine oS (S.kvSet (k:=s) (lv:=bool true) rfl rfl rfl zp1 fun g1=>?_) rfl
   refine gba ?_
   exact retEn rfl rN hI.symm rfl ⟨[],by rw[zLz];exact List.Perm.swap _ _ _⟩ ⟨g1,rfl⟩
theorem function_spec {vars arrays later:List Nm} {known:List FSum} {k:KB} {o:Value} {d:Nat} (f:FnD) (hG:IsSet k.G (vars++arrays++later)) (hV:IsSet k.V vars) (hA:IsSet k.A arrays) (hF:∀ n,GL.kvGet k.F n=(known.find? fun g=>decide (g.name=n)).map encSum) (hnew:f.name ∉ known.map (·.name))
  {B D:Nat} (hB:KnB B D known) (hB8:B≤50000000) (hD8:D≤100000000) (hnd:ndF f≤2000000) :
  LCalls (KC B0 w0) 93 [ptr k.cb 0,encFn f] (pgH k o d)
  (PostE (errF vars arrays later known f) (fun H=>∃ nm o' d' F' g4,(∀ n,GL.kvGet F' n=((known++[sumF vars arrays later known f]).find? fun g=>decide (g.name=n)).map encSum)∧H=pgH { k with name:=nm,F:=F',g4:=g4 } o' d')):=by
 have hsm:=smF_of hnd
 have hp6:f.params.length≤2000000:=hsm.params
 have hl6:f.locals.length≤2000000:=hsm.locals
 have hbn:ndSs f.body≤2000000:=by
  unfold ndF at hnd
  omega
 generalize hI:errF vars arrays later known f=E
 unfold errF at hI
 refine cI Tryz.func93 rfl (n:=82) rfl rfl rfl ?_
 refine gac ?_
 refine oS (sB rfl fun b3=>?_) rfl
 refine gh2 ?_
 refine oS (S.kvNew fun om=>?_) rfl
 refine gh3 ?_
 refine oS (sL (es:=[strsV f.params,strsV f.locals]) [_,_] rfl (eC rfl rfl (eC rfl rfl eN)) rfl rfl rfl ?_) rfl
 refine oS (S.callH (H1:=[]) (F:=_) [_] rfl zpr (concat_spec [f.params,f.locals] (by simp) (by
  intro l hl
  rcases zMi.1 hl with rfl|hl
  ·exact hp6
  ·rw[List.mem_singleton.1 hl]
   exact hl6)) ?_ (by rintro ch H' ⟨v,h,_⟩;cases h)) rfl
 rintro v2 Ha2 ⟨_,h,hacc2⟩
 cases h
 have hfl:[f.params,f.locals].flatten=f.params++f.locals:=by simp
 rw[hfl] at hacc2
 refine LOps.sub 24 rfl hacc2.sub ?_
 refine LOps.weak (H':=(b3,.cells 89 [str f.name,.list (f.params.map str),.list (f.locals.map str),.list (f.body.map encS)])::ckH { k with name:=f.name,om:=om,O:=[],g5:=0 } 1) ?_ ?_
 ·refine hsub_right ?_
  repeat first
   |exact HSub.nil _
   |refine zhP zb1 ?_
 refine gbf ?_
 refine oL (fun kk ls H'=>∃ (pre l1:List Nm) (OO:KV) (gg:Nat),f.params++f.locals=pre++l1∧kk=l1.length∧ls=[(0,ptr k.cb 0),(3,ptr b3 0),(24,.list ((f.params++f.locals).map str)),(25,int .i64 (((f.params++f.locals).map str).length:Int)),(26,iv pre.length)] ∧
   H'=(b3,.cells 89 [str f.name,.list (f.params.map str),.list (f.locals.map str),.list (f.body.map encS)])::ckH { k with name:=f.name,om:=om,O:=OO,g5:=gg } 1∧IsSet OO pre∧orE (freshE (pre.reverse++(vars++arrays++later)) l1) (errSs (envF vars arrays later known f) f.body)=E)
  ⟨_,_,_,⟨[],f.params++f.locals,[],0,rfl,rfl,rfl,rfl,IsSet.nil,hI⟩,⟨rfl,rfl,rfl,rfl,rfl,trivial⟩,zhR _⟩ ?_
 rintro kk ls H' ⟨pre,l1,OO,gg,hLe,rfl,rfl,rfl,hO,hE⟩ j hj
 have hb2:pre.length≤4000000:=by
  have:=congrArg List.length hLe
  rw[zLa,zLa] at this
  omega
 refine gae ?_
 refine oC rfl (fun hc=>?_) (fun hc=>?_)
 ·have hlen:=zt hc
  rw[zLm,hLe,zLa] at hlen
  obtain ⟨s,l2,rfl⟩:∃ a l2,l1=a::l2:=by
   cases l1 with
   |nil=>simp at hlen
   |cons a l2=>exact ⟨a,l2,rfl⟩
  rw[freshE_cons] at hE
  generalize hEn:newE (pre.reverse++(vars++arrays++later)) s=En at hE
  unfold newE at hEn
  refine gag ?_
  refine oP (xR (el':=str s) (cs:=[str s]) rfl rfl zo (by rw[hLe];exact get_mid str pre s l2) rfl rfl) rfl ?_
  refine gb1 ?_
  refine oS (sF [_] rfl (isName_spec s) ?_) rfl
  refine gat ?_
  cases hn:isNm s with
  |false=>
   rw[if_pos hn] at hEn
   refine oS (sK (H1:=[]) (F:=_) [_,_,_] rfl zpr (req_spec false s 7 zDd) (fun h=>absurd h zDd) (fun nm _ e' he'=>?_)) rfl
   refine gaa ?_
   exact panE (he'.trans hj) (by rw[←hE,←hEn];rfl) zDd
  |true=>
   rw[if_neg (by rw[hn];decide)] at hEn
   refine oS (sK (H1:=[]) (F:=_) [_,_,_] rfl zpr (req_spec true s 7 zDd) (fun _=>?_) (fun nm h=>absurd rfl h)) rfl
   refine geb ?_
   refine oP (Pure.setHas rfl rfl zm2 hG) rfl ?_
   refine oB 39 rfl (fun h1=>?_) (fun h1=>?_)
   ·have hin:s∈pre.reverse++(vars++arrays++later):=List.mem_append_right _ (zt h1)
    rw[if_pos hin] at hEn
    refine gh4 ?_
    refine oS (sK (H1:=[]) (F:=_) [_,_,_] rfl zpr (req_spec false s 8 zDd) (fun h=>absurd h zDd) (fun nm _ e' he'=>?_)) rfl
    refine gaa ?_
    exact panE (he'.trans hj) (by rw[←hE,←hEn];rfl) zDd
   refine gd1 ?_
   refine oP (Pure.setHas rfl rfl zm6 hO) rfl ?_
   refine oB 47 rfl (fun h2=>?_) (fun h2=>?_)
   ·have hin:s∈pre.reverse++(vars++arrays++later):=List.mem_append_left _ (List.mem_reverse.2 (zt h2))
    rw[if_pos hin] at hEn
    refine gec ?_
    refine oS (sK (H1:=[]) (F:=_) [_,_,_] rfl zpr (req_spec false s 8 zDd) (fun h=>absurd h zDd) (fun nm _ e' he'=>?_)) rfl
    refine gaa ?_
    exact panE (he'.trans hj) (by rw[←hE,←hEn];rfl) zDd
   rw[if_neg (fun h=>(List.mem_append.1 h).elim (fun h=>zf h2 (List.mem_reverse.1 h)) (zf h1))] at hEn
   subst hEn
   refine gec ?_
   refine oS (sK (H1:=[]) (F:=_) [_,_,_] rfl zpr (req_spec true s 8 zDd) (fun _=>?_) (fun nm h=>absurd rfl h)) rfl
   refine ged ?_
   refine oS (S.kvSet (k:=s) (lv:=bool true) rfl rfl rfl zp6 fun gg2=>?_) rfl
   refine gah ?_
   exact ⟨l2.length,_,_,Nat.lt_succ_self _,⟨pre++[s],l2,GL.kvPut OO s (bool true),gg2,by rw[hLe];simp,rfl,rfl,rfl,hO.add s,by
    rw[←hE]
    rw[freshE_iff l2 ((pre++[s]).reverse++(vars++arrays++later)) (s::(pre.reverse++(vars++arrays++later))) (fun x=>by simp)]
    rfl⟩,⟨rfl,rfl,rfl,rfl,int_eq (by simp),trivial⟩,by
    repeat first
     |exact HSub.nil _
     |refine zhP zb1 ?_,hj⟩
 have hlen:=zf hc
 rw[zLm,hLe,zLa] at hlen
 obtain rfl:l1=[]:=by
  cases l1 with
  |nil=>rfl
  |cons a l2=>simp at hlen;omega
 rw[zLz] at hLe
 rw[←hLe] at hO
 have hE2:errSs (envF vars arrays later known f) f.body=E:=by rw[←hE];rfl
 have hkb:KBok { k with name:=f.name,om:=om,O:=OO,g5:=gg } (envF vars arrays later known f):=⟨hG,hV,hA,hO,hF⟩
 have hss:=stmts_spec (B0:=B0) (w0:=w0) (k:={ k with name:=f.name,om:=om,O:=OO,g5:=gg }) (c:=envF vars arrays later known f) hB hD8 (n:=2000000) (zNr _) (stmt_spec hkb hB hB8 hD8 2000000 (zNr _)) f.body 1 hbn zDd
 have hnb:=needSs_le B D (envF vars arrays later known f) hB f.body
 have hdb:=depSs_le B D (envF vars arrays later known f) hB f.body
 refine gee ?_
 refine oS (sK [_,_] rfl (Inp.swap1) hss (fun h0=>?_) (fun nm h0 e' he'=>?_)) rfl
 rotate_left
 ·refine gad ?_
  exact panE (he'.trans hj) hE2.symm h0
 refine LOps.perm (Inp.swap1 (H:=ckH _ _)).symm ?_
 refine gar ?_
 have hpl:(f.params.map str).length≤2000000:=by rw[zLm];exact hp6
 refine LCode.tail 20 zk ?_
 refine gh5 ?_
 refine lP (Pure.max3e 2 (f.params.length+1) (needSs (envF vars arrays later known f) f.body) rfl rfl rfl rfl (by rw[zLm];omega) rfl) rfl ?_
 refine gh6 ?_
 refine oS (S.kvSet (k:=f.name) (lv:=.agg [int .i64 ((f.params.map str).length:Int),int .i64 (max (max 2 (f.params.length+1)) (needSs (envF vars arrays later known f) f.body):Nat),int .i64 (max 1 (depSs (envF vars arrays later known f) f.body):Nat)]) rfl rfl rfl zp5 fun g4=>?_) rfl
 refine gba ?_
 refine retEn hj rN (hE2.symm.trans h0) rfl (H':=pgH { k with name:=f.name,F:=GL.kvPut k.F f.name (.agg [int .i64 ((f.params.map str).length:Int),int .i64 (max (max 2 (f.params.length+1)) (needSs (envF vars arrays later known f) f.body):Nat),int .i64 (max 1 (depSs (envF vars arrays later known f) f.body):Nat)]),g4:=g4 } (.map (some om)) (max 1 (depSs (envF vars arrays later known f) f.body))) ?hs ⟨f.name,_,_,_,g4,fun n=>?kv,rfl⟩
 case hs=>
  repeat first
   |exact HSub.nil _
   |refine zhP zb1 ?_
 case kv=>
  rw[GL.kvGet_put,hF n,List.find?_append]
  by_cases h1:f.name=n
  ·rw[if_pos h1]
   have h2:(known.find? fun g=>decide (g.name=n))=none:=by
    rw[List.find?_eq_none]
    intro g hg
    simp only[zDe]
    intro h3
    exact hnew (by rw[h1,←h3];exact List.mem_map_of_mem hg)
   rw[h2,Option.none_or]
   have h4:([sumF vars arrays later known f].find? fun g=>decide (g.name=n))=some (sumF vars arrays later known f):=by
    rw[List.find?_cons_of_pos]
    exact decide_eq_true h1
   rw[h4]
   show some _=some (encSum _)
   unfold encSum sumF
   rw[←zLm (f:=str)]
  ·rw[if_neg h1]
   have h4:([sumF vars arrays later known f].find? fun g=>decide (g.name=n))=none:=by
    rw[List.find?_eq_none]
    intro g hg
    rw[List.mem_singleton.1 hg]
    simp only[zDe]
    exact h1
   rw[h4,Option.or_none]
end
end Go.Proofs.YtegmklafpoldgaaGreatDoor.Chk
namespace Go.Proofs.YtegmklafpoldgaaGreatDoor.Chk
open Go.GL Go.RowKit Go.Stele
def encArG (a:Nm×Int):LV:=.agg [str a.1,int .i64 a.2]
def encPrG (vars:List Nm) (arrays:List (Nm×Int)) (fs:List FnD):LV:=.agg [.list (vars.map str),.list (arrays.map encArG),.list (fs.map encFn)]
theorem freshE_zero:∀ (l known:List Nm),freshE known l=0→l.Nodup∧(∀ s∈l,s ∉ known)∧∀ s∈l,isNm s=true
 |[],known,_=>⟨List.nodup_nil,fun s h=>(List.not_mem_nil h).elim,fun s h=>(List.not_mem_nil h).elim⟩
 |s::l,known,h=>by
  rw[freshE] at h
  split at h
  ·cases h
  rename_i h1
  split at h
  ·cases h
  rename_i h2
  obtain ⟨h3,h4,h5⟩:=freshE_zero l _ h
  refine ⟨List.nodup_cons.2 ⟨fun hm=>h4 s hm zMs,h3⟩,?_,?_⟩
  ·intro x hx
   rcases zMi.1 hx with rfl|hx
   ·exact h2
   ·exact fun hk=>h4 x hx (zMo _ hk)
  ·intro x hx
   rcases zMi.1 hx with rfl|hx
   ·simpa using h1
   ·exact h5 x hx
theorem isNm_short {s:Nm} (h:isNm s=true):s.length≤1000:=by
 unfold isNm at h
 simp only[zBa,zDe] at h
 omega
theorem orE_ne {a b:Int} (h:a≠0):orE a b=a:=by
 unfold orE
 exact if_pos h
theorem ndFs_append:∀ a b:List FnD,ndFs (a++b)=ndFs a+ndFs b
 |[],b=>by rw[List.nil_append,ndFs,Nat.zero_add]
 |x::a,b=>by rw[List.cons_append,ndFs,ndFs,ndFs_append a b];omega
theorem errFs_zero {vars arrays later:List Nm}:∀ (l:List FnD) (known:List FSum),errFs vars arrays later known l=0→∀ f∈l,∃ k,errF vars arrays later k f=0
 |[],_,_,f,h=>(List.not_mem_nil h).elim
 |g::l,known,h,f,hf=>by
  rw[errFs,orE_zero] at h
  rcases zMi.1 hf with rfl|hf
  ·exact ⟨known,h.1⟩
  ·exact errFs_zero l _ h.2 f hf
theorem errF_names {vars arrays later:List Nm} {k:List FSum} {f:FnD} (h:errF vars arrays later k f=0):∀ x∈f.params++f.locals,x.length≤1000:=by
 unfold errF at h
 rw[orE_zero] at h
 intro x hx
 exact isNm_short ((freshE_zero _ _ h.1).2.2 x hx)
theorem find_last {l:List FSum} {m:FSum} (hn:(l.map (·.name)).Nodup) (hm:l.getLast? = some m):(l.find? fun g=>decide (g.name=m.name))=some m:=by
 obtain ⟨ys,rfl⟩:=List.getLast?_eq_some_iff.1 hm
 rw[List.find?_append]
 have h1:(ys.find? fun g=>decide (g.name=m.name))=none:=by
  rw[List.find?_eq_none]
  intro g hg
  simp only[zDe]
  intro h2
  rw[zMa] at hn
  exact (List.nodup_append.1 hn).2.2 _ (List.mem_map_of_mem hg) _ (List.mem_map_of_mem (List.mem_singleton_self m)) h2
 rw[h1,Option.none_or,List.find?_cons_of_pos]
 exact decide_eq_true rfl
theorem sumFs_names {vars arrays later:List Nm}:∀ (l:List FnD) (known:List FSum),(sumFs vars arrays later known l).map (·.name)=known.map (·.name)++l.map (·.name)
 |[],known=>by rw[sumFs];simp
 |f::l,known=>by
  rw[sumFs,sumFs_names l]
  simp[sumF]
theorem fresh_step {pre l:List Nm} {s:Nm} {FR:Int} (h:freshE pre (s::l)=FR) (h0:newE pre s=0):freshE (pre++[s]) l=FR:=by
 rw[←h,freshE_cons,h0,freshE_iff l (pre++[s]) (s::pre) (fun x=>by simp[or_comm])]
 rfl
theorem fresh_bad {pre l:List Nm} {s:Nm} {FR RA E:Int} (hI:orE FR RA=E) (h:freshE pre (s::l)=FR) (h0:newE pre s≠0):E=newE pre s:=by
 rw[←hI,←h,freshE_cons,orE_ne (a:=orE _ _) (by rw[orE_ne h0];exact h0),orE_ne h0]
attribute [local irreducible] LOps LCode LStep LCalls Go.GL.Pure QThen QBlock RetPost LQ LAny LLate LLateOp LS
section
variable {B0:Nat} {w0:World}
theorem program_spec {k:KB} {o:Value} {d:Nat} (vars:List Nm) (arrays:List (Nm×Int)) (fs:List FnD) (hk1:k.G=[]) (hk2:k.V=[]) (hk3:k.A=[]) (hk4:k.F=[]) (hv6:vars.length≤2000000) (ha6:arrays.length≤2000000) (har:∀ a∈arrays,-9223372036854775808≤a.2∧a.2<9223372036854775808) (hnd:ndFs fs≤2000000) :
  LCalls (KC B0 w0) 35 [ptr k.cb 0,encPrG vars arrays fs] (pgH k o d) (PostE (checkP vars arrays fs) (fun H=>H=[])):=by
 have hf6:fs.length≤2000000:=zNt (ndFs_len fs) hnd
 generalize hI:checkP vars arrays fs=E
 unfold checkP at hI
 generalize hFR:freshE [] (vars++arrays.map (·.1)++fs.map (·.name))=FR at hI
 generalize hSZ:sizesE 0 (arrays.map (·.2))=SZ at hI
 generalize hFS:errFs vars (arrays.map (·.1)) (fs.map (·.name)) [] fs=FS at hI
 generalize hSS:sumFs vars (arrays.map (·.1)) (fs.map (·.name)) [] fs=SS at hI
 generalize hMN:mainE vars fs SS=MN at hI
 generalize hRA:orE SZ (orE FS MN)=RA at hI
 refine cI Tryz.func35 rfl (n:=147) rfl rfl rfl ?_
 refine gac ?_
 refine oS (sB rfl fun b3=>?_) rfl
 refine gco ?_
 refine oL (fun kk ls H'=>∃ (pre l1:List Nm) (G1 V1:KV) (g1 g2:Nat),vars=pre++l1∧kk=l1.length∧ls=[(0,ptr k.cb 0),(3,ptr b3 0),(18,.list (vars.map str)),(19,int .i64 ((vars.map str).length:Int)),(20,iv pre.length)] ∧
   H'=(b3,.cells 28 [.list (vars.map str),.list (arrays.map encArG),.list (fs.map encFn)])::pgH { k with G:=G1,g1:=g1,V:=V1,g2:=g2 } o d∧IsSet G1 pre∧IsSet V1 pre∧freshE pre (l1++arrays.map (·.1)++fs.map (·.name))=FR)
  ⟨_,_,_,⟨[],vars,k.G,k.V,k.g1,k.g2,rfl,rfl,rfl,rfl,by rw[hk1];exact IsSet.nil,by rw[hk2];exact IsSet.nil,hFR⟩,⟨rfl,rfl,rfl,rfl,rfl,trivial⟩,zhR _⟩ ?_
 rintro kk ls H' ⟨pre,l1,G1,V1,g1,g2,hLe,rfl,rfl,rfl,hG1,hV1,hE⟩ j hj
 have hb2:pre.length≤2000000:=by
  have:=congrArg List.length hLe
  rw[zLa] at this
  omega
 refine gae ?_
 refine oC rfl (fun hc=>?_) (fun hc=>?_)
 ·have hlen:=zt hc
  rw[zLm,hLe,zLa] at hlen
  obtain ⟨s,l2,rfl⟩:∃ a l2,l1=a::l2:=by
   cases l1 with
   |nil=>simp at hlen
   |cons a l2=>exact ⟨a,l2,rfl⟩
  rw[List.cons_append,List.cons_append] at hE
  refine gag ?_
  refine oP (xR (el':=str s) (cs:=[str s]) rfl rfl zo (by rw[hLe];exact get_mid str pre s l2) rfl rfl) rfl ?_
  refine gb1 ?_
  refine oS (S.callE (F:=[_]) [_,_] rfl (Inp.swap1) (global_spec (k:={ k with G:=G1,g1:=g1,V:=V1,g2:=g2 }) (o:=o) (d:=d) hG1 s) (fun H2 h0 hP=>?_) (fun nm h0 e' he'=>?_)) rfl
  rotate_left
  ·refine gaa ?_
   exact panE (he'.trans hj) (fresh_bad hI hE h0) h0
  obtain ⟨g1',rfl⟩:=hP
  refine LOps.perm (Inp.swap1 (H:=pgH _ _ _)).symm ?_
  refine ged ?_
  refine oS (S.kvSet (k:=s) (lv:=bool true) rfl rfl rfl zp3 fun g2'=>?_) rfl
  refine gah ?_
  refine ⟨l2.length,_,_,Nat.lt_succ_self _,⟨pre++[s],l2,GL.kvPut G1 s (bool true),GL.kvPut V1 s (bool true),g1',g2',by rw[hLe];simp,rfl,rfl,rfl,hG1.add s,hV1.add s,fresh_step hE h0⟩,⟨rfl,rfl,rfl,rfl,int_eq (by simp),trivial⟩,?_,hj⟩
  repeat first
   |exact HSub.nil _
   |refine zhP zb1 ?_
 have hlen:=zf hc
 rw[zLm,hLe,zLa] at hlen
 obtain rfl:l1=[]:=by
  cases l1 with
  |nil=>rfl
  |cons a l2=>simp at hlen;omega
 rw[zLz] at hLe
 subst hLe
 rw[List.nil_append] at hE
 clear hlen hc hb2
 refine gcy ?_
 refine oL (fun kk ls H'=>∃ (pre l1:List (Nm×Int)) (G1 A1:KV) (g1 g3:Nat),arrays=pre++l1∧kk=l1.length∧ls=[(0,ptr k.cb 0),(3,ptr b3 0),(34,.list (arrays.map encArG)),(35,int .i64 ((arrays.map encArG).length:Int)),(36,iv pre.length)] ∧
   H'=(b3,.cells 28 [.list (vars.map str),.list (arrays.map encArG),.list (fs.map encFn)])::pgH { k with G:=G1,g1:=g1,V:=V1,g2:=g2,A:=A1,g3:=g3 } o d∧IsSet G1 (vars++pre.map (·.1))∧IsSet A1 (pre.map (·.1))∧freshE (vars++pre.map (·.1)) (l1.map (·.1)++fs.map (·.name))=FR)
  ⟨_,_,_,⟨[],arrays,G1,k.A,g1,k.g3,rfl,rfl,rfl,rfl,by simpa using hG1,by rw[hk3];exact IsSet.nil,by simpa using hE⟩,⟨rfl,rfl,rfl,rfl,rfl,trivial⟩,zhR _⟩ ?_
 clear hG1 hE G1 g1
 rintro kk ls H' ⟨pre,l1,G1,A1,g1,g3,hLe,rfl,rfl,rfl,hG1,hA1,hE⟩ j hj2
 have hb2:pre.length≤2000000:=by
  have:=congrArg List.length hLe
  rw[zLa] at this
  omega
 refine gae ?_
 refine oC rfl (fun hc=>?_) (fun hc=>?_)
 ·have hlen:=zt hc
  rw[zLm,hLe,zLa] at hlen
  obtain ⟨s,l2,rfl⟩:∃ a l2,l1=a::l2:=by
   cases l1 with
   |nil=>simp at hlen
   |cons a l2=>exact ⟨a,l2,rfl⟩
  rw[zMc,List.cons_append] at hE
  refine gag ?_
  refine oP (xR (el':=encArG s) (cs:=[str s.1,int .i64 s.2]) rfl rfl zo (by rw[hLe];exact get_mid encArG pre s l2) rfl rfl) rfl ?_
  refine ga5 ?_
  refine oS (sA fun b7=>?_) rfl
  refine gh7 ?_
  refine oS (S.callE (F:=[_,_]) [_,_] rfl (zPc (l₁:=[_,_])) (global_spec (k:={ k with G:=G1,g1:=g1,V:=V1,g2:=g2,A:=A1,g3:=g3 }) (o:=o) (d:=d) hG1 s.1) (fun H2 h0 hP=>?_) (fun nm h0 e' he'=>?_)) rfl
  rotate_left
  ·refine gaa ?_
   exact panE (he'.trans (hj2.trans hj)) (fresh_bad hI hE h0) h0
  obtain ⟨g1',rfl⟩:=hP
  refine LOps.weak (H':=[(b7,.cells 86 [str s.1,int .i64 s.2]),(k.cb,.cells 105 [.atom (.map (some k.gm)),.atom (.map (some k.vm)),.atom (.map (some k.am)),.atom (.map (some k.fm)),str k.name,.atom o,int .i64 (d:Int)]),(b3,.cells 28 [.list (vars.map str),.list (arrays.map encArG),.list (fs.map encFn)]),
   (k.gm,.map (kvs (GL.kvPut G1 s.1 (bool true))) g1'),(k.vm,.map (kvs V1) g2),(k.am,.map (kvs A1) g3),(k.fm,.map (kvs k.F) k.g4)]) ?_ ?_
  ·repeat first
    |exact HSub.nil _
    |refine zhP zb1 ?_
  refine gaq ?_
  refine cD (m:=7) rfl [(b7,.cells 86 [str s.1,int .i64 s.2]),(k.cb,.cells 105 [.atom (.map (some k.gm)),.atom (.map (some k.vm)),.atom (.map (some k.am)),.atom (.map (some k.fm)),str k.name,.atom o,int .i64 (d:Int)])] ?_
  refine aT 0 rfl rfl (pM (lv:=.atom _) rfl) ?_
  refine aT 1 rfl rfl (pN rfl) ?_
  refine aT 2 rfl rfl (pF rfl) ?_
  refine aT 3 rfl rfl (pL (c:=.atom _) rfl zm1 rfl) ?_
  refine aT 4 rfl rfl (pF rfl) ?_
  refine aT 5 rfl rfl (pL (c:=.atom _) rfl zm0 rfl) ?_
  refine aL ?_ (zhP pH zhp)
  refine lO 6 (lS (H1:=[(k.am,.map (kvs A1) g3)]) rfl (.inl rfl) rfl (show Pick _ _ _ from pT zp4) (zhP pH zhp) (S.kvSet (k:=s.1) (lv:=bool true) rfl rfl rfl pH fun g3'=>?_))
  refine lD zk ?_
  refine gah ?_
  refine ⟨l2.length,_,_,Nat.lt_succ_self _,⟨pre++[s],l2,GL.kvPut G1 s.1 (bool true),GL.kvPut A1 s.1 (bool true),g1',g3',by rw[hLe];simp,rfl,rfl,rfl,by simpa using hG1.add s.1,by simpa using hA1.add s.1,by simpa using fresh_step hE h0⟩,⟨rfl,rfl,rfl,rfl,int_eq (by simp),trivial⟩,?_,hj2⟩
  repeat first
   |exact HSub.nil _
   |refine zhP zb1 ?_
 have hlen:=zf hc
 rw[zLm,hLe,zLa] at hlen
 obtain rfl:l1=[]:=by
  cases l1 with
  |nil=>rfl
  |cons a l2=>simp at hlen;omega
 rw[zLz] at hLe
 subst hLe
 rw[List.map_nil,List.nil_append] at hE
 clear hlen hc hb2
 refine gcy ?_
 refine oL (fun kk ls H'=>∃ (pre l1:List FnD) (G1:KV) (g1:Nat),fs=pre++l1∧kk=l1.length∧ls=[(0,ptr k.cb 0),(3,ptr b3 0),(52,.list (fs.map encFn)),(53,int .i64 ((fs.map encFn).length:Int)),(54,iv pre.length)] ∧
   H'=(b3,.cells 28 [.list (vars.map str),.list (arrays.map encArG),.list (fs.map encFn)])::pgH { k with G:=G1,g1:=g1,V:=V1,g2:=g2,A:=A1,g3:=g3 } o d∧IsSet G1 (vars++arrays.map (·.1)++pre.map (·.name))∧freshE (vars++arrays.map (·.1)++pre.map (·.name)) (l1.map (·.name))=FR)
  ⟨_,_,_,⟨[],fs,G1,g1,rfl,rfl,rfl,rfl,by simpa using hG1,by simpa using hE⟩,⟨rfl,rfl,rfl,rfl,rfl,trivial⟩,zhR _⟩ ?_
 clear hG1 hE G1 g1
 rintro kk ls H' ⟨pre,l1,G1,g1,hLe,rfl,rfl,rfl,hG1,hE⟩ j hj3
 have hb2:pre.length≤2000000:=by
  have:=congrArg List.length hLe
  rw[zLa] at this
  omega
 refine gae ?_
 refine oC rfl (fun hc=>?_) (fun hc=>?_)
 ·have hlen:=zt hc
  rw[zLm,hLe,zLa] at hlen
  obtain ⟨s,l2,rfl⟩:∃ a l2,l1=a::l2:=by
   cases l1 with
   |nil=>simp at hlen
   |cons a l2=>exact ⟨a,l2,rfl⟩
  rw[zMc] at hE
  refine gag ?_
  refine oP (xR (el':=encFn s) (cs:=[_,_,_,_]) rfl rfl zo (by rw[hLe];exact get_mid encFn pre s l2) rfl rfl) rfl ?_
  refine gan ?_
  refine oS (sA fun b7=>?_) rfl
  refine gh8 ?_
  refine oS (S.callE (F:=[_,_]) [_,_] rfl (zPc (l₁:=[_,_])) (global_spec (k:={ k with G:=G1,g1:=g1,V:=V1,g2:=g2,A:=A1,g3:=g3 }) (o:=o) (d:=d) hG1 s.name) (fun H2 h0 hP=>?_) (fun nm h0 e' he'=>?_)) rfl
  rotate_left
  ·refine gaa ?_
   exact panE (he'.trans (hj3.trans (hj2.trans hj))) (fresh_bad hI hE h0) h0
  obtain ⟨g1',rfl⟩:=hP
  refine LOps.perm (zPc (l₂:=[_,_])) ?_
  refine gah ?_
  refine ⟨l2.length,_,_,Nat.lt_succ_self _,⟨pre++[s],l2,GL.kvPut G1 s.name (bool true),g1',by rw[hLe];simp,rfl,rfl,rfl,by simpa using hG1.add s.name,by simpa using fresh_step hE h0⟩,⟨rfl,rfl,rfl,rfl,int_eq (by simp),trivial⟩,zhD zhr,hj3⟩
 have hlen:=zf hc
 rw[zLm,hLe,zLa] at hlen
 obtain rfl:l1=[]:=by
  cases l1 with
  |nil=>rfl
  |cons a l2=>simp at hlen;omega
 rw[zLz] at hLe
 subst hLe
 have hFR0:FR=0:=hE.symm
 clear hlen hc hb2 hE
 rw[hFR0] at hI
 have hnod:=(freshE_zero _ _ (hFR.trans hFR0)).1
 have hnmok:=(freshE_zero _ _ (hFR.trans hFR0)).2.2
 have hI1:RA=E:=by rw[←hI];rfl
 rw[←hRA] at hI1
 clear hI hRA hFR
 have hPr:0≤(0:Int)∧(0:Int)≤150000:=⟨by decide,by decide⟩
 refine gh9 ?_
 refine oL (fun kk ls H'=>∃ (pre l1:List (Nm×Int)) (T:Int),arrays=pre++l1∧kk=l1.length∧ls=[(0,ptr k.cb 0),(3,ptr b3 0),(10,int .i64 T),(64,.list (arrays.map encArG)),(65,int .i64 ((arrays.map encArG).length:Int)),(66,iv pre.length)] ∧
   H'=(b3,.cells 28 [.list (vars.map str),.list (arrays.map encArG),.list (fs.map encFn)])::pgH { k with G:=G1,g1:=g1,V:=V1,g2:=g2,A:=A1,g3:=g3 } o d∧(0≤T∧T≤150000)∧sizesE T (l1.map (·.2))=SZ)
  ⟨_,_,_,⟨[],arrays,0,rfl,rfl,rfl,rfl,hPr,hSZ⟩,⟨rfl,rfl,rfl,rfl,rfl,rfl,trivial⟩,zhR _⟩ ?_
 clear hSZ
 rintro kk ls H' ⟨pre,l1,T,hLe,rfl,rfl,rfl,⟨hT1,hT2⟩,hE⟩ j hj4
 have hb2:pre.length≤2000000:=by
  have:=congrArg List.length hLe
  rw[zLa] at this
  omega
 refine gae ?_
 refine oC rfl (fun hc=>?_) (fun hc=>?_)
 ·have hlen:=zt hc
  rw[zLm,hLe,zLa] at hlen
  obtain ⟨s,l2,rfl⟩:∃ a l2,l1=a::l2:=by
   cases l1 with
   |nil=>simp at hlen
   |cons a l2=>exact ⟨a,l2,rfl⟩
  obtain ⟨hs1,hs2⟩:=har s (by rw[hLe];exact List.mem_append_right _ zMs)
  rw[zMc,sizesE] at hE
  refine gag ?_
  refine oP (xR (el':=encArG s) (cs:=[str s.1,int .i64 s.2]) rfl rfl zo (by rw[hLe];exact get_mid encArG pre s l2) rfl rfl) rfl ?_
  refine ga5 ?_
  refine oS (sA fun b7=>?_) rfl
  refine gia ?_
  refine oB 72 rfl (fun h1=>?_) (fun h1=>?_)
  rotate_left
  ·have h2:s.2≤0:=by have:=zf h1;omega
   rw[if_pos h2] at hE
   refine oS (sK (H1:=[]) (F:=_) [_,_,_] rfl zpr (req_spec false s.1 2 zDd) (fun h=>absurd h zDd) (fun nm _ e' he'=>?_)) rfl
   refine gaa ?_
   exact panE (he'.trans (hj4.trans (hj3.trans (hj2.trans hj)))) (by rw[←hI1,←hE];rfl) zDd
  have h2:¬ s.2≤0:=by have:=zt h1;omega
  rw[if_neg h2] at hE
  refine oS (sK (H1:=[]) (F:=_) [_,_,_] rfl zpr (req_spec true s.1 2 zDd) (fun _=>?_) (fun nm h=>absurd rfl h)) rfl
  refine gib ?_
  refine oB 80 rfl (fun h3=>?_) (fun h3=>?_)
  rotate_left
  ·have h4:150000-T<s.2:=by have:=zf h3;omega
   rw[if_pos h4] at hE
   refine oS (sK (H1:=[]) (F:=_) [_,_,_] rfl zpr (req_spec false s.1 6 zDd) (fun h=>absurd h zDd) (fun nm _ e' he'=>?_)) rfl
   refine gaa ?_
   exact panE (he'.trans (hj4.trans (hj3.trans (hj2.trans hj)))) (by rw[←hI1,←hE];rfl) zDd
  have h4:¬ 150000-T<s.2:=by have:=zt h3;omega
  rw[if_neg h4] at hE
  refine oS (sK (H1:=[]) (F:=_) [_,_,_] rfl zpr (req_spec true s.1 6 zDd) (fun _=>?_) (fun nm h=>absurd rfl h)) rfl
  refine gef ?_
  exact ⟨l2.length,_,_,Nat.lt_succ_self _,⟨pre++[s],l2,T+s.2,by rw[hLe];simp,rfl,rfl,rfl,⟨by omega,by omega⟩,hE⟩,⟨rfl,rfl,rfl,rfl,rfl,int_eq (by simp),trivial⟩,zhD zhr,hj4⟩
 have hlen:=zf hc
 rw[zLm,hLe,zLa] at hlen
 obtain rfl:l1=[]:=by
  cases l1 with
  |nil=>rfl
  |cons a l2=>simp at hlen;omega
 have hSZ0:SZ=0:=by rw[←hE];rfl
 rw[hSZ0] at hI1
 have hI2:orE FS MN=E:=by rw[←hI1];rfl
 clear hI1 hlen hc hb2 hLe hE
 have hnf:(fs.map (·.name)).Nodup:=(List.nodup_append.1 hnod).2.1
 have hds:j.ds=[]:=hj4.trans (hj3.trans (hj2.trans hj))
 clear hj hj2 hj3 hj4
 refine gcy ?_
 refine oL (fun kk ls H'=>∃ (pre l1:List FnD) (known:List FSum) (F1:KV) (g4:Nat) (nm:Nm) (o1:Value) (d1:Nat),fs=pre++l1∧kk=l1.length∧ls=[(0,ptr k.cb 0),(3,ptr b3 0),(90,.list (fs.map encFn)),(91,int .i64 ((fs.map encFn).length:Int)),(92,iv pre.length)] ∧
   H'=(b3,.cells 28 [.list (vars.map str),.list (arrays.map encArG),.list (fs.map encFn)])::pgH { k with name:=nm,G:=G1,g1:=g1,V:=V1,g2:=g2,A:=A1,g3:=g3,F:=F1,g4:=g4 } o1 d1∧(∀ n,GL.kvGet F1 n=(known.find? fun g=>decide (g.name=n)).map encSum)∧known.map (·.name)=pre.map (·.name) ∧
   errFs vars (arrays.map (·.1)) (fs.map (·.name)) known l1=FS∧sumFs vars (arrays.map (·.1)) (fs.map (·.name)) known l1=SS∧KnB (8 * ndFs pre) pre.length known)
  ⟨_,_,_,⟨[],fs,[],k.F,k.g4,k.name,o,d,rfl,rfl,rfl,rfl,fun n=>by rw[hk4];rfl,rfl,hFS,hSS,fun x hx=>(List.not_mem_nil hx).elim⟩,⟨rfl,rfl,rfl,rfl,rfl,trivial⟩,zhR _⟩ ?_
 rintro kk ls H' ⟨pre,l1,known,F1,g4,nm,o1,d1,hLe,rfl,rfl,rfl,hF,hkn,hE,hS,hB⟩ j2 hj2
 have hb2:pre.length≤2000000:=by
  have:=congrArg List.length hLe
  rw[zLa] at this
  omega
 refine gae ?_
 refine oC rfl (fun hc=>?_) (fun hc=>?_)
 ·have hlen:=zt hc
  rw[zLm,hLe,zLa] at hlen
  obtain ⟨s,l2,rfl⟩:∃ a l2,l1=a::l2:=by
   cases l1 with
   |nil=>simp at hlen
   |cons a l2=>exact ⟨a,l2,rfl⟩
  have hsz:ndFs pre+ndF s≤2000000:=by
   have:=hnd
   rw[hLe,ndFs_append,ndFs] at this
   omega
  have hnew:s.name ∉ known.map (·.name):=by
   rw[hkn]
   have:=hnf
   rw[hLe,zMa,zMc] at this
   intro hm
   exact (List.nodup_append.1 this).2.2 _ hm _ zMs rfl
  rw[errFs] at hE
  rw[sumFs] at hS
  refine gag ?_
  refine oP (xR (el':=encFn s) (cs:=[_,_,_,_]) rfl rfl zo (by rw[hLe];exact get_mid encFn pre s l2) rfl rfl) rfl ?_
  refine gan ?_
  refine oS (sA fun b7=>?_) rfl
  refine geg ?_
  refine oS (S.callE (F:=[_,_]) [_,_] rfl (zPc (l₁:=[_,_])) (function_spec (vars:=vars) (arrays:=arrays.map (·.1)) (later:=fs.map (·.name)) (known:=known) (k:={ k with name:=nm,G:=G1,g1:=g1,V:=V1,g2:=g2,A:=A1,g3:=g3,F:=F1,g4:=g4 }) (o:=o1) (d:=d1) s hG1 hV1 hA1 hF hnew hB zo zo zo) (fun H2 h0 hP=>?_) (fun nm h0 e' he'=>?_)) rfl
  rotate_left
  ·refine gaa ?_
   exact panE (he'.trans (hj2.trans hds)) (by rw[←hI2,←hE,orE_ne (a:=orE _ _) (by rw[orE_ne h0];exact h0),orE_ne h0]) h0
  obtain ⟨nm',o',d',F',g4',hF',rfl⟩:=hP
  refine LOps.perm (zPc (l₂:=[_,_])) ?_
  refine gah ?_
  refine ⟨l2.length,_,_,Nat.lt_succ_self _,⟨pre++[s],l2,known++[sumF vars (arrays.map (·.1)) (fs.map (·.name)) known s],F',g4',nm',o',d',by rw[hLe];simp,rfl,rfl,rfl,hF',?_,by rw[←hE,h0];rfl,hS,?_⟩,⟨rfl,rfl,rfl,rfl,int_eq (by simp),trivial⟩,zhD zhr,hj2⟩
  ·rw[zMa,zMa,hkn]
   rfl
  ·have h1:=sumF_le (vars:=vars) (arrays:=arrays.map (·.1)) (later:=fs.map (·.name)) (f:=s) hB
   have h2:ndFs (pre++[s])=ndFs pre+ndF s:=by rw[ndFs_append,ndFs,ndFs];rfl
   intro g hg
   rw[h2,zLa,List.length_singleton]
   rcases List.mem_append.1 hg with hg|hg
   ·obtain ⟨a1,a2,a3⟩:=hB g hg
    exact ⟨by omega,by omega,by omega⟩
   ·obtain rfl:=List.mem_singleton.1 hg
    obtain ⟨a1,a2,a3⟩:=h1
    exact ⟨by omega,by omega,by omega⟩
 have hlen:=zf hc
 rw[zLm,hLe,zLa] at hlen
 obtain rfl:l1=[]:=by
  cases l1 with
  |nil=>rfl
  |cons a l2=>simp at hlen;omega
 have hFS0:FS=0:=by rw[←hE];rfl
 have hknS:known=SS:=by rw[←hS];rfl
 rw[hFS0] at hI2
 have hI3:MN=E:=by rw[←hI2];rfl
 clear hlen hc hb2 hLe hE
 subst hknS
 have hall:=errFs_zero fs [] (hFS.trans hFS0)
 have hnn:∀ f∈fs,f.name.length≤1000∧∀ x∈f.params++f.locals,x.length≤1000:=fun f hf=>by
  obtain ⟨kk,hk⟩:=hall f hf
  exact ⟨isNm_short (hnmok f.name (List.mem_append_right _ (List.mem_map_of_mem hf))),errF_names hk⟩
 have hsm:∀ f∈fs,SmF f:=fun f hf=>smF_of (zNt (ndFs_mem hf) hnd)
 have hds2:=hj2.trans hds
 unfold mainE at hMN
 refine gic ?_
 cases hfl:fs.getLast? with
 |none=>
  have hf0:fs=[]:=List.getLast?_eq_none_iff.1 hfl
  rw[hfl] at hMN
  refine oB 105 rfl (fun h=>absurd (zt h) (by rw[hf0];decide)) (fun _=>?_)
  refine geh ?_
  refine oS (sK (H1:=[]) (F:=_) [_,_,_] rfl zpr (req_spec false [109,97,105,110] 9 zDd) (fun h=>absurd h zDd) (fun nm _ e' he'=>?_)) rfl
  refine gad ?_
  exact panE (he'.trans hds2) (hI3.symm.trans hMN.symm) zDd
 |some f=>
  obtain ⟨ys,hys⟩:=List.getLast?_eq_some_iff.1 hfl
  have hln:(fs.map encFn).length=ys.length+1:=by rw[zLm,hys,zLa];rfl
  have hl6:(fs.map encFn).length≤2000000:=by rw[zLm];exact hf6
  have hn0:(0:Int)≤((fs.map encFn).length:Int)-1:=by omega
  have hget:(fs.map encFn)[(((fs.map encFn).length:Int)-1).toNat]? = some (encFn f):=by
   rw[show (((fs.map encFn).length:Int)-1).toNat=ys.length by omega,hys,zMa]
   rw[List.getElem?_append_right (by rw[zLm];exact zNr _),zLm,Nat.sub_self]
   rfl
  have hnms:known.map (·.name)=fs.map (·.name):=by
   rw[←hSS,sumFs_names]
   rfl
  obtain ⟨m,hm⟩:∃ m,known.getLast? = some m:=by
   cases hx:known.getLast? with
   |some m=>exact ⟨m,rfl⟩
   |none=>
    rw[List.getLast?_eq_none_iff.1 hx,hys] at hnms
    simp at hnms
  have hmf:m.name=f.name:=by
   have h1:=congrArg List.getLast? hnms
   rw[List.getLast?_map,List.getLast?_map,hm,hfl] at h1
   exact Option.some.inj h1
  have hfind:=find_last (by rw[hnms];exact hnf) hm
  rw[hfl,hm] at hMN
  replace hMN:(if f.name=[109,97,105,110]∧f.params=[] then (if (scalarsP vars fs).length≤8000∧m.need≤200∧m.depth≤60 then 0 else 6) else 9)=MN:=hMN
  rw[hI3] at hMN
  refine oB 105 rfl (fun _=>?_) (fun h=>absurd (show ((fs.map encFn).length:Int) > 0 by omega) (zf h))
  refine gei ?_
  first|refine LOps.want rfl rfl ?_|skip
  refine oP (xR (el':=encFn f) (n:=((fs.map encFn).length:Int)-1) (cs:=[str f.name,.list (f.params.map str),.list (f.locals.map str),.list (f.body.map encS)]) rfl rfl hn0 hget rfl rfl) rfl ?_
  refine gid ?_
  refine oB 115 rfl (fun h1=>?_) (fun h1=>?_)
  rotate_left
  ·rw[if_neg (fun h=>zf h1 h.1)] at hMN
   refine gej ?_
   refine oS (sK (H1:=[]) (F:=_) [_,_,_] rfl zpr (req_spec false [109,97,105,110] 9 zDd) (fun h=>absurd h zDd) (fun nm _ e' he'=>?_)) rfl
   refine gad ?_
   exact panE (he'.trans hds2) hMN.symm zDd
  have hmain:f.name=[109,97,105,110]:=zt h1
  refine gei ?_
  first|refine LOps.want rfl rfl ?_|skip
  refine oP (xR (el':=encFn f) (n:=((fs.map encFn).length:Int)-1) (cs:=[str f.name,.list (f.params.map str),.list (f.locals.map str),.list (f.body.map encS)]) rfl rfl hn0 hget rfl rfl) rfl ?_
  refine gie ?_
  refine oB 125 rfl (fun h2=>?_) (fun h2=>?_)
  rotate_left
  ·rw[if_neg (fun h=>zf h2 (by rw[h.2];rfl))] at hMN
   refine oS (sK (H1:=[]) (F:=_) [_,_,_] rfl zpr (req_spec false [109,97,105,110] 9 zDd) (fun h=>absurd h zDd) (fun nm _ e' he'=>?_)) rfl
   refine gad ?_
   exact panE (he'.trans hds2) hMN.symm zDd
  have hpar:f.params=[]:=by
   have h3:=zt h2
   rw[zLm] at h3
   exact List.length_eq_zero_iff.1 zo
  rw[if_pos ⟨hmain,hpar⟩] at hMN
  refine oS (sK (H1:=[]) (F:=_) [_,_,_] rfl zpr (req_spec true [109,97,105,110] 9 zDd) (fun _=>?_) (fun nm h=>absurd rfl h)) rfl
  have hgF:GL.kvGet F1 [109,97,105,110]=some (encSum m):=by
   rw[hF,←hmain,←hmf,hfind]
   rfl
  refine geb ?_
  refine oP (Pure.kvHit rfl rfl zm5 hgF) rfl ?_
  refine oS (sA fun b16=>?_) rfl
  refine gif ?_
  refine oS (sF [_] rfl (scalars_specG (.list (arrays.map encArG)) hv6 hf6 hsm hnn) ?_) rfl
  refine gig ?_
  refine oB 136 rfl (fun h3=>?_) (fun h3=>?_)
  rotate_left
  ·have hbad:¬ ((scalarsP vars fs).length≤8000∧m.need≤200∧m.depth≤60):=fun h=>zf h3 (by rw[zLm];have:=h.1;omega)
   rw[if_neg hbad] at hMN
   refine geh ?_
   refine oS (sK (H1:=[]) (F:=_) [_,_,_] rfl zpr (req_spec false [109,97,105,110] 6 zDd) (fun h=>absurd h zDd) (fun nm _ e' he'=>?_)) rfl
   exact panE (he'.trans hds2) hMN.symm zDd
  have h3':(scalarsP vars fs).length≤8000:=by
   have:=zt h3
   rw[zLm] at this
   omega
  refine gih ?_
  refine oB 141 rfl (fun h4=>?_) (fun h4=>?_)
  rotate_left
  ·have hbad:¬ ((scalarsP vars fs).length≤8000∧m.need≤200∧m.depth≤60):=fun h=>zf h4 (by have:=h.2.1;omega)
   rw[if_neg hbad] at hMN
   refine gej ?_
   refine oS (sK (H1:=[]) (F:=_) [_,_,_] rfl zpr (req_spec false [109,97,105,110] 6 zDd) (fun h=>absurd h zDd) (fun nm _ e' he'=>?_)) rfl
   exact panE (he'.trans hds2) hMN.symm zDd
  have h4':m.need≤200:=by
   have:=zt h4
   omega
  refine gii ?_
  refine oB 145 rfl (fun h5=>?_) (fun h5=>?_)
  rotate_left
  ·have hbad:¬ ((scalarsP vars fs).length≤8000∧m.need≤200∧m.depth≤60):=fun h=>zf h5 (by have:=h.2.2;omega)
   rw[if_neg hbad] at hMN
   refine oS (sK (H1:=[]) (F:=_) [_,_,_] rfl zpr (req_spec false [109,97,105,110] 6 zDd) (fun h=>absurd h zDd) (fun nm _ e' he'=>?_)) rfl
   exact panE (he'.trans hds2) hMN.symm zDd
  have h5':m.depth≤60:=by
   have:=zt h5
   omega
  rw[if_pos ⟨h3',h4',h5'⟩] at hMN
  refine oS (sK (H1:=[]) (F:=_) [_,_,_] rfl zpr (req_spec true [109,97,105,110] 6 zDd) (fun _=>?_) (fun nm h=>absurd rfl h)) rfl
  refine gba ?_
  exact retEn hds2 rN hMN.symm rfl zhn rfl
end
end Go.Proofs.YtegmklafpoldgaaGreatDoor.Chk
namespace Go.Proofs.YtegmklafpoldgaaGreatDoor
open Go.GL Go.RowKit Go.Stele
attribute [local irreducible] LOps LCode LStep LCalls Go.GL.Pure QThen QBlock RetPost
theorem parseUintM_digits (M:Nat) (acc:Nat) (l:List UInt8) (h:∀ c∈l,isDigit c=true):Go.Lib.parseUintM M acc l=.range∨∃ u,Go.Lib.parseUintM M acc l=.ok u:=by
 induction l generalizing acc with
 |nil=>exact .inr ⟨acc,rfl⟩
 |cons c r ih=>
  have hc:=h c List.mem_cons_self
  simp only[isDigit,zBa,zDe,cv] at hc
  rw[Go.Lib.parseUintM,if_pos zo]
  split
  ·exact .inl rfl
  ·split
   ·exact .inl rfl
   ·exact ih _ (fun c hc=>h c (zMo _ hc))
theorem parseUintM_bound (M:Nat) (acc:Nat) (l:List UInt8) (ha:acc≤M) {u:Nat} (h:Go.Lib.parseUintM M acc l=.ok u):u≤M:=by
 induction l generalizing acc with
 |nil=>simp only[Go.Lib.parseUintM,Go.Lib.NumEnd.ok.injEq] at h;omega
 |cons c r ih=>
  rw[Go.Lib.parseUintM] at h
  split at h
  ·split at h
   ·cases h
   ·split at h
    ·cases h
    ·exact ih _ zo h
  ·cases h
theorem parseUint_digits (s:List UInt8) (hne:s.takeWhile isDigit≠[]):Go.Lib.parseUintB 32 (s.takeWhile isDigit)=.range∨∃ u,u<18446744073709551616∧Go.Lib.parseUintB 32 (s.takeWhile isDigit)=.ok u:=by
 unfold Go.Lib.parseUintB
 rw[if_neg hne]
 have hall:∀ (s:List UInt8),∀ c∈s.takeWhile isDigit,isDigit c=true:=fun s c hc=>by
  induction s with
  |nil=>cases hc
  |cons a r ih=>
   by_cases ha:isDigit a=true
   ·rw[List.takeWhile_cons_of_pos ha] at hc
    rcases zMi.1 hc with rfl|hc
    ·exact ha
    ·exact ih hc
   ·rw[List.takeWhile_cons_of_neg ha] at hc
    cases hc
 rcases parseUintM_digits (2 ^ 32-1) 0 (s.takeWhile isDigit) (hall s) with h|⟨u,h⟩
 ·exact .inl h
 ·have:=parseUintM_bound _ _ _ zo h
  exact .inr ⟨u,by omega,h⟩
instance:TIface Tryz.prog 137:=.of zk
section
variable {B0:Nat} {w0:World}
theorem number_spec (hG:GW B0 w0) (s:List UInt8) (hs:s.length≤1000000000) (hne:s.takeWhile isDigit≠[]):LCalls (KC B0 w0) 108 [str s] [] (Ret (encTokR (lexNumber s))):=by
 refine cI Tryz.func108 rfl (n:=43) rfl rfl rfl ?_
 refine gac ?_
 refine oS (sA fun b=>?_) rfl
 refine gal ?_
 refine oS (sF [_,_] rfl (run_spec isDigit digit_spec s hs) ?_) rfl
 refine gek ?_
 refine LOps.cut [(0,str s),(2,ptr b 0),(5,str (s.takeWhile isDigit)),(28,bool (wordNext s (s.takeWhile isDigit).length))] ?_ (fun j hj=>?_)
 ·refine oB 17 rfl (fun ht=>?_) (fun ht=>?_)
  ·have hlt:(s.takeWhile isDigit).length<s.length:=by simpa using ht
   have hw:wordNext s (s.takeWhile isDigit).length=(isLetter s[(s.takeWhile isDigit).length] || decide (cv s[(s.takeWhile isDigit).length]=95)):=by
    rw[wordNext,List.getElem?_eq_getElem hlt]
   refine gaj ?_
   refine oP (pI (c:=s[(s.takeWhile isDigit).length]) rfl rfl zo (by simp)) rfl ?_
   refine LOps.want rfl rfl ?_
   refine oS (sF [_] rfl (letter_spec _) ?_) rfl
   refine gaj ?_
   refine oB 22 rfl (fun hl=>?_) (fun hl=>?_)
   ·refine gij ?_
    exact ⟨⟨rfl,rfl,rfl,bool_eq (by rw[hw,hl];rfl),trivial⟩,rfl,rfl⟩
   ·refine gaj ?_
    refine oP (pI (c:=s[(s.takeWhile isDigit).length]) rfl rfl zo (by simp)) rfl ?_
    refine gik ?_
    exact ⟨⟨rfl,rfl,rfl,bool_eq (by rw[hw,hl];rfl),trivial⟩,rfl,rfl⟩
  ·have hge:s.length≤(s.takeWhile isDigit).length:=by simpa using ht
   refine gdu ?_
   exact ⟨⟨rfl,rfl,rfl,bool_eq (by rw[wordNext,List.getElem?_eq_none hge]),trivial⟩,rfl,rfl⟩
 ·skip
  refine oC rfl (fun hc=>?_) (fun hc=>?_)
  ·refine gbx ?_
   exact retRet hj (rC (rA rfl zm0 rfl zsr) (rC (zrt rfl) (zra rfl))) (by
    rw[lexNumber,if_pos hc]
    rfl)
  ·refine gaw ?_
   rcases parseUint_digits s hne with hp|⟨u,hu,hp⟩
   ·refine oS (S.fnIf [_,_,_] rfl (parseUint_range hG (s.takeWhile isDigit) (zNt (List.takeWhile_prefix isDigit).length_le hs) hp) ?_) rfl
    rintro lv ⟨v,t,p,rfl⟩
    refine gil ?_
    refine oC rfl (fun hc=>?_) (fun hc=>?_)
    ·refine gbx ?_
     exact retRet hj (rC (rA rfl zm0 rfl zsr) (rC (zrt rfl) (zra rfl))) (by
      rw[lexNumber,if_neg (by rw[‹wordNext s _=false›];decide),hp]
      rfl)
    ·cases hc
   ·refine oS (sF [_,_,_] rfl (parseUint_ok (s.takeWhile isDigit) (zNt (List.takeWhile_prefix isDigit).length_le hs) u hp) ?_) rfl
    refine gim ?_
    refine oC rfl (fun hc=>?_) (fun hc=>?_)
    ·cases hc
    ·refine gaw ?_
     refine oS (sF [_,_] rfl (fmtUint_spec hG u hu) ?_) rfl
     refine gin ?_
     exact retRet hj (rC (rA rfl zm0 rfl zsr) (rC (zrt rfl) (zra rfl))) (by
      rw[lexNumber,if_neg (by rw[‹wordNext s _=false›];decide),hp]
      rfl)
theorem literal_spec (hG:GW B0 w0) (s:List UInt8) (hs:s.length≤1000000000):LCalls (KC B0 w0) 111 [str s] [] (Ret (encTokR (lexLiteral s))):=by
 by_cases h3:s.length<3
 ·have hl:lexLiteral s=tokErr 3:=by
   match s,h3 with
   |[],_=>rfl
   |[_],_=>rfl
   |[_,_],_=>rfl
  refine cI Tryz.func111 rfl (n:=39) rfl rfl rfl ?_
  refine gac ?_
  refine oS (sA fun b=>?_) rfl
  refine gek ?_
  refine oB 8 rfl (fun ht=>?_) (fun ht=>?_)
  ·refine gbc ?_
   refine oC rfl (fun hc=>?_) (fun hc=>?_)
   ·refine gbx ?_
    exact retRet rfl (rC (rA rfl zm0 rfl zsr) (rC (zrt rfl) (zra rfl))) (by rw[hl];rfl)
   ·cases hc
  ·exact absurd (zf ht) zo
 ·match s,h3 with
  |[],h=>exact absurd (by simp) h
  |[_],h=>exact absurd (by simp) h
  |[_,_],h=>exact absurd (by simp) h
  |x::c1::c2::r,h=>
   refine cI Tryz.func111 rfl (n:=39) rfl rfl rfl ?_
   refine gac ?_
   refine oS (sA fun b=>?_) rfl
   refine gio ?_
   refine LOps.cut [(0,str (x::c1::c2::r)),(2,ptr b 0),(32,bool ((!decide (cv c2=39)) || decide (cv c1<32) || decide (126<cv c1) || decide (cv c1=39) || decide (cv c1=92)))] ?_ (fun j hj=>?_)
   ·refine oB 8 rfl (fun ht=>?_) (fun ht0=>?_)
    ·exact absurd (zt ht) (by simp only[zLc];omega)
    ·skip
     refine oP (pI (c:=c2) rfl rfl zDd rfl) rfl ?_
     refine gip ?_
     refine oB 13 rfl (fun ht=>?_) (fun ht1=>?_)
     ·refine gbc ?_
      exact ⟨⟨rfl,rfl,bool_eq (by rw[ht];rfl),trivial⟩,rfl,rfl⟩
     ·refine gaj ?_
      refine oP (pI (c:=c1) rfl rfl zDd rfl) rfl ?_
      refine gel ?_
      refine oB 18 rfl (fun ht=>?_) (fun ht2=>?_)
      ·refine gbc ?_
       exact ⟨⟨rfl,rfl,bool_eq (by rw[ht1,ht];rfl),trivial⟩,rfl,rfl⟩
      ·refine gaj ?_
       refine oP (pI (c:=c1) rfl rfl zDd rfl) rfl ?_
       refine gem ?_
       refine oB 23 rfl (fun ht=>?_) (fun ht3=>?_)
       ·refine gbc ?_
        exact ⟨⟨rfl,rfl,bool_eq (by rw[ht1,ht2,ht];rfl),trivial⟩,rfl,rfl⟩
       ·refine gaj ?_
        refine oP (pI (c:=c1) rfl rfl zDd rfl) rfl ?_
        refine gdm ?_
        refine oB 28 rfl (fun ht=>?_) (fun ht4=>?_)
        ·refine gbg ?_
         exact ⟨⟨rfl,rfl,bool_eq (by rw[ht1,ht2,ht3,ht];rfl),trivial⟩,rfl,rfl⟩
        ·refine gaj ?_
         refine oP (pI (c:=c1) rfl rfl zDd rfl) rfl ?_
         refine giq ?_
         exact ⟨⟨rfl,rfl,bool_eq (by rw[ht1,ht2,ht3,ht4];rfl),trivial⟩,rfl,rfl⟩
   ·skip
    refine oC rfl (fun hc=>?_) (fun hc=>?_)
    ·refine gbx ?_
     exact retRet hj (rC (rA rfl zm0 rfl zsr) (rC (zrt rfl) (zra rfl))) (by rw[lexLiteral,if_pos hc];rfl)
    ·refine gaw ?_
     refine oP (pI (c:=c1) rfl rfl zDd rfl) rfl ?_
     refine oP (Pure.cvt rfl) rfl ?_
     have hw:IntKind.i64.wrap (c1.toNat:Int)=((c1.toNat:Nat):Int):=wrap_i64 (by have:=c1.toNat_lt;omega)
     rw[hw]
     refine oS (sF [_] rfl (itoa_spec hG c1.toNat (by have:=c1.toNat_lt;omega)) ?_) rfl
     refine gir ?_
     exact retRet hj (rC (rA rfl zm0 rfl zsr) (rC (zrt rfl) (zra rfl))) (by rw[lexLiteral,if_neg (by rw[hc];decide)];rfl)
theorem token_spec (hG:GW B0 w0) (s:List UInt8) (hs:s.length≤1000000000) (hne:s≠[]):LCalls (KC B0 w0) 40 [str s] [] (Ret (encTokR (lexToken s))):=by
 match s,hne with
 |c::r,_=>
  refine cI Tryz.func40 rfl (n:=49) rfl rfl rfl ?_
  refine gac ?_
  refine oS (sA fun b=>?_) rfl
  refine gcz ?_
  refine oP (pI (c:=c) rfl rfl zDd rfl) rfl ?_
  refine oS (sF [_] rfl (digit_spec c) ?_) rfl
  refine gar ?_
  refine oC rfl (fun hc=>?_) (fun hc=>?_)
  ·refine gab ?_
   refine oS (sF [_] rfl (number_spec hG (c::r) hs (by rw[List.takeWhile_cons_of_pos hc];simp)) ?_) rfl
   refine gc0 ?_
   exact retRet rfl (rC (rA rfl zm0 rfl zsr) (rC (zrt rfl) (zra rfl))) (by simp only[lexToken,hc,if_true];rfl)
  ·refine gab ?_
   refine oP (pI (c:=c) rfl rfl zDd rfl) rfl ?_
   refine oS (sF [_] rfl (letter_spec c) ?_) rfl
   refine gar ?_
   refine oC rfl (fun hl=>?_) (fun hl=>?_)
   ·refine gab ?_
    refine oS (sF [_] rfl (name_spec (c::r) hs) ?_) rfl
    refine gc0 ?_
    exact retRet rfl (rC (rA rfl zm0 rfl zsr) (rC (zrt rfl) (zra rfl))) (by simp only[lexToken,hc,hl,if_true,Bool.false_eq_true,if_false];rfl)
   ·refine gab ?_
    refine oP (pI (c:=c) rfl rfl zDd rfl) rfl ?_
    refine gis ?_
    refine oC rfl (fun hq=>?_) (fun hq=>?_)
    ·refine gab ?_
     refine oS (sF [_] rfl (literal_spec hG (c::r) hs) ?_) rfl
     refine gc0 ?_
     exact retRet rfl (rC (rA rfl zm0 rfl zsr) (rC (zrt rfl) (zra rfl))) (by simp only[lexToken,hc,hl,Bool.false_eq_true,if_false];rw[if_pos hq];rfl)
    ·have htok:lexToken (c::r)=lexSign (c::r):=by simp only[lexToken,hc,hl,Bool.false_eq_true,if_false];rw[if_neg (by rw[hq];decide)]
     refine git ?_
     refine oS (sF [] rfl signs_spec ?_) rfl
     refine gbf ?_
     refine oL (fun k ls H=>∃ m:Nat,k=signs.length-m∧ls=[(0,str (c::r)),(2,ptr b 0),(34,.list (signs.map str)),(35,int .i64 24),(36,int .i64 m)]∧H=[(b,.cells 114 [int .i64 0,str [],int .i64 0])]∧m≤24∧signs.find? (fun x=>x.isPrefixOf (c::r))=(signs.drop m).find? (fun x=>x.isPrefixOf (c::r)))
      ⟨_,_,_,⟨0,rfl,rfl,rfl,by omega,by simp⟩,⟨rfl,rfl,rfl,rfl,rfl,trivial⟩,zhR _⟩ ?_
     rintro k ls H ⟨m,rfl,rfl,rfl,hm,hI⟩ j hj
     have h24:signs.length=24:=rfl
     refine gae ?_
     refine oC rfl (fun ht=>?_) (fun ht=>?_)
     ·have hlt:m<signs.length:=by have:=zt ht;omega
      refine gag ?_
      refine oP (xR (el':=str signs[m]) rfl rfl zo (by simp) rfl rfl) rfl ?_
      refine gb1 ?_
      refine oS (sF [_,_] rfl (hasPrefix_spec (c::r) signs[m]) ?_) rfl
      refine gaq ?_
      refine oC rfl (fun hp=>?_) (fun hp=>?_)
      ·refine giu ?_
       exact retRet hj (rC (rA rfl zm0 rfl zsr) (rC (zrt rfl) (zra rfl))) (by
        rw[htok,lexSign,hI,List.drop_eq_getElem_cons hlt,List.find?_cons_of_pos (by simpa using hp)]
        rfl)
      ·refine gax ?_
       exact ⟨_,_,_,by omega,⟨m+1,rfl,rfl,rfl,by omega,by
        rw[hI,List.drop_eq_getElem_cons hlt,List.find?_cons_of_neg (by rw[hp];decide)]⟩,⟨rfl,rfl,rfl,rfl,int_eq zo,trivial⟩,zhR _,hj⟩
     ·have hge:signs.length≤m:=by have:=zf ht;omega
      refine giv ?_
      exact retRet hj (rC (rA rfl zm0 rfl zsr) (rC (zrt rfl) (zra rfl))) (by
       rw[htok,lexSign,hI,List.drop_eq_nil_of_le hge]
       rfl)
end
end Go.Proofs.YtegmklafpoldgaaGreatDoor
namespace Go.Proofs.YtegmklafpoldgaaGreatDoor
open Go.GL Go.RowKit Go.Stele
attribute [local irreducible] LOps LCode LStep LCalls Go.GL.Pure QThen QBlock RetPost
def lexAllP (s:List UInt8):Except (Int×Int) (List Tok):=if 60000<s.length then .error (0,6) else lexP s.length s 1
def encLex:Except (Int×Int) (List Tok)→LV
 |.ok T=>.tuple [.list (T.map encTok),int .i64 0,int .i64 0]
 |.error (l,e)=>.tuple [.list [],int .i64 l,int .i64 e]
theorem map_map_ex {A B D:Type} (f:A→B) (h:B→D) (r:Except (Int×Int) A):(r.map f).map h=r.map (fun x=>h (f x)):=by cases r <;> rfl
section
variable {B0:Nat} {w0:World}
theorem Tokens_any (hG:GW B0 w0) (s:List UInt8):LCalls (KC B0 w0) 19 [str s] [] (Ret (encLex (lexAllP s))):=by
 refine cI Tryz.func19 rfl (n:=49) rfl rfl rfl ?_
 refine gcs ?_
 refine oC rfl (fun hc=>?_) (fun hc=>?_)
 ·refine gaf ?_
  exact retRet rfl (rC (rT (v:=nilSlice) rfl vN) (rC (zrt rfl) (zra rfl))) (by
   rw[lexAllP,if_pos (by have:=zt hc;omega)]
   rfl)
 ·have hlen:s.length≤60000:=by have:=zf hc;omega
  refine gdt ?_
  refine oL (fun k ls H=>∃ (v:LV) (out:List Tok) (rest:List UInt8) (line:Int) (fuel:Nat),k=rest.length∧ls=[(5,v),(6,int .i64 line),(7,str rest)]∧Acc 3 v (out.map encTok) H [] ∧
    rest.length≤fuel∧0≤line∧line+rest.length≤60001∧out.length+rest.length≤60000∧lexP s.length s 1=(lexP fuel rest line).map (out++·))
   ⟨_,_,_,⟨nilSlice,[],s,1,s.length,rfl,rfl,Acc.nil,by omega,by omega,by omega,by simp;omega,by cases lexP s.length s 1 <;> rfl⟩,⟨rfl,rfl,rfl,trivial⟩,zhR _⟩ ?_
  rintro k ls H ⟨v,out,rest,line,fuel,rfl,rfl,hacc,hf,hl0,hl1,ho,hI⟩ j hj
  refine giw ?_
  refine oC rfl (fun hne=>?_) (fun hne=>?_)
  ·have hrest:rest≠[]:=by simpa using hne
   obtain ⟨f,rfl⟩:∃ f,fuel=f+1:=⟨fuel-1,by
    have:0<rest.length:=List.length_pos_iff.2 hrest
    omega⟩
   rw[lexP,if_neg hrest] at hI
   have hsk:=skipLen_le rest
   refine gbo ?_
   refine oS (sF [_] rfl (skip_spec rest zo) ?_) rfl
   refine gdl ?_
   refine oC rfl (fun hz=>?_) (fun hz=>?_)
   ·have hz':skipLen rest=0:=by have:=zt hz;omega
    rw[if_pos hz'] at hI
    refine gab ?_
    refine oS (sF [_] rfl (token_spec hG rest zo hrest) ?_) rfl
    refine gbh ?_
    refine oS (sA fun b=>?_) rfl
    refine gc1 ?_
    refine oC rfl (fun he=>?_) (fun he=>?_)
    ·have he':(lexToken rest).2.2≠0:=by simpa using he
     rw[if_pos he'] at hI
     refine gcr ?_
     exact retRet hj (rC (rT (v:=nilSlice) rfl vN) (rC (zrt rfl) (zra rfl))) (by
      rw[lexAllP,if_neg zo,hI]
      rfl)
    ·have he':(lexToken rest).2.2=0:=by simpa using he
     rw[if_neg (by simpa using he')] at hI
     obtain ⟨hs0,hs1⟩:=lexToken_size rest he'
     refine gix ?_
     refine oP (pM (lv:=v) rfl) rfl ?_
     refine giy ?_
     refine oS (sL [_] rfl (eC rfl rfl eN) rfl rfl rfl ?_) rfl
     refine LOps.weak (zhD zhr) ?_
     refine oS (S.acc rfl hacc rfl (by simp;rfl) rfl (by simp;omega) fun v' H' hacc'=>?_) rfl
     refine oP (pA (lv:=v') rfl) rfl ?_
     refine gal ?_
     refine oP (Pure.sslice (i:=0) (j:=(lexToken rest).2.1) rfl rfl ⟨_,rfl⟩ zo zo zo) rfl ?_
     refine oS (sF [_,_] rfl (countNl_spec _) ?_) rfl
     have hcnt:(List.drop (Int.toNat 0) (List.take ((lexToken rest).2.1:Int).toNat rest)).count 10≤(lexToken rest).2.1:=zNt List.count_le_length (by simp;omega)
     refine gen ?_
     refine oP (Pure.sslice (i:=(lexToken rest).2.1) (j:=rest.length) rfl ⟨_,rfl⟩ rfl zo zo zo) rfl ?_
     refine geo ?_
     have hacc2:Acc 3 v' ((out++[{ (lexToken rest).1 with line:=line }]).map encTok) H' []:=by
      rw[zMa]
      exact hacc'
     exact ⟨_,_,_,by simp only[List.length_drop];omega,⟨v',out++[{ (lexToken rest).1 with line:=line }],rest.drop (lexToken rest).2.1,line+((rest.take (lexToken rest).2.1).count 10:Nat),f,rfl,rfl,hacc2,
      by simp only[List.length_drop];omega,by omega,by simp only[List.length_drop];simp at hcnt;omega,by simp only[List.length_drop,zLa,List.length_singleton];omega,by
       rw[hI,map_map_ex]
       congr 1
       funext x
       simp⟩,⟨rfl,int_eq (by simp),str_eq (by simp),trivial⟩,zhR _,hj⟩
   ·have hz':¬ skipLen rest=0:=by have:=zf hz;omega
    rw[if_neg hz'] at hI
    refine gaw ?_
    refine oP (Pure.sslice (i:=0) (j:=skipLen rest) rfl rfl ⟨_,rfl⟩ zo zo zo) rfl ?_
    refine oS (sF [_,_] rfl (countNl_spec _) ?_) rfl
    have hcnt:(List.drop (Int.toNat 0) (List.take (skipLen rest:Int).toNat rest)).count 10≤skipLen rest:=zNt List.count_le_length (by simp;omega)
    refine gen ?_
    refine oP (Pure.sslice (i:=skipLen rest) (j:=rest.length) rfl ⟨_,rfl⟩ rfl zo zo zo) rfl ?_
    refine geo ?_
    exact ⟨_,_,_,by simp only[List.length_drop];omega,⟨v,out,rest.drop (skipLen rest),line+((rest.take (skipLen rest)).count 10:Nat),f,rfl,rfl,hacc,
      by simp only[List.length_drop];omega,by omega,by simp only[List.length_drop];simp at hcnt;omega,by simp only[List.length_drop];omega,hI⟩,⟨rfl,int_eq (by simp),str_eq (by simp),trivial⟩,zhR _,hj⟩
  ·have hrest:rest=[]:=by simpa using hne
   refine gbb ?_
   refine oP (pM (lv:=v) rfl) rfl ?_
   refine oP (pA (lv:=v) rfl) rfl ?_
   refine ga0 ?_
   exact retRet hj (rC (rT (v:=v) rfl hacc.sub) (rC (zrt rfl) (zra rfl))) (by
    rw[lexAllP,if_neg zo,hI,hrest]
    cases fuel <;> simp[lexP,Except.map,encLex,resLV])
end
end Go.Proofs.YtegmklafpoldgaaGreatDoor
namespace Go.Proofs.YtegmklafpoldgaaGreatDoor
open Go.GL Go.RowKit Go.Stele
attribute [local irreducible] LOps LCode LStep LCalls Go.GL.Pure QThen QBlock RetPost LQ LAny LLate LLateOp
@[reducible] def srcH (sb:Nat) (T:List Tok) (i op:Nat):Nat×LObj:=(sb,.cells 60 [.list (T.map encTok),int .i64 i,int .i64 op])
def pan (l e:Int):List PanicEntry:=[{ v:=.iface 56 (.agg #[.int .i64 l,.int .i64 e]),recovered:=false }]
def PostP {A:Type} (sb:Nat) (T:List Tok) (enc:A→LV) (res:Res A) (r:LRes) (H:Heap):Prop:=match res with
 |.ok v i op=>r=.ret (enc v)∧H=[srcH sb T i op]
 |.err l e=>r=.panic (pan l e)∧∃ i op:Nat,H=[srcH sb T i op]
def encU:Unit→LV:=fun _=>.tuple []
theorem map_get {A:Type} (f:A→LV) (l:List A) (i:Nat) (h:i<l.length):(l.map f)[((i:Nat):Int).toNat]? = some (f l[i]):=by
 rw[Int.toNat_natCast,List.getElem?_map,List.getElem?_eq_getElem h]
 rfl
section
variable {B0:Nat} {w0:World}
theorem is_spec (sb:Nat) (T:List Tok) (i op:Nat) (xs:List (List UInt8)) (hT:T.length≤100000) (hi:i≤1000000) (hx:xs.length≤1000) :
  LCalls (KC B0 w0) 42 [ptr sb 0,.list (xs.map str)] [srcH sb T i op] (fun r H=>r=.ret (bool (isTok T i xs))∧H=[srcH sb T i op]):=by
 refine cI Tryz.func42 rfl (n:=40) rfl rfl rfl ?_
 refine ga1 ?_
 refine cC [(0,ptr sb 0),(1,.list (xs.map str)),(15,bool (decide (T.length≤i)))] ?_ (fun j hj=>?_)
 ·refine LCode.quiet zk ?_
  refine giz ?_
  exact ⟨⟨rfl,rfl,bool_eq (by rw[decide_eq_decide];simp),trivial⟩,rfl,rfl⟩
 ·skip
  refine oC rfl (fun hc=>?_) (fun hc=>?_)
  ·refine gaf ?_
   exact rR hj (zra rfl) zhr ⟨by rw[isTok,List.getElem?_eq_none (zt hc)];rfl,rfl⟩
  ·have hlt:i<T.length:=by have:=zf hc;omega
   refine gbq ?_
   refine cD (m:=12) rfl [srcH sb T i op] ?_
   refine aT 0 rfl rfl (pM (lv:=.atom _) rfl) ?_
   refine aT 1 rfl rfl (pN rfl) ?_
   refine aT 2 rfl rfl (pF rfl) ?_
   refine aT 3 rfl rfl (pL (c:=.list _) rfl zm0 rfl) ?_
   refine aT 4 rfl rfl (pM (lv:=.atom _) rfl) ?_
   refine aT 5 rfl rfl (pN rfl) ?_
   refine aT 6 rfl rfl (pF rfl) ?_
   refine aT 7 rfl rfl (pL (c:=.atom _) rfl zm0 rfl) ?_
   refine LAny.take (i:=8) zhr rfl zk zk zk rfl (xR (el':=encTok T[i]) (cs:=[_,_,_]) rfl rfl zo (map_get _ _ _ hlt) rfl rfl) ?_
   refine aT 9 rfl rfl (pR (cs':=[_,_,_]) rfl rfl rfl) ?_
   refine aL ?_ zhr
   refine lO 10 (lS (H1:=[]) (F:=[srcH sb T i op]) rfl (.inl rfl) rfl zpr zhr (sA fun b=>?_))
   refine lO 11 (lS (H1:=[(b,_)]) (F:=[srcH sb T i op]) rfl (.inl rfl) rfl zpr zhr (sS (cs':=[_,_,_]) rfl pH rfl rfl rfl rfl rfl ?_))
   refine lD zk ?_
   refine gi0 ?_
   have hsp:isTok T i xs=((decide (T[i].kind=3) || decide (T[i].kind=4)) && xs.contains T[i].text):=by rw[isTok,List.getElem?_eq_getElem hlt]
   rw[hsp]
   refine oB 29 rfl (fun h3=>?_) (fun h3=>?_)
   ·refine gi1 ?_
    refine oS (sF [_,_] rfl (Contains_spec xs T[i].text zo) ?_) rfl
    refine gbr ?_
    exact rR hj (zra rfl) (zhD zhr) ⟨by rw[h3];rfl,rfl⟩
   ·refine gi2 ?_
    refine oB 34 rfl (fun h4=>?_) (fun h4=>?_)
    ·refine gi3 ?_
     refine oS (sF [_,_] rfl (Contains_spec xs T[i].text zo) ?_) rfl
     refine gbr ?_
     exact rR hj (zra rfl) (zhD zhr) ⟨by rw[h3,h4];rfl,rfl⟩
    ·refine gaz ?_
     exact rR hj (zra rfl) (zhD zhr) ⟨by rw[h3,h4];rfl,rfl⟩
end
end Go.Proofs.YtegmklafpoldgaaGreatDoor
namespace Go.Proofs.YtegmklafpoldgaaGreatDoor
open Go.GL Go.RowKit Go.Stele
section steps
variable {C:Ctx} {e:Env} {H:Heap} {dst:Option Nat} {ty:TypeId} {pos:String} {aft:Array Edge} {g:Option (Nat×Bool)} {K:LV→Heap→Prop} {X:List PanicEntry→Heap→Prop}
theorem sH {f:FuncId} [TEnter C.P f] (args:List Operand) {ats:Array TypeId} {av:List LV} {lv:LV} {p p':Nat×LObj} {F:Heap} (has:args.map e.ev=av) (hp:Pick p H F) (hc:LCalls C f av [p] (fun r H=>r=.ret lv∧H=[p'])) (hk:K lv (p'::F)) :
  LStep C ⟨dst,.call { callee:=.value (.func f),args:=args.toArray,argTypes:=ats },ty,pos,aft,g⟩ e H K X:=
 S.call1 args has hp hc (by rintro v H' ⟨h,rfl⟩;cases h;exact hk) (by rintro ch H' ⟨h,_⟩;cases h)
theorem sP {A:Type} {enc:A→LV} {res:Res A} {sb i op:Nat} {T:List Tok} {f:FuncId} [TEnter C.P f] (args:List Operand) {ats:Array TypeId} {av:List LV} {F:Heap} (has:args.map e.ev=av) (hp:Pick (srcH sb T i op) H F)
  (hc:LCalls C f av [srcH sb T i op] (PostP sb T enc res)) (hk:∀ v i' op',res=.ok v i' op'→K (enc v) (srcH sb T i' op'::F)) (hx:∀ l er i' op',res=.err l er→X (pan l er) (srcH sb T i' op'::F)) :
  LStep C ⟨dst,.call { callee:=.value (.func f),args:=args.toArray,argTypes:=ats },ty,pos,aft,g⟩ e H K X:=by
 refine S.call1 args has hp hc ?_ ?_
 ·intro v H' h
  cases hr:res with
  |ok u i' op'=>
   rw[hr] at h
   obtain ⟨h1,rfl⟩:=h
   cases h1
   exact hk _ _ _ hr
  |err l er=>
   rw[hr] at h
   obtain ⟨h1,_⟩:=h
   cases h1
 ·intro ch H' h
  cases hr:res with
  |ok u i' op'=>
   rw[hr] at h
   obtain ⟨h1,_⟩:=h
   cases h1
  |err l er=>
   rw[hr] at h
   obtain ⟨h1,i',op',rfl⟩:=h
   cases h1
   exact hx _ _ _ _ hr
theorem retP {A:Type} {enc:A→LV} {res:Res A} {sb:Nat} {T:List Tok} {n:Nat} {rs:List ResultVar} {vs:List LV} {v:A} {i op:Nat} (hd:e.ds=[]) (h:AllRes C n e H rs vs) (hr:res=.ok v i op) (hv:resLV vs=enc v) (hH:HSub [srcH sb T i op] H) :
  RetPost C n rs (PostP sb T enc res) .ret e H:=rR hd h hH (by rw[hr];exact ⟨by rw[hv],rfl⟩)
theorem retPn {A:Type} {enc:A→LV} {res:Res A} {sb:Nat} {T:List Tok} {n:Nat} {rs:List ResultVar} {vs:List LV} {v:A} {i op:Nat} (hd:e.ds=[]) (h:AllRes C n e H rs vs) (hr:res=.ok v i op) (hv:resLV vs=enc v) (hH:HSub [srcH sb T i op] H) :
  RetPost C n rs (PostP sb T enc res) .normal e H:=rO hd h hH (by rw[hr];exact ⟨by rw[hv],rfl⟩)
theorem panP {A:Type} {enc:A→LV} {res:Res A} {sb:Nat} {T:List Tok} {n:Nat} {rs:List ResultVar} {i op:Nat} {l er:Int} (hd:e.ds=[]) (hr:res=.err l er) (hH:HSub [srcH sb T i op] H) :
  RetPost C n rs (PostP sb T enc res) (.panic (pan l er)) e H:=RetPost.panic hd hH (by rw[hr];exact ⟨rfl,i,op,rfl⟩)
end steps
attribute [local irreducible] LOps LCode LStep LCalls Go.GL.Pure QThen QBlock RetPost LQ LAny LLate LLateOp
section
variable {B0:Nat} {w0:World}
theorem fail_spec {A:Type} (enc:A→LV) (sb:Nat) (T:List Tok) (i op:Nat) (er:Int) (hT:T.length≤100000) (hi:i≤1000000) :
  LCalls (KC B0 w0) 47 [ptr sb 0,int .i64 er] [srcH sb T i op] (PostP sb T enc (.err (failLine T i) er)):=by
 have hml:(T.map encTok).length=T.length:=zLm _
 refine cI Tryz.func47 rfl (n:=31) rfl rfl rfl ?_
 refine gi4 ?_
 refine cC [(0,ptr sb 0),(1,int .i64 er),(4,int .i64 (failLine T i))] ?_ (fun j hj=>?_)
 ·refine oC rfl (fun hc=>?_) (fun hc=>?_)
  ·have hpos:0<T.length:=by have:=zt hc;simp at this;omega
   have hmin:min i (T.length-1)<T.length:=by omega
   have hmv:(if ((T.map encTok).length:Int)-1<(i:Int) then ((T.map encTok).length:Int)-1 else (i:Int))=((min i (T.length-1):Nat):Int):=by
    rw[zLm]
    split <;> omega
   refine LCode.quiet zk ?_
   refine gi5 ?_
   refine qP (xR (n:=((min i (T.length-1):Nat):Int)) (el':=encTok T[min i (T.length-1)]) (cs:=[_,_,_]) rfl (congrArg (int .i64) hmv) zo (map_get _ _ _ hmin) rfl rfl) rfl ?_
   refine gc2 ?_
   exact ⟨⟨rfl,rfl,int_eq (by rw[failLine,List.getElem?_eq_getElem hmin]),trivial⟩,rfl,rfl⟩
  ·have hz:T=[]:=by
    have:=zf hc
    exact List.length_eq_zero_iff.1 zo
   refine ga6 ?_
   exact ⟨⟨rfl,rfl,int_eq (by rw[failLine,hz];rfl),trivial⟩,rfl,rfl⟩
 ·refine gdq ?_
  refine oS (LStep.panic rfl fun e' he'=>?_) rfl
  exact panP (he'.trans hj) rfl zhr
theorem take_spec (sb:Nat) (T:List Tok) (i op:Nat) (x:List UInt8) (hT:T.length≤100000) (hi:i≤1000000) :
  LCalls (KC B0 w0) 44 [ptr sb 0,str x] [srcH sb T i op] (fun r H=>r=.ret (bool (isTok T i [x]))∧H=[srcH sb T (if isTok T i [x] then i+1 else i) op]):=by
 refine cI Tryz.func44 rfl (n:=17) rfl rfl rfl ?_
 refine gal ?_
 refine oS (sL [_] rfl (eC rfl rfl eN) rfl rfl rfl ?_) rfl
 refine oS (sH [_,_] rfl pH (is_spec sb T i op [x] hT hi (by simp)) ?_) rfl
 refine ga8 ?_
 refine oC rfl (fun hc=>?_) (fun hc=>?_)
 ·have h:isTok T i [x]=false:=by simpa using hc
  refine gaf ?_
  exact rR rfl (zra rfl) zhr ⟨by rw[h];rfl,by rw[h];rfl⟩
 ·have h:isTok T i [x]=true:=by simpa using hc
  refine gi6 ?_
  exact rR rfl (zra rfl) zhr ⟨by rw[h];rfl,by rw[h];rfl⟩
theorem need_spec (sb:Nat) (T:List Tok) (i op:Nat) (x:List UInt8) (hT:T.length≤100000) (hi:i≤1000000) :
  LCalls (KC B0 w0) 118 [ptr sb 0,str x] [srcH sb T i op] (PostP sb T encU (sNeed T x i op)):=by
 refine cI Tryz.func118 rfl (n:=10) rfl rfl rfl ?_
 refine gab ?_
 refine oS (sH [_,_] rfl pH (take_spec sb T i op x hT hi) ?_) rfl
 refine ga8 ?_
 refine oC rfl (fun hc=>?_) (fun hc=>?_)
 ·have h:isTok T i [x]=false:=by simpa using hc
  simp only[h,Bool.false_eq_true,if_false]
  refine gas ?_
  refine oS (sP [_,_] rfl pH (fail_spec encU sb T i op 3 hT hi) (fun _ _ _ h=>by cases h) (fun l er i' op' h e' he'=>?_)) rfl
  cases h
  exact panP (he'.trans rfl) (by rw[sNeed,h,if_neg zDd];rfl) zhr
 ·have h:isTok T i [x]=true:=by simpa using hc
  simp only[h,if_true]
  refine gcb ?_
  exact retPn rfl rN (by rw[sNeed,h,if_pos rfl]) rfl zhr
theorem word_spec (sb:Nat) (T:List Tok) (i op:Nat) (k:Int) (hT:T.length≤100000) (hi:i≤1000000) :
  LCalls (KC B0 w0) 119 [ptr sb 0,int .i64 k] [srcH sb T i op] (PostP sb T str (sWord T k i op)):=by
 have hml:(T.map encTok).length=T.length:=zLm _
 refine cI Tryz.func119 rfl (n:=51) rfl rfl rfl ?_
 refine ga1 ?_
 refine cC [(0,ptr sb 0),(1,int .i64 k),(29,bool (match T[i]? with|some t=>!decide (t.kind=k)|none=>true))] ?_ (fun j hj=>?_)
 ·refine LCode.quiet zk ?_
  refine gi7 ?_
  refine LQ.bcase 15 rfl (fun h=>?_) (fun h=>?_)
  ·have hge:T.length≤i:=by have:=zt h;omega
   refine gi8 ?_
   exact ⟨⟨rfl,rfl,bool_eq (by rw[List.getElem?_eq_none hge]),trivial⟩,rfl,rfl⟩
  ·have hlt:i<T.length:=by have:=zf h;omega
   refine gep ?_
   refine qP (xR (el':=encTok T[i]) (cs:=[_,_,_]) rfl rfl zo (map_get _ _ _ hlt) rfl rfl) rfl ?_
   refine gi9 ?_
   exact ⟨⟨rfl,rfl,bool_eq (by rw[List.getElem?_eq_getElem hlt]),trivial⟩,rfl,rfl⟩
 ·skip
  refine oC rfl (fun hc=>?_) (fun hc=>?_)
  ·have hs:sWord T k i op=synErr T i:=by
    unfold sWord
    cases hg:T[i]? with
    |none=>rfl
    |some t=>
     rw[hg] at hc
     have:¬ t.kind=k:=by simpa using hc
     simp only
     rw[if_neg this]
   refine gas ?_
   refine oS (sP [_,_] rfl pH (fail_spec str sb T i op 3 hT hi) (fun _ _ _ h=>by cases h) (fun l er i' op' h e' he'=>?_)) rfl
   cases h
   refine gad ?_
   exact panP (he'.trans hj) hs zhr
  ·have hlt:i<T.length:=by
    rcases Nat.lt_or_ge i T.length with h|h
    ·exact h
    ·rw[List.getElem?_eq_none h] at hc;cases hc
   rw[List.getElem?_eq_getElem hlt] at hc
   have hk:T[i].kind=k:=by simpa using hc
   have hs:sWord T k i op=.ok T[i].text (i+1) op:=by rw[sWord,List.getElem?_eq_getElem hlt];simp only;rw[if_pos hk]
   refine geq ?_
   refine cC [(0,ptr sb 0),(4,str T[i].text)] ?_ (fun j2 hj2=>?_)
   ·refine LCode.quiet zk ?_
    refine gja ?_
    refine qP (xR (n:=((i:Nat):Int)) (el':=encTok T[i]) (cs:=[_,_,_]) rfl (int_eq zo) zo (map_get _ _ _ hlt) rfl rfl) rfl ?_
    refine gc2 ?_
    exact ⟨⟨rfl,rfl,trivial⟩,rfl,rfl⟩
   ·refine gjb ?_
    exact retP (hj2.trans hj) (zra rfl) hs rfl zhr
theorem begin_spec (sb:Nat) (T:List Tok) (i op:Nat) (x:List UInt8) (hT:T.length≤100000) (hi:i≤1000000) (ho:op≤1000000) :
  LCalls (KC B0 w0) 120 [ptr sb 0,str x] [srcH sb T i op] (PostP sb T encU (sBegin T x i op)):=by
 refine cI Tryz.func120 rfl (n:=32) rfl rfl rfl ?_
 refine gab ?_
 refine oS (sL [_] rfl (eC rfl rfl eN) rfl rfl rfl ?_) rfl
 refine oS (sH [_,_] rfl pH (is_spec sb T i op [x] hT hi (by simp)) ?_) rfl
 refine ga8 ?_
 refine oC rfl (fun hc=>?_) (fun hc=>?_)
 ·have h:isTok T i [x]=false:=by simpa using hc
  refine gas ?_
  refine oS (sP [_,_] rfl pH (fail_spec encU sb T i op 3 hT hi) (fun _ _ _ h=>by cases h) (fun l er i' op' h' e' he'=>?_)) rfl
  cases h'
  refine gad ?_
  exact panP (he'.trans rfl) (by rw[sBegin,h,if_neg zDd];rfl) zhr
 ·have h:isTok T i [x]=true:=by simpa using hc
  refine gjc ?_
  refine oC rfl (fun hd=>?_) (fun hd=>?_)
  ·have hd':100≤op:=by have:=zt hd;omega
   refine gas ?_
   refine oS (sP [_,_] rfl pH (fail_spec encU sb T i op 6 hT hi) (fun _ _ _ h=>by cases h) (fun l er i' op' h' e' he'=>?_)) rfl
   cases h'
   refine gad ?_
   exact panP (he'.trans rfl) (by rw[sBegin,h,if_pos rfl,if_pos hd']) zhr
  ·have hd':¬ 100≤op:=by have:=zf hd;omega
   refine geq ?_
   exact retPn rfl rN (by rw[sBegin,h,if_pos rfl,if_neg hd']) rfl zhr
theorem end_spec (sb:Nat) (T:List Tok) (i op:Nat) (x:List UInt8) (hT:T.length≤100000) (hi:i≤1000000) (ho:op≤1000000) (h1:1≤op) :
  LCalls (KC B0 w0) 122 [ptr sb 0,str x] [srcH sb T i op] (PostP sb T encU (sEnd T x i op)):=by
 refine cI Tryz.func122 rfl (n:=14) rfl rfl rfl ?_
 refine gab ?_
 refine oS (sP [_,_] rfl pH (need_spec sb T i op x hT hi) (fun v i' op' h=>?_) (fun l er i' op' h e' he'=>?_)) rfl
 ·have hop:op'=op:=by
   unfold sNeed at h
   split at h
   ·cases h;rfl
   ·cases h
  subst hop
  refine gjd ?_
  rw[show ((op':Int)-1)=((op'-1:Nat):Int) by omega]
  exact retPn rfl rN (by rw[sEnd,h];rfl) rfl zhr
 ·refine gad ?_
  exact panP (he'.trans rfl) (by rw[sEnd,h];rfl) zhr
end
end Go.Proofs.YtegmklafpoldgaaGreatDoor
namespace Go.Proofs.YtegmklafpoldgaaGreatDoor
open Go.GL Go.RowKit Go.Stele
attribute [local irreducible] LOps LCode LStep LCalls Go.GL.Pure QThen QBlock RetPost LQ LAny LLate LLateOp
theorem obind_ok {A B:Type} {v:A} {i op:Nat} {f:A→Nat→Nat→OR B}:obind (some (.ok v i op)) f=f v i op:=rfl
theorem obind_err {A B:Type} {l e:Int} {f:A→Nat→Nat→OR B}:obind (some (.err l e)) f=some (.err l e):=rfl
theorem obind_is {A B:Type} {r:OR A} {f:A→Nat→Nat→OR B} {q:Res B} (h:obind r f=some q):∃ r1,r=some r1:=by
 cases r with
 |none=>cases h
 |some r1=>exact ⟨r1,rfl⟩
structure TOK (T:List Tok):Prop where
 len:T.length≤100000
 txt:∀ t∈T,t.text.length≤100000
 num:∀ t∈T,t.kind=1→∃ u,u<4294967296∧Go.Lib.parseUintB 32 t.text=.ok u
theorem wrap_u32 {n:Int} (h:0≤n∧n≤4294967295):IntKind.u32.wrap n=n:=by
 simp only[IntKind.wrap,IntKind.bits,IntKind.signed,Bool.false_and]
 simp
 omega
theorem sWord_ok {T:List Tok} {k:Int} {i op i' op':Nat} {s:List UInt8} (h:sWord T k i op=.ok s i' op'):i'=i+1∧op'=op∧∃ t,T[i]? = some t∧t.kind=k∧t.text=s:=by
 unfold sWord at h
 split at h
 ·rename_i t ht
  split at h
  ·rename_i hk
   cases h
   exact ⟨rfl,rfl,t,ht,hk,rfl⟩
  ·cases h
 ·cases h
def encNames (l:List (List UInt8)):LV:=.list (l.map str)
def encN (n:Nat):LV:=int .u32 n
def ExprC (B0:Nat) (w0:World) (sb:Nat) (T:List Tok) (f:Nat):Prop:=
 ∀ i op r,i≤T.length→op≤100→eLev T f 0 i op=some r→LCalls (KC B0 w0) 204 [ptr sb 0] [srcH sb T i op] (PostP sb T encE r)
section
variable {B0:Nat} {w0:World}
theorem number_specP (hG:GW B0 w0) (sb:Nat) (T:List Tok) (hT:TOK T) (i op:Nat) (hi:i≤1000000):LCalls (KC B0 w0) 121 [ptr sb 0] [srcH sb T i op] (PostP sb T encN (sNumber T i op)):=by
 have hl:=hT.len
 refine cI Tryz.func121 rfl (n:=13) rfl rfl rfl ?_
 refine gal ?_
 refine oS (sP [_,_] rfl pH (word_spec sb T i op 1 hl hi) (fun s i1 op1 h1=>?_) (fun l er i1 op1 h1 e' he'=>?_)) rfl
 ·obtain ⟨rfl,rfl,t,ht,hk,rfl⟩:=sWord_ok h1
  have hmem:=List.mem_of_getElem? ht
  obtain ⟨u,hu,hp⟩:=hT.num t hmem hk
  have htx:=hT.txt t hmem
  have hn:numOf t.text=u:=by rw[numOf,hp]
  have hw:IntKind.u32.wrap (u:Int)=(u:Int):=wrap_u32 zo
  refine oS (sF [_,_,_] rfl (parseUint_ok t.text zo u hp) ?_) rfl
  refine gje ?_
  exact retP (v:=numOf t.text) rfl (zra rfl) (by rw[sNumber,h1];rfl) (by rw[hn];exact int_eq hw) zhr
 ·refine gad ?_
  exact panP (he'.trans rfl) (by rw[sNumber,h1];rfl) zhr
theorem names_specP (sb:Nat) (T:List Tok) (hT:TOK T) (f i op:Nat) (r:Res (List (List UInt8))) (hi:i≤T.length) (hr:sNames T f i op=some r) :
  LCalls (KC B0 w0) 117 [ptr sb 0] [srcH sb T i op] (PostP sb T encNames r):=by
 have hl:=hT.len
 rw[sNames] at hr
 refine cI Tryz.func117 rfl (n:=15) rfl rfl rfl ?_
 refine gal ?_
 refine oS (sP [_,_] rfl pH (word_spec sb T i op 2 hl zo) (fun s i1 op1 h1=>?_) (fun l er i1 op1 h1 e' he'=>?_)) rfl
 ·rw[h1,obind_ok] at hr
  have hi1:i1≤T.length:=by
   have:=sWord_good T 2 i op
   rw[h1] at this
   exact this.2.2.1 hi
  refine oS (S.litA [_] rfl (eC rfl rfl eN) rfl rfl rfl fun b=>?_) rfl
  refine gjf ?_
  refine oL (fun k ls H=>∃ (v:LV) (l:List (List UInt8)) (i2:Nat) (Ha:Heap),ls=[(0,ptr sb 0),(3,v)]∧H=srcH sb T i2 op1::Ha∧Acc 1 v (l.map str) Ha []∧i2≤T.length∧l.length≤i2+1∧sNamesLoop T k l i2 op1=some r)
   ⟨f,_,srcH sb T i1 op1::[(b,.row 1)],⟨.app b 1 1 [str s],[s],i1,_,rfl,rfl,Acc.row,hi1,by simp,hr⟩,⟨rfl,rfl,trivial⟩,zhP zp1 zhr⟩ ?_
  rintro k ls H ⟨v,l,i2,Ha,rfl,rfl,hacc,hi2,hll,hI⟩ j hj
  obtain ⟨k,rfl⟩:∃ k',k=k'+1:=by
   cases k with
   |zero=>rw[sNamesLoop] at hI;cases hI
   |succ k=>exact ⟨k,rfl⟩
  rw[sNamesLoop] at hI
  refine gab ?_
  refine oS (sH [_,_] rfl pH (take_spec sb T i2 op1 [44] hl zo) ?_) rfl
  refine gaq ?_
  refine oC rfl (fun hc=>?_) (fun hc=>?_)
  ·have hlt:=isTok_lt hc
   rw[if_pos hc] at hI
   simp only[hc,if_true]
   refine ger ?_
   refine oP (pM (lv:=v) rfl) rfl ?_
   refine gat ?_
   refine oS (sP [_,_] rfl pH (word_spec sb T (i2+1) op1 2 hl zo) (fun s2 i3 op3 h3=>?_) (fun l er i3 op3 h3 e' he'=>?_)) rfl
   ·rw[h3,obind_ok] at hI
    obtain ⟨rfl,rfl,t,ht,_,_⟩:=sWord_ok h3
    have:=get_lt ht
    refine oS (sL [_] rfl (eC rfl rfl eN) rfl rfl rfl ?_) rfl
    refine oS (S.acc1 rfl hacc rfl (by simp;rfl) rfl (by simp;omega) fun v' H' hacc'=>?_) rfl
    refine oP (pA (lv:=v') rfl) rfl ?_
    refine gb2 ?_
    exact ⟨k,_,_,by omega,⟨v',l++[s2],i2+1+1,H',rfl,rfl,by rw[zMa];exact hacc',by omega,by simp;omega,hI⟩,⟨rfl,rfl,trivial⟩,zhR _,hj⟩
   ·rw[h3,obind_err] at hI
    refine gaa ?_
    exact panP (he'.trans hj) (by cases hI;rfl) zhp
  ·have hc':isTok T i2 [[44]]=false:=hc
   rw[if_neg (by rw[hc'];decide)] at hI
   simp only[hc',Bool.false_eq_true,if_false]
   refine gbb ?_
   refine oP (pM (lv:=v) rfl) rfl ?_
   refine oP (pA (lv:=v) rfl) rfl ?_
   refine gbj ?_
   exact retP (v:=l) hj (rC (rT (v:=v) rfl hacc.sub) rN) (by cases hI;rfl) rfl zhp
 ·exact zT16
theorem index_spec (sb:Nat) (T:List Tok) (hT:TOK T) (f:Nat) (hE:ExprC B0 w0 sb T f) (i op:Nat) (r:Res Ex) (hi:i≤T.length) (ho:op≤100) (hr:eIndex T (f+1) i op=some r) :
  LCalls (KC B0 w0) 234 [ptr sb 0] [srcH sb T i op] (PostP sb T encE r):=by
 have hl:=hT.len
 rw[eIndex] at hr
 refine cI Tryz.func234 rfl (n:=11) rfl rfl rfl ?_
 refine gac ?_
 refine oS (sA fun b=>?_) rfl
 refine gak ?_
 refine oS (sP [_,_] rfl zp1 (begin_spec sb T i op [91] hl zo zo) (fun v i1 op1 h1=>?_) (fun l er i1 op1 h1 e' he'=>?_)) rfl
 ·rw[h1,obind_ok] at hr
  obtain ⟨rfl,rfl,ho1,hi1⟩:=sBegin_ok h1
  refine gak ?_
  obtain ⟨r1,hr1⟩:=obind_is hr
  refine oS (sP [_] rfl pH (hE _ _ r1 zo zo hr1) (fun v i2 op2 h2=>?_) (fun l er i2 op2 h2 e' he'=>?_)) rfl
  ·rw[hr1,h2,obind_ok] at hr
   obtain ⟨g1,_,g3,rfl⟩:=(ex_good T f).1 0 _ _ _ (hr1.trans (congrArg some h2))
   have g4:=g3 zo
   refine oS (sA fun b2=>?_) rfl
   refine gc3 ?_
   refine oS (sP [_,_] rfl zp1 (end_spec sb T i2 (op+1) [93] hl zo zo zo) (fun u i3 op3 h3=>?_) (fun l er i3 op3 h3 e' he'=>?_)) rfl
   ·rw[h3,obind_ok] at hr
    refine ges ?_
    exact retP rfl (rC (rA rfl zm0 rfl zsr) rN) (by cases hr;rfl) rfl (zhD zhp)
   ·rw[h3,obind_err] at hr
    refine gad ?_
    exact panP (he'.trans rfl) (by cases hr;rfl) zhp
  ·rw[hr1,h2,obind_err] at hr
   refine gad ?_
   exact panP (he'.trans rfl) (by cases hr;rfl) zhp
 ·exact zT16
end
end Go.Proofs.YtegmklafpoldgaaGreatDoor
namespace Go.Proofs.YtegmklafpoldgaaGreatDoor
open Go.GL Go.RowKit Go.Stele
attribute [local irreducible] LOps LCode LStep LCalls Go.GL.Pure QThen QBlock RetPost LQ LAny LLate LLateOp
def encEL (l:List Ex):LV:=.list (l.map encE)
section
variable {B0:Nat} {w0:World}
theorem args_spec (sb:Nat) (T:List Tok) (hT:TOK T) (f:Nat) (hE:∀ g,g<f→ExprC B0 w0 sb T g) (i op:Nat) (r:Res (List Ex)) (hi:i≤T.length) (ho:op≤100) (hr:eArgs T f i op=some r) :
  LCalls (KC B0 w0) 233 [ptr sb 0] [srcH sb T i op] (PostP sb T encEL r):=by
 have hl:=hT.len
 obtain ⟨f,rfl⟩:∃ g,f=g+1:=by
  cases f with
  |zero=>rw[eArgs] at hr;cases hr
  |succ g=>exact ⟨g,rfl⟩
 rw[eArgs] at hr
 refine cI Tryz.func233 rfl (n:=23) rfl rfl rfl ?_
 refine gal ?_
 refine oS (sP [_,_] rfl pH (begin_spec sb T i op [40] hl zo zo) (fun v i1 op1 h1=>?_) (fun l er i1 op1 h1 e' he'=>?_)) rfl
 ·rw[h1,obind_ok] at hr
  obtain ⟨rfl,rfl,ho1,hi1⟩:=sBegin_ok h1
  refine gca ?_
  obtain ⟨r1,hr1⟩:=obind_is hr
  refine oL (fun k ls H=>∃ (v:LV) (l:List Ex) (i2:Nat) (Ha:Heap),k≤f∧ls=[(0,ptr sb 0),(3,v)]∧H=srcH sb T i2 (op+1)::Ha∧Acc 4 v (l.map encE) Ha []∧i2≤T.length∧l.length≤i2+1∧eArgsLoop T k l i2 (op+1)=some r1)
   ⟨f,_,srcH sb T (i+1) (op+1)::[],⟨nilSlice,[],i+1,_,zNr _,rfl,rfl,Acc.nil,by omega,by simp,hr1⟩,⟨rfl,rfl,trivial⟩,zhR _⟩ ?_
  rintro k ls H ⟨v,l,i2,Ha,hkf,rfl,rfl,hacc,hi2,hll,hI⟩ j hj
  obtain ⟨k,rfl⟩:∃ k',k=k'+1:=by
   cases k with
   |zero=>rw[eArgsLoop] at hI;cases hI
   |succ k=>exact ⟨k,rfl⟩
  rw[eArgsLoop] at hI
  refine gab ?_
  refine oS (sL [_] rfl (eC rfl rfl eN) rfl rfl rfl ?_) rfl
  refine oS (sH [_,_] rfl pH (is_spec sb T i2 (op+1) [[41]] hl zo (by simp)) ?_) rfl
  refine ga8 ?_
  refine oC rfl (fun hc=>?_) (fun hc=>?_)
  ·have hc':isTok T i2 [[41]]=false:=by simpa using hc
   rw[if_neg (by rw[hc'];decide)] at hI
   refine gag ?_
   refine oP (pM (lv:=v) rfl) rfl ?_
   refine oP (Pure.llen hacc.elems) rfl ?_
   refine gjg ?_
   refine oC rfl (fun hd=>?_) (fun hd=>?_)
   ·have hl0:¬ l=[]:=by
     rintro rfl
     have:=zt hd
     simp at this
    rw[if_neg hl0] at hI
    refine gas ?_
    refine oS (sP [_,_] rfl pH (need_spec sb T i2 (op+1) [44] hl zo) (fun u i3 op3 h3=>?_) (fun l er i3 op3 h3 e' he'=>?_)) rfl
    ·rw[h3,obind_ok] at hI
     obtain ⟨q1,q2,q3,rfl⟩:i2≤i3∧(true=true→i2<i3)∧(i2≤T.length→i3≤T.length)∧op3=op+1:=by
      have:=sNeed_good T [44] i2 (op+1)
      rw[h3] at this
      exact this
     have q4:=q3 hi2
     refine gjh ?_
     refine oP (pM (lv:=v) rfl) rfl ?_
     refine gat ?_
     obtain ⟨r2,hr2⟩:=obind_is hI
     refine oS (sP [_] rfl pH (hE k zo _ _ r2 zo zo hr2) (fun e2 i4 op4 h4=>?_) (fun l er i4 op4 h4 e' he'=>?_)) rfl
     ·exact zT6
     ·rw[hr2,h4,obind_err] at hI
      rw[hr1] at hr
      cases hI
      rw[obind_err] at hr
      refine gaa ?_
      exact panP (he'.trans hj) (by cases hr;rfl) zhp
    ·rw[h3,obind_err] at hI
     rw[hr1] at hr
     cases hI
     rw[obind_err] at hr
     refine gaa ?_
     exact panP (he'.trans hj) (by cases hr;rfl) zhp
   ·have hl0:l=[]:=by
     have:=zf hd
     simp at this
     exact this
    rw[if_pos hl0,obind_ok] at hI
    refine gji ?_
    refine oP (pM (lv:=v) rfl) rfl ?_
    refine gat ?_
    obtain ⟨r2,hr2⟩:=obind_is hI
    refine oS (sP [_] rfl pH (hE k zo _ _ r2 zo zo hr2) (fun e2 i4 op4 h4=>?_) (fun l er i4 op4 h4 e' he'=>?_)) rfl
    ·exact zT6
    ·rw[hr2,h4,obind_err] at hI
     rw[hr1] at hr
     cases hI
     rw[obind_err] at hr
     refine gaa ?_
     exact panP (he'.trans hj) (by cases hr;rfl) zhp
  ·have hc':isTok T i2 [[41]]=true:=by simpa using hc
   rw[if_pos hc'] at hI
   refine gbv ?_
   rw[hr1] at hr
   cases hI
   rw[obind_ok] at hr
   refine oS (sP [_,_] rfl pH (end_spec sb T i2 (op+1) [41] hl zo zo zo) (fun u i3 op3 h3=>?_) (fun l er i3 op3 h3 e' he'=>?_)) rfl
   ·rw[h3,obind_ok] at hr
    refine gcg ?_
    refine oP (pM (lv:=v) rfl) rfl ?_
    refine oP (pA (lv:=v) rfl) rfl ?_
    refine gbj ?_
    exact retP (v:=l) hj (rC (rT (v:=v) rfl hacc.sub) rN) (by cases hr;rfl) rfl zhp
   ·rw[h3,obind_err] at hr
    refine gad ?_
    exact panP (he'.trans hj) (by cases hr;rfl) zhp
 ·exact zT16
theorem index_specL (sb:Nat) (T:List Tok) (hT:TOK T) (f:Nat) (hE:∀ g,g<f→ExprC B0 w0 sb T g) (i op:Nat) (r:Res Ex) (hi:i≤T.length) (ho:op≤100) (hr:eIndex T f i op=some r) :
  LCalls (KC B0 w0) 234 [ptr sb 0] [srcH sb T i op] (PostP sb T encE r):=by
 cases f with
 |zero=>rw[eIndex] at hr;cases hr
 |succ f=>exact index_spec sb T hT f (hE f zo) i op r hi ho hr
theorem prim_spec (hG:GW B0 w0) (sb:Nat) (T:List Tok) (hT:TOK T) (f:Nat) (hE:∀ g,g<f→ExprC B0 w0 sb T g) (i op:Nat) (r:Res Ex) (hi:i≤T.length) (ho:op≤100) (hr:ePrim T f i op=some r) :
  LCalls (KC B0 w0) 242 [ptr sb 0] [srcH sb T i op] (PostP sb T encE r):=by
 have hl:=hT.len
 have hml:(T.map encTok).length=T.length:=zLm _
 obtain ⟨f,rfl⟩:∃ g,f=g+1:=by
  cases f with
  |zero=>rw[ePrim] at hr;cases hr
  |succ g=>exact ⟨g,rfl⟩
 rw[ePrim] at hr
 refine cI Tryz.func242 rfl (n:=63) rfl rfl rfl ?_
 refine gac ?_
 refine oS (sA fun b=>?_) rfl
 refine gak ?_
 refine oS (sL [_] rfl (eC rfl rfl eN) rfl rfl rfl ?_) rfl
 refine oS (sH [_,_] rfl zp1 (is_spec sb T i op [[40]] hl zo (by simp)) ?_) rfl
 refine gaq ?_
 refine oC rfl (fun hp=>?_) (fun hp=>?_)
 ·rw[if_pos hp] at hr
  refine gab ?_
  refine oS (sP [_,_] rfl pH (begin_spec sb T i op [40] hl zo zo) (fun v i1 op1 h1=>?_) (fun l er i1 op1 h1 e' he'=>?_)) rfl
  ·rw[h1,obind_ok] at hr
   obtain ⟨rfl,rfl,ho1,hi1⟩:=sBegin_ok h1
   refine gak ?_
   obtain ⟨r1,hr1⟩:=obind_is hr
   refine oS (sP [_] rfl pH (hE f zo _ _ r1 zo zo hr1) (fun v i2 op2 h2=>?_) (fun l er i2 op2 h2 e' he'=>?_)) rfl
   ·rw[hr1,h2,obind_ok] at hr
    obtain ⟨g1,_,g3,rfl⟩:=(ex_good T f).1 0 _ _ _ (hr1.trans (congrArg some h2))
    have g4:=g3 zo
    refine oS (sA fun b2=>?_) rfl
    refine gc3 ?_
    refine oS (sP [_,_] rfl zp1 (end_spec sb T i2 (op+1) [41] hl zo zo zo) (fun u i3 op3 h3=>?_) (fun l er i3 op3 h3 e' he'=>?_)) rfl
    ·rw[h3,obind_ok] at hr
     refine gjj ?_
     exact retP rfl (rC (rA rfl zm0 rfl zsr) rN) (by cases hr;rfl) rfl (zhD zhp)
    ·rw[h3,obind_err] at hr
     refine gad ?_
     exact panP (he'.trans rfl) (by cases hr;rfl) zhp
   ·rw[hr1,h2,obind_err] at hr
    refine gad ?_
    exact panP (he'.trans rfl) (by cases hr;rfl) zhp
  ·exact zT16
 ·have hp':isTok T i [[40]]=false:=hp
  rw[if_neg (by rw[hp'];decide)] at hr
  refine gbq ?_
  refine cC [(0,ptr sb 0),(2,ptr b 0),(38,bool (decide (kindAt T i=1)))] ?_ (fun j hj=>?_)
  ·refine LCode.quiet zk ?_
   refine gjk ?_
   refine LQ.bcase 25 rfl (fun h=>?_) (fun h=>?_)
   ·have hlt:i<T.length:=by have:=zt h;omega
    refine gep ?_
    refine qP (xR (el':=encTok T[i]) (cs:=[_,_,_]) rfl rfl zo (map_get _ _ _ hlt) rfl rfl) rfl ?_
    refine gjl ?_
    exact ⟨⟨rfl,rfl,bool_eq (by rw[kindAt,List.getElem?_eq_getElem hlt]),trivial⟩,rfl,rfl⟩
   ·have hge:T.length≤i:=by have:=zf h;omega
    refine gjm ?_
    exact ⟨⟨rfl,rfl,bool_eq (by rw[kindAt,List.getElem?_eq_none hge];rfl),trivial⟩,rfl,rfl⟩
  ·skip
   refine oC rfl (fun hk=>?_) (fun hk=>?_)
   ·rw[if_pos (zt hk)] at hr
    refine gab ?_
    refine oS (sP [_] rfl pH (number_specP hG sb T hT i op zo) (fun n i1 op1 h1=>?_) (fun l er i1 op1 h1 e' he'=>?_)) rfl
    ·rw[h1,obind_ok] at hr
     refine gjn ?_
     exact retP (v:=.mk nNum n [] []) hj (rC (rA (k:=4) rfl zm0 rfl (vA (bs:=[_,_,_,.list []]) ⟨vR _,vR _,vR _,vN,trivial⟩)) rN) (by cases hr;rfl) (by rw[encE_mk];rfl) (zhP zp1 zhn)
    ·rw[h1,obind_err] at hr
     refine gad ?_
     exact panP (he'.trans hj) (by cases hr;rfl) zhp
   ·rw[if_neg (zf hk)] at hr
    refine gaw ?_
    refine oS (sP [_,_] rfl pH (word_spec sb T i op 2 hl zo) (fun s i1 op1 h1=>?_) (fun l er i1 op1 h1 e' he'=>?_)) rfl
    ·rw[h1,obind_ok] at hr
     obtain ⟨rfl,rfl,t,ht,_,_⟩:=sWord_ok h1
     have:=get_lt ht
     refine gcz ?_
     refine oS (sL [_] rfl (eC rfl rfl eN) rfl rfl rfl ?_) rfl
     refine oS (sH [_,_] rfl pH (is_spec sb T (i+1) op1 [[91]] hl zo (by simp)) ?_) rfl
     refine gar ?_
     refine oC rfl (fun hx=>?_) (fun hx=>?_)
     ·rw[if_pos hx] at hr
      obtain ⟨r1,hr1⟩:=obind_is hr
      refine gab ?_
      refine oS (sP [_] rfl pH (index_specL sb T hT f (fun g hg=>hE g zo) (i+1) op1 r1 zo zo hr1) (fun e2 i2 op2 h2=>?_) (fun l er i2 op2 h2 e' he'=>?_)) rfl
      ·rw[hr1,h2,obind_ok] at hr
       refine oS (sL [_] rfl (eC rfl rfl eN) rfl rfl rfl ?_) rfl
       refine get ?_
       exact retP (v:=.mk nElem 0 s [e2]) hj (rC (rA rfl zm0 rfl zsr) rN) (by cases hr;rfl) (by rw[encE_mk];rfl) (zhP zp1 zhn)
      ·exact zT15
     ·have hx':isTok T (i+1) [[91]]=false:=hx
      rw[if_neg (by rw[hx'];decide)] at hr
      refine gab ?_
      refine oS (sL [_] rfl (eC rfl rfl eN) rfl rfl rfl ?_) rfl
      refine oS (sH [_,_] rfl pH (is_spec sb T (i+1) op1 [[40]] hl zo (by simp)) ?_) rfl
      refine gar ?_
      refine oC rfl (fun hy=>?_) (fun hy=>?_)
      ·rw[if_pos hy] at hr
       obtain ⟨r1,hr1⟩:=obind_is hr
       refine gab ?_
       refine oS (sP [_] rfl pH (args_spec sb T hT f (fun g hg=>hE g zo) (i+1) op1 r1 zo zo hr1) (fun e2 i2 op2 h2=>?_) (fun l er i2 op2 h2 e' he'=>?_)) rfl
       ·rw[hr1,h2,obind_ok] at hr
        refine get ?_
        exact retP (v:=.mk nCall 0 s e2) hj (rC (rA rfl zm0 rfl zsr) rN) (by cases hr;rfl) (by rw[encE_mk];rfl) (zhP zp1 zhn)
       ·exact zT15
      ·have hy':isTok T (i+1) [[40]]=false:=hy
       rw[if_neg (by rw[hy'];decide)] at hr
       refine gjo ?_
       exact retP (v:=.mk nVar 0 s []) hj (rC (rA (k:=4) rfl zm0 rfl (vA (bs:=[_,_,_,.list []]) ⟨vR _,vR _,vR _,vN,trivial⟩)) rN) (by cases hr;rfl) (by rw[encE_mk];rfl) (zhP zp1 zhn)
    ·rw[h1,obind_err] at hr
     refine gad ?_
     exact panP (he'.trans hj) (by cases hr;rfl) zhp
end
end Go.Proofs.YtegmklafpoldgaaGreatDoor
namespace Go.Proofs.YtegmklafpoldgaaGreatDoor
open Go.GL Go.RowKit Go.Stele
attribute [local irreducible] LOps LCode LStep LCalls Go.GL.Pure QThen QBlock RetPost LQ LAny LLate LLateOp
def e45:MapEntry:={ key:=.string ⟨#[45]⟩,val:=.string ⟨#[110,101,103]⟩,born:=0 }
def e33:MapEntry:={ key:=.string ⟨#[33]⟩,val:=.string ⟨#[110,111,116]⟩,born:=1 }
section
variable {B0:Nat} {w0:World}
def UnaryC (B0:Nat) (w0:World) (sb:Nat) (T:List Tok) (f:Nat):Prop:=
 ∀ i op r,i≤T.length→op≤100→eUnary T f i op=some r→LCalls (KC B0 w0) 229 [ptr sb 0] [srcH sb T i op] (PostP sb T encE r)
def SeenOk (T:List Tok) (i:Nat) (seen:Array Nat):Prop:=
 seen=#[]∨(seen=#[0]∧isTok T i [[45]]=false)∨(seen=#[1]∧isTok T i [[33]]=false)∨((seen=#[0,1]∨seen=#[1,0])∧isTok T i [[45]]=false∧isTok T i [[33]]=false)
theorem over_seen {T:List Tok} {i:Nat} {seen:Array Nat} (h:SeenOk T i seen) (ho:#[e45,e33].filter (fun e=>!seen.contains e.born)=#[]):isTok T i [[45]]=false∧isTok T i [[33]]=false:=by
 have h1:=Array.filter_eq_empty_iff.1 ho e45 (by simp)
 have h2:=Array.filter_eq_empty_iff.1 ho e33 (by simp)
 rcases h with rfl|⟨rfl,_⟩|⟨rfl,_⟩|⟨_,h3,h4⟩
 ·simp[e45] at h1
 ·simp[e33] at h2
 ·simp[e45] at h1
 ·exact ⟨h3,h4⟩
theorem step_seen {T:List Tok} {i:Nat} {seen:Array Nat} {e:MapEntry} (h:SeenOk T i seen) (he:e∈(#[e45,e33].filter (fun e=>!seen.contains e.born)).toList) :
  seen.size<2∧((e=e45∧(isTok T i [[45]]=false→SeenOk T i (seen.push 0)))∨(e=e33∧(isTok T i [[33]]=false→SeenOk T i (seen.push 1)))):=by
 have he':=Array.mem_filter.1 (Array.mem_toList_iff.1 he)
 have hor:e=e45∨e=e33:=by simpa using he'.1
 have hno:=he'.2
 rcases h with rfl|⟨rfl,h1⟩|⟨rfl,h1⟩|⟨rfl|rfl,_,_⟩
 ·rcases hor with rfl|rfl
  ·exact ⟨by decide,.inl ⟨rfl,fun h=>.inr (.inl ⟨rfl,h⟩)⟩⟩
  ·exact ⟨by decide,.inr ⟨rfl,fun h=>.inr (.inr (.inl ⟨rfl,h⟩))⟩⟩
 ·rcases hor with rfl|rfl
  ·simp[e45] at hno
  ·exact ⟨by decide,.inr ⟨rfl,fun h=>.inr (.inr (.inr ⟨.inl rfl,h1,h⟩))⟩⟩
 ·rcases hor with rfl|rfl
  ·exact ⟨by decide,.inl ⟨rfl,fun h=>.inr (.inr (.inr ⟨.inr rfl,h,h1⟩))⟩⟩
  ·simp[e33] at hno
 ·rcases hor with rfl|rfl
  ·simp[e45] at hno
  ·simp[e33] at hno
 ·rcases hor with rfl|rfl
  ·simp[e45] at hno
  ·simp[e33] at hno
theorem isTok_excl {T:List Tok} {i:Nat} (h:isTok T i [[33]]=true):isTok T i [[45]]=false:=by
 unfold isTok at h ⊢
 split at h
 ·rename_i t ht
  simp only[zBa] at h
  have h2:t.text=[33]:=by simpa using h.2
  rw[h2]
  simp
 ·cases h
theorem unary_spec (hG:GW B0 w0) (sb:Nat) (T:List Tok) (hT:TOK T):∀ f:Nat,(∀ g,g<f→ExprC B0 w0 sb T g)→UnaryC B0 w0 sb T f:=by
 intro f
 induction f with
 |zero=>intro _ i op r _ _ hr;rw[eUnary] at hr;cases hr
 |succ f ih=>
  intro hE i op r hi ho hr
  have hl:=hT.len
  rw[eUnary] at hr
  refine cI Tryz.func229 rfl (n:=36) rfl rfl rfl ?_
  refine gac ?_
  refine oS (sA fun b=>?_) rfl
  refine gcg ?_
  refine oS (S.makeMap fun mb=>?_) rfl
  refine oS (S.insert (k:=⟨#[45]⟩) (v:=.string ⟨#[110,101,103]⟩) (kt:=9) (el:=9) zk zk rfl rfl rfl pH (by simp) ?_) rfl
  refine oS (S.insert (k:=⟨#[33]⟩) (v:=.string ⟨#[110,111,116]⟩) (kt:=9) (el:=9) zk zk rfl rfl rfl pH (fun e he=>⟨⟨#[45]⟩,by simp at he;rw[he],by decide⟩) ?_) rfl
  refine oP (pM (lv:=.atom _) rfl) rfl ?_
  refine oS (S.range (kt:=9) (el:=9) zk rfl zm0 fun rb=>?_) rfl
  refine geu ?_
  refine oL (fun k ls H=>∃ seen:Array Nat,k=2-seen.size∧ls=[(0,ptr sb 0),(2,ptr b 0),(8,ptr rb 0)]∧H=[(rb,.obj (.mapIter (some mb) 2 seen 2)),(mb,.obj (.map #[e45,e33] 2)),(b,.cells 170 [str [],int .u32 0,str [],nilSlice]),srcH sb T i op]∧SeenOk T i seen)
   ⟨_,_,_,⟨#[],rfl,rfl,rfl,.inl rfl⟩,⟨rfl,rfl,rfl,trivial⟩,zhR _⟩ ?_
  rintro k ls H ⟨seen,rfl,rfl,rfl,hS⟩ j hj
  refine gac ?_
  refine oS (S.next (F:=[(b,.cells 170 [str [],int .u32 0,str [],nilSlice]),srcH sb T i op]) rfl zpr zDd (fun hov=>?_) (fun en hen=>?_)) rfl
  ·obtain ⟨hn1,hn2⟩:=over_seen hS hov
   rw[if_neg (by rw[hn1];decide),if_neg (by rw[hn2];decide)] at hr
   refine gc4 ?_
   refine oC rfl (fun hcc=>?_) (fun hcc=>?_)
   ·cases hcc
   ·refine gbv ?_
    refine oS (sP [_] rfl zp3 (prim_spec hG sb T hT f (fun g hg=>hE g zo) i op r hi ho hr) (fun v i1 op1 h1=>?_) (fun l er i1 op1 h1 e' he'=>?_)) rfl
    ·refine gev ?_
     exact retP (v:=v) hj (rC (rA rfl zm0 rfl zsr) rN) h1 rfl (zhP zp1 zhn)
    ·refine gad ?_
     exact panP (he'.trans hj) h1 zhp
  ·obtain ⟨hsz,⟨rfl,hnext⟩|⟨rfl,hnext⟩⟩:=step_seen hS hen
   ·refine gc4 ?_
    refine oC rfl (fun hcc=>?_) (fun hcc=>?_)
    ·refine gag ?_
     refine oP (Pure.entry (en:=e45) (stamp:=0) rfl zm0 zm1 rfl (by show (seen.push 0).back? = _;simp) rfl) rfl ?_
     refine gew ?_
     refine oS (sL [_] rfl (eC rfl rfl eN) rfl rfl rfl ?_) rfl
     refine oS (sH [_,_] rfl zp3 (is_spec sb T i op [[45]] hl zo (by simp)) ?_) rfl
     refine gaq ?_
     refine oC rfl (fun hc=>?_) (fun hc=>?_)
     ·rw[if_pos hc] at hr
      refine gab ?_
      refine oS (sP [_,_] rfl pH (begin_spec sb T i op [45] hl zo zo) (fun v i1 op1 h1=>?_) (fun l er i1 op1 h1 e' he'=>?_)) rfl
      ·rw[h1,obind_ok] at hr
       obtain ⟨rfl,rfl,ho1,hi1⟩:=sBegin_ok h1
       refine gak ?_
       obtain ⟨r1,hr1⟩:=obind_is hr
       refine oS (sP [_] rfl pH (ih (fun g hg=>hE g zo) _ _ r1 zo zo hr1) (fun e2 i2 op2 h2=>?_) (fun l er i2 op2 h2 e' he'=>?_)) rfl
       ·rw[hr1,h2,obind_ok] at hr
        obtain ⟨g1,_,g3,rfl⟩:=(ex_good T f).2.2.1 _ _ _ (hr1.trans (congrArg some h2))
        have g4:=g3 zo
        refine oS (sL [_] rfl (eC rfl rfl eN) rfl rfl rfl ?_) rfl
        refine gci ?_
        refine oS (sA fun b2=>?_) rfl
        refine gex ?_
        exact retP (v:=.mk nNeg 0 [] [e2]) hj (rC (rA rfl zm0 rfl zsr) rN) (by cases hr;rfl) (by rw[encE_mk];rfl) (by
         rw[show (((op+1:Nat):Int)-1)=((op+1-1:Nat):Int) by omega]
         exact zhP zp1 zhn)
       ·exact zT15
      ·rw[h1,obind_err] at hr
       refine gaa ?_
       exact panP (he'.trans hj) (by cases hr;rfl) zhp
     ·refine gcj ?_
      exact ⟨_,_,_,by have:=hsz;simp;omega,⟨seen.push 0,rfl,rfl,rfl,hnext hc⟩,⟨rfl,rfl,rfl,trivial⟩,zhP zp1 (zhP zp1 (zhP zp1 zhp)),hj⟩
    ·cases hcc
   ·refine gc4 ?_
    refine oC rfl (fun hcc=>?_) (fun hcc=>?_)
    ·refine gag ?_
     refine oP (Pure.entry (en:=e33) (stamp:=1) rfl zm0 zm1 rfl (by show (seen.push 1).back? = _;simp) rfl) rfl ?_
     refine gew ?_
     refine oS (sL [_] rfl (eC rfl rfl eN) rfl rfl rfl ?_) rfl
     refine oS (sH [_,_] rfl zp3 (is_spec sb T i op [[33]] hl zo (by simp)) ?_) rfl
     refine gaq ?_
     refine oC rfl (fun hc=>?_) (fun hc=>?_)
     ·rw[if_neg (by rw[isTok_excl hc];decide),if_pos hc] at hr
      refine gab ?_
      refine oS (sP [_,_] rfl pH (begin_spec sb T i op [33] hl zo zo) (fun v i1 op1 h1=>?_) (fun l er i1 op1 h1 e' he'=>?_)) rfl
      ·rw[h1,obind_ok] at hr
       obtain ⟨rfl,rfl,ho1,hi1⟩:=sBegin_ok h1
       refine gak ?_
       obtain ⟨r1,hr1⟩:=obind_is hr
       refine oS (sP [_] rfl pH (ih (fun g hg=>hE g zo) _ _ r1 zo zo hr1) (fun e2 i2 op2 h2=>?_) (fun l er i2 op2 h2 e' he'=>?_)) rfl
       ·rw[hr1,h2,obind_ok] at hr
        obtain ⟨g1,_,g3,rfl⟩:=(ex_good T f).2.2.1 _ _ _ (hr1.trans (congrArg some h2))
        have g4:=g3 zo
        refine oS (sL [_] rfl (eC rfl rfl eN) rfl rfl rfl ?_) rfl
        refine gci ?_
        refine oS (sA fun b2=>?_) rfl
        refine gex ?_
        exact retP (v:=.mk nNot 0 [] [e2]) hj (rC (rA rfl zm0 rfl zsr) rN) (by cases hr;rfl) (by rw[encE_mk];rfl) (by
         rw[show (((op+1:Nat):Int)-1)=((op+1-1:Nat):Int) by omega]
         exact zhP zp1 zhn)
       ·exact zT15
      ·rw[h1,obind_err] at hr
       refine gaa ?_
       exact panP (he'.trans hj) (by cases hr;rfl) zhp
     ·refine gcj ?_
      exact ⟨_,_,_,by have:=hsz;simp;omega,⟨seen.push 1,rfl,rfl,rfl,hnext hc⟩,⟨rfl,rfl,rfl,trivial⟩,zhP zp1 (zhP zp1 (zhP zp1 zhp)),hj⟩
    ·cases hcc
end
end Go.Proofs.YtegmklafpoldgaaGreatDoor
