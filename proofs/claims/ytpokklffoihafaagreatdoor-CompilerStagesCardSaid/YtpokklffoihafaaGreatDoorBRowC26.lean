/- Texts joined: ChkW1, ChkW2, Shelf, Lex2, FmtUint, Lex3, Lex4, ChkSize, ChkW3, GlMax. -/
import Derived.Shelf.Strings.Builder1
import Derived.Shelf.Strings.Builder2
import Derived.Shelf.Strings.OnBuilder
import Derived.Shelf.Strings.Trim
import Derived.Shelf.Small.Utf8
import Derived.Shelf.Small.Strs
import Derived.Shelf.Small.Wraps
import Derived.Shelf.Strings.BuilderF
import Derived.Shelf.Strings.BuilderK
import Derived.Shelf.Utf8.RuneCount
import Derived.Shelf.Strings.Builder2Cap
import Derived.Shelf.Strconv.Itoa0
import Derived.Shelf.Strconv.Itoa1
import Derived.Shelf.LaysM
import Derived.Shelf.Strconv.Itoa2
import Derived.Shelf.Strconv.Itoa3
import Derived.Shelf.Strconv.Clone
import Derived.Shelf.Strconv.SyntaxError
import Derived.Shelf.LaysC
import Derived.Shelf.Strconv.ToError
import Derived.Shelf.Strconv.Lower
import Derived.Shelf.Strconv.ParseUint10
import Derived.Shelf.Strconv.ParseUint10Empty
import Derived.Shelf.Strconv.ParseUint10Any
import Derived.Shelf.Strconv.RangeError
import Derived.Shelf.Strconv.ToErrorRange
import Derived.Shelf.Strconv.ParseUintEmpty
import Derived.Shelf.Strconv.ParseUint10b64
import Derived.Shelf.Strconv.ParseUint10b32
import Derived.Shelf.Strconv.ParseUint10b16
import Derived.Shelf.Strconv.ParseUint10b8
import Derived.Shelf.Strconv.ParseUint10At
import Derived.Ground.MpProg
import Derived.Shelf.Pu.ParseUintPublic10
import Derived.Shelf.Pu.ErrVarParseUint
import Derived.Shelf.Strings.Search1
import Derived.Shelf.Strings.Search2
import Derived.Shelf.Strings.Search3
import Derived.Shelf.Strings.Cut
import Derived.Shelf.Strings.Count
import Derived.Shelf.Strings.Shaped
import Derived.Shelf.Strings.Prefix
import Derived.Shelf.Strings.Split
import Derived.Shelf.Strings.SplitShaped
import Derived.Shelf.Unicode.Decode
import Derived.Shelf.Strings.Runes
import Derived.Shelf.Strings.RuneCount
import Derived.Shelf.Strings.AsciiSet
import Derived.Shelf.Unicode.DecodeSlow
import Derived.Shelf.Unicode.DecodeAny
import Derived.Shelf.Strings.BuilderCap
import Derived.Shelf.Slices.Turned
import Derived.Ground.Names2Prog
import Derived.Shelf.Slices.Clone
import Derived.Ground.SlgnProg
import Derived.Shelf.SlicesE.Clone
import Derived.Test.YtpokklffoihafaaGreatDoorProg
import Derived.Lib.Walk
import Derived.Lib.ItoaMem
import Derived.Lib.AppendIntMem
import Derived.WalkKit
import Derived.BigCall
import Derived.BigGuard
import Derived.Below
import Derived.WalkSmall
import Derived.Deep.WholeRow
import Derived.Test.YtpokklffoihafaaGreatDoorBRowC22
import Derived.Test.YtpokklffoihafaaGreatDoorBRowC23
import Derived.Test.YtpokklffoihafaaGreatDoorBRowC25
set_option linter.unusedVariables false
set_option linter.unusedSimpArgs false
namespace Go.Proofs.YtpokklffoihafaaGreatDoor.Chk
open Go.GL Go.RowKit Go.Stele
set_option maxRecDepth 100000
set_option maxHeartbeats 4000000
def RetAcc (es:List LV) (r:LRes) (H:Heap):Prop:=∃ v,r=.ret v∧GL.Acc 1 v es H []
theorem get_mid {A B:Type} (g:A→B) (pre:List A) (a:A) (l:List A):((pre++a::l).map g)[((pre.length:Nat):Int).toNat]? = some (g a):=by
 rw[Int.toNat_natCast,List.getElem?_map,List.getElem?_append_right (Nat.le_refl _),Nat.sub_self]
 rfl
theorem hsub_left {H F:Heap}:HSub H (H++F):=⟨F,List.Perm.refl _⟩
theorem str_len (l:List (List UInt8)):∀ v∈l.map str,v.cells.length=1:=fun v hv=>by
 obtain ⟨a,_,rfl⟩:=List.mem_map.1 hv
 rfl
theorem str_ok (l:List (List UInt8)):((l.map str).flatMap LV.cells).all cellOk=true:=by
 induction l with
 |nil=>rfl
 |cons a l ih=>
  simp only[List.map_cons,List.flatMap_cons,List.all_append,ih,Bool.and_true]
  rfl
section
variable {C:Ctx} {n:Nat} {e:Env} {H H':Heap} {rs:List ResultVar} {vs:List LV} {es:List LV} {v:LV}
theorem retAcc (hd:e.ds=[]) (h:AllRes C n e H rs [v]) (hv:GL.Acc 1 v es H' []) (hH:HSub H' H):RetPost C n rs (RetAcc es) .ret e H:=rR hd h hH ⟨v,rfl,hv⟩
end
attribute [local irreducible] LOps LCode LStep LCalls Go.GL.Pure QThen QBlock RetPost LQ LAny LLate LLateOp LS
section
variable {B0:Nat} {w0:World}
theorem clone_spec (l:List (List UInt8)) (hl:l.length≤2000000):LCalls (KC B0 w0) 67 [.list (l.map str)] [] (RetAcc (l.map str)):=by
 refine cI Tryz.func67 rfl (n:=8) rfl rfl rfl ?_
 refine gah ?_
 refine oS (S.sliceNil (es:=l.map str) rfl fun b hb=>?_) rfl
 refine gab ?_
 refine oC rfl (fun hc=>?_) (fun hc=>?_)
 ·have h0:=hb hc
  refine gac ?_
  exact retAcc rfl (rC (rT (v:=nilSlice) rfl zsr) rN) (by rw[h0];exact Acc.nil) zhr
 ·refine gau ?_
  refine oS (S.litA [] rfl eN rfl rfl rfl fun b4=>?_) rfl
  refine gaa ?_
  refine oS (S.acc (es:=[]) (F:=[]) rfl Acc.row rfl (str_len l) (str_ok l) (by simp;omega) fun v' H' hacc=>?_) rfl
  refine oP (Pure.as (lv:=v') rfl) rfl ?_
  refine gab ?_
  exact retAcc rfl (rC (rT (v:=v') rfl zsr) rN) hacc zhr
theorem grow_spec (k:Nat) (hk:k≤1000000000):LCalls (KC B0 w0) 141 [nilSlice,int .i64 k] [] (RetAcc []):=by
 refine cI Tryz.func141 rfl (n:=27) rfl rfl rfl ?_
 refine gad ?_
 refine oC rfl (fun hc=>?_) (fun _=>?_)
 ·have:=zt hc
  omega
 refine gac ?_
 refine oP (Pure.rowCap rfl) rfl ?_
 refine oP (Pure.mv (lv:=nilSlice) rfl) rfl ?_
 refine oP (Pure.rowLen rfl) rfl ?_
 refine gan ?_
 refine oC rfl (fun hc=>?_) (fun hc=>?_)
 ·have h0:0<k:=by
   have:=zt hc
   simp at this
   omega
  refine gak ?_
  refine oP (Pure.rowCap rfl) rfl ?_
  refine oP (Pure.rowSlice (n:=0) rfl rfl (Nat.le_refl _)) rfl ?_
  refine gab ?_
  refine oS (S.appZeros (n:=k) rfl (int_eq (by simp)) h0 zo fun b cap hcap=>?_) rfl
  refine gab ?_
  refine oP (Pure.rowSlice (n:=0) rfl rfl zo) rfl ?_
  refine LOps.rowOpen 25 1 pH rfl (by simp) ?_
  refine oP (Pure.as (lv:=.app b cap 1 []) rfl) rfl ?_
  refine gal ?_
  exact retAcc rfl (rC (rT (v:=.app b cap 1 []) rfl zsr) rN) Acc.row zhr
 ·refine gac ?_
  exact retAcc rfl (rC (rT (v:=nilSlice) rfl zsr) rN) Acc.nil zhr
def strsV (l:List (List UInt8)):LV:=.list (l.map str)
theorem sum_le (L:List (List (List UInt8))) (M:Nat) (h:∀ l∈L,l.length≤M):L.flatten.length≤L.length * M:=by
 induction L with
 |nil=>simp
 |cons a L ih=>
  rw[List.flatten_cons,List.length_append,List.length_cons,Nat.add_mul]
  have h1:=h a (List.mem_cons_self ..)
  have h2:=ih fun l hl=>h l (List.mem_cons_of_mem _ hl)
  omega
theorem concat_spec (L:List (List (List UInt8))) (hL:L.length≤4) (hl:∀ l∈L,l.length≤2000000):LCalls (KC B0 w0) 68 [.list (L.map strsV)] [] (RetAcc (L.flatten.map str)):=by
 have hsum:=sum_le L 2000000 hl
 refine cI Tryz.func68 rfl (n:=36) rfl rfl rfl ?_
 refine gah ?_
 refine oL (fun k ls H'=>∃ pre l1,L=pre++l1∧k=l1.length∧ls=[(0,.list (L.map strsV)),(3,int .i64 (pre.flatten.length:Int)),(9,.list (L.map strsV)),(10,int .i64 ((L.map strsV).length:Int)),(11,int .i64 (pre.length:Int))]∧H'=[])
  ⟨L.length,_,_,⟨[],L,rfl,rfl,rfl,rfl⟩,⟨rfl,rfl,rfl,rfl,rfl,trivial⟩,HSub.refl _⟩ ?_
 rintro k ls H' ⟨pre,l1,hLe,rfl,rfl,rfl⟩ j hj
 have hb1:pre.flatten.length≤8000000:=by
  have h1:=hsum
  rw[hLe,List.flatten_append,List.length_append] at h1
  rw[hLe] at hL
  omega
 have hb2:pre.length≤4:=by
  rw[hLe,List.length_append] at hL
  omega
 refine gas ?_
 refine oC rfl (fun hc=>?_) (fun hc=>?_)
 ·have hlen:=zt hc
  rw[List.length_map,hLe,List.length_append] at hlen
  obtain ⟨a,l2,rfl⟩:∃ a l2,l1=a::l2:=by
   cases l1 with
   |nil=>simp at hlen
   |cons a l2=>exact ⟨a,l2,rfl⟩
  have ha:(a.map str).length≤2000000:=by
   rw[List.length_map]
   exact hl a (by rw[hLe];exact List.mem_append_right _ (List.mem_cons_self ..))
  refine gau ?_
  refine oP (xR (el':=strsV a) (cs:=[strsV a]) rfl rfl zo (by rw[hLe];exact get_mid strsV pre a l2) rfl rfl) rfl ?_
  refine gat ?_
  refine oC rfl (fun hd=>?_) (fun _=>?_)
  ·have:=zt hd
   omega
  ·refine gad ?_
   exact ⟨l2.length,_,_,Nat.lt_succ_self _,⟨pre++[a],l2,by rw[hLe];simp,rfl,rfl,rfl⟩,⟨rfl,int_eq (by simp),rfl,rfl,int_eq (by simp),trivial⟩,HSub.refl _,hj⟩
 ·have hlen:=zf hc
  rw[List.length_map,hLe,List.length_append] at hlen
  obtain rfl:l1=[]:=by
   cases l1 with
   |nil=>rfl
   |cons a l2=>simp at hlen;omega
  rw[List.append_nil] at hLe
  subst hLe
  refine gac ?_
  have hfl:L.flatten.length≤8000000:=by omega
  refine oS (S.callH (H1:=[]) (F:=[]) [_,_] rfl zpr (grow_spec L.flatten.length zo) ?_ (by rintro ch H' ⟨v,h,_⟩;cases h)) rfl
  rintro v Ha ⟨_,h,hacc⟩
  cases h
  rw[List.append_nil]
  refine oP (Pure.as (lv:=v) rfl) rfl ?_
  refine gah ?_
  refine oL (fun k ls H'=>∃ pre l1 v1 Ha1,L=pre++l1∧k=l1.length∧ls=[(6,v1),(25,.list (L.map strsV)),(26,int .i64 ((L.map strsV).length:Int)),(27,int .i64 (pre.length:Int))]∧H'=Ha1∧GL.Acc 1 v1 (pre.flatten.map str) Ha1 [])
   ⟨L.length,_,_,⟨[],L,v,Ha,rfl,rfl,rfl,rfl,hacc⟩,⟨rfl,rfl,rfl,rfl,trivial⟩,HSub.refl _⟩ ?_
  rintro k ls H' ⟨pre,l1,v1,Ha1,hLe,rfl,rfl,rfl,hacc1⟩ j2 hj2
  have hb1:pre.flatten.length≤8000000:=by
   have h1:=hsum
   rw[hLe,List.flatten_append,List.length_append] at h1
   rw[hLe] at hL
   omega
  have hb2:pre.length≤4:=by
   rw[hLe,List.length_append] at hL
   omega
  refine gas ?_
  refine oC rfl (fun hc=>?_) (fun hc=>?_)
  ·have hlen:=zt hc
   rw[List.length_map,hLe,List.length_append] at hlen
   obtain ⟨a,l2,rfl⟩:∃ a l2,l1=a::l2:=by
    cases l1 with
    |nil=>simp at hlen
    |cons a l2=>exact ⟨a,l2,rfl⟩
   have ha:a.length≤2000000:=hl a (by rw[hLe];exact List.mem_append_right _ (List.mem_cons_self ..))
   refine gau ?_
   refine oP (xR (el':=strsV a) (cs:=[strsV a]) rfl rfl zo (by rw[hLe];exact get_mid strsV pre a l2) rfl rfl) rfl ?_
   refine gat ?_
   refine oP (Pure.mv (lv:=v1) rfl) rfl ?_
   refine gaa ?_
   refine oS (S.acc rfl hacc1 rfl (str_len a) (str_ok a) (by rw[List.length_map,List.length_map];omega) fun v' H' hacc=>?_) rfl
   refine oP (Pure.as (lv:=v') rfl) rfl ?_
   refine gad ?_
   exact ⟨l2.length,_,_,Nat.lt_succ_self _,⟨pre++[a],l2,v',H',by rw[hLe];simp,rfl,rfl,rfl,by
    have e:((pre++[a]).flatten.map str)=pre.flatten.map str++a.map str:=by simp
    rw[e]
    exact hacc⟩,⟨rfl,rfl,rfl,int_eq (by simp),trivial⟩,HSub.refl _,hj2⟩
  ·have hlen:=zf hc
   rw[List.length_map,hLe,List.length_append] at hlen
   obtain rfl:l1=[]:=by
    cases l1 with
    |nil=>rfl
    |cons a l2=>simp at hlen;omega
   rw[List.append_nil] at hLe
   rw[←hLe] at hacc1
   refine gac ?_
   refine oP (Pure.mv (lv:=v1) rfl) rfl ?_
   refine oP (Pure.as (lv:=v1) rfl) rfl ?_
   refine gab ?_
   exact retAcc (hj2.trans hj) (rC (rT (v:=v1) rfl zsr) rN) hacc1 zhr
end
end Go.Proofs.YtpokklffoihafaaGreatDoor.Chk
namespace Go.Proofs.YtpokklffoihafaaGreatDoor.Chk
open Go.GL Go.RowKit Go.Stele
set_option maxRecDepth 100000
set_option maxHeartbeats 4000000
def ownS (f:FnD):List (List UInt8):=(f.params++f.locals).map fun x=>f.name++[46]++x
attribute [local irreducible] LOps LCode LStep LCalls Go.GL.Pure QThen QBlock RetPost LQ LAny LLate LLateOp LS
section
variable {B0:Nat} {w0:World}
theorem scalars_specG {vars:List Nm} {fs:List FnD} (AL:LV) (hv6:vars.length≤2000000) (hf6:fs.length≤2000000) (hsm:∀ f∈fs,SmF f) (hn:∀ f∈fs,f.name.length≤1000∧∀ x∈f.params++f.locals,x.length≤1000):LCalls (KC B0 w0) 34 [.agg [.list (vars.map str),AL,.list (fs.map encFn)]] [] (Ret (.list ((scalarsP vars fs).map str))):=by
 have hown:∀ f∈fs,(ownS f).length≤4000000:=fun f hf=>by
  have h1:f.params.length≤2000000:=(hsm f hf).params
  have h2:f.locals.length≤2000000:=(hsm f hf).locals
  unfold ownS
  rw[List.length_map,List.length_append]
  omega
 have hsum:∀ l:List FnD,(∀ f∈l,f∈fs)→((l.map ownS).flatten).length≤l.length * 4000000:=fun l hl=>by
  have:=sum_le (l.map ownS) 4000000 (fun x hx=>by
   obtain ⟨f,hf,rfl⟩:=List.mem_map.1 hx
   exact hown f (hl f hf))
  rwa [List.length_map] at this
 refine cI Tryz.func34 rfl (n:=40) rfl rfl rfl ?_
 refine gaq ?_
 refine oS (S.box rfl fun b1=>?_) rfl
 refine gaf ?_
 refine oS (S.callH (H1:=[]) (F:=[_]) [_] rfl zpr (clone_spec vars hv6) ?_ (by rintro ch H' ⟨v,h,_⟩;cases h)) rfl
 rintro v Ha ⟨_,h,hacc⟩
 cases h
 refine LOps.perm (List.perm_append_comm (l₂:=[_])) ?_
 refine oP (Pure.as (lv:=v) rfl) rfl ?_
 refine gai ?_
 refine oL (fun k ls H'=>∃ pre l1 v1 Ha1,fs=pre++l1∧k=l1.length∧ls=[(3,v1),(12,.list (fs.map encFn)),(13,int .i64 ((fs.map encFn).length:Int)),(14,int .i64 (pre.length:Int))]∧H'=Ha1∧GL.Acc 1 v1 ((vars++(pre.map ownS).flatten).map str) Ha1 [])
  ⟨fs.length,_,_,⟨[],fs,v,Ha,rfl,rfl,rfl,rfl,by simpa using hacc⟩,⟨rfl,rfl,rfl,rfl,trivial⟩,zhD zhr⟩ ?_
 rintro k ls Ha1 ⟨pre,l1,v1,_,hLe,rfl,rfl,rfl,hacc1⟩ j hj
 have hb2:pre.length≤2000000:=by
  rw[hLe,List.length_append] at hf6
  omega
 have hb1:((pre.map ownS).flatten).length≤8000000000000:=by
  have:=hsum pre (fun f hf=>by rw[hLe];exact List.mem_append_left _ hf)
  omega
 refine gas ?_
 refine oC rfl (fun hc=>?_) (fun hc=>?_)
 ·have hlen:=zt hc
  rw[List.length_map,hLe,List.length_append] at hlen
  obtain ⟨f,l2,rfl⟩:∃ a l2,l1=a::l2:=by
   cases l1 with
   |nil=>simp at hlen
   |cons a l2=>exact ⟨a,l2,rfl⟩
  have hfm:f∈fs:=by rw[hLe];exact List.mem_append_right _ (List.mem_cons_self ..)
  obtain ⟨hn1,hn2⟩:=hn f hfm
  have hp6:f.params.length≤2000000:=(hsm f hfm).params
  have hl6:f.locals.length≤2000000:=(hsm f hfm).locals
  refine gau ?_
  refine oP (xR (el':=encFn f) (cs:=[_,_,_,_]) rfl rfl zo (by rw[hLe];exact get_mid encFn pre f l2) rfl rfl) rfl ?_
  refine gaa ?_
  refine oS (S.alloc fun b5=>?_) rfl
  refine gae ?_
  refine oS (S.lit (es:=[strsV f.params,strsV f.locals]) [_,_] rfl (eC rfl rfl (eC rfl rfl eN)) rfl rfl rfl ?_) rfl
  refine oS (S.callH (H1:=[]) (F:=(b5,.cells 67 [str f.name,strsV f.params,strsV f.locals,.list (f.body.map encS)])::Ha1) [_] rfl zpr (concat_spec [f.params,f.locals] (by simp) (by
   intro l hl
   rcases List.mem_cons.1 hl with rfl|hl
   ·exact hp6
   ·rw[List.mem_singleton.1 hl]
    exact hl6)) ?_ (by rintro ch H' ⟨v,h,_⟩;cases h)) rfl
  rintro v2 Ha2 ⟨_,h,hacc2⟩
  cases h
  have hfl:[f.params,f.locals].flatten=f.params++f.locals:=by simp
  rw[hfl] at hacc2
  refine LOps.sub 23 rfl hacc2.sub ?_
  refine LOps.weak (H':=(b5,.cells 67 [str f.name,strsV f.params,strsV f.locals,.list (f.body.map encS)])::Ha1) ⟨Ha2,List.perm_append_comm⟩ ?_
  refine gab ?_
  refine oL (fun k ls H'=>∃ pre2 l3 v3 Ha3,f.params++f.locals=pre2++l3∧k=l3.length∧ls=[(3,v3),(5,ptr b5 0),(12,.list (fs.map encFn)),(13,int .i64 ((fs.map encFn).length:Int)),(14,int .i64 (pre.length:Int)),(23,.list ((f.params++f.locals).map str)),(24,int .i64 (((f.params++f.locals).map str).length:Int)),(25,int .i64 (pre2.length:Int))] ∧
    H'=(b5,.cells 67 [str f.name,strsV f.params,strsV f.locals,.list (f.body.map encS)])::Ha3∧GL.Acc 1 v3 ((vars++(pre.map ownS).flatten++pre2.map fun x=>f.name++[46]++x).map str) Ha3 [])
   ⟨(f.params++f.locals).length,_,_,⟨[],f.params++f.locals,v1,Ha1,rfl,rfl,rfl,rfl,by simpa using hacc1⟩,⟨rfl,rfl,rfl,rfl,rfl,rfl,rfl,rfl,trivial⟩,HSub.refl _⟩ ?_
  rintro k ls H' ⟨pre2,l3,v3,Ha3,hLe2,rfl,rfl,rfl,hacc3⟩ j2 hj2
  have hb3:pre2.length≤4000000:=by
   have:(f.params++f.locals).length≤4000000:=by rw[List.length_append];omega
   rw[hLe2,List.length_append] at this
   omega
  refine gas ?_
  refine oC rfl (fun hd=>?_) (fun hd=>?_)
  ·have hlen2:=zt hd
   rw[List.length_map,hLe2,List.length_append] at hlen2
   obtain ⟨x,l4,rfl⟩:∃ a l2,l3=a::l2:=by
    cases l3 with
    |nil=>simp at hlen2
    |cons a l2=>exact ⟨a,l2,rfl⟩
   have hx:x.length≤1000:=hn2 x (by rw[hLe2];exact List.mem_append_right _ (List.mem_cons_self ..))
   refine gau ?_
   refine oP (xR (el':=str x) (cs:=[str x]) rfl rfl zo (by rw[hLe2];exact get_mid str pre2 x l4) rfl rfl) rfl ?_
   refine gac ?_
   refine oP (Pure.mv (lv:=v3) rfl) rfl ?_
   refine gaa ?_
   refine oS (S.lit (es:=[str (f.name++[46]++x)]) [_] rfl (eC rfl rfl eN) rfl rfl rfl ?_) rfl
   refine oS (S.acc1 rfl hacc3 rfl (str_len [f.name++[46]++x]) rfl (by rw[List.length_map,List.length_append,List.length_append,List.length_map,List.length_cons,List.length_nil];omega) fun v' H' hacc'=>?_) rfl
   refine oP (Pure.as (lv:=v') rfl) rfl ?_
   refine gad ?_
   exact ⟨l4.length,_,_,Nat.lt_succ_self _,⟨pre2++[x],l4,v',H',by rw[hLe2];simp,rfl,rfl,rfl,by
    have e:((vars++(pre.map ownS).flatten++(pre2++[x]).map fun x=>f.name++[46]++x).map str)=((vars++(pre.map ownS).flatten++pre2.map fun x=>f.name++[46]++x).map str)++[str (f.name++[46]++x)]:=by simp
    rw[e]
    exact hacc'⟩,⟨rfl,rfl,rfl,rfl,rfl,rfl,rfl,int_eq (by simp),trivial⟩,HSub.refl _,hj2⟩
  ·have hlen2:=zf hd
   rw[List.length_map,hLe2,List.length_append] at hlen2
   obtain rfl:l3=[]:=by
    cases l3 with
    |nil=>rfl
    |cons a l2=>simp at hlen2;omega
   rw[List.append_nil] at hLe2
   refine gad ?_
   exact ⟨l2.length,_,_,Nat.lt_succ_self _,⟨pre++[f],l2,v3,Ha3,by rw[hLe];simp,rfl,rfl,rfl,by
    have e:((vars++((pre++[f]).map ownS).flatten).map str)=(vars++(pre.map ownS).flatten++pre2.map fun x=>f.name++[46]++x).map str:=by
     rw[←hLe2]
     simp[ownS]
    rw[e]
    exact hacc3⟩,⟨rfl,rfl,rfl,int_eq (by simp),trivial⟩,zhD zhr,hj2.trans hj⟩
 ·have hlen:=zf hc
  rw[List.length_map,hLe,List.length_append] at hlen
  obtain rfl:l1=[]:=by
   cases l1 with
   |nil=>rfl
   |cons a l2=>simp at hlen;omega
  rw[List.append_nil] at hLe
  rw[←hLe] at hacc1
  refine gac ?_
  refine oP (Pure.mv (lv:=v1) rfl) rfl ?_
  refine oP (Pure.as (lv:=v1) rfl) rfl ?_
  refine gab ?_
  exact rR hj (rC (rT (v:=v1) rfl hacc1.sub) rN) zhn ⟨rfl,rfl⟩
end
end Go.Proofs.YtpokklffoihafaaGreatDoor.Chk
namespace Go.Proofs
def Tryz.lays156_ren:Go.Shelf.Ren:=⟨fun|156=>37|165=>73|166=>52|169=>55|240=>120|241=>145|276=>187|277=>227|n=>n,fun|31=>22|9=>9|3=>3|4=>4|0=>0|20=>20|72=>112|76=>115|70=>109|37=>110|75=>114|127=>200|164=>243|5=>5|80=>119|n=>n,fun|n=>n⟩
theorem Tryz.lays156:Go.Proofs.Lays.n156 Tryz.prog Tryz.lays156_ren:={
 mixed:=by kernel_rfl
 f156:=Tryz.func37.trans (congrArg some (by kernel_rfl))
 f165:=Tryz.func73.trans (congrArg some (by kernel_rfl))
 f166:=Tryz.func52.trans (congrArg some (by kernel_rfl))
 f169:=Tryz.func55.trans (congrArg some (by kernel_rfl))
 f240:=Tryz.func120.trans (congrArg some (by kernel_rfl))
 f241:=Tryz.func145.trans (congrArg some (by kernel_rfl))
 f276:=Tryz.func187.trans (congrArg some (by kernel_rfl))
 f277:=Tryz.func227.trans (congrArg some (by kernel_rfl))
 t0:=Tryz.underlying0
 a0:=Tryz.isAgg0
 z0:=Tryz.sizeOf0
 v0:=Tryz.zeroValue0
 t3:=Tryz.underlying3
 a3:=Tryz.isAgg3
 z3:=Tryz.sizeOf3
 v3:=Tryz.zeroValue3
 t4:=Tryz.underlying4
 a4:=Tryz.isAgg4
 z4:=Tryz.sizeOf4
 v4:=Tryz.zeroValue4
 t9:=Tryz.underlying9
 a9:=Tryz.isAgg9
 z9:=Tryz.sizeOf9
 v9:=Tryz.zeroValue9
 t20:=Tryz.underlying20
 a20:=Tryz.isAgg20
 z20:=Tryz.sizeOf20
 v20:=Tryz.zeroValue20
 t31:=Tryz.underlying22
 a31:=Tryz.isAgg22
 z31:=Tryz.sizeOf22
 v31:=Tryz.zeroValue22
 t37:=Tryz.underlying110
 a37:=Tryz.isAgg110
 z37:=Tryz.sizeOf110
 v37:=Tryz.zeroValue110
 t70:=Tryz.underlying109
 a70:=Tryz.isAgg109
 z70:=Tryz.sizeOf109
 v70:=Tryz.zeroValue109
 t72:=Tryz.underlying112
 a72:=Tryz.isAgg112
 z72:=Tryz.sizeOf112
 v72:=Tryz.zeroValue112
 t75:=Tryz.underlying114
 a75:=Tryz.isAgg114
 z75:=Tryz.sizeOf114
 v75:=Tryz.zeroValue114
 t76:=Tryz.underlying115
 a76:=Tryz.isAgg115
 z76:=Tryz.sizeOf115
 v76:=Tryz.zeroValue115
 t127:=Tryz.underlying200
 a127:=Tryz.isAgg200
 z127:=Tryz.sizeOf200
 v127:=Tryz.zeroValue200
 t164:=Tryz.underlying243
 a164:=Tryz.isAgg243
 z164:=Tryz.sizeOf243
 v164:=Tryz.zeroValue243 }
theorem Tryz.Builder_Extra_156:Builder.Extra Tryz.prog Tryz.lays156_ren:={
 sizeBuilder:=by kernel_rfl
 liesBuilder:=by kernel_rfl
 t5:=Tryz.underlying5
 a5:=Tryz.isAgg5
 z5:=Tryz.sizeOf5
 v5:=Tryz.zeroValue5
 infoByte:=by kernel_rfl
 cellsByte:=by kernel_rfl
 sizeByte:=by kernel_rfl
 neB5:=by decide }
open Go.RowKit in
theorem Tryz.strings_Join_none (a:Option Addr) (c:Nat) (sep:ByteArray) (w:World) :
  Calls Tryz.prog 37 #[.slice a 0 c,.string sep] w fun e w'=>e=.returned (.string ⟨#[]⟩)∧w'=w:=Any.strings_Join_none Tryz.lays156 Tryz.Builder_Extra_156 a c sep w
open Go.RowKit in
theorem Tryz.strings_Join (bk o c:Nat) (xs:List ByteArray) (sep:ByteArray) (w:World) (hcells:∀ (j:Nat) x,xs[j]? = some x→w.cell? ⟨bk,o+j,none⟩=some (.string x)) (hbk:bk<w.heap.size) (hN:xs.length≤140737488355328) (hcap:xs.length≤c) (hlen:(Lib.join (xs.map (·.data.toList)) sep.data.toList).length≤140737488355328) :
  Calls Tryz.prog 37 #[.slice (some ⟨bk,o,none⟩) xs.length c,.string sep] w fun e w'=>e=.returned (.string ⟨(Lib.join (xs.map (·.data.toList)) sep.data.toList).toArray⟩)∧Below w.heap.size w w':=Any.strings_Join Tryz.lays156 Tryz.Builder_Extra_156 bk o c xs sep w hcells hbk hN hcap hlen
def Tryz.lays160_ren:Go.Shelf.Ren:=⟨fun|160=>186|232=>255|231=>254|227=>256|234=>258|233=>257|236=>260|235=>259|228=>293|271=>295|151=>294|197=>291|120=>327|152=>326|260=>325|137=>340|119=>341|224=>244|225=>243|217=>242|266=>284|n=>n,fun|9=>9|4=>4|3=>3|5=>5|117=>279|116=>278|0=>0|124=>282|21=>21|105=>302|46=>271|119=>333|139=>336|138=>335|n=>n,fun|3=>4|4=>5|n=>n⟩
theorem Tryz.lays160:Go.Proofs.Lays.n160 Tryz.prog Tryz.lays160_ren:={
 mixed:=by kernel_rfl
 f119:=Tryz.func341.trans (congrArg some (by kernel_rfl))
 f120:=Tryz.func327.trans (congrArg some (by kernel_rfl))
 f137:=Tryz.func340.trans (congrArg some (by kernel_rfl))
 f151:=Tryz.func294.trans (congrArg some (by kernel_rfl))
 f152:=Tryz.func326.trans (congrArg some (by kernel_rfl))
 f160:=Tryz.func186.trans (congrArg some (by kernel_rfl))
 f197:=Tryz.func291.trans (congrArg some (by kernel_rfl))
 f217:=Tryz.func242.trans (congrArg some (by kernel_rfl))
 f224:=Tryz.func244.trans (congrArg some (by kernel_rfl))
 f225:=Tryz.func243.trans (congrArg some (by kernel_rfl))
 f227:=Tryz.func256.trans (congrArg some (by kernel_rfl))
 f228:=Tryz.func293.trans (congrArg some (by kernel_rfl))
 f231:=Tryz.func254.trans (congrArg some (by kernel_rfl))
 f232:=Tryz.func255.trans (congrArg some (by kernel_rfl))
 f233:=Tryz.func257.trans (congrArg some (by kernel_rfl))
 f234:=Tryz.func258.trans (congrArg some (by kernel_rfl))
 f235:=Tryz.func259.trans (congrArg some (by kernel_rfl))
 f236:=Tryz.func260.trans (congrArg some (by kernel_rfl))
 f260:=Tryz.func325.trans (congrArg some (by kernel_rfl))
 f266:=Tryz.func284.trans (congrArg some (by kernel_rfl))
 f271:=Tryz.func295.trans (congrArg some (by kernel_rfl))
 t0:=Tryz.underlying0
 a0:=Tryz.isAgg0
 z0:=Tryz.sizeOf0
 v0:=Tryz.zeroValue0
 t3:=Tryz.underlying3
 a3:=Tryz.isAgg3
 z3:=Tryz.sizeOf3
 v3:=Tryz.zeroValue3
 t4:=Tryz.underlying4
 a4:=Tryz.isAgg4
 z4:=Tryz.sizeOf4
 v4:=Tryz.zeroValue4
 t5:=Tryz.underlying5
 a5:=Tryz.isAgg5
 z5:=Tryz.sizeOf5
 v5:=Tryz.zeroValue5
 t9:=Tryz.underlying9
 a9:=Tryz.isAgg9
 z9:=Tryz.sizeOf9
 v9:=Tryz.zeroValue9
 t21:=Tryz.underlying21
 a21:=Tryz.isAgg21
 z21:=Tryz.sizeOf21
 v21:=Tryz.zeroValue21
 t46:=Tryz.underlying271
 a46:=Tryz.isAgg271
 z46:=Tryz.sizeOf271
 v46:=Tryz.zeroValue271
 t105:=Tryz.underlying302
 a105:=Tryz.isAgg302
 z105:=Tryz.sizeOf302
 v105:=Tryz.zeroValue302
 t116:=Tryz.underlying278
 a116:=Tryz.isAgg278
 z116:=Tryz.sizeOf278
 t117:=Tryz.underlying279
 a117:=Tryz.isAgg279
 z117:=Tryz.sizeOf279
 v117:=Tryz.zeroValue279
 t119:=Tryz.underlying333
 a119:=Tryz.isAgg333
 z119:=Tryz.sizeOf333
 t124:=Tryz.underlying282
 a124:=Tryz.isAgg282
 z124:=Tryz.sizeOf282
 v124:=Tryz.zeroValue282
 t138:=Tryz.underlying335
 a138:=Tryz.isAgg335
 z138:=Tryz.sizeOf335
 v138:=Tryz.zeroValue335
 t139:=Tryz.underlying336
 a139:=Tryz.isAgg336
 z139:=Tryz.sizeOf336
 v139:=Tryz.zeroValue336
 g3:=by kernel_rfl
 g4:=by kernel_rfl }
def Tryz.lays103_ren:Go.Shelf.Ren:=⟨fun|103=>185|210=>253|206=>59|n=>n,fun|9=>9|4=>4|24=>194|3=>3|n=>n,fun|n=>n⟩
theorem Tryz.lays103:Go.Proofs.Lays.n103 Tryz.prog Tryz.lays103_ren:={
 mixed:=by kernel_rfl
 f103:=Tryz.func185.trans (congrArg some (by kernel_rfl))
 f206:=Tryz.func59.trans (congrArg some (by kernel_rfl))
 f210:=Tryz.func253.trans (congrArg some (by kernel_rfl))
 t3:=Tryz.underlying3
 a3:=Tryz.isAgg3
 z3:=Tryz.sizeOf3
 v3:=Tryz.zeroValue3
 t4:=Tryz.underlying4
 a4:=Tryz.isAgg4
 z4:=Tryz.sizeOf4
 v4:=Tryz.zeroValue4
 t9:=Tryz.underlying9
 a9:=Tryz.isAgg9
 z9:=Tryz.sizeOf9
 v9:=Tryz.zeroValue9
 t24:=Tryz.underlying194
 a24:=Tryz.isAgg194
 z24:=Tryz.sizeOf194
 v24:=Tryz.zeroValue194 }
open Go.RowKit in
theorem Tryz.strings_CutPrefix (s p:ByteArray) (w:World) :
  Calls Tryz.prog 185 #[.string s,.string p] w fun e w'=>e=.returned (.tuple #[.string ⟨(Lib.trimPrefix s.data.toList p.data.toList).toArray⟩,.bool (Lib.hasPrefix s.data.toList p.data.toList)])∧w'=w:=Any.strings_CutPrefix Tryz.lays103 s p w
def Tryz.lays104_ren:Go.Shelf.Ren:=⟨fun|104=>183|211=>252|207=>292|n=>n,fun|9=>9|4=>4|24=>194|3=>3|n=>n,fun|n=>n⟩
theorem Tryz.lays104:Go.Proofs.Lays.n104 Tryz.prog Tryz.lays104_ren:={
 mixed:=by kernel_rfl
 f104:=Tryz.func183.trans (congrArg some (by kernel_rfl))
 f207:=Tryz.func292.trans (congrArg some (by kernel_rfl))
 f211:=Tryz.func252.trans (congrArg some (by kernel_rfl))
 t3:=Tryz.underlying3
 a3:=Tryz.isAgg3
 z3:=Tryz.sizeOf3
 v3:=Tryz.zeroValue3
 t4:=Tryz.underlying4
 a4:=Tryz.isAgg4
 z4:=Tryz.sizeOf4
 v4:=Tryz.zeroValue4
 t9:=Tryz.underlying9
 a9:=Tryz.isAgg9
 z9:=Tryz.sizeOf9
 v9:=Tryz.zeroValue9
 t24:=Tryz.underlying194
 a24:=Tryz.isAgg194
 z24:=Tryz.sizeOf194
 v24:=Tryz.zeroValue194 }
open Go.RowKit in
theorem Tryz.strings_CutSuffix (s p:ByteArray) (w:World) (hs:s.size≤9223372036854775807) :
  Calls Tryz.prog 183 #[.string s,.string p] w fun e w'=>e=.returned (.tuple #[.string ⟨(Lib.trimSuffix s.data.toList p.data.toList).toArray⟩,.bool (Lib.hasSuffix s.data.toList p.data.toList)])∧w'=w:=Any.strings_CutSuffix Tryz.lays104 s p w hs
def Tryz.lays283_ren:Go.Shelf.Ren:=⟨fun|283=>261|n=>n,fun|3=>3|9=>9|4=>4|n=>n,fun|n=>n⟩
theorem Tryz.lays283:Go.Proofs.Lays.n283 Tryz.prog Tryz.lays283_ren:={
 mixed:=by kernel_rfl
 f283:=Tryz.func261.trans (congrArg some (by kernel_rfl))
 t3:=Tryz.underlying3
 a3:=Tryz.isAgg3
 z3:=Tryz.sizeOf3
 v3:=Tryz.zeroValue3
 t4:=Tryz.underlying4
 a4:=Tryz.isAgg4
 z4:=Tryz.sizeOf4
 v4:=Tryz.zeroValue4
 t9:=Tryz.underlying9
 a9:=Tryz.isAgg9
 z9:=Tryz.sizeOf9
 v9:=Tryz.zeroValue9 }
open Go.Lib in
theorem Tryz.internal_strconv_small (i:Nat) (h:i<100) (w:World) :
  Calls Tryz.prog 261 #[.int .i64 i] w fun e w'=>e=.returned (.string ⟨(Lib.decDigits i).toArray⟩)∧w'=w:=Any.internal_strconv_small Tryz.lays283 i h w
def Tryz.laysM284_ren:Go.Shelf.Ren:=⟨fun|284=>262|129=>297|317=>296|318=>298|n=>n,fun|53=>262|3=>3|212=>306|0=>0|4=>4|46=>271|5=>5|9=>9|n=>n,fun|17=>1|n=>n⟩
theorem Tryz.laysM284:Go.Proofs.LaysM.n284 Tryz.prog Tryz.laysM284_ren:={
 mixed:=by kernel_rfl
 f129:=Tryz.func297.trans (congrArg some (by kernel_rfl))
 f284:=Tryz.func262.trans (congrArg some (by kernel_rfl))
 f317:=Tryz.func296.trans (congrArg some (by kernel_rfl))
 f318:=Tryz.func298.trans (congrArg some (by kernel_rfl))
 t0:=Tryz.underlying0
 a0:=Tryz.isAgg0
 z0:=Tryz.sizeOf0
 v0:=Tryz.zeroValue0
 t3:=Tryz.underlying3
 a3:=Tryz.isAgg3
 z3:=Tryz.sizeOf3
 v3:=Tryz.zeroValue3
 t4:=Tryz.underlying4
 a4:=Tryz.isAgg4
 z4:=Tryz.sizeOf4
 v4:=Tryz.zeroValue4
 t5:=Tryz.underlying5
 a5:=Tryz.isAgg5
 z5:=Tryz.sizeOf5
 v5:=Tryz.zeroValue5
 t9:=Tryz.underlying9
 a9:=Tryz.isAgg9
 z9:=Tryz.sizeOf9
 v9:=Tryz.zeroValue9
 t46:=Tryz.underlying271
 a46:=Tryz.isAgg271
 z46:=Tryz.sizeOf271
 v46:=Tryz.zeroValue271
 t53:=Tryz.underlying262
 a53:=Tryz.isAgg262
 z53:=Tryz.sizeOf262
 v53:=Tryz.zeroValue262
 t212:=Tryz.underlying306
 a212:=Tryz.isAgg306
 z212:=Tryz.sizeOf306
 v212:=Tryz.zeroValue306
 g17:=by kernel_rfl
 i0:=by kernel_rfl
 i3:=by kernel_rfl
 i4:=by kernel_rfl
 i5:=by kernel_rfl
 i9:=by kernel_rfl
 i46:=by kernel_rfl
 i53:=by kernel_rfl
 i212:=by kernel_rfl
 m17:=by kernel_rfl }
open Go.Lib in
theorem Tryz.internal_strconv_numDigits (u : Nat) (h1 : 1 ≤ u) (h2 : u < 18446744073709551616) (w : World) (htab : Lib.TabIs Tryz.prog w "internal/strconv.uint64pow10" .u64 Lib.pow10Tab) :
  Calls Tryz.prog 262 #[.int .u64 u] w fun e w'=>e=.returned (.int .i64 (Lib.nDigits u))∧w'=w:=Any.internal_strconv_numDigits Tryz.laysM284 u h1 h2 w htab
def Tryz.lays285_ren:Go.Shelf.Ren:=⟨fun|285=>263|n=>n,fun|37=>110|53=>262|3=>3|4=>4|51=>122|9=>9|5=>5|0=>0|n=>n,fun|n=>n⟩
theorem Tryz.lays285:Go.Proofs.Lays.n285 Tryz.prog Tryz.lays285_ren:={
 mixed:=by kernel_rfl
 f285:=Tryz.func263.trans (congrArg some (by kernel_rfl))
 t0:=Tryz.underlying0
 a0:=Tryz.isAgg0
 z0:=Tryz.sizeOf0
 v0:=Tryz.zeroValue0
 t3:=Tryz.underlying3
 a3:=Tryz.isAgg3
 z3:=Tryz.sizeOf3
 v3:=Tryz.zeroValue3
 t4:=Tryz.underlying4
 a4:=Tryz.isAgg4
 z4:=Tryz.sizeOf4
 v4:=Tryz.zeroValue4
 t5:=Tryz.underlying5
 a5:=Tryz.isAgg5
 z5:=Tryz.sizeOf5
 v5:=Tryz.zeroValue5
 t9:=Tryz.underlying9
 a9:=Tryz.isAgg9
 z9:=Tryz.sizeOf9
 v9:=Tryz.zeroValue9
 t37:=Tryz.underlying110
 a37:=Tryz.isAgg110
 z37:=Tryz.sizeOf110
 v37:=Tryz.zeroValue110
 t51:=Tryz.underlying122
 a51:=Tryz.isAgg122
 z51:=Tryz.sizeOf122
 v51:=Tryz.zeroValue122
 t53:=Tryz.underlying262
 a53:=Tryz.isAgg262
 z53:=Tryz.sizeOf262
 v53:=Tryz.zeroValue262 }
open Go.RowKit Go.Sort Go.Lib in
theorem Tryz.internal_strconv_formatBase10 (blk off cap:Nat) (u:Nat) (d:Array UInt8) (w:World) (hH:Holds (fun (b:UInt8)=>Value.int .u8 (b.toNat:Int)) w blk off d) (hu:u<10 ^ d.size) (hu64:u<18446744073709551616) (hsz:d.size<4611686018427387904) :
  Calls Tryz.prog 263 #[.slice (some ⟨blk,off,none⟩) d.size cap,.int .u64 u] w fun e w'=>
   e=.returned (.tuple #[])∧∃ (n v':Nat) (dk:Array UInt8),w'=(putRow (fun (b:UInt8)=>Value.int .u8 (b.toNat:Int)) w blk off dk).drewN n∧FmtInv d.size u 0 v' dk:=Any.internal_strconv_formatBase10 Tryz.lays285 blk off cap u d w hH hu hu64 hsz
def Tryz.laysM171_ren:Go.Shelf.Ren:=⟨fun|171=>53|243=>121|246=>188|283=>261|284=>262|285=>263|286=>264|129=>297|317=>296|318=>298|319=>299|320=>300|337=>328|338=>329|n=>n,fun|3=>3|9=>9|2=>2|4=>4|171=>283|0=>0|53=>262|37=>110|5=>5|173=>286|212=>306|51=>122|20=>20|213=>307|46=>271|232=>338|233=>339|n=>n,fun|17=>1|18=>6|19=>7|n=>n⟩
theorem Tryz.laysM171:Go.Proofs.LaysM.n171 Tryz.prog Tryz.laysM171_ren:={
 mixed:=by kernel_rfl
 f129:=Tryz.func297.trans (congrArg some (by kernel_rfl))
 f171:=Tryz.func53.trans (congrArg some (by kernel_rfl))
 f243:=Tryz.func121.trans (congrArg some (by kernel_rfl))
 f246:=Tryz.func188.trans (congrArg some (by kernel_rfl))
 f283:=Tryz.func261.trans (congrArg some (by kernel_rfl))
 f284:=Tryz.func262.trans (congrArg some (by kernel_rfl))
 f285:=Tryz.func263.trans (congrArg some (by kernel_rfl))
 f286:=Tryz.func264.trans (congrArg some (by kernel_rfl))
 f317:=Tryz.func296.trans (congrArg some (by kernel_rfl))
 f318:=Tryz.func298.trans (congrArg some (by kernel_rfl))
 f319:=Tryz.func299.trans (congrArg some (by kernel_rfl))
 f320:=Tryz.func300.trans (congrArg some (by kernel_rfl))
 f337:=Tryz.func328.trans (congrArg some (by kernel_rfl))
 f338:=Tryz.func329.trans (congrArg some (by kernel_rfl))
 t0:=Tryz.underlying0
 a0:=Tryz.isAgg0
 z0:=Tryz.sizeOf0
 v0:=Tryz.zeroValue0
 t2:=Tryz.underlying2
 a2:=Tryz.isAgg2
 z2:=Tryz.sizeOf2
 v2:=Tryz.zeroValue2
 t3:=Tryz.underlying3
 a3:=Tryz.isAgg3
 z3:=Tryz.sizeOf3
 v3:=Tryz.zeroValue3
 t4:=Tryz.underlying4
 a4:=Tryz.isAgg4
 z4:=Tryz.sizeOf4
 v4:=Tryz.zeroValue4
 t5:=Tryz.underlying5
 a5:=Tryz.isAgg5
 z5:=Tryz.sizeOf5
 v5:=Tryz.zeroValue5
 t9:=Tryz.underlying9
 a9:=Tryz.isAgg9
 z9:=Tryz.sizeOf9
 v9:=Tryz.zeroValue9
 t20:=Tryz.underlying20
 a20:=Tryz.isAgg20
 z20:=Tryz.sizeOf20
 v20:=Tryz.zeroValue20
 t37:=Tryz.underlying110
 a37:=Tryz.isAgg110
 z37:=Tryz.sizeOf110
 v37:=Tryz.zeroValue110
 t46:=Tryz.underlying271
 a46:=Tryz.isAgg271
 z46:=Tryz.sizeOf271
 v46:=Tryz.zeroValue271
 t51:=Tryz.underlying122
 a51:=Tryz.isAgg122
 z51:=Tryz.sizeOf122
 v51:=Tryz.zeroValue122
 t53:=Tryz.underlying262
 a53:=Tryz.isAgg262
 z53:=Tryz.sizeOf262
 v53:=Tryz.zeroValue262
 t171:=Tryz.underlying283
 a171:=Tryz.isAgg283
 z171:=Tryz.sizeOf283
 v171:=Tryz.zeroValue283
 t173:=Tryz.underlying286
 a173:=Tryz.isAgg286
 z173:=Tryz.sizeOf286
 v173:=Tryz.zeroValue286
 t212:=Tryz.underlying306
 a212:=Tryz.isAgg306
 z212:=Tryz.sizeOf306
 v212:=Tryz.zeroValue306
 t213:=Tryz.underlying307
 a213:=Tryz.isAgg307
 z213:=Tryz.sizeOf307
 t232:=Tryz.underlying338
 a232:=Tryz.isAgg338
 z232:=Tryz.sizeOf338
 v232:=Tryz.zeroValue338
 t233:=Tryz.underlying339
 a233:=Tryz.isAgg339
 z233:=Tryz.sizeOf339
 v233:=Tryz.zeroValue339
 g17:=by kernel_rfl
 g18:=by kernel_rfl
 g19:=by kernel_rfl
 i0:=by kernel_rfl
 i2:=by kernel_rfl
 i3:=by kernel_rfl
 i4:=by kernel_rfl
 i5:=by kernel_rfl
 i9:=by kernel_rfl
 i20:=by kernel_rfl
 i37:=by kernel_rfl
 i46:=by kernel_rfl
 i51:=by kernel_rfl
 i53:=by kernel_rfl
 i171:=by kernel_rfl
 i173:=by kernel_rfl
 i212:=by kernel_rfl
 i232:=by kernel_rfl
 i233:=by kernel_rfl
 m17:=by kernel_rfl
 m18:=by kernel_rfl
 m19:=by kernel_rfl }
open Go.RowKit Go.Sort Go.Lib in
theorem Tryz.strconv_Itoa (n : Int) (h0 : -9223372036854775808 ≤ n) (h1 : n ≤ 9223372036854775807) (w : World) (htab : Lib.TabIs Tryz.prog w "internal/strconv.uint64pow10" .u64 Lib.pow10Tab) :
  Calls Tryz.prog 53 #[.int .i64 n] w fun e w'=>e=.returned (.string ⟨(Lib.itoa n).toArray⟩)∧∃ k os,w'=grow (w.drewN k) os:=Any.strconv_Itoa Tryz.laysM171 n h0 h1 w htab
def Tryz.laysPu14_ren:Go.Shelf.Ren:=⟨fun|14=>246|16=>286|17=>287|19=>314|20=>315|21=>316|22=>317|23=>318|24=>319|25=>335|27=>53|26=>336|28=>121|29=>188|30=>261|31=>262|32=>263|33=>264|35=>297|34=>296|36=>298|37=>299|38=>300|39=>328|40=>329|n=>n,fun|9=>9|3=>3|22=>262|24=>114|25=>272|4=>4|34=>314|5=>5|36=>271|37=>110|0=>0|39=>316|21=>21|44=>329|47=>200|50=>343|48=>341|2=>2|52=>283|55=>286|59=>306|60=>122|20=>20|61=>307|65=>338|66=>339|67=>119|n=>n,fun|0=>2|1=>3|2=>1|3=>6|4=>7|n=>n⟩
theorem Tryz.laysPu14:Go.Proofs.LaysPu.n14 Tryz.prog Tryz.laysPu14_ren:={
 mixed:=by kernel_rfl
 f14:=Tryz.func246.trans (congrArg some (by kernel_rfl))
 f16:=Tryz.func286.trans (congrArg some (by kernel_rfl))
 f17:=Tryz.func287.trans (congrArg some (by kernel_rfl))
 f19:=Tryz.func314.trans (congrArg some (by kernel_rfl))
 f20:=Tryz.func315.trans (congrArg some (by kernel_rfl))
 f21:=Tryz.func316.trans (congrArg some (by kernel_rfl))
 f22:=Tryz.func317.trans (congrArg some (by kernel_rfl))
 f23:=Tryz.func318.trans (congrArg some (by kernel_rfl))
 f24:=Tryz.func319.trans (congrArg some (by kernel_rfl))
 f25:=Tryz.func335.trans (congrArg some (by kernel_rfl))
 f26:=Tryz.func336.trans (congrArg some (by kernel_rfl))
 f27:=Tryz.func53.trans (congrArg some (by kernel_rfl))
 f28:=Tryz.func121.trans (congrArg some (by kernel_rfl))
 f29:=Tryz.func188.trans (congrArg some (by kernel_rfl))
 f30:=Tryz.func261.trans (congrArg some (by kernel_rfl))
 f31:=Tryz.func262.trans (congrArg some (by kernel_rfl))
 f32:=Tryz.func263.trans (congrArg some (by kernel_rfl))
 f33:=Tryz.func264.trans (congrArg some (by kernel_rfl))
 f34:=Tryz.func296.trans (congrArg some (by kernel_rfl))
 f35:=Tryz.func297.trans (congrArg some (by kernel_rfl))
 f36:=Tryz.func298.trans (congrArg some (by kernel_rfl))
 f37:=Tryz.func299.trans (congrArg some (by kernel_rfl))
 f38:=Tryz.func300.trans (congrArg some (by kernel_rfl))
 f39:=Tryz.func328.trans (congrArg some (by kernel_rfl))
 f40:=Tryz.func329.trans (congrArg some (by kernel_rfl))
 t0:=Tryz.underlying0
 a0:=Tryz.isAgg0
 z0:=Tryz.sizeOf0
 v0:=Tryz.zeroValue0
 i0:=by kernel_rfl
 t2:=Tryz.underlying2
 a2:=Tryz.isAgg2
 z2:=Tryz.sizeOf2
 v2:=Tryz.zeroValue2
 i2:=by kernel_rfl
 t3:=Tryz.underlying3
 a3:=Tryz.isAgg3
 z3:=Tryz.sizeOf3
 v3:=Tryz.zeroValue3
 i3:=by kernel_rfl
 t4:=Tryz.underlying4
 a4:=Tryz.isAgg4
 z4:=Tryz.sizeOf4
 v4:=Tryz.zeroValue4
 i4:=by kernel_rfl
 t5:=Tryz.underlying5
 a5:=Tryz.isAgg5
 z5:=Tryz.sizeOf5
 v5:=Tryz.zeroValue5
 i5:=by kernel_rfl
 t9:=Tryz.underlying9
 a9:=Tryz.isAgg9
 z9:=Tryz.sizeOf9
 v9:=Tryz.zeroValue9
 i9:=by kernel_rfl
 t20:=Tryz.underlying20
 a20:=Tryz.isAgg20
 z20:=Tryz.sizeOf20
 v20:=Tryz.zeroValue20
 i20:=by kernel_rfl
 t21:=Tryz.underlying21
 a21:=Tryz.isAgg21
 z21:=Tryz.sizeOf21
 v21:=Tryz.zeroValue21
 i21:=by kernel_rfl
 t22:=Tryz.underlying262
 a22:=Tryz.isAgg262
 z22:=Tryz.sizeOf262
 v22:=Tryz.zeroValue262
 i22:=by kernel_rfl
 t24:=Tryz.underlying114
 a24:=Tryz.isAgg114
 z24:=Tryz.sizeOf114
 v24:=Tryz.zeroValue114
 i24:=by kernel_rfl
 t25:=Tryz.underlying272
 a25:=Tryz.isAgg272
 z25:=Tryz.sizeOf272
 v25:=Tryz.zeroValue272
 i25:=by kernel_rfl
 t34:=Tryz.underlying314
 a34:=Tryz.isAgg314
 z34:=Tryz.sizeOf314
 v34:=Tryz.zeroValue314
 i34:=by kernel_rfl
 c34:=by kernel_rfl
 t36:=Tryz.underlying271
 a36:=Tryz.isAgg271
 z36:=Tryz.sizeOf271
 v36:=Tryz.zeroValue271
 i36:=by kernel_rfl
 t37:=Tryz.underlying110
 a37:=Tryz.isAgg110
 z37:=Tryz.sizeOf110
 v37:=Tryz.zeroValue110
 i37:=by kernel_rfl
 t39:=Tryz.underlying316
 a39:=Tryz.isAgg316
 z39:=Tryz.sizeOf316
 v39:=Tryz.zeroValue316
 i39:=by kernel_rfl
 t44:=Tryz.underlying329
 a44:=Tryz.isAgg329
 z44:=Tryz.sizeOf329
 v44:=Tryz.zeroValue329
 i44:=by kernel_rfl
 t47:=Tryz.underlying200
 a47:=Tryz.isAgg200
 z47:=Tryz.sizeOf200
 v47:=Tryz.zeroValue200
 i47:=by kernel_rfl
 t48:=Tryz.underlying341
 a48:=Tryz.isAgg341
 z48:=Tryz.sizeOf341
 v48:=Tryz.zeroValue341
 i48:=by kernel_rfl
 t50:=Tryz.underlying343
 a50:=Tryz.isAgg343
 z50:=Tryz.sizeOf343
 v50:=Tryz.zeroValue343
 i50:=by kernel_rfl
 t52:=Tryz.underlying283
 a52:=Tryz.isAgg283
 z52:=Tryz.sizeOf283
 v52:=Tryz.zeroValue283
 i52:=by kernel_rfl
 t55:=Tryz.underlying286
 a55:=Tryz.isAgg286
 z55:=Tryz.sizeOf286
 v55:=Tryz.zeroValue286
 i55:=by kernel_rfl
 t59:=Tryz.underlying306
 a59:=Tryz.isAgg306
 z59:=Tryz.sizeOf306
 v59:=Tryz.zeroValue306
 i59:=by kernel_rfl
 t60:=Tryz.underlying122
 a60:=Tryz.isAgg122
 z60:=Tryz.sizeOf122
 v60:=Tryz.zeroValue122
 i60:=by kernel_rfl
 t61:=Tryz.underlying307
 a61:=Tryz.isAgg307
 z61:=Tryz.sizeOf307
 t65:=Tryz.underlying338
 a65:=Tryz.isAgg338
 z65:=Tryz.sizeOf338
 v65:=Tryz.zeroValue338
 i65:=by kernel_rfl
 t66:=Tryz.underlying339
 a66:=Tryz.isAgg339
 z66:=Tryz.sizeOf339
 v66:=Tryz.zeroValue339
 i66:=by kernel_rfl
 t67:=Tryz.underlying119
 a67:=Tryz.isAgg119
 z67:=Tryz.sizeOf119
 v67:=Tryz.zeroValue119
 i67:=by kernel_rfl
 g0:=by kernel_rfl
 m0:=by kernel_rfl
 g1:=by kernel_rfl
 m1:=by kernel_rfl
 g2:=by kernel_rfl
 m2:=by kernel_rfl
 g3:=by kernel_rfl
 m3:=by kernel_rfl
 g4:=by kernel_rfl
 m4:=by kernel_rfl }
open Go.RowKit in
theorem Tryz.strconv_ParseUint_10_at32_ok (s:ByteArray) (hmax:s.size≤9223372036854775806) (u:Nat) (h:Lib.parseUintB 32 s.data.toList=.ok u) (w:World) :
  Calls Tryz.prog 246 #[.string s,.int .i64 10,.int .i64 32] w fun e w'=>e=.returned (.tuple #[.int .u64 u,.nilIface])∧(w'=w∨w'=Lib.bytesWorld w 5 s):=Any.strconv_ParseUint_10_at32_ok Tryz.laysPu14 s hmax u h w
open Go.RowKit in
theorem Tryz.strconv_ParseUint_10_at32_range_var (s : ByteArray) (hlim : s.size ≤ 281474976710656) (h : Lib.parseUintB 32 s.data.toList = .range) (tp : TypeId) (p : Value) (w : World) (hvar : w.var? Tryz.prog "strconv.ErrRange" = some #[.iface tp p]) :
  Calls Tryz.prog 246 #[.string s,.int .i64 10,.int .i64 32] w fun e w'=>∃ N,e=.returned (.tuple #[.int .u64 4294967295,.iface 316 (.pointer (some ⟨N,0,none⟩))])∧w.heap.size≤N∧w'.heap[N]? = some (.cells #[.string ⟨#[80,97,114,115,101,85,105,110,116]⟩,.string s,.iface tp p] 329 (0,0))∧Below w.heap.size w w':=Any.strconv_ParseUint_10_at32_range_var Tryz.laysPu14 s hlim h tp p w hvar
def Tryz.lays144_ren:Go.Shelf.Ren:=⟨fun|144=>45|143=>101|219=>161|217=>242|225=>243|224=>244|267=>245|266=>284|314=>285|n=>n,fun|9=>9|4=>4|3=>3|5=>5|46=>271|146=>298|51=>122|n=>n,fun|1=>0|n=>n⟩
theorem Tryz.lays144:Go.Proofs.Lays.n144 Tryz.prog Tryz.lays144_ren:={
 mixed:=by kernel_rfl
 f143:=Tryz.func101.trans (congrArg some (by kernel_rfl))
 f144:=Tryz.func45.trans (congrArg some (by kernel_rfl))
 f217:=Tryz.func242.trans (congrArg some (by kernel_rfl))
 f219:=Tryz.func161.trans (congrArg some (by kernel_rfl))
 f224:=Tryz.func244.trans (congrArg some (by kernel_rfl))
 f225:=Tryz.func243.trans (congrArg some (by kernel_rfl))
 f266:=Tryz.func284.trans (congrArg some (by kernel_rfl))
 f267:=Tryz.func245.trans (congrArg some (by kernel_rfl))
 f314:=Tryz.func285.trans (congrArg some (by kernel_rfl))
 t3:=Tryz.underlying3
 a3:=Tryz.isAgg3
 z3:=Tryz.sizeOf3
 v3:=Tryz.zeroValue3
 t4:=Tryz.underlying4
 a4:=Tryz.isAgg4
 z4:=Tryz.sizeOf4
 v4:=Tryz.zeroValue4
 t5:=Tryz.underlying5
 a5:=Tryz.isAgg5
 z5:=Tryz.sizeOf5
 v5:=Tryz.zeroValue5
 t9:=Tryz.underlying9
 a9:=Tryz.isAgg9
 z9:=Tryz.sizeOf9
 v9:=Tryz.zeroValue9
 t46:=Tryz.underlying271
 a46:=Tryz.isAgg271
 z46:=Tryz.sizeOf271
 v46:=Tryz.zeroValue271
 t51:=Tryz.underlying122
 a51:=Tryz.isAgg122
 z51:=Tryz.sizeOf122
 v51:=Tryz.zeroValue122
 t146:=Tryz.underlying298
 a146:=Tryz.isAgg298
 z146:=Tryz.sizeOf298
 v146:=Tryz.zeroValue298
 g1:=by kernel_rfl }
open Go.RowKit Go.Lib in
theorem Tryz.strings_Contains (s sub:ByteArray) (m:Int) (w:World) (hs:s.size<4294967281) (hm:w.cell? ⟨0,0,none⟩=some (.int .i64 m)) :
  Calls Tryz.prog 45 #[.string s,.string sub] w fun e w'=>e=.returned (.bool (Lib.contains s.data.toList sub.data.toList))∧w'=w:=Any.strings_Contains Tryz.lays144 s sub m w hs hm
def Tryz.lays145_ren:Go.Shelf.Ren:=⟨fun|145=>112|220=>182|219=>161|217=>242|225=>243|224=>244|267=>245|266=>284|314=>285|n=>n,fun|9=>9|4=>4|59=>190|3=>3|5=>5|46=>271|146=>298|51=>122|n=>n,fun|1=>0|n=>n⟩
theorem Tryz.lays145:Go.Proofs.Lays.n145 Tryz.prog Tryz.lays145_ren:={
 mixed:=by kernel_rfl
 f145:=Tryz.func112.trans (congrArg some (by kernel_rfl))
 f217:=Tryz.func242.trans (congrArg some (by kernel_rfl))
 f219:=Tryz.func161.trans (congrArg some (by kernel_rfl))
 f220:=Tryz.func182.trans (congrArg some (by kernel_rfl))
 f224:=Tryz.func244.trans (congrArg some (by kernel_rfl))
 f225:=Tryz.func243.trans (congrArg some (by kernel_rfl))
 f266:=Tryz.func284.trans (congrArg some (by kernel_rfl))
 f267:=Tryz.func245.trans (congrArg some (by kernel_rfl))
 f314:=Tryz.func285.trans (congrArg some (by kernel_rfl))
 t3:=Tryz.underlying3
 a3:=Tryz.isAgg3
 z3:=Tryz.sizeOf3
 v3:=Tryz.zeroValue3
 t4:=Tryz.underlying4
 a4:=Tryz.isAgg4
 z4:=Tryz.sizeOf4
 v4:=Tryz.zeroValue4
 t5:=Tryz.underlying5
 a5:=Tryz.isAgg5
 z5:=Tryz.sizeOf5
 v5:=Tryz.zeroValue5
 t9:=Tryz.underlying9
 a9:=Tryz.isAgg9
 z9:=Tryz.sizeOf9
 v9:=Tryz.zeroValue9
 t46:=Tryz.underlying271
 a46:=Tryz.isAgg271
 z46:=Tryz.sizeOf271
 v46:=Tryz.zeroValue271
 t51:=Tryz.underlying122
 a51:=Tryz.isAgg122
 z51:=Tryz.sizeOf122
 v51:=Tryz.zeroValue122
 t59:=Tryz.underlying190
 a59:=Tryz.isAgg190
 z59:=Tryz.sizeOf190
 v59:=Tryz.zeroValue190
 t146:=Tryz.underlying298
 a146:=Tryz.isAgg298
 z146:=Tryz.sizeOf298
 v146:=Tryz.zeroValue298
 g1:=by kernel_rfl }
open Go.RowKit Go.Lib in
theorem Tryz.strings_Cut (s sep:ByteArray) (m:Int) (w:World) (hs:s.size<4294967281) (hm:w.cell? ⟨0,0,none⟩=some (.int .i64 m)) :
  Calls Tryz.prog 112 #[.string s,.string sep] w fun e w'=>e=.returned (.tuple #[.string ⟨(Lib.cut s.data.toList sep.data.toList).1.toArray⟩,.string ⟨(Lib.cut s.data.toList sep.data.toList).2.1.toArray⟩,.bool (Lib.cut s.data.toList sep.data.toList).2.2])∧∃ n,w'=w.drewN n:=Any.strings_Cut Tryz.lays145 s sep m w hs hm
def Tryz.lays138_ren:Go.Shelf.Ren:=⟨fun|138=>104|195=>171|218=>172|143=>101|219=>161|217=>242|225=>243|224=>244|267=>245|266=>284|314=>285|n=>n,fun|9=>9|3=>3|4=>4|5=>5|0=>0|46=>271|146=>298|51=>122|n=>n,fun|1=>0|n=>n⟩
theorem Tryz.lays138:Go.Proofs.Lays.n138 Tryz.prog Tryz.lays138_ren:={
 mixed:=by kernel_rfl
 f138:=Tryz.func104.trans (congrArg some (by kernel_rfl))
 f143:=Tryz.func101.trans (congrArg some (by kernel_rfl))
 f195:=Tryz.func171.trans (congrArg some (by kernel_rfl))
 f217:=Tryz.func242.trans (congrArg some (by kernel_rfl))
 f218:=Tryz.func172.trans (congrArg some (by kernel_rfl))
 f219:=Tryz.func161.trans (congrArg some (by kernel_rfl))
 f224:=Tryz.func244.trans (congrArg some (by kernel_rfl))
 f225:=Tryz.func243.trans (congrArg some (by kernel_rfl))
 f266:=Tryz.func284.trans (congrArg some (by kernel_rfl))
 f267:=Tryz.func245.trans (congrArg some (by kernel_rfl))
 f314:=Tryz.func285.trans (congrArg some (by kernel_rfl))
 t0:=Tryz.underlying0
 a0:=Tryz.isAgg0
 z0:=Tryz.sizeOf0
 v0:=Tryz.zeroValue0
 t3:=Tryz.underlying3
 a3:=Tryz.isAgg3
 z3:=Tryz.sizeOf3
 v3:=Tryz.zeroValue3
 t4:=Tryz.underlying4
 a4:=Tryz.isAgg4
 z4:=Tryz.sizeOf4
 v4:=Tryz.zeroValue4
 t5:=Tryz.underlying5
 a5:=Tryz.isAgg5
 z5:=Tryz.sizeOf5
 v5:=Tryz.zeroValue5
 t9:=Tryz.underlying9
 a9:=Tryz.isAgg9
 z9:=Tryz.sizeOf9
 v9:=Tryz.zeroValue9
 t46:=Tryz.underlying271
 a46:=Tryz.isAgg271
 z46:=Tryz.sizeOf271
 v46:=Tryz.zeroValue271
 t51:=Tryz.underlying122
 a51:=Tryz.isAgg122
 z51:=Tryz.sizeOf122
 v51:=Tryz.zeroValue122
 t146:=Tryz.underlying298
 a146:=Tryz.isAgg298
 z146:=Tryz.sizeOf298
 v146:=Tryz.zeroValue298
 g1:=by kernel_rfl }
open Go.RowKit Go.Lib in
theorem Tryz.strings_Count_one (s:ByteArray) (c:UInt8) (w:World) :
  Calls Tryz.prog 104 #[.string s,.string ⟨#[c]⟩] w fun e w'=>e=.returned (.int .i64 (Lib.countByte s.data.toList c))∧w'=w:=Any.strings_Count_one Tryz.lays138 s c w
def Tryz.lays99_ren:Go.Shelf.Ren:=⟨fun|99=>29|206=>59|n=>n,fun|9=>9|4=>4|3=>3|n=>n,fun|n=>n⟩
theorem Tryz.lays99:Go.Proofs.Lays.n99 Tryz.prog Tryz.lays99_ren:={
 mixed:=by kernel_rfl
 f99:=Tryz.func29.trans (congrArg some (by kernel_rfl))
 f206:=Tryz.func59.trans (congrArg some (by kernel_rfl))
 t3:=Tryz.underlying3
 a3:=Tryz.isAgg3
 z3:=Tryz.sizeOf3
 v3:=Tryz.zeroValue3
 t4:=Tryz.underlying4
 a4:=Tryz.isAgg4
 z4:=Tryz.sizeOf4
 v4:=Tryz.zeroValue4
 t9:=Tryz.underlying9
 a9:=Tryz.isAgg9
 z9:=Tryz.sizeOf9
 v9:=Tryz.zeroValue9 }
open Go.RowKit Go.Lib in
theorem Tryz.strings_HasPrefix (s p:ByteArray) (w:World) :
  Calls Tryz.prog 29 #[.string s,.string p] w fun e w'=>e=.returned (.bool (Lib.hasPrefix s.data.toList p.data.toList))∧w'=w:=Any.strings_HasPrefix Tryz.lays99 s p w
def Tryz.lays146_ren:Go.Shelf.Ren:=⟨fun|146=>111|221=>181|268=>251|138=>104|143=>101|195=>171|197=>291|218=>172|219=>161|260=>325|217=>242|225=>243|224=>244|267=>245|266=>284|314=>285|n=>n,fun|9=>9|31=>22|3=>3|4=>4|0=>0|105=>302|21=>21|5=>5|46=>271|119=>333|139=>336|138=>335|146=>298|51=>122|n=>n,fun|1=>0|3=>4|4=>5|n=>n⟩
theorem Tryz.lays146:Go.Proofs.Lays.n146 Tryz.prog Tryz.lays146_ren:={
 mixed:=by kernel_rfl
 f138:=Tryz.func104.trans (congrArg some (by kernel_rfl))
 f143:=Tryz.func101.trans (congrArg some (by kernel_rfl))
 f146:=Tryz.func111.trans (congrArg some (by kernel_rfl))
 f195:=Tryz.func171.trans (congrArg some (by kernel_rfl))
 f197:=Tryz.func291.trans (congrArg some (by kernel_rfl))
 f217:=Tryz.func242.trans (congrArg some (by kernel_rfl))
 f218:=Tryz.func172.trans (congrArg some (by kernel_rfl))
 f219:=Tryz.func161.trans (congrArg some (by kernel_rfl))
 f221:=Tryz.func181.trans (congrArg some (by kernel_rfl))
 f224:=Tryz.func244.trans (congrArg some (by kernel_rfl))
 f225:=Tryz.func243.trans (congrArg some (by kernel_rfl))
 f260:=Tryz.func325.trans (congrArg some (by kernel_rfl))
 f266:=Tryz.func284.trans (congrArg some (by kernel_rfl))
 f267:=Tryz.func245.trans (congrArg some (by kernel_rfl))
 f268:=Tryz.func251.trans (congrArg some (by kernel_rfl))
 f314:=Tryz.func285.trans (congrArg some (by kernel_rfl))
 t0:=Tryz.underlying0
 a0:=Tryz.isAgg0
 z0:=Tryz.sizeOf0
 v0:=Tryz.zeroValue0
 t3:=Tryz.underlying3
 a3:=Tryz.isAgg3
 z3:=Tryz.sizeOf3
 v3:=Tryz.zeroValue3
 t4:=Tryz.underlying4
 a4:=Tryz.isAgg4
 z4:=Tryz.sizeOf4
 v4:=Tryz.zeroValue4
 t5:=Tryz.underlying5
 a5:=Tryz.isAgg5
 z5:=Tryz.sizeOf5
 v5:=Tryz.zeroValue5
 t9:=Tryz.underlying9
 a9:=Tryz.isAgg9
 z9:=Tryz.sizeOf9
 v9:=Tryz.zeroValue9
 t21:=Tryz.underlying21
 a21:=Tryz.isAgg21
 z21:=Tryz.sizeOf21
 v21:=Tryz.zeroValue21
 t31:=Tryz.underlying22
 a31:=Tryz.isAgg22
 z31:=Tryz.sizeOf22
 v31:=Tryz.zeroValue22
 t46:=Tryz.underlying271
 a46:=Tryz.isAgg271
 z46:=Tryz.sizeOf271
 v46:=Tryz.zeroValue271
 t51:=Tryz.underlying122
 a51:=Tryz.isAgg122
 z51:=Tryz.sizeOf122
 v51:=Tryz.zeroValue122
 t105:=Tryz.underlying302
 a105:=Tryz.isAgg302
 z105:=Tryz.sizeOf302
 v105:=Tryz.zeroValue302
 t119:=Tryz.underlying333
 a119:=Tryz.isAgg333
 z119:=Tryz.sizeOf333
 t138:=Tryz.underlying335
 a138:=Tryz.isAgg335
 z138:=Tryz.sizeOf335
 v138:=Tryz.zeroValue335
 t139:=Tryz.underlying336
 a139:=Tryz.isAgg336
 z139:=Tryz.sizeOf336
 v139:=Tryz.zeroValue336
 t146:=Tryz.underlying298
 a146:=Tryz.isAgg298
 z146:=Tryz.sizeOf298
 v146:=Tryz.zeroValue298
 g1:=by kernel_rfl
 g3:=by kernel_rfl
 g4:=by kernel_rfl }
open Go.RowKit Go.Lib in
theorem Tryz.strings_Split (s sep:ByteArray) (m:Int) (w:World) (hs:s.size<4294967281) (hm:w.cell? ⟨0,0,none⟩=some (.int .i64 m)) (h1:1≤sep.size) :
  Calls Tryz.prog 111 #[.string s,.string sep] w fun e w'=>
   e=.returned (.slice (some ⟨w.heap.size,0,none⟩) (Lib.countB s sep+1) (Lib.countB s sep+1))∧w'=w.alloc (.cells ((Lib.splitB sep 0 (Lib.countB s sep) s).map Value.string).toArray 9):=Any.strings_Split Tryz.lays146 (by kernel_rfl) s sep m w hs hm h1
end Go.Proofs
namespace Go.Proofs.YtpokklffoihafaaGreatDoor
open Go.GL Go.RowKit Go.Stele
set_option maxRecDepth 100000
set_option maxHeartbeats 4000000
attribute [local irreducible] LOps LCode LStep LCalls Go.GL.Pure QThen QBlock RetPost
section
variable {B0:Nat} {w0:World}
theorem run_spec {f:FuncId} [TEnter Tryz.prog f] (p:UInt8→Bool) (hp:∀ c:UInt8,LCalls (KC B0 w0) f [int .u8 c.toNat] [] (Ret (bool (p c)))) (s:List UInt8) (hs:s.length≤1000000000) :
  LCalls (KC B0 w0) 162 [str s,.atom (.func (.func f) #[] #[])] [] (Ret (str (s.takeWhile p))):=by
 refine cI Tryz.func162 rfl (n:=22) rfl rfl rfl ?_
 refine gac ?_
 refine oL (fun k l H=>∃ m:Nat,k=s.length-m∧l=[(0,str s),(1,.atom (.func (.func f) #[] #[])),(5,int .i64 m)]∧H=[]∧m≤s.length∧s.takeWhile p=s.take m++(s.drop m).takeWhile p)
  ⟨_,_,_,⟨0,rfl,rfl,rfl,by omega,by simp⟩,⟨rfl,rfl,rfl,trivial⟩,HSub.refl _⟩ ?_
 rintro k l H ⟨m,rfl,rfl,rfl,hm,hI⟩ j hj
 refine gad ?_
 refine oB 10 rfl (fun ht=>?_) (fun ht=>?_)
 ·have hlt:m<s.length:=by simpa using ht
  refine gab ?_
  refine oP (Pure.sindex (c:=s[m]) rfl rfl zo (by simp)) rfl ?_
  refine LOps.want rfl rfl ?_
  refine oS (S.fnV [_] rfl rfl (hp s[m]) ?_) rfl
  refine gab ?_
  refine oC rfl (fun hc=>?_) (fun hc=>?_)
  ·refine gad ?_
   exact ⟨_,_,_,by omega,⟨m+1,rfl,rfl,rfl,by omega,(takeWhile_step hlt hI).1 (by simpa using hc)⟩,⟨rfl,rfl,int_eq zo,trivial⟩,HSub.refl _,hj⟩
  ·refine gac ?_
   refine oP (Pure.sslice (i:=0) (j:=m) rfl rfl ⟨_,rfl⟩ zo zo zo) rfl ?_
   refine gab ?_
   exact retRet hj (zra rfl) (by
    rw[(takeWhile_step hlt hI).2 (by simpa using hc)]
    simp[resLV])
 ·have hge:s.length≤m:=by simpa using ht
  refine gaa ?_
  refine oC rfl (fun hc=>?_) (fun hc=>?_)
  ·cases hc
  ·refine gac ?_
   refine oP (Pure.sslice (i:=0) (j:=m) rfl rfl ⟨_,rfl⟩ zo zo zo) rfl ?_
   refine gab ?_
   exact retRet hj (zra rfl) (by
    rw[takeWhile_end hge hI]
    simp[resLV])
theorem hasPrefix_spec (s p:List UInt8):LCalls (KC B0 w0) 29 [str s,str p] [] (Ret (bool (p.isPrefixOf s))):=
 LCalls.ret_of (vs:=[.string ⟨s.toArray⟩,.string ⟨p.toArray⟩]) fun w _=>(Go.Proofs.Tryz.strings_HasPrefix _ _ w).mono fun e w' he=>by
  obtain ⟨h1,h2⟩:=he
  subst h2
  exact ⟨by simpa [Go.Lib.hasPrefix] using h1,Below.refl _ _⟩
theorem skip_spec (s:List UInt8) (hs:s.length≤1000000000):LCalls (KC B0 w0) 102 [str s] [] (Ret (int .i64 (skipLen s))):=by
 refine cI Tryz.func102 rfl (n:=11) rfl rfl rfl ?_
 refine gac ?_
 refine oS (S.fn [_,_] rfl (hasPrefix_spec s [47,47]) ?_) rfl
 refine gab ?_
 refine oC rfl (fun hc=>?_) (fun hc=>?_)
 ·refine gak ?_
  refine oS (S.fn [_,_] rfl (run_spec notNl notNl_spec s hs) ?_) rfl
  refine gab ?_
  exact retRet rfl (zra rfl) (by simp only[resLV,skipLen,hc,if_true])
 ·refine gac ?_
  refine oS (S.fn [_,_] rfl (run_spec isWhite white_spec s hs) ?_) rfl
  refine gab ?_
  exact retRet rfl (zra rfl) (by simp only[resLV,skipLen,hc,Bool.false_eq_true,if_false])
end
end Go.Proofs.YtpokklffoihafaaGreatDoor
namespace Go.Proofs.YtpokklffoihafaaGreatDoor
open Go Go.Shelf Go.RowKit Go.Sort Go.Lib
set_option maxHeartbeats 6400000
set_option maxRecDepth 100000
theorem formatUint_main (u : Nat) (hu64 : u < 18446744073709551616) (w : World) (htab : Lib.TabIs Tryz.prog w "internal/strconv.uint64pow10" .u64 Lib.pow10Tab) :
  Calls Tryz.prog 276 #[.int .u64 u,.int .i64 10] w fun e w'=>e=.returned (.string ⟨(Lib.decDigits u).toArray⟩)∧Below w.heap.size w w':=by
 have mixed:Tryz.prog.follows .mixedOrders=true:=by kernel_rfl
 have t3:=Tryz.underlying3;have a3:=Tryz.isAgg3;have z3:=Tryz.sizeOf3;have v3:=Tryz.zeroValue3
 have t9:=Tryz.underlying9;have a9:=Tryz.isAgg9;have z9:=Tryz.sizeOf9;have v9:=Tryz.zeroValue9
 have t4:=Tryz.underlying4;have a4:=Tryz.isAgg4;have z4:=Tryz.sizeOf4;have v4:=Tryz.zeroValue4
 have t142:=Tryz.underlying283;have a142:=Tryz.isAgg283;have z142:=Tryz.sizeOf283;have v142:=Tryz.zeroValue283
 have t0:=Tryz.underlying0;have a0:=Tryz.isAgg0;have z0:=Tryz.sizeOf0;have v0:=Tryz.zeroValue0
 have t119:=Tryz.underlying262;have a119:=Tryz.isAgg262;have z119:=Tryz.sizeOf262;have v119:=Tryz.zeroValue262
 have t85:=Tryz.underlying110;have a85:=Tryz.isAgg110;have z85:=Tryz.sizeOf110;have v85:=Tryz.zeroValue110
 have t5:=Tryz.underlying5;have a5:=Tryz.isAgg5;have z5:=Tryz.sizeOf5;have v5:=Tryz.zeroValue5
 have e137:∀ args w,(callFunc 261 args).run Tryz.prog w=.ok (.enter 261 args) w:=enters_of Tryz.func261 (by kernel_rfl) rfl
 have e138:∀ args w,(callFunc 262 args).run Tryz.prog w=.ok (.enter 262 args) w:=enters_of Tryz.func262 (by kernel_rfl) rfl
 have e139:∀ args w,(callFunc 263 args).run Tryz.prog w=.ok (.enter 263 args) w:=enters_of Tryz.func263 (by kernel_rfl) rfl
 by_cases hs:u<100
 ·go_enter Tryz.func276,Tryz.ntmps276
  go_wp2_with (go_at_fn (261);refine (Tryz.internal_strconv_small u hs _).mono ?_;rintro e w' ⟨rfl,rfl⟩)
  go_ret
  exact ⟨rfl,Below.refl _ _⟩
 ·have hu1:1≤u:=by omega
  have hnd20:Lib.nDigits u≤20:=by have:=Lib.numDigits_eq u hu1 hu64;split at this <;> omega
  have hal:Tryz.prog.arrayLen 283=24:=by simp[Program.arrayLen,Tryz.underlying283]
  have hsl:∀ W,(Instr.sliceAt 283 (.pointer (some ⟨w.heap.size,0,none⟩)) none (some (.int .i64 (Lib.nDigits u:Int))) none).run Tryz.prog W=.ok (.slice (some ⟨w.heap.size,0,none⟩) (Lib.nDigits u) 24) W:=fun W=>by
   rw[run_sliceAt_array_h W 283 ⟨w.heap.size,0,none⟩ (by simp[Program.arrayLen,Program.elem,Tryz.underlying283]) .i64 (Lib.nDigits u:Int) (by omega) (by rw[hal];omega)]
   go_simp
  have hH0:=Lib.holds_zero0 w 283 (Lib.nDigits u) (by omega)
  have hfmt:=Tryz.internal_strconv_formatBase10 w.heap.size 0 24 u (Array.replicate (Lib.nDigits u) 0) (w.alloc (.cells Lib.zeros24 283)) hH0 (by rw[Array.size_replicate];exact Lib.lt_pow_nDigits u) hu64 (by rw[Array.size_replicate];omega)
  rw[Array.size_replicate] at hfmt
  have HH0:=Lib.hid hH0
  clear hH0 hal
  go_enter Tryz.func276,Tryz.ntmps276
  go_wp2_with (first
   |(go_at_fn (262);refine (Tryz.internal_strconv_numDigits u hu1 hu64 _ (Lib.tabIs_alloc htab _)).mono ?_;rintro e w' ⟨rfl,rfl⟩))
  go_at_fn (263)
  refine hfmt.mono ?_
  rintro e w' ⟨rfl,k,v',dk,rfl,hF⟩
  have hcv:(convert 110 9 (.slice (some ⟨w.heap.size,0,none⟩) (Lib.nDigits u) 24)).run Tryz.prog ((putRow (fun (b:UInt8)=>Value.int .u8 (b.toNat:Int)) (w.alloc (.cells Lib.zeros24 283)) w.heap.size 0 dk).drewN k)=.ok (.string ⟨(Lib.decDigits u).toArray⟩) ((putRow (fun (b:UInt8)=>Value.int .u8 (b.toNat:Int)) (w.alloc (.cells Lib.zeros24 283)) w.heap.size 0 dk).drewN k):=by
   have h:=run_convert_bytes_back (P:=Tryz.prog) ((putRow (fun (b:UInt8)=>Value.int .u8 (b.toNat:Int)) (w.alloc (.cells Lib.zeros24 283)) w.heap.size 0 dk).drewN k) 110 9 5 ⟨w.heap.size,0,none⟩ 24 (Lib.decDigits u) Tryz.underlying110 Tryz.underlying5 Tryz.underlying9 (fun j hj=>by
    rw[Lib.row_is_numeral hF j hj,Lib.add_plain,World.cell?_drewN]
    exact cell?_putRow (fun (b:UInt8)=>Value.int .u8 (b.toNat:Int)) _ w.heap.size 0 _ dk HH0.out (by rw[hF.size,Array.size_replicate]) j (by rw[hF.size];rw[Lib.decDigits_length] at hj;exact hj))
   rw[Lib.decDigits_length] at h
   exact h
  go_wp2
  go_ret
  refine ⟨rfl,?_⟩
  obtain ⟨os,eo⟩:=Lib.fin_at w (.cells Lib.zeros24 283) dk k 0
  rw[eo]
  exact Lib.below_grow _ w (Nat.le_refl _) k os
end Go.Proofs.YtpokklffoihafaaGreatDoor
namespace Go.Proofs.YtpokklffoihafaaGreatDoor
open Go.GL Go.RowKit Go.Stele
set_option maxRecDepth 100000
set_option maxHeartbeats 4000000
attribute [local irreducible] LOps LCode LStep LCalls Go.GL.Pure QThen QBlock RetPost
structure GW (B0:Nat) (w0:World):Prop where
 pow10 : Go.Lib.TabIs Tryz.prog w0 "internal/strconv.uint64pow10" .u64 Go.Lib.pow10Tab
 errRange : ∃ tp p, w0.var? Tryz.prog "strconv.ErrRange" = some #[.iface tp p]
 big:8≤B0
section
variable {B0:Nat} {w0:World}
theorem GW.tab (h : GW B0 w0) {w : World} (hb : Below B0 w0 w) : Go.Lib.TabIs Tryz.prog w "internal/strconv.uint64pow10" .u64 Go.Lib.pow10Tab := by
 have hg : Tryz.prog.globalNamed "internal/strconv.uint64pow10" = some 1 := by kernel_rfl
 exact var?_below hb hg (Nat.lt_of_lt_of_le (by decide) h.big) h.pow10
theorem GW.err (h : GW B0 w0) {w : World} (hb : Below B0 w0 w) : ∃ tp p, w.var? Tryz.prog "strconv.ErrRange" = some #[.iface tp p] := by
 have hg : Tryz.prog.globalNamed "strconv.ErrRange" = some 3 := by kernel_rfl
 obtain ⟨tp,p,hv⟩:=h.errRange
 exact ⟨tp,p,var?_below hb hg (Nat.lt_of_lt_of_le (by decide) h.big) hv⟩
theorem itoa_spec (hG:GW B0 w0) (u:Nat) (hu:u≤9223372036854775807):LCalls (KC B0 w0) 53 [int .i64 u] [] (Ret (str (Go.Lib.decDigits u))):=
 LCalls.ret_of (vs:=[.int .i64 u]) fun w hw=>(Go.Proofs.Tryz.strconv_Itoa u zo zo w (hG.tab hw)).mono fun e w' he=>by
  obtain ⟨h1,k,os,h2⟩:=he
  rw[Go.Lib.itoa_nonneg] at h1
  exact ⟨h1,by rw[h2];exact Go.Lib.below_grow _ w (Nat.le_refl _) k os⟩
theorem fmtUint_spec (hG:GW B0 w0) (u:Nat) (hu:u<18446744073709551616):LCalls (KC B0 w0) 223 [int .u64 u,int .i64 10] [] (Ret (str (Go.Lib.decDigits u))):=by
 refine cI Tryz.func223 rfl (n:=8) rfl rfl rfl ?_
 refine gac ?_
 refine oS (S.fn [_,_] rfl (LCalls.ret_of (vs:=[.int .u64 u,.int .i64 10]) fun w hw=>formatUint_main u hu w (hG.tab hw)) ?_) rfl
 refine gab ?_
 exact retRet rfl (zra rfl) rfl
theorem parseUint_ok (s:List UInt8) (hs:s.length≤1000000000) (u:Nat) (h:Go.Lib.parseUintB 32 s=.ok u) :
  LCalls (KC B0 w0) 246 [str s,int .i64 10,int .i64 32] [] (Ret (.tuple [int .u64 u,.atom .nilIface])):=by
 refine LCalls.mono (LCalls.of_belowT (vs:=[.string ⟨s.toArray⟩,.int .i64 10,.int .i64 32]) (p:=fun us=>us=[.int .u64 u,.nilIface]) fun w hw=>?_) ?_
 ·refine (Go.Proofs.Tryz.strconv_ParseUint_10_at32_ok ⟨s.toArray⟩ ?_ u (by simpa using h) w).mono fun e w' he=>⟨_,he.1,rfl,?_⟩
  ·show s.toArray.size≤_
   simp
   omega
  ·rcases he.2 with h2|h2
   ·rw[h2];exact Below.refl _ _
   ·rw[h2]
    exact ⟨rfl,rfl,rfl,by rw[Go.Lib.bytesWorld_size];omega,fun k hk=>Go.Lib.bytesWorld_at_old w 5 _ k hk⟩
 ·rintro r H ⟨v,rfl,⟨us,rfl,rfl⟩,rfl⟩
  exact ⟨rfl,rfl⟩
theorem parseUint_range (hG:GW B0 w0) (s:List UInt8) (hs:s.length≤1000000000) (h:Go.Lib.parseUintB 32 s=.range) :
  LCalls (KC B0 w0) 246 [str s,int .i64 10,int .i64 32] [] (RetIf fun lv=>∃ v t p,lv=.tuple [int .u64 v,.atom (.iface t p)]):=by
 refine LCalls.mono (LCalls.of_belowT (vs:=[.string ⟨s.toArray⟩,.int .i64 10,.int .i64 32]) (p:=fun us=>∃ v t p,us=[.int .u64 v,.iface t p]) fun w hw=>?_) ?_
 ·obtain ⟨tp,p,hv⟩:=hG.err hw
  refine (Go.Proofs.Tryz.strconv_ParseUint_10_at32_range_var ⟨s.toArray⟩ ?_ (by simpa using h) tp p w hv).mono fun e w' he=>?_
  ·show s.toArray.size≤_
   simp
   omega
  ·obtain ⟨N,h1,_,_,h4⟩:=he
   exact ⟨_,h1,⟨_,_,_,rfl⟩,h4⟩
 ·rintro r H ⟨v,rfl,⟨us,⟨a,t,p,rfl⟩,rfl⟩,rfl⟩
  exact ⟨_,rfl,⟨a,t,p,rfl⟩,rfl⟩
theorem countNl_spec (s:List UInt8):LCalls (KC B0 w0) 104 [str s,str [10]] [] (Ret (int .i64 (s.count 10))):=
 LCalls.ret_of (vs:=[.string ⟨s.toArray⟩,.string ⟨#[10]⟩]) fun w _=>(Go.Proofs.Tryz.strings_Count_one _ _ w).mono fun e w' he=>by
  obtain ⟨h1,h2⟩:=he
  subst h2
  exact ⟨by simpa [Go.Lib.countByte] using h1,Below.refl _ _⟩
end
end Go.Proofs.YtpokklffoihafaaGreatDoor
namespace Go.Proofs.YtpokklffoihafaaGreatDoor
open Go.GL Go.RowKit Go.Stele
set_option maxRecDepth 100000
set_option maxHeartbeats 4000000
attribute [local irreducible] LOps LCode LStep LCalls Go.GL.Pure QThen QBlock RetPost
def encTok (t:Tok):LV:=.agg [int .i64 t.kind,str t.text,int .i64 t.line]
def encTokR (r:TokR):LV:=.tuple [encTok r.1,int .i64 r.2.1,int .i64 r.2.2]
theorem elemsOk_strs (l:List (List UInt8)):elemsOk 1 (l.map str):=fun v hv=>by
 obtain ⟨x,_,rfl⟩:=List.mem_map.1 hv
 exact ⟨rfl,rfl⟩
section
variable {B0:Nat} {w0:World}
theorem Keywords_spec:LCalls (KC B0 w0) 248 [] [] (Ret (.list (keywords.map str))):=by
 refine cI Tryz.func248 rfl (n:=2) rfl rfl rfl ?_
 refine gac ?_
 refine oS (S.lit [_,_,_,_,_,_,_,_] rfl (elemsOk_strs keywords) rfl rfl rfl ?_) rfl
 refine gab ?_
 exact retRet rfl (rC (rT (v:=.list _) rfl zsr) rN) rfl
theorem signs_spec:LCalls (KC B0 w0) 170 [] [] (Ret (.list (signs.map str))):=by
 refine cI Tryz.func170 rfl (n:=2) rfl rfl rfl ?_
 refine gac ?_
 refine oS (S.lit [_,_,_,_,_,_,_,_,_,_,_,_,_,_,_,_,_,_,_,_,_,_,_,_] rfl (elemsOk_strs signs) rfl rfl rfl ?_) rfl
 refine gab ?_
 exact retRet rfl (rC (rT (v:=.list _) rfl zsr) rN) rfl
theorem Index_spec (l:List (List UInt8)) (x:List UInt8) (hl:l.length≤1000000000):LCalls (KC B0 w0) 249 [.list (l.map str),str x] [] (RetIf fun lv=>∃ n:Int,lv=int .i64 n∧decide (0≤n)=l.contains x):=by
 refine cI Tryz.func249 rfl (n:=19) rfl rfl rfl ?_
 refine gah ?_
 refine oL (fun k ls H=>∃ m:Nat,k=l.length-m∧ls=[(0,.list (l.map str)),(1,str x),(7,int .i64 (l.map str).length),(8,int .i64 m)]∧H=[]∧m≤l.length∧l.contains x=(l.drop m).contains x)
  ⟨_,_,_,⟨0,rfl,rfl,rfl,by omega,by simp⟩,⟨rfl,rfl,rfl,rfl,trivial⟩,HSub.refl _⟩ ?_
 rintro k ls H ⟨m,rfl,rfl,rfl,hm,hI⟩ j hj
 refine gas ?_
 refine oC rfl (fun hc=>?_) (fun hc=>?_)
 ·have hlt:m<l.length:=by simpa using hc
  refine gah ?_
  refine oP (xR (el':=str l[m]) rfl rfl zo (by simp) rfl rfl) rfl ?_
  refine gaa ?_
  refine oC rfl (fun he=>?_) (fun he=>?_)
  ·refine gac ?_
   have hx:x=l[m]:=by simpa using he
   exact retRetIf hj (zra rfl) ⟨m,rfl,by
    rw[hx,decide_eq_true zo]
    simp⟩
  ·refine gad ?_
   have hx:¬ x=l[m]:=by simpa using he
   exact ⟨_,_,_,by omega,⟨m+1,rfl,rfl,rfl,by omega,by
    rw[hI,List.drop_eq_getElem_cons hlt,List.contains_cons]
    simp[hx]⟩,⟨rfl,rfl,rfl,int_eq zo,trivial⟩,HSub.refl _,hj⟩
 ·have hge:l.length≤m:=by simpa using hc
  refine gac ?_
  exact retRetIf hj (zra rfl) ⟨-1,rfl,by
   rw[hI,List.drop_eq_nil_of_le hge]
   rfl⟩
theorem Contains_spec (l:List (List UInt8)) (x:List UInt8) (hl:l.length≤1000000000):LCalls (KC B0 w0) 173 [.list (l.map str),str x] [] (Ret (bool (l.contains x))):=by
 refine cI Tryz.func173 rfl (n:=9) rfl rfl rfl ?_
 refine gah ?_
 refine oS (S.fnIf [_,_] rfl (Index_spec l x hl) ?_) rfl
 rintro lv ⟨n,rfl,hn⟩
 refine gaa ?_
 exact retRet rfl (zra rfl) (by rw[←hn];rfl)
theorem name_spec (s:List UInt8) (hs:s.length≤1000000000):LCalls (KC B0 w0) 168 [str s] [] (Ret (encTokR (lexName s))):=by
 refine cI Tryz.func168 rfl (n:=21) rfl rfl rfl ?_
 refine gaq ?_
 refine oS (S.alloc fun b=>?_) rfl
 refine gac ?_
 refine oS (S.fn [_,_] rfl (run_spec isInner inner_spec s hs) ?_) rfl
 refine gad ?_
 refine oC rfl (fun hc=>?_) (fun hc=>?_)
 ·refine gae ?_
  exact retRet rfl (rC (rA rfl zm0 rfl zsr) (rC (zrt rfl) (zra rfl))) (by
   rw[lexName,if_pos (by have:=zt hc;omega)]
   rfl)
 ·refine gac ?_
  refine oS (S.fn [] rfl Keywords_spec ?_) rfl
  refine gab ?_
  refine oS (S.fn [_,_] rfl (Contains_spec keywords (s.takeWhile isInner) (by decide)) ?_) rfl
  refine gab ?_
  refine oC rfl (fun hk=>?_) (fun hk=>?_)
  ·refine gae ?_
   exact retRet rfl (rC (rA rfl zm0 rfl zsr) (rC (zrt rfl) (zra rfl))) (by
    rw[lexName,if_neg (by have:=zf hc;omega),if_pos hk]
    rfl)
  ·refine gae ?_
   exact retRet rfl (rC (rA rfl zm0 rfl zsr) (rC (zrt rfl) (zra rfl))) (by
    rw[lexName,if_neg (by have:=zf hc;omega),if_neg (by rw[hk];decide)]
    rfl)
end
end Go.Proofs.YtpokklffoihafaaGreatDoor
namespace Go.Stele
mutual
def ndE:Ex→Nat
 |.mk op num name args=>1+ndEs args
def ndEs:List Ex→Nat
 |[]=>0
 |x::l=>ndE x+ndEs l
end
mutual
def ndS:Sm→Nat
 |.mk kind name index value thn els=>1+(ndEs index+ndEs value+ndSs thn+ndSs els)
def ndSs:List Sm→Nat
 |[]=>0
 |x::l=>ndS x+ndSs l
end
def ndF (f:FnD):Nat:=1+f.params.length+f.locals.length+ndSs f.body
def ndFs:List FnD→Nat
 |[]=>0
 |f::l=>ndF f+ndFs l
theorem ndE_pos (x:Ex):1≤ndE x:=by
 obtain ⟨op,num,name,args⟩:=x
 rw[ndE]
 omega
theorem ndS_pos (x:Sm):1≤ndS x:=by
 obtain ⟨k,n,i,v,t,e⟩:=x
 rw[ndS]
 omega
theorem ndEs_len:∀ l:List Ex,l.length≤ndEs l
 |[]=>Nat.le_refl _
 |x::l=>by
  have h1:=ndE_pos x
  have h2:=ndEs_len l
  rw[ndEs,List.length_cons]
  omega
theorem ndSs_len:∀ l:List Sm,l.length≤ndSs l
 |[]=>Nat.le_refl _
 |x::l=>by
  have h1:=ndS_pos x
  have h2:=ndSs_len l
  rw[ndSs,List.length_cons]
  omega
theorem ndFs_len:∀ l:List FnD,l.length≤ndFs l
 |[]=>Nat.le_refl _
 |x::l=>by
  have h2:=ndFs_len l
  rw[ndFs,List.length_cons]
  unfold ndF
  omega
theorem ndFs_mem:∀ {l:List FnD} {f:FnD},f∈l→ndF f≤ndFs l
 |g::l,f,h=>by
  rw[ndFs]
  rcases List.mem_cons.1 h with rfl|h
  ·omega
  ·have:=ndFs_mem h
   omega
theorem ndEs_mem:∀ {l:List Ex} {f:Ex},f∈l→ndE f≤ndEs l
 |g::l,f,h=>by
  rw[ndEs]
  rcases List.mem_cons.1 h with rfl|h
  ·omega
  ·have:=ndEs_mem h
   omega
mutual
theorem smE_of:∀ x:Ex,ndE x≤2000000→smE x
 |.mk op num name args,h=>by
  rw[ndE] at h
  have:=ndEs_len args
  exact ⟨show args.length≤2000000 by omega,smEs_of args (by omega)⟩
theorem smEs_of:∀ l:List Ex,ndEs l≤2000000→smEs l
 |[],_=>trivial
 |x::l,h=>by
  rw[ndEs] at h
  exact ⟨smE_of x (by omega),smEs_of l (by omega)⟩
end
mutual
theorem smS_of:∀ x:Sm,ndS x≤2000000→smS x
 |.mk k n i v t e,h=>by
  rw[ndS] at h
  have h1:=ndEs_len i
  have h2:=ndEs_len v
  have h3:=ndSs_len t
  have h4:=ndSs_len e
  exact ⟨show i.length≤2000000 by omega,show v.length≤2000000 by omega,show t.length≤2000000 by omega,show e.length≤2000000 by omega,smEs_of i (by omega),smEs_of v (by omega),smSs_of t (by omega),smSs_of e (by omega)⟩
theorem smSs_of:∀ l:List Sm,ndSs l≤2000000→smSs l
 |[],_=>trivial
 |x::l,h=>by
  rw[ndSs] at h
  exact ⟨smS_of x (by omega),smSs_of l (by omega)⟩
end
theorem smF_of {f:FnD} (h:ndF f≤2000000):SmF f:=by
 unfold ndF at h
 have:=ndSs_len f.body
 exact ⟨show f.params.length≤2000000 by omega,show f.locals.length≤2000000 by omega,show f.body.length≤2000000 by omega,smSs_of _ (by omega)⟩
/-! ### Needs and depths -/
def KnB (B D:Nat) (known:List FSum):Prop:=∀ k∈known,k.need≤B∧k.params+1≤B∧k.depth≤D
theorem stair_le (B:Nat) (c:CEnv):∀ (l:List Ex) (i m:Nat),(∀ x∈l,needE c x≤4 * ndE x+B)→stair i (needEs c l) m≤max m (4 * ndEs l+i+B)
 |[],i,m,_=>by rw[needEs,stair];exact Nat.le_max_left _ _
 |x::l,i,m,h=>by
  rw[needEs,stair,ndEs]
  have h1:=h x (List.mem_cons_self ..)
  have h2:=stair_le B c l (i+1) (max m (i+needE c x)) (fun y hy=>h y (List.mem_cons_of_mem _ hy))
  have h3:=ndE_pos x
  omega
mutual
theorem needE_le (B D:Nat) (c:CEnv) (hB:KnB B D c.funcs):∀ x:Ex,needE c x≤4 * ndE x+B
 |.mk op num name args=>by
  rw[needE,ndE]
  have ha:=needEs_le B D c hB args
  have h0:(needEs c args).headD 0≤4 * ndEs args+B:=by
   cases args with
   |nil=>rw[needEs];exact Nat.zero_le _
   |cons x l=>
    have:=ha x (List.mem_cons_self ..)
    rw[needEs,ndEs]
    show needE c x≤_
    omega
  have h1:(needEs c args).tail.headD 0≤4 * ndEs args+B:=by
   cases args with
   |nil=>rw[needEs];exact Nat.zero_le _
   |cons x l=>
    cases l with
    |nil=>rw[needEs,needEs];exact Nat.zero_le _
    |cons y l=>
     have:=ha y (List.mem_cons_of_mem _ (List.mem_cons_self ..))
     rw[needEs,needEs,ndEs,ndEs]
     show needE c y≤_
     omega
  have hc:callN c name (needEs c args)≤4 * (1+ndEs args)+B:=by
   unfold callN
   split
   ·omega
   split
   ·omega
   ·unfold CEnv.fn
    split
    ·rename_i k hk
     have hkb:=hB k (List.mem_of_find?_eq_some hk)
     have:=stair_le B c args 0 (max (k.params+1) k.need) ha
     omega
    ·omega
  unfold opN
  split
  ·omega
  split
  ·omega
  split
  ·exact hc
  split
  ·omega
  split
  ·omega
  split
  ·omega
  split
  ·omega
  split
  ·omega
  ·omega
theorem needEs_le (B D:Nat) (c:CEnv) (hB:KnB B D c.funcs):∀ (l:List Ex),∀ x∈l,needE c x≤4 * ndE x+B
 |[],x,h=>(List.not_mem_nil h).elim
 |a::l,x,h=>by
  rcases List.mem_cons.1 h with h1|h1
  ·rw[h1]
   exact needE_le B D c hB a
  ·exact needEs_le B D c hB l x h1
end
theorem callD_le {B D:Nat} {c:CEnv} (hB:KnB B D c.funcs) (op name:Nm):callD c op name≤D+1:=by
 unfold callD
 split
 ·unfold CEnv.fn
  split
  ·rename_i k hk
   have:=hB k (List.mem_of_find?_eq_some hk)
   omega
  ·omega
 ·omega
mutual
theorem depE_le (B D:Nat) (c:CEnv) (hB:KnB B D c.funcs):∀ x:Ex,depE c x≤D+1
 |.mk op num name args=>by
  rw[depE]
  have h1:=depEs_le B D c hB args
  have h2:=callD_le hB op name
  omega
theorem depEs_le (B D:Nat) (c:CEnv) (hB:KnB B D c.funcs):∀ l:List Ex,depEs c l≤D+1
 |[]=>Nat.zero_le _
 |x::l=>by
  rw[depEs]
  have h1:=depE_le B D c hB x
  have h2:=depEs_le B D c hB l
  omega
end
theorem headNeed_le {B D:Nat} {c:CEnv} (hB:KnB B D c.funcs) (l:List Ex):needE c (l.headD default)≤4 * (ndEs l+1)+B:=by
 cases l with
 |nil=>
  have:=needE_le B D c hB (default:Ex)
  have h1:ndE (default:Ex)=1:=by
   show ndE (.mk [] 0 [] [])=1
   rw[ndE,ndEs]
  show needE c default≤_
  rw[ndEs]
  omega
 |cons x l=>
  have:=needE_le B D c hB x
  show needE c x≤_
  rw[ndEs]
  omega
mutual
theorem needS_le (B D:Nat) (c:CEnv) (hB:KnB B D c.funcs):∀ x:Sm,needS c x≤8 * ndS x+B
 |.mk k n i v t e=>by
  rw[needS,ndS]
  have h1:=headNeed_le hB v
  have h2:=headNeed_le hB i
  have h3:=needSs_le B D c hB t
  have h4:=needSs_le B D c hB e
  split
  ·omega
  split
  ·omega
  split
  ·omega
  ·omega
theorem needSs_le (B D:Nat) (c:CEnv) (hB:KnB B D c.funcs):∀ l:List Sm,needSs c l≤8 * ndSs l+B
 |[]=>by rw[needSs];exact Nat.zero_le _
 |x::l=>by
  rw[needSs,ndSs]
  have h1:=needS_le B D c hB x
  have h2:=needSs_le B D c hB l
  omega
end
mutual
theorem depS_le (B D:Nat) (c:CEnv) (hB:KnB B D c.funcs):∀ x:Sm,depS c x≤D+1
 |.mk k n i v t e=>by
  rw[depS]
  have h1:=depEs_le B D c hB v
  have h2:=depEs_le B D c hB i
  have h3:=depSs_le B D c hB t
  have h4:=depSs_le B D c hB e
  omega
theorem depSs_le (B D:Nat) (c:CEnv) (hB:KnB B D c.funcs):∀ l:List Sm,depSs c l≤D+1
 |[]=>by rw[depSs];exact Nat.zero_le _
 |x::l=>by
  rw[depSs]
  have h1:=depS_le B D c hB x
  have h2:=depSs_le B D c hB l
  omega
end
theorem sumF_le {B D:Nat} {vars arrays later:List Nm} {known:List FSum} {f:FnD} (hB:KnB B D known):(sumF vars arrays later known f).need≤8 * ndF f+B∧(sumF vars arrays later known f).params+1≤8 * ndF f+B∧(sumF vars arrays later known f).depth≤D+1:=by
 have h1:=needSs_le B D (envF vars arrays later known f) hB f.body
 have h2:=depSs_le B D (envF vars arrays later known f) hB f.body
 unfold sumF ndF
 simp only
 omega
end Go.Stele
namespace Go.Proofs.YtpokklffoihafaaGreatDoor.Chk
open Go.GL Go.RowKit Go.Stele
set_option maxRecDepth 100000
set_option maxHeartbeats 4000000
def vio (nm:List UInt8) (e:Int):List PanicEntry:=[{ v:=.iface 136 (.agg #[.string ⟨nm.toArray⟩,.int .i64 e]),recovered:=false }]
def chkN:Nat→List UInt8→Bool
 |_,[]=>true
 |i,c::r=>(if i=0 then isLetter c else isInner c) && chkN (i+1) r
theorem chkN_inner:∀ (r:List UInt8) (i:Nat),i≠0→chkN i r=r.all isInner
 |[],_,_=>rfl
 |c::r,i,h=>by rw[chkN,if_neg h,chkN_inner r (i+1) zo];rfl
theorem isNm_eq {s:List UInt8} (h0:s≠[]) (h1:s.length≤24) (h2:noName.contains s=false):isNm s=chkN 0 s:=by
 unfold isNm
 rw[decide_eq_true h1,h2]
 cases s with
 |nil=>exact absurd rfl h0
 |cons c r=>
  rw[chkN,if_pos rfl,chkN_inner r 1 (by decide)]
  rfl
theorem noName_eq (s:List UInt8):noName.contains s=(keywords.contains s || decide (s=[105,110]) || decide (s=[111,117,116])):=by
 have h:noName.contains s=(keywords.contains s || (decide (s=[105,110]) || decide (s=[111,117,116]))):=by
  unfold noName
  rw[Bool.eq_iff_iff]
  simp
 rw[h,Bool.or_assoc]
instance:TMap Tryz.prog 70 3 (.int .i64 0) (int .i64 0):=⟨⟨9,by kernel_rfl,by kernel_rfl⟩,fun w=>(Go.zero_of_info (P:=Tryz.prog) (n:=1) zk).1 w,fun _ _=>rep_atom⟩
instance:TMap Tryz.prog 139 4 (.bool false) (bool false):=⟨⟨9,by kernel_rfl,by kernel_rfl⟩,fun w=>(Go.zero_of_info (P:=Tryz.prog) (n:=1) zk).1 w,fun _ _=>rep_atom⟩
instance:TMap Tryz.prog 140 221 (.agg [.int .i64 0,.int .i64 0,.int .i64 0].toArray) (.agg ([.int .i64 0,.int .i64 0,.int .i64 0].map .atom)):=⟨⟨9,by kernel_rfl,by kernel_rfl⟩,fun w=>(Go.zero_of_info (P:=Tryz.prog) (n:=3) zk).1 w,fun w L=>rep_aggs w L _⟩
def opKV:KV:=[([110,117,109],int .i64 0),([118,97,114],int .i64 0),([101,108,101,109],int .i64 1),([110,101,103],int .i64 1),([110,111,116],int .i64 1),([99,97,108,108],int .i64 (-1)),([124,124],int .i64 2),([38,38],int .i64 2),([61,61],int .i64 2),([33,61],int .i64 2),([60],int .i64 2),([62],int .i64 2),([60,61],int .i64 2),([62,61],int .i64 2),([94],int .i64 2),([43],int .i64 2),([45],int .i64 2),([42],int .i64 2),([47],int .i64 2),([37],int .i64 2)]
theorem opKV_get (op:List UInt8):GL.kvGet opKV op=if opnds op = -2 then none else some (int .i64 (opnds op)):=by
 have key:∀ x∈[[110,117,109],[118,97,114],[101,108,101,109],[110,101,103],[110,111,116],[99,97,108,108],[124,124],[38,38],[61,61],[33,61],[60],[62],[60,61],[62,61],[94],[43],[45],[42],[47],[37]],GL.kvGet opKV x=if opnds x = -2 then none else some (int .i64 (opnds x)):=by
  intro x hx
  simp only[List.mem_cons,List.not_mem_nil,or_false] at hx
  rcases hx with rfl|rfl|rfl|rfl|rfl|rfl|rfl|rfl|rfl|rfl|rfl|rfl|rfl|rfl|rfl|rfl|rfl|rfl|rfl|rfl <;> rfl
 by_cases h:op∈[[110,117,109],[118,97,114],[101,108,101,109],[110,101,103],[110,111,116],[99,97,108,108],[124,124],[38,38],[61,61],[33,61],[60],[62],[60,61],[62,61],[94],[43],[45],[42],[47],[37]]
 ·exact key op h
 ·simp only[List.mem_cons,List.not_mem_nil,or_false,not_or] at h
  have h2:opnds op = -2:=by
   obtain ⟨a1,a2,a3,a4,a5,a6,a7,a8,a9,a10,a11,a12,a13,a14,a15,a16,a17,a18,a19,a20⟩:=h
   unfold opnds
   rw[if_neg (fun h=>h.elim a1 a2),if_neg (fun h=>h.elim a3 (fun h=>h.elim a4 a5)),if_neg (show ¬ op=nCall from a6),if_neg]
   unfold binOps
   simp only[List.mem_cons,List.not_mem_nil,or_false,not_or]
   exact ⟨a7,a8,a9,a10,a11,a12,a13,a14,a15,a16,a17,a18,a19,a20⟩
  rw[if_pos h2]
  obtain ⟨a1,a2,a3,a4,a5,a6,a7,a8,a9,a10,a11,a12,a13,a14,a15,a16,a17,a18,a19,a20⟩:=h
  unfold opKV
  simp only[GL.kvGet]
  rw[if_neg (Ne.symm a1),if_neg (Ne.symm a2),if_neg (Ne.symm a3),if_neg (Ne.symm a4),if_neg (Ne.symm a5),if_neg (Ne.symm a6),if_neg (Ne.symm a7),if_neg (Ne.symm a8),if_neg (Ne.symm a9),if_neg (Ne.symm a10),if_neg (Ne.symm a11),if_neg (Ne.symm a12),if_neg (Ne.symm a13),if_neg (Ne.symm a14),if_neg (Ne.symm a15),if_neg (Ne.symm a16),if_neg (Ne.symm a17),if_neg (Ne.symm a18),if_neg (Ne.symm a19),if_neg (Ne.symm a20)]
attribute [local irreducible] LOps LCode LStep LCalls Go.GL.Pure QThen QBlock RetPost LQ LAny LLate LLateOp LS
section
variable {B0:Nat} {w0:World} {H:Heap}
theorem require_spec (b:Bool) (nm:List UInt8) (e:Int):LCalls (KC B0 w0) 139 [bool b,str nm,int .i64 e] H (fun r H'=>H'=H∧r=if b=true then .ret (.tuple []) else .panic (vio nm e)):=by
 refine cI Tryz.func139 rfl (n:=12) rfl rfl rfl ?_
 refine gah ?_
 refine oC rfl (fun hc=>?_) (fun hc=>?_)
 ·have hb:b=false:=by simpa using hc
  subst hb
  refine gae ?_
  refine oS (LStep.panic rfl fun e' he'=>?_) rfl
  exact RetPost.panic (he'.trans rfl) zhr ⟨rfl,rfl⟩
 ·have hb:b=true:=by simpa using hc
  subst hb
  refine gaa ?_
  exact RetPost.normal rfl rN zhr ⟨rfl,rfl⟩
theorem operands_spec (op:List UInt8):LCalls (KC B0 w0) 331 [str op] [] (Ret (int .i64 (opnds op))):=by
 refine cI Tryz.func331 rfl (n:=15) rfl rfl rfl ?_
 refine gac ?_
 refine oS (S.kvNew fun om=>?_) rfl
 refine oS (S.kvInsE (m:=opKV.take 0) (k:=[110,117,109]) (lv:=int .i64 (0)) (opKV.take 1) rfl rfl rfl pH zk fun c0=>?_) rfl
 refine oS (S.kvInsE (m:=opKV.take 1) (k:=[118,97,114]) (lv:=int .i64 (0)) (opKV.take 2) rfl rfl rfl pH zk fun c1=>?_) rfl
 refine oS (S.kvInsE (m:=opKV.take 2) (k:=[101,108,101,109]) (lv:=int .i64 (1)) (opKV.take 3) rfl rfl rfl pH zk fun c2=>?_) rfl
 refine oS (S.kvInsE (m:=opKV.take 3) (k:=[110,101,103]) (lv:=int .i64 (1)) (opKV.take 4) rfl rfl rfl pH zk fun c3=>?_) rfl
 refine oS (S.kvInsE (m:=opKV.take 4) (k:=[110,111,116]) (lv:=int .i64 (1)) (opKV.take 5) rfl rfl rfl pH zk fun c4=>?_) rfl
 refine oS (S.kvInsE (m:=opKV.take 5) (k:=[99,97,108,108]) (lv:=int .i64 (-1)) (opKV.take 6) rfl rfl rfl pH zk fun c5=>?_) rfl
 refine oS (S.kvInsE (m:=opKV.take 6) (k:=[124,124]) (lv:=int .i64 (2)) (opKV.take 7) rfl rfl rfl pH zk fun c6=>?_) rfl
 refine oS (S.kvInsE (m:=opKV.take 7) (k:=[38,38]) (lv:=int .i64 (2)) (opKV.take 8) rfl rfl rfl pH zk fun c7=>?_) rfl
 refine oS (S.kvInsE (m:=opKV.take 8) (k:=[61,61]) (lv:=int .i64 (2)) (opKV.take 9) rfl rfl rfl pH zk fun c8=>?_) rfl
 refine oS (S.kvInsE (m:=opKV.take 9) (k:=[33,61]) (lv:=int .i64 (2)) (opKV.take 10) rfl rfl rfl pH zk fun c9=>?_) rfl
 refine oS (S.kvInsE (m:=opKV.take 10) (k:=[60]) (lv:=int .i64 (2)) (opKV.take 11) rfl rfl rfl pH zk fun c10=>?_) rfl
 refine oS (S.kvInsE (m:=opKV.take 11) (k:=[62]) (lv:=int .i64 (2)) (opKV.take 12) rfl rfl rfl pH zk fun c11=>?_) rfl
 refine oS (S.kvInsE (m:=opKV.take 12) (k:=[60,61]) (lv:=int .i64 (2)) (opKV.take 13) rfl rfl rfl pH zk fun c12=>?_) rfl
 refine oS (S.kvInsE (m:=opKV.take 13) (k:=[62,61]) (lv:=int .i64 (2)) (opKV.take 14) rfl rfl rfl pH zk fun c13=>?_) rfl
 refine oS (S.kvInsE (m:=opKV.take 14) (k:=[94]) (lv:=int .i64 (2)) (opKV.take 15) rfl rfl rfl pH zk fun c14=>?_) rfl
 refine oS (S.kvInsE (m:=opKV.take 15) (k:=[43]) (lv:=int .i64 (2)) (opKV.take 16) rfl rfl rfl pH zk fun c15=>?_) rfl
 refine oS (S.kvInsE (m:=opKV.take 16) (k:=[45]) (lv:=int .i64 (2)) (opKV.take 17) rfl rfl rfl pH zk fun c16=>?_) rfl
 refine oS (S.kvInsE (m:=opKV.take 17) (k:=[42]) (lv:=int .i64 (2)) (opKV.take 18) rfl rfl rfl pH zk fun c17=>?_) rfl
 refine oS (S.kvInsE (m:=opKV.take 18) (k:=[47]) (lv:=int .i64 (2)) (opKV.take 19) rfl rfl rfl pH zk fun c18=>?_) rfl
 refine oS (S.kvInsE (m:=opKV.take 19) (k:=[37]) (lv:=int .i64 (2)) (opKV.take 20) rfl rfl rfl pH zk fun c19=>?_) rfl
 refine LOps.weak (H':=[(om,.map (kvs opKV) c19)]) zhr ?_
 refine gab ?_
 have hg:=opKV_get op
 by_cases h0:opnds op = -2
 ·rw[if_pos h0] at hg
  refine oP (Pure.kvMiss2 rfl rfl zm0 (show GL.kvGet opKV op=none from hg)) rfl ?_
  refine gah ?_
  refine oC rfl (fun _=>?_) (fun hc=>by cases hc)
  refine gac ?_
  exact rR rfl (zra rfl) zhn ⟨by rw[h0];rfl,rfl⟩
 ·rw[if_neg h0] at hg
  refine oP (Pure.kvHit2 rfl rfl zm0 (show GL.kvGet opKV op=some (int .i64 (opnds op)) from hg)) rfl ?_
  refine gah ?_
  refine oC rfl (fun hc=>by cases hc) (fun _=>?_)
  refine gac ?_
  exact rR rfl (zra rfl) zhn ⟨rfl,rfl⟩
theorem isName_spec (s:List UInt8):LCalls (KC B0 w0) 221 [str s] [] (Ret (bool (isNm s))):=by
 refine cI Tryz.func221 rfl (n:=65) rfl rfl rfl ?_
 refine gac ?_
 have retF:∀ (h:isNm s=false) {e:Env} {C:Ctx} {n:Nat},e.ds=[]→e.s 2=bool false→RetPost C n [ResultVar.tmp 2] (Ret (bool (isNm s))) .ret e []:=fun h {e C n} hd he=>by
  rw[h]
  exact retRet hd (rC (rT he zsr) rN) rfl
 refine oB 7 rfl (fun h1=>?_) (fun h1=>?_)
 ·have h0:s=[]:=zt h1
  refine gaa ?_
  refine oC rfl (fun _=>?_) (fun hc=>by cases hc)
  refine gac ?_
  exact retF (by rw[h0];rfl) rfl rfl
 have h0:s≠[]:=zf h1
 refine gaa ?_
 refine oB 12 rfl (fun h2=>?_) (fun h2=>?_)
 ·have hl:24<s.length:=by
   have:=zt h2
   omega
  refine gaa ?_
  refine oC rfl (fun _=>?_) (fun hc=>by cases hc)
  refine gac ?_
  exact retF (by unfold isNm;rw[decide_eq_false zo];rfl) rfl rfl
 have hl:s.length≤24:=by
  have:=zf h2
  omega
 refine gaa ?_
 refine oB 16 rfl (fun h3=>?_) (fun h3=>?_)
 ·have h4:s=[105,110]:=zt h3
  refine gaa ?_
  refine oC rfl (fun _=>?_) (fun hc=>by cases hc)
  refine gac ?_
  exact retF (by rw[h4];rfl) rfl rfl
 refine gaa ?_
 refine oB 20 rfl (fun h5=>?_) (fun h5=>?_)
 ·have h4:s=[111,117,116]:=zt h5
  refine gaa ?_
  refine oC rfl (fun _=>?_) (fun hc=>by cases hc)
  refine gac ?_
  exact retF (by rw[h4];rfl) rfl rfl
 refine gab ?_
 refine oS (S.fn [] rfl Keywords_spec ?_) rfl
 refine gab ?_
 refine oS (S.fn [_,_] rfl (Contains_spec keywords s (by decide)) ?_) rfl
 refine gaa ?_
 have hnn:=noName_eq s
 rw[h3,h5,Bool.or_false,Bool.or_false] at hnn
 refine oC rfl (fun hk=>?_) (fun hk=>?_)
 ·have hk':keywords.contains s=true:=hk
  refine gac ?_
  exact retF (by
   unfold isNm
   rw[hnn,hk',Bool.not_true,Bool.and_false,Bool.false_and]) rfl rfl
 have hk':keywords.contains s=false:=hk
 rw[hk'] at hnn
 have heq:=isNm_eq h0 hl hnn
 refine gad ?_
 refine oL (fun k ls H'=>∃ pre l1,s=pre++l1∧k=l1.length∧ls=[(0,str s),(26,int .i64 (s.length:Int)),(27,int .i64 (pre.length:Int))]∧H'=[]∧isNm s=chkN pre.length l1)
  ⟨s.length,_,_,⟨[],s,rfl,rfl,rfl,rfl,heq⟩,⟨rfl,rfl,rfl,trivial⟩,HSub.refl _⟩ ?_
 rintro k ls H' ⟨pre,l1,hLe,rfl,rfl,rfl,hI⟩ j hj
 have hb2:pre.length≤24:=by
  rw[hLe,List.length_append] at hl
  omega
 refine gas ?_
 refine oC rfl (fun hc=>?_) (fun hc=>?_)
 rotate_left
 ·have hlen:=zf hc
  rw[hLe,List.length_append] at hlen
  obtain rfl:l1=[]:=by
   cases l1 with
   |nil=>rfl
   |cons a l2=>simp at hlen;omega
  refine gac ?_
  exact retRet hj (zra rfl) (by rw[hI];rfl)
 have hlen:=zt hc
 rw[hLe,List.length_append] at hlen
 obtain ⟨a,l2,rfl⟩:∃ a l2,l1=a::l2:=by
  cases l1 with
  |nil=>simp at hlen
  |cons a l2=>exact ⟨a,l2,rfl⟩
 have hget:s[((pre.length:Nat):Int).toNat]? = some a:=by
  rw[Int.toNat_natCast,hLe,List.getElem?_append_right (Nat.le_refl _),Nat.sub_self]
  rfl
 rw[chkN] at hI
 have next:∀ {e:Env} {ds:List Deferred} (h:(if pre.length=0 then isLetter a else isInner a)=true),e.ds=ds→e.s 0=str s→e.s 26=int .i64 (s.length:Int)→e.s 27=int .i64 ((pre.length:Int)+1)→Again (fun k ls H'=>∃ pre l1,s=pre++l1∧k=l1.length∧ls=[(0,str s),(26,int .i64 (s.length:Int)),(27,int .i64 (pre.length:Int))]∧H'=[]∧isNm s=chkN pre.length l1) (a::l2).length ds e []:=fun {e ds} h hd e0 e26 e27=>by
  rw[h,Bool.true_and] at hI
  exact ⟨l2.length,_,_,Nat.lt_succ_self _,⟨pre++[a],l2,by rw[hLe];simp,rfl,rfl,rfl,by rw[hI,List.length_append];rfl⟩,⟨e0,e26,e27.trans (int_eq (by simp)),trivial⟩,HSub.refl _,hd⟩
 refine gac ?_
 refine oP (Pure.sindex (c:=a) rfl rfl zo hget) rfl ?_
 refine gaa ?_
 refine LOps.cut [(0,str s),(3,int .i64 (pre.length:Int)),(4,bool (isLetter a)),(26,int .i64 (s.length:Int)),(27,int .i64 (pre.length:Int))] ?_ (fun j2 hj2=>?_)
 ·refine oB 34 rfl (fun h6=>?_) (fun h6=>?_)
  ·refine gab ?_
   refine oP (Pure.sindex (c:=a) rfl rfl zo hget) rfl ?_
   refine gab ?_
   exact ⟨⟨rfl,rfl,bool_eq (by unfold isLetter;rw[show decide (97≤cv a)=true from h6,Bool.true_and]),rfl,rfl,trivial⟩,rfl,rfl⟩
  ·refine gaa ?_
   exact ⟨⟨rfl,rfl,bool_eq (by unfold isLetter;rw[show decide (97≤cv a)=false from h6,Bool.false_and]),rfl,rfl,trivial⟩,rfl,rfl⟩
 refine gah ?_
 refine oB 42 rfl (fun h7=>?_) (fun h7=>?_)
 rotate_left
 ·have hl1:isLetter a=true:=by simpa using h7
  refine gaa ?_
  refine oC rfl (fun hc=>by cases hc) (fun _=>?_)
  refine gad ?_
  refine next ?_ ?_ ?_ ?_ ?_
  ·rw[hl1];unfold isInner;rw[hl1];split <;> rfl
  ·exact hj2.trans hj
  ·rfl
  ·rfl
  ·rfl
 have hl0:isLetter a=false:=by simpa using h7
 refine gaa ?_
 refine oB 45 rfl (fun h8=>?_) (fun h8=>?_)
 ·have hp0:pre.length=0:=by have:=zt h8;omega
  refine gaa ?_
  refine oC rfl (fun _=>?_) (fun hc=>by cases hc)
  refine gac ?_
  exact retF (by rw[hI,if_pos hp0,hl0,Bool.false_and]) (hj2.trans hj) rfl
 have hp0:¬ pre.length=0:=by have:=zf h8;omega
 rw[if_neg hp0] at hI
 refine gab ?_
 refine oP (Pure.sindex (c:=a) rfl rfl zo hget) rfl ?_
 refine gaa ?_
 refine oB 50 rfl (fun h9=>?_) (fun h9=>?_)
 rotate_left
 ·have h95:decide (cv a=95)=true:=by simpa using h9
  refine gaa ?_
  refine oC rfl (fun hc=>by cases hc) (fun _=>?_)
  refine gad ?_
  refine next ?_ ?_ ?_ ?_ ?_
  ·rw[if_neg hp0];unfold isInner;rw[h95,Bool.or_true]
  ·exact hj2.trans hj
  ·rfl
  ·rfl
  ·rfl
 have h95:decide (cv a=95)=false:=by simpa using h9
 refine gab ?_
 refine oP (Pure.sindex (c:=a) rfl rfl zo hget) rfl ?_
 refine gaa ?_
 refine oB 55 rfl (fun h10=>?_) (fun h10=>?_)
 ·have h48:decide (48≤cv a)=false:=by
   have:cv a<48:=zt h10
   exact decide_eq_false zo
  refine gaa ?_
  refine oC rfl (fun _=>?_) (fun hc=>by cases hc)
  refine gac ?_
  exact retF (by rw[hI];unfold isInner isDigit;rw[hl0,h95,h48];rfl) (hj2.trans hj) rfl
 have h48:decide (48≤cv a)=true:=by
  have:¬ cv a<48:=zf h10
  exact decide_eq_true zo
 refine gab ?_
 refine oP (Pure.sindex (c:=a) rfl rfl zo hget) rfl ?_
 refine gaa ?_
 refine oC rfl (fun h11=>?_) (fun h11=>?_)
 ·have h57:decide (cv a≤57)=false:=by
   have:57<cv a:=zt h11
   exact decide_eq_false zo
  refine gac ?_
  exact retF (by rw[hI];unfold isInner isDigit;rw[hl0,h95,h57,Bool.and_false];rfl) (hj2.trans hj) rfl
 ·have h57:decide (cv a≤57)=true:=by
   have:¬ 57<cv a:=zf h11
   exact decide_eq_true zo
  refine gad ?_
  refine next ?_ ?_ ?_ ?_ ?_
  ·rw[if_neg hp0];unfold isInner isDigit;rw[h48,h57];simp
  ·exact hj2.trans hj
  ·rfl
  ·rfl
  ·rfl
end
end Go.Proofs.YtpokklffoihafaaGreatDoor.Chk
namespace Go.GL
open Go.RowKit
section
variable {C:Ctx} {e:Env} {H:Heap} {dst:Option Nat} {ty:TypeId} {pos:String} {aft:Array Edge} {g:Option (Nat×Bool)} {K:LV→Heap→Prop} {X:List PanicEntry→Heap→Prop} {x y z:Operand} {k:IntKind}
theorem max_cast (a b:Nat):(if (a:Int)<(b:Int) then (b:Int) else (a:Int))=((max a b:Nat):Int):=by
 split <;> omega
theorem Pure.max2 {a b:Nat} (hx:e.ev x=int k (a:Int)) (hy:e.ev y=int k (b:Int)) {t u:TypeId}:Pure C ⟨dst,.call { callee:=.builtin .max,args:=#[x,y],argTypes:=#[t,u] },ty,pos,aft,g⟩ e H (int k ((max a b:Nat):Int)):=
 .of_any fun ρ _ _ h=>⟨_,rep_atom,fun w'=>by
  have h0:∀ (cs:Array Bool) (args:Array Value),builtin .max #[t,u] ty cs args=(do Pure.pure (.value (←Builtin.max_ #[t,u] ty args))):=fun _ _=>rfl
  rw[execOp_builtin',h0]
  have:=max_cast a b
  simp[Builtin.max_,Builtin.max2,atom_of h hx,atom_of h hy]
  split <;> omega⟩
theorem Pure.max3 {a b c:Nat} (hx:e.ev x=int k (a:Int)) (hy:e.ev y=int k (b:Int)) (hz:e.ev z=int k (c:Int)) {t u v:TypeId}:Pure C ⟨dst,.call { callee:=.builtin .max,args:=#[x,y,z],argTypes:=#[t,u,v] },ty,pos,aft,g⟩ e H (int k ((max (max a b) c:Nat):Int)):=
 .of_any fun ρ _ _ h=>⟨_,rep_atom,fun w'=>by
  have h0:∀ (cs:Array Bool) (args:Array Value),builtin .max #[t,u,v] ty cs args=(do Pure.pure (.value (←Builtin.max_ #[t,u,v] ty args))):=fun _ _=>rfl
  rw[execOp_builtin',h0]
  simp[Builtin.max_,Builtin.max2,atom_of h hx,atom_of h hy,atom_of h hz]
  repeat' split
  all_goals omega⟩
theorem Pure.max2e {A B:Int} (a b:Nat) (hx:e.ev x=int k A) (hy:e.ev y=int k B) (ha:A=(a:Int)) (hb:B=(b:Int)) {t u:TypeId}:Pure C ⟨dst,.call { callee:=.builtin .max,args:=#[x,y],argTypes:=#[t,u] },ty,pos,aft,g⟩ e H (int k ((max a b:Nat):Int)):=by
 subst ha hb
 exact Pure.max2 hx hy
theorem Pure.max3e {A B D:Int} (a b d:Nat) (hx:e.ev x=int k A) (hy:e.ev y=int k B) (hz:e.ev z=int k D) (ha:A=(a:Int)) (hb:B=(b:Int)) (hd:D=(d:Int)) {t u v:TypeId}:Pure C ⟨dst,.call { callee:=.builtin .max,args:=#[x,y,z],argTypes:=#[t,u,v] },ty,pos,aft,g⟩ e H (int k ((max (max a b) d:Nat):Int)):=by
 subst ha hb hd
 exact Pure.max3 hx hy hz
theorem Pure.eqlT {a b:Int} {xT yT:TypeId} (h:a=b) (hx:e.ev x=int k a) (hy:e.ev y=int k b):Pure C ⟨dst,.binOp .eql xT x y yT,ty,pos,aft,g⟩ e H (bool true):=by
 have:=Pure.eql (C:=C) (H:=H) (dst:=dst) (ty:=ty) (pos:=pos) (aft:=aft) (g:=g) (xT:=xT) (yT:=yT) hx hy
 rwa [decide_eq_true h] at this
theorem Pure.eqlF {a b:Int} {xT yT:TypeId} (h:¬ a=b) (hx:e.ev x=int k a) (hy:e.ev y=int k b):Pure C ⟨dst,.binOp .eql xT x y yT,ty,pos,aft,g⟩ e H (bool false):=by
 have:=Pure.eql (C:=C) (H:=H) (dst:=dst) (ty:=ty) (pos:=pos) (aft:=aft) (g:=g) (xT:=xT) (yT:=yT) hx hy
 rwa [decide_eq_false h] at this
def IsSet (m:KV) (l:List (List UInt8)):Prop:=∀ k,kvGet m k=if k∈l then some (bool true) else none
theorem IsSet.nil:IsSet [] []:=fun k=>by simp[kvGet]
theorem IsSet.add {m:KV} {l:List (List UInt8)} (h:IsSet m l) (s:List UInt8):IsSet (kvPut m s (bool true)) (l++[s]):=fun k=>by
 rw[kvGet_put,h k]
 by_cases h1:s=k
 ·rw[if_pos h1,if_pos (by rw[h1];simp)]
 ·rw[if_neg h1]
  by_cases h2:k∈l
  ·rw[if_pos h2,if_pos (List.mem_append_left _ h2)]
  ·rw[if_neg h2,if_neg (by
    intro h3
    rcases List.mem_append.1 h3 with h3|h3
    ·exact h2 h3
    ·exact h1 (List.mem_singleton.1 h3).symm)]
theorem Pure.setHas {t el:TypeId} {zv:Value} [h:TMap C.P t el zv (bool false)] {b clock:Nat} {m:KV} {l:List (List UInt8)} {s:List UInt8} (hm:e.ev x=.atom (.map (some b))) (hx:e.ev y=str s) (hb:(b,.map (kvs m) clock)∈H) (hs:IsSet m l) :
  Pure C ⟨dst,.lookup t x y false,ty,pos,aft,g⟩ e H (bool (decide (s∈l))):=by
 by_cases h1:s∈l
 ·rw[decide_eq_true h1]
  exact Pure.kvHit hm hx hb (by rw[hs s,if_pos h1])
 ·rw[decide_eq_false h1]
  exact Pure.kvMiss hm hx hb (by rw[hs s,if_neg h1])
end
end Go.GL
