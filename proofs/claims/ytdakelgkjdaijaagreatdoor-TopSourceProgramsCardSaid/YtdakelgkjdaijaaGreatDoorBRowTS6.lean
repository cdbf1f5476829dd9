/- Texts joined: AsmSpec, PeepLib, AsmA, PeepM, AsmB, AsmC, GlFour, MchSpec, InpSpec, ChkSpec, RtPrint. -/
import Derived.Lib.Strings
import Derived.Lib.SlTrimSet
import Derived.Lib.SplitLaws
import Derived.Shelf.Strings.SlTrimAscii
import Derived.Test.YtdakelgkjdaijaaGreatDoorBRowTS2
import Derived.Test.YtdakelgkjdaijaaGreatDoorBRowTS3
import Derived.Test.YtdakelgkjdaijaaGreatDoorBRowTS4
import Derived.Test.YtdakelgkjdaijaaGreatDoorBRowTS5
set_option linter.unusedVariables false
set_option linter.unusedSimpArgs false
set_option maxRecDepth 100000
set_option maxHeartbeats 4000000
namespace Go.Stele
open Go.Lib
def qe7 (n:Nat):Wd:=([48,48,48,48,48]++decDigits n).drop (([48,48,48,48,48]++decDigits n).length-6)
def qb2 (known:Wd->Nat) (w:Wd):Wd:=match refW w with
 |some x=>qe7 (known x)
 |none=>w
def addT (known:Wd->Nat) (t w:Wd):Wd:=match defW w with
 |some _=>t
 |none=>t++(if qdC t && qdw (qb2 known w) then [32] else [])++qb2 known w
def qo5 (known:Wd->Nat) (l:List Wd):Wd:=l.foldl (addT known) []
def qbL (known:Wd->Nat) (og:Nat) (s:Wd×List (Wd×Nat)) (w:Wd):Wd×List (Wd×Nat):=match defW w with
 |some x=>(s.1,s.2++[(x,og+s.1.length)])
 |none=>(addT known s.1 w,s.2)
def qlW (known:Wd->Nat) (og:Nat) (l:List Wd):List (Wd×Nat):=(l.foldl (qbL known og) ([],[])).2
def qhu (labs:List (Wd×Nat)) (x:Wd):Nat:=match labs.find? fun p=>decide (p.1=x) with
 |some p=>p.2
 |none=>0
def errT (all:List Wd):List Wd->List (Wd×Nat)->Nat×Nat
 |_,[]=>(0,0)
 |met,(w,ln)::r=>match defW w with
  |some x=>if x∈met then (ln,8) else errT all (met++[x]) r
  |none=>match refW w with
   |some x=>if x∈all then errT all met r else (ln,7)
   |none=>if qnR w=true then errT all met r else (ln,3)
def asmP (src:Wd) (og:Int):Except (Nat×Nat) (Wd×List (Wd×Nat)):=
 if og<0∨262144<=og then .error (0,2)
 else if (errT (defs (qbU src)) [] (qgp src)).2≠0 then .error (errT (defs (qbU src)) [] (qgp src))
 else if 40000<(qo5 (qhu (qlW (fun _=>0) og.toNat (qbU src))) (qbU src)).length then .error (0,6)
 else .ok (qo5 (qhu (qlW (fun _=>0) og.toNat (qbU src))) (qbU src),qlW (fun _=>0) og.toNat (qbU src))
theorem qiU (n:Nat):(qe7 n).length=6/\∀ c∈qe7 n,qaB c=true:=by
 have h1:1<=(decDigits n).length:=List.length_pos_iff.2 (qcF n);constructor
 ·unfold qe7;rw[List.length_drop,zLa];simp only[zLc,zLn];omega
 ·intro c hc;have h2:=List.mem_of_mem_drop hc;rcases List.mem_append.1 h2 with h|h
  ·simp only[zMi,List.not_mem_nil,or_false,or_self] at h;rw[h];decide
  ·exact qfR n c h
theorem qm6 {known:Wd->Nat} {w:Wd} (known':Wd->Nat):qdw (qb2 known w)=qdw (qb2 known' w)/\qdC (qb2 known w)=qdC (qb2 known' w)/\(qb2 known w).length=(qb2 known' w).length:=by
 unfold qb2
 cases refW w with
 |none=>exact ⟨rfl,rfl,rfl⟩
 |some x=>
  have key:∀ n,qdw (qe7 n)=true/\qdC (qe7 n)=true/\(qe7 n).length=6:=fun n=>by
   obtain ⟨h1,h2⟩:=qiU n;have hne:qe7 n≠[]:=fun h=>by rw[h] at h1;cases h1
   refine ⟨?_,?_,h1⟩
   ·cases h:qe7 n with
    |nil=>exact absurd h hne
    |cons c r=>exact h2 c (by rw[h];simp)
   ·unfold qdC;rw[List.getLast?_eq_some_getLast hne];exact h2 _ (List.getLast_mem hne)
  obtain ⟨a1,a2,a3⟩:=key (known x);obtain ⟨b1,b2,b3⟩:=key (known' x);exact ⟨a1.trans b1.symm,a2.trans b2.symm,a3.trans b3.symm⟩
theorem qq9 {a b:Wd} (h:b≠[]):qdC (a++b)=qdC b:=by
 unfold qdC;rw[List.getLast?_append,List.getLast?_eq_some_getLast h];try rfl
theorem qii (known:Wd->Nat) (t w:Wd) (hd:defW w=none) (hw:w≠[]):qb2 known w≠[]/\qdC (addT known t w)=qdC (qb2 known w)/\(addT known t w).length=t.length+one (qdC t && qdw (qb2 known w))+(qb2 known w).length:=by
 have hp:qb2 known w≠[]:=by
  unfold qb2
  cases refW w with
  |none=>exact hw
  |some x=>intro h;have:=(qiU (known x)).1;rw[show qe7 (known x)=[] from h] at this;cases this
 refine ⟨hp,?_,?_⟩
 ·unfold addT;rw[hd];exact qq9 hp
 ·unfold addT;rw[hd];simp only[zLa,one];split <;> rfl
theorem qju (known:Wd->Nat):∀ (l:List Wd) (t:Wd),(∀ w∈l,w≠[])->(l.foldl (addT known) t).length=t.length+lenW (qdC t) l
 |[],t,_=>rfl
 |w::r,t,h=>by
  have hr:=fun x hx=>h x (zMo w hx);rw[List.foldl_cons,qju known r _ hr,lenW]
  cases hd:defW w with
  |some x=>
   have:addT known t w=t:=by unfold addT;rw[hd]
   rw[this]
  |none=>
   obtain ⟨h1,h2,h3⟩:=qii known t w hd (h w (by simp));rw[h2,h3]
   cases hr:refW w with
   |some x=>
    have hp:qb2 known w=qe7 (known x):=by unfold qb2;rw[hr]
    obtain ⟨a1,a2⟩:=qiU (known x)
    have hf:qdw (qe7 (known x))=true:=by
     cases h:qe7 (known x) with
     |nil=>rw[h] at a1;cases a1
     |cons c q=>exact a2 c (by rw[h];simp)
    have hl:qdC (qe7 (known x))=true:=by
     have hne:qe7 (known x)≠[]:=fun h=>by rw[h] at a1;cases a1
     unfold qdC;rw[List.getLast?_eq_some_getLast hne];exact a2 _ (List.getLast_mem hne)
    rw[hp,hf,hl,a1,Bool.and_true];simp only
    omega
   |none=>
    have hp:qb2 known w=w:=by unfold qb2;rw[hr]
    rw[hp];simp only;omega
theorem qrz (known:Wd->Nat) (l:List Wd) (h:∀ w∈l,w≠[]):(qo5 known l).length=lenW false l:=by
 have:=qju known l [] h;rw[qo5,this];simp[qdC]
theorem qgJ (known:Wd->Nat) (og:Nat):∀ (l:List Wd) (s:Wd×List (Wd×Nat)),(l.foldl (qbL known og) s).1=l.foldl (addT known) s.1
 |[],s=>rfl
 |w::r,s=>by
  rw[List.foldl_cons,List.foldl_cons,qgJ known og r];congr 1;unfold qbL
  cases hd:defW w with
  |some x=>simp only;unfold addT;rw[hd]
  |none=>rfl
theorem qlp (known known':Wd->Nat) (og:Nat):∀ (l:List Wd) (s s':Wd×List (Wd×Nat)),(∀ w∈l,w≠[])->s.1.length=s'.1.length->qdC s.1=qdC s'.1->s.2=s'.2->(l.foldl (qbL known og) s).2=(l.foldl (qbL known' og) s').2
 |[],s,s',_,_,_,h=>h
 |w::r,s,s',hw,h1,h2,h3=>by
  rw[List.foldl_cons,List.foldl_cons];have hr:=fun x hx=>hw x (zMo w hx)
  cases hd:defW w with
  |some x=>
   have e1:qbL known og s w=(s.1,s.2++[(x,og+s.1.length)]):=by unfold qbL;rw[hd]
   have e2:qbL known' og s' w=(s'.1,s'.2++[(x,og+s'.1.length)]):=by unfold qbL;rw[hd]
   rw[e1,e2]
   exact qlp known known' og r _ _ hr h1 h2 (by simp only[h3,h1])
  |none=>
   have e1:qbL known og s w=(addT known s.1 w,s.2):=by unfold qbL;rw[hd]
   have e2:qbL known' og s' w=(addT known' s'.1 w,s'.2):=by unfold qbL;rw[hd]
   rw[e1,e2];obtain ⟨a1,a2,a3⟩:=qii known s.1 w hd (hw w (by simp));obtain ⟨b1,b2,b3⟩:=qii known' s'.1 w hd (hw w (by simp));obtain ⟨c1,c2,c3⟩:=qm6 (known:=known) (w:=w) known';exact qlp known known' og r _ _ hr (by rw[a3,b3,c1,c3,h1,h2]) (by rw[a2,b2,c2]) h3
theorem qrs (known known':Wd->Nat) (og:Nat) (l:List Wd) (h:∀ w∈l,w≠[]):qlW known og l=qlW known' og l:=qlp known known' og l _ _ h rfl rfl rfl
theorem qiT (known:Wd->Nat) (og:Nat):∀ (l:List Wd) (s:Wd×List (Wd×Nat)),((l.foldl (qbL known og) s).2).map (·.1)=s.2.map (·.1)++defs l
 |[],s=>by simp[defs]
 |w::r,s=>by
  rw[List.foldl_cons,qiT known og r];unfold qbL defs
  cases hd:defW w with
  |some x=>simp[hd]
  |none=>simp[hd]
end Go.Stele
namespace Go.Stele
open Go.Lib
def qfe:List UInt8:=[97,98,99,100,101,102,103,104,105,106,107,108,109,110,111,112,113,114,115,116,117,118,119,120,121,122,48,49,50,51,52,53,54,55,56,57,95]
theorem qlo:∀ n:Nat,n<256->qfe.contains (UInt8.ofNat n)=qaM (UInt8.ofNat n):=by decide +kernel
theorem qrk (c:UInt8):qfe.contains c=qaM c:=by
 have h:=qlo c.toNat c.toNat_lt
 rwa [UInt8.ofNat_toNat] at h
theorem qbW {p:UInt8->Bool}:∀ {l:List UInt8},l.dropWhile p=[] ↔ l.all p=true
 |[]=>by simp
 |c::l=>by
  rw[List.dropWhile_cons,List.all_cons]
  cases h:p c with
  |true=>simpa using qbW
  |false=>simp
theorem qtj (s:List UInt8):(trimS s qfe=[]) ↔ s.all qaM=true:=by
 have he:(fun c=>qfe.contains c)=qaM:=funext qrk;unfold trimS trimLeftS trimRightS;rw[he,qbW];constructor
 ·intro h
  by_cases h2:s.reverse.dropWhile qaM=[]
  ·rw[qbW] at h2;rw[List.all_reverse] at h2;exact h2
  ·exfalso;obtain ⟨c,r,hcr⟩:=List.exists_cons_of_ne_nil h2
   have h3:qaM c=false:=by
    have:=List.head?_dropWhile_not qaM s.reverse;rw[hcr] at this;simpa using this
   rw[hcr,List.all_reverse,List.all_cons,h3] at h;cases h
 ·intro h;have h2:s.reverse.dropWhile qaM=[]:=by rw[qbW,List.all_reverse];exact h
  rw[h2]
  try rfl
theorem qrh (r:List UInt8):hasPrefix (38::r) [38]=true/\trimPrefix (38::r) [38]=r:=by
 simp[trimPrefix,hasPrefix,List.isPrefixOf]
theorem qtH {c:UInt8} (h:c≠38) (r:List UInt8):hasPrefix (c::r) [38]=false:=by
 have:¬ (38:UInt8)=c:=fun e=>h e.symm;simp[hasPrefix,List.isPrefixOf,this]
theorem qul (w:Wd):refW w=if hasPrefix w [38]=true/\qlF (trimPrefix w [38])=true then some (trimPrefix w [38]) else none:=by
 cases w with
 |nil=>rfl
 |cons c r=>
  by_cases h:c=38
  ·subst h;rw[(qrh r).1,(qrh r).2];simp[refW]
  ·rw[qtH h];simp[refW,h]
theorem qkd (w:Wd):hasSuffix w [58]=decide (w.getLast? = some 58):=by
 unfold hasSuffix;rw[Bool.eq_iff_iff,List.isSuffixOf_iff_suffix,decide_eq_true_iff];constructor
 ·rintro ⟨t,rfl⟩
  simp
 ·intro h;rw[List.getLast?_eq_some_iff] at h;obtain ⟨t,rfl⟩:=h;exact ⟨t,rfl⟩
theorem quw (w:Wd):defW w=if hasSuffix w [58]=true/\qlF (trimSuffix w [58])=true then some (trimSuffix w [58]) else none:=by
 rw[qkd];unfold defW
 by_cases h:w.getLast? = some 58
 ·have h2:trimSuffix w [58]=w.dropLast:=by
   unfold trimSuffix;rw[qkd,decide_eq_true h,if_pos rfl,List.dropLast_eq_take]
   try rfl
  rw[h2];simp[h]
 ·simp[h]
end Go.Stele
namespace Go.GL
open Go.RowKit
theorem qaU:∀ l:List (List UInt8),qds 1 (l.map str)
 |[]=>eN
 |a::l=>eC rfl rfl (qaU l)
theorem LCalls.ret_strs {C:Ctx} {f:FuncId} {vs:List Value} {l:List (List UInt8)} {t:TypeId}
  (h:∀ w,Below C.B0 C.w0 w->Calls C.P f vs.toArray w (fun e w'=>e=.returned (.slice (some ⟨w.heap.size,0,none⟩) l.length l.length)/\w'=w.alloc (.cells (l.map fun s=>Value.string ⟨s.toArray⟩).toArray t))):LCalls C f (vs.map .atom) [] (Ret (.list (l.map str))):=fun xs w L hv hH=>by
 have hx:xs=vs:=by
  clear h hH
  induction vs generalizing xs with
  |nil=>simpa [RepL] using hv
  |cons v vs ih=>
   simp only[zMc,RepL,Rep] at hv;obtain ⟨y,ys,rfl,rfl,hv⟩:=hv;rw[ih _ hv]
 subst hx;refine (h w hH.base).mono fun e w' he=>?_;obtain ⟨rfl,rfl⟩:=he
 have hr:RepL w L (l.map str) (l.map fun s=>Value.string ⟨s.toArray⟩):=by
  have:=qaT (w:=w) (L:=L) (l.map fun s=>Value.string ⟨s.toArray⟩);rw[List.map_map] at this;exact this
 have hok:qds 1 (l.map str):=qaU l;have hl:(l.map str).length=l.length:=zLm _;have:=qja (K:=fun lv H=>∃ b,lv=.app b l.length 1 (l.map str)) (t:=t) (cap:=l.length) (rest:=[]) hH hr hok zo (by simp) fun b=>⟨b,rfl⟩
 have e1:((l.map fun s=>Value.string ⟨s.toArray⟩).flatMap fun v=>v.cells.toList)++[]=l.map fun s=>Value.string ⟨s.toArray⟩:=by
  rw[zLz];clear this hok hr h hv hl
  induction l with
  |nil=>rfl
  |cons a l ih=>rw[zMc,List.flatMap_cons,ih];try rfl
 rw[e1,hl] at this;obtain ⟨lv,H',L',r1,r2,r3,b,rfl⟩:=this;exact ⟨.list (l.map str),[],L',r1.weak zhn,r2.weak zhn,LV.Sub.app _ _ _ _ _ _ _ r3,rfl,rfl⟩
end Go.GL
namespace Go.Proofs.YtdakelgkjdaijaaGreatDoor
open Go.GL Go.RowKit Go.Stele
namespace Asm
def GM (w0:World):Prop:=∃ m,w0.cell? ⟨0,0,none⟩=some (.int .i64 m)
theorem qfV {w:World} {L:Live} {b:Nat}:∀ (k off:Nat) (ws:List (List UInt8)),qai w L b k off (ws.map str)->∀ (j:Nat) x,(ws.map fun l=>(⟨l.toArray⟩:ByteArray))[j]? = some x->k=1/\w.cell? ⟨b,off+j,none⟩=some (.string x)
 |k,off,[],_,j,x,h=>by simp at h
 |k,off,s::ws,h,0,x,hx=>by
  simp only[zMc,qai] at h;obtain ⟨⟨hk,_,y,hy,hr⟩,_⟩:=h;simp only[Rep] at hr;simp at hx;rw[<-hx,Nat.add_zero,hy,hr]
  exact ⟨hk.symm,rfl⟩
 |k,off,s::ws,h,j+1,x,hx=>by
  simp only[zMc,qai] at h;obtain ⟨⟨hk,_⟩,h2⟩:=h;have:=qfV k (off+k) ws h2 j x (by simpa using hx);refine ⟨hk.symm,?_⟩;rw[<-this.2,<-hk,Nat.add_assoc,Nat.add_comm 1 j]
section
variable {B0:Nat} {w0:World}
theorem cutPrefix_spec (s p:List UInt8):LCalls (KC B0 w0) 69 [str s,str p] [] (Ret (.tuple [str (Go.Lib.trimPrefix s p),bool (Go.Lib.hasPrefix s p)])):=by
 refine LCalls.mono (LCalls.of_belowT (vs:=[.string ⟨s.toArray⟩,.string ⟨p.toArray⟩]) (p:=fun us=>us=[.string ⟨(Go.Lib.trimPrefix s p).toArray⟩,.bool (Go.Lib.hasPrefix s p)]) fun w hw=>?_) ?_
 ·refine (Tryz.strings_CutPrefix ⟨s.toArray⟩ ⟨p.toArray⟩ w).mono fun e w' he=>⟨_,he.1,rfl,by rw[he.2];exact Below.refl _ _⟩
 ·rintro r H ⟨v,rfl,⟨us,rfl,rfl⟩,rfl⟩;exact ⟨rfl,rfl⟩
theorem cutSuffix_spec (s p:List UInt8) (hs:s.length<=1000000000):LCalls (KC B0 w0) 150 [str s,str p] [] (Ret (.tuple [str (Go.Lib.trimSuffix s p),bool (Go.Lib.hasSuffix s p)])):=by
 refine LCalls.mono (LCalls.of_belowT (vs:=[.string ⟨s.toArray⟩,.string ⟨p.toArray⟩]) (p:=fun us=>us=[.string ⟨(Go.Lib.trimSuffix s p).toArray⟩,.bool (Go.Lib.hasSuffix s p)]) fun w hw=>?_) ?_
 ·refine (Tryz.strings_CutSuffix ⟨s.toArray⟩ ⟨p.toArray⟩ w (by show s.toArray.size<=_;simp;omega)).mono fun e w' he=>⟨_,he.1,rfl,by rw[he.2];exact Below.refl _ _⟩
 ·rintro r H ⟨v,rfl,⟨us,rfl,rfl⟩,rfl⟩;exact ⟨rfl,rfl⟩
theorem joinS_spec (sep:List UInt8) (ws:List (List UInt8)) (hn:ws.length<=1000000000) (hl:(Go.Lib.join ws sep).length<=1000000000):LCalls (KC B0 w0) 16 [.list (ws.map str),str sep] [] (Ret (str (Go.Lib.join ws sep))):=fun xs w L hv hH=>by
 simp only[RepL] at hv;obtain ⟨y,ys,rfl,hy,z,zs,rfl,hz,rfl⟩:=hv;simp only[Rep] at hy hz;obtain ⟨a,cap,rfl,hcap,hrows⟩:=hy;subst hz;rw[zLm] at hcap
 have hmap:(ws.map fun l=>(⟨l.toArray⟩:ByteArray)).map (·.data.toList)=ws:=by
  rw[List.map_map]
  conv=>rhs;rw[<-List.map_id ws]
  rfl
 have hc:Calls Tryz.prog 16 #[.slice a ws.length cap,.string ⟨sep.toArray⟩] w fun e w'=>e=.returned (.string ⟨(Go.Lib.join ws sep).toArray⟩)/\Below w.heap.size w w':=by
  by_cases hne:ws=[]
  ·subst hne;exact (Tryz.strings_Join_none a cap ⟨sep.toArray⟩ w).mono fun e w' he=>⟨by rw[he.1];try rfl,by rw[he.2];exact Below.refl _ _⟩
  ·exact zT7
 rw[zLm];refine hc.mono fun e w' he=>?_;obtain ⟨rfl,hb⟩:=he;obtain ⟨h1,h2⟩:=qgX hH hb;exact ⟨str (Go.Lib.join ws sep),[],L,h1,h2,qah,rfl,rfl⟩
theorem GM.at (hG:GW B0 w0) (h:GM w0) {w:World} (hb:Below B0 w0 w):∃ m,w.cell? ⟨0,0,none⟩=some (.int .i64 m):=by
 obtain ⟨m,hm⟩:=h;exact ⟨m,(cell_of_heap (hb.block 0 (Nat.lt_of_lt_of_le zDd hG.big)) 0).trans hm⟩
theorem qkv (hG:GW B0 w0) (hM:GM w0) (s:List UInt8) (c:UInt8) (hs:s.length<=1000000000):LCalls (KC B0 w0) 89 [str s,str [c]] [] (Ret (.list ((qaS c s).map str))):=by
 rw[<-qsn];refine LCalls.ret_strs (vs:=[.string ⟨s.toArray⟩,.string ⟨#[c]⟩]) (t:=9) fun w hw=>?_;obtain ⟨m,hm⟩:=GM.at hG hM hw;have h1:=Tryz.strings_Split ⟨s.toArray⟩ ⟨#[c]⟩ m w (by show s.toArray.size<_;simp;omega) hm (zNr 1)
 have e1:(Go.Lib.splitB ⟨#[c]⟩ 0 (Go.Lib.countB ⟨s.toArray⟩ ⟨#[c]⟩) ⟨s.toArray⟩).map Value.string=(Go.Lib.split s [c]).map fun s=>Value.string ⟨s.toArray⟩:=by
  have:=Go.Lib.splitB_data ⟨#[c]⟩ 0 (Go.Lib.countB ⟨s.toArray⟩ ⟨#[c]⟩) ⟨s.toArray⟩;have e2:Go.Lib.split s [c]=Go.Lib.splitK (⟨#[c]⟩:ByteArray).data.toList 0 (Go.Lib.countB ⟨s.toArray⟩ ⟨#[c]⟩) (⟨s.toArray⟩:ByteArray).data.toList:=rfl;rw[e2,<-this,List.map_map]
  try rfl
 have e3:(Go.Lib.split s [c]).length=Go.Lib.countB ⟨s.toArray⟩ ⟨#[c]⟩+1:=by
  have:=congrArg List.length e1;rw[zLm,zLm,Go.Lib.splitB_all ⟨#[c]⟩ (zNr 1) 0 _ _ rfl] at this;exact this.symm
 rw[e1] at h1;rw[e3];exact h1
theorem qt7 (hG:GW B0 w0) (hM:GM w0) (s:List UInt8) (c:UInt8) (hs:s.length<=1000000000):LCalls (KC B0 w0) 90 [str s,str [c]] [] (qgz fun lv=>∃ a b,lv=.tuple [str (s.takeWhile fun d=>decide (d≠c)),str a,bool b]):=by
 rw[<-qvl];refine LCalls.mono (LCalls.of_belowT (vs:=[.string ⟨s.toArray⟩,.string ⟨#[c]⟩]) (p:=fun us=>us=[.string ⟨(Go.Lib.cut s [c]).1.toArray⟩,.string ⟨(Go.Lib.cut s [c]).2.1.toArray⟩,.bool (Go.Lib.cut s [c]).2.2]) fun w hw=>?_) ?_
 ·obtain ⟨m,hm⟩:=GM.at hG hM hw;refine (Tryz.strings_Cut ⟨s.toArray⟩ ⟨#[c]⟩ m w (by show s.toArray.size<_;simp;omega) hm).mono fun e w' he=>?_;obtain ⟨rfl,n,rfl⟩:=he;exact ⟨_,rfl,rfl,below_drewN (Below.refl _ _) n⟩
 ·rintro r H ⟨v,rfl,⟨us,rfl,rfl⟩,rfl⟩;exact ⟨_,rfl,⟨_,_,rfl⟩,rfl⟩
def qcg (p:Wd×Nat):LV:=.agg [str p.1,int .i64 p.2]
end
def qk8:List UInt8:=[97,98,99,100,101,102,103,104,105,106,107,108,109,110,111,112,113,114,115,116,117,118,119,120,121,122,95,48,49,50,51,52,53,54,55,56,57]
theorem qpV (c:UInt8):qk8.contains c=qaM c:=by
 have:∀ n:Nat,n<256->qk8.contains (UInt8.ofNat n)=qaM (UInt8.ofNat n):=by decide +kernel
 have h:=this c.toNat c.toNat_lt
 rwa [UInt8.ofNat_toNat] at h
theorem qoJ {st:List UInt8} {p:UInt8->Bool} (he:∀ c,st.contains c=p c) (s:List UInt8):(Go.Lib.trimS s st=[]) ↔ s.all p=true:=by
 have he:(fun c=>st.contains c)=p:=funext he;unfold Go.Lib.trimS Go.Lib.trimLeftS Go.Lib.trimRightS;rw[he,qbW];constructor
 ·intro h
  by_cases h2:s.reverse.dropWhile p=[]
  ·rw[qbW] at h2;rw[List.all_reverse] at h2;exact h2
  ·exfalso;obtain ⟨c,r,hcr⟩:=List.exists_cons_of_ne_nil h2
   have h3:p c=false:=by
    have:=List.head?_dropWhile_not p s.reverse;rw[hcr] at this;simpa using this
   rw[hcr,List.all_reverse,List.all_cons,h3] at h;cases h
 ·intro h;have h2:s.reverse.dropWhile p=[]:=by rw[qbW,List.all_reverse];exact h
  rw[h2]
  try rfl
def qbh (o:Option Wd) (lv:LV):Prop:=∃ s,lv=.tuple [str s,bool o.isSome]/\∀ l,o=some l->s=l
theorem qbh.mk {o:Option Wd} {s:Wd} {b:Bool} (hb:o.isSome=b) (hs:∀ l,o=some l->s=l):qbh o (.tuple [str s,bool b]):=⟨s,by rw[hb],hs⟩
theorem qbu {p q:Bool} {s:Wd} {o:Option Wd} (h:o=if p=true/\q=true then some s else none):o.isSome=(p && q)/\∀ l,o=some l->s=l:=by
 subst h;cases p <;> cases q <;> simp
attribute [local irreducible] LOps qae qad LCalls Go.GL.Pure qax qaj qac LQ LAny qaE qal
section
variable {B0:Nat} {w0:World}
theorem qoP (s st:List UInt8) (hs:s.length<=1000000000) (h1:st.length<=100) (h3:st.all (fun b=>decide (b.toNat<128))=true):LCalls (KC B0 w0) 147 [str s,str st] [] (Ret (str (Go.Lib.trimS s st))):=
 LCalls.ret_of (vs:=[.string ⟨s.toArray⟩,.string ⟨st.toArray⟩]) fun w hw=>(Go.Proofs.Any.strings_Trim_laid Tryz.lays160 (by kernel_rfl) ⟨s.toArray⟩ ⟨st.toArray⟩ w (by show s.toArray.size<=_;simp;omega) (by show st.toArray.size<_;simp;omega) (Go.Proofs.ascii_of_all h3))
theorem qmG (s:List UInt8) (hs:s.length<=1000000000):LCalls (KC B0 w0) 168 [str s] [] (Ret (bool (qlF s))):=by
 have hT:=qoP (B0:=B0) (w0:=w0) s qk8 hs zDd zDd;have hnil:=qoJ qpV s;refine cI Tryz.func168 rfl (n:=23) rfl rfl rfl ?_;refine gaa ?_;refine oB 5 rfl (fun h1=>?_) (fun h1=>?_)
 ·have e:s=[]:=of_decide_eq_true h1;subst e;refine gab ?_;refine oC rfl (fun h=>?_) (fun h=>by cases h);refine gar ?_;exact qaf rfl (rC (rT (v:=.atom _) rfl (vR _)) rN) rfl
 have h1':¬ s=[]:=of_decide_eq_false h1
 obtain ⟨c,r,rfl⟩:∃ c r,s=c::r:=by
  cases s with
  |nil=>exact absurd rfl h1'
  |cons c r=>exact ⟨c,r,rfl⟩
 have hN:=qtf c r;refine gad ?_;refine oB 10 rfl (fun h2=>?_) (fun h2=>?_)
 ·have h2':¬ (c::r).length<=40:=by have:=of_decide_eq_true h2;omega
  rw[decide_eq_false h2',Bool.false_and,Bool.false_and] at hN;refine gab ?_;refine oC rfl (fun h=>?_) (fun h=>by cases h);refine gar ?_;exact qaf rfl (rC (rT (v:=.atom _) rfl (vR _)) rN) (qas hN.symm)
 have h2':(c::r).length<=40:=by have:=of_decide_eq_false h2;omega
 rw[decide_eq_true h2',Bool.true_and] at hN;refine gab ?_;refine oP (pI (c:=c) rfl rfl (by omega) rfl) rfl ?_;refine gab ?_;refine oB 15 rfl (fun h3=>?_) (fun h3=>?_)
 ·have h3':qaV c=false:=by
   unfold qaV;rw[decide_eq_false (by have:cv c<97:=of_decide_eq_true h3;omega),Bool.false_and]
  rw[h3',Bool.false_and] at hN;refine gab ?_;refine oC rfl (fun h=>?_) (fun h=>by cases h);refine gar ?_;exact qaf rfl (rC (rT (v:=.atom _) rfl (vR _)) rN) (qas hN.symm)
 refine gab ?_;refine oP (pI (c:=c) rfl rfl (by omega) rfl) rfl ?_;refine gad ?_;refine oC rfl (fun h=>?_) (fun h=>?_)
 ·have h3':qaV c=false:=by
   unfold qaV;rw[decide_eq_false (p:=cv c<=122) (by have:cv c > 122:=of_decide_eq_true h;omega),Bool.and_false]
  rw[h3',Bool.false_and] at hN;refine gar ?_;exact qaf rfl (rC (rT (v:=.atom _) rfl (vR _)) rN) (qas hN.symm)
 have h3':qaV c=true:=by
  unfold qaV;rw[decide_eq_true (by have:¬ cv c<97:=of_decide_eq_false h3;omega),decide_eq_true (by have:¬ cv c > 122:=of_decide_eq_false h;omega)]
  try rfl
 rw[h3',Bool.true_and] at hN;refine gaa ?_;refine oS (sF [_,_] rfl hT ?_) rfl;refine gab ?_
 exact qaf rfl (rC (rT (v:=.atom _) rfl (vR _)) rN) (qas (by
  rw[hN,Bool.eq_iff_iff,decide_eq_true_iff]
  exact hnil))
theorem qgg (p:Wd×Nat) (hs:p.1.length<=1000000000):LCalls (KC B0 w0) 91 [qcg p] [] (qgz (qbh (defW p.1))):=by
 obtain ⟨w,ln⟩:=p;simp only at hs ⊢;obtain ⟨r1,r2⟩:=qbu (quw w)
 have hlen:(Go.Lib.trimSuffix w [58]).length<=1000000000:=by
  unfold Go.Lib.trimSuffix;split
  ·rw[List.length_take];omega
  ·exact hs
 unfold qcg;refine cI Tryz.func91 rfl (n:=18) rfl rfl rfl ?_;refine gah ?_;refine oS (sB (cs:=[str w,int .i64 ln]) rfl fun b1=>?_) rfl;refine gaa ?_;refine oS (sF [_,_] rfl (cutSuffix_spec w [58] hs) ?_) rfl;refine gau ?_;refine oB 14 rfl (fun h=>?_) (fun h=>?_)
 ·exact zT30
 ·rw[h,Bool.false_and] at r1;refine gab ?_;exact qb0 rfl (rC (rT (v:=.atom _) rfl (vR _)) (rC (rT (v:=.atom _) rfl (vR _)) rN)) (qbh.mk r1 r2)
theorem qi3 (p:Wd×Nat) (hs:p.1.length<=1000000000):LCalls (KC B0 w0) 92 [qcg p] [] (qgz (qbh (refW p.1))):=by
 obtain ⟨w,ln⟩:=p;simp only at hs ⊢;obtain ⟨r1,r2⟩:=qbu (qul w)
 have hlen:(Go.Lib.trimPrefix w [38]).length<=1000000000:=by
  unfold Go.Lib.trimPrefix;split
  ·rw[List.length_drop];omega
  ·exact hs
 unfold qcg;refine cI Tryz.func92 rfl (n:=18) rfl rfl rfl ?_;refine gah ?_;refine oS (sB (cs:=[str w,int .i64 ln]) rfl fun b1=>?_) rfl;refine gaa ?_;refine oS (sF [_,_] rfl (cutPrefix_spec w [38]) ?_) rfl;refine gau ?_;refine oB 14 rfl (fun h=>?_) (fun h=>?_)
 ·exact zT30
 ·rw[h,Bool.false_and] at r1;refine gab ?_;exact qb0 rfl (rC (rT (v:=.atom _) rfl (vR _)) (rC (rT (v:=.atom _) rfl (vR _)) rN)) (qbh.mk r1 r2)
theorem qmK (p:Wd×Nat) (hs:p.1.length<=1000000000):LCalls (KC B0 w0) 93 [qcg p] [] (Ret (bool (qnR p.1))):=by
 obtain ⟨w,ln⟩:=p;simp only at hs ⊢;have hT:=qoP (B0:=B0) (w0:=w0) w qld hs zDd zDd;have hnil:(Go.Lib.trimS w qld=[]) ↔ qnR w=true:=qoJ (p:=fun c=>qld.contains c) (fun c=>rfl) w;unfold qcg;refine cI Tryz.func93 rfl (n:=7) rfl rfl rfl ?_;refine gah ?_;refine oS (sB (cs:=[str w,int .i64 ln]) rfl fun b1=>?_) rfl;refine gaa ?_;refine oS (sF [_,_] rfl hT ?_) rfl;refine gab ?_
 exact qaf rfl (rC (rT (v:=.atom _) rfl (vR _)) rN) (qas (by
  rw[Bool.eq_iff_iff,decide_eq_true_iff]
  exact hnil))
theorem qg2 (c:UInt8):LCalls (KC B0 w0) 96 [int .u8 c.toNat] [] (Ret (bool (qaB c))):=by
 have hD:qaB c=(decide (48<=cv c) && decide (cv c<=57)):=rfl;refine cI Tryz.func96 rfl (n:=9) rfl rfl rfl ?_;refine gac ?_;refine oB 5 rfl (fun h=>?_) (fun h=>?_)
 ·have h':cv c ≥ 48:=of_decide_eq_true h;rw[decide_eq_true (show 48<=cv c from h'),Bool.true_and] at hD;refine gav ?_;exact qaf rfl (rC (rT (v:=.atom _) rfl (vR _)) rN) (qas hD.symm)
 ·have h':¬ cv c ≥ 48:=of_decide_eq_false h;rw[decide_eq_false (show ¬ 48<=cv c from h'),Bool.false_and] at hD;refine gab ?_;exact qaf rfl (rC (rT (v:=.atom _) rfl (vR _)) rN) (qas hD.symm)
theorem qfG (hG:GW B0 w0) (n:Nat) (hn:n<=1000000000000):LCalls (KC B0 w0) 95 [int .i64 n] [] (Ret (str (qe7 n))):=by
 have hi:=qcP hG n (by omega);have hne:=qcF n
 have hl:(Go.Lib.decDigits n).length<=20:=by
  rw[Go.Lib.decDigits_length];exact zNt (qfN 12 n (by omega)) zDd
 have hA:qe7 n=([48,48,48,48,48]++Go.Lib.decDigits n).drop (([48,48,48,48,48]++Go.Lib.decDigits n).length-6):=rfl;generalize Go.Lib.decDigits n=d at hi hne hl hA;have hpos:=List.length_pos_iff.2 hne;have hsl:([48,48,48,48,48]++d:List UInt8).length=d.length+5:=by simp
 refine cI Tryz.func95 rfl (n:=12) rfl rfl rfl ?_;refine gao ?_;refine oS (sF [_] rfl hi ?_) rfl;refine gac ?_;refine oP (Pure.sslice (l:=[48,48,48,48,48]++d) (i:=(([48,48,48,48,48]++d:List UInt8).length:Int)-6) (j:=(([48,48,48,48,48]++d:List UInt8).length:Int)) rfl ⟨_,rfl⟩ rfl (by omega) (by omega) (by omega)) rfl ?_;refine gaf ?_
 exact qaf rfl (rC (rT (v:=.atom _) rfl (vR _)) rN) (by
  rw[hA];have e1:(((([48,48,48,48,48]++d:List UInt8).length:Nat):Int)-6).toNat=([48,48,48,48,48]++d:List UInt8).length-6:=by omega
  show str (List.drop (((([48,48,48,48,48]++d:List UInt8).length:Nat):Int)-6).toNat (List.take ((([48,48,48,48,48]++d:List UInt8).length:Nat):Int).toNat ([48,48,48,48,48]++d)))=_
  rw[e1,Int.toNat_natCast,List.take_length])
theorem qiX (b:Nat) (l:List UInt8) (H:Heap) (hB:BH b l H):LCalls (KC B0 w0) 94 [ptr b 0] H (fun r H'=>r=.ret (int .i64 l.length)/\H'=H):=by
 obtain ⟨p,v,Hv,hp,hacc,rfl⟩:=hB;refine cI Tryz.func94 rfl (n:=8) rfl rfl rfl ?_;refine gaa ?_;refine oP (Pure.blen rfl hacc) rfl ?_;refine gaf ?_;exact rR rfl (rC (rT (v:=.atom _) rfl (vR _)) rN) (zhR _) ⟨rfl,rfl⟩
theorem qjY (b:Nat) (l:List UInt8) (c:UInt8) (H:Heap) (hB:BH b l H) (hlen:l.length<=10000000000):LCalls (KC B0 w0) 97 [ptr b 0,int .u8 c.toNat] H (fun r H'=>(∃ x,r=.ret x)/\BH b (l++[c]) H'):=by
 obtain ⟨p,v,Hv,hp,hacc,rfl⟩:=hB;refine cI Tryz.func97 rfl (n:=17) rfl rfl rfl ?_;refine gao ?_;refine oS (S.callH (H1:=[(b,_)]) (F:=Hv) [_] rfl (List.Perm.refl _) (qf9 b p (.atom v) hp) (fun x H' h=>?_) (fun ch H' h=>?_)) rfl
 ·obtain ⟨⟨x',hx'⟩,rfl⟩:=h;cases hx';refine gaa ?_;refine zQ2 ?_;refine oS (S.appBL1 (q:=(b,.cells 70 [ptr b 0,.atom v])) (l:=l) (m:=[c]) rfl hacc rfl (by simp) (by simp;omega) fun v' H' hacc'=>?_) rfl;refine gab ?_;have hacc2:=hacc';generalize l++[c]=lm at hacc' hacc2 ⊢
  cases hacc' with
  |nil=>
   refine gac ?_
   exact rR rfl (rC (rT (v:=.atom _) rfl (vR _)) rN) (zhR _) ⟨⟨_,rfl⟩,ptr b 0,_,_,.inr rfl,hacc2,rfl⟩
  |row h0 h1 h2=>
   refine gac ?_;exact rR rfl (rC (rT (v:=.atom _) rfl (vR _)) rN) (zhR _) ⟨⟨_,rfl⟩,ptr b 0,_,_,.inr rfl,hacc2,rfl⟩
 ·obtain ⟨⟨x',hx'⟩,_⟩:=h;cases hx'
end
end Asm
end Go.Proofs.YtdakelgkjdaijaaGreatDoor
namespace Go.GL
variable {C:Ctx} {dst:Option Nat} {ty:TypeId} {pos:String} {aft:Array Edge} {g:Option (Nat×Bool)} {e:Env} {H:Heap} {K:LV->Heap->Prop} {X:List PanicEntry->Heap->Prop}
theorem S.setPut {t kt el:TypeId} (ht:C.P.underlying t=some (.map kt el)) (hkt:C.P.underlying kt=some .string) {b clock:Nat} {es:Array MapEntry} {p:List UInt8->Bool} {F:Heap} {m z:Operand} {x:Operand} {k:List UInt8} (hm:e.ev m=.atom (.map (some b))) (hx:e.ev x=str k) (hz:e.ev z=bool true)
  (hp:Pick (b,.obj (.map es clock)) H F) (hs:SetMap es p) (hk:∀ es' clock',SetMap es' (fun s=>p s || decide (s=k))->K (.atom undef) ((b,.obj (.map es' clock'))::F)):qad C ⟨dst,.mapUpdate t m x z,ty,pos,aft,g⟩ e H K X:=
 fun ρ w L h hH=>(S.setAdd (dst:=dst) (ty:=ty) (pos:=pos) (aft:=aft) (g:=g) (X:=X) ht hkt hm hx hz hp hs hk) ρ w L h hH
end Go.GL
namespace Go.Proofs.YtdakelgkjdaijaaGreatDoor.Asm
open Go.GL Go.RowKit Go.Stele
abbrev txt (l:List (Wd×Nat)):List Wd:=l.map (·.1)
theorem qn2 {l:List (Wd×Nat)} {i:Nat} (h:i<l.length):txt (l.take (i+1))=txt (l.take i)++[l[i].1]:=by
 unfold txt;rw[List.take_succ_eq_append_getElem h,zMa];rfl
theorem qjR {a:List Wd} {w d:Wd} (h:defW w=some d):defs (a++[w])=defs a++[d]:=by
 rw[qo2,qiB,h];rfl
theorem qiH {a:List Wd} {w:Wd} (h:defW w=none):defs (a++[w])=defs a:=by
 rw[qo2,qsw h];simp[defs]
theorem set_nil:SetMap #[] (fun s=>decide (s∈([]:List Wd))):=⟨fun e he=>by simp at he,fun s h=>by simp at h⟩
theorem qnZ {es:Array MapEntry} {ds:List Wd} {d:Wd} (h:SetMap es (fun s=>decide (s∈ds) || decide (s=d))):SetMap es (fun s=>decide (s∈ds++[d])):=
 cast (congrArg (SetMap es) (funext fun s=>by simp)) h
attribute [local irreducible] LOps qae qad LCalls Go.GL.Pure qax qaj qac LQ LAny qaE qal
section
variable {B0:Nat} {w0:World}
theorem tokens_spec (hG:GW B0 w0) (hM:GM w0) (s:List UInt8) (hs:s.length<=400000000):LCalls (KC B0 w0) 49 [str s] [] (Ret (.list ((qgp s).map qcg))):=by
 have hP:qgp s=qj5 0 (qaS 10 s):=rfl;have hpl:=qhl 10 s;have hpa:((qaS 10 s).map str).length=(qaS 10 s).length:=zLm _
 have htl:(qgp s).length<=s.length+1:=by
  have h1:=qhG s;rw[<-qfJ,zLm] at h1;exact h1
 have hsp:=qkv hG hM s 10 zo;refine cI Tryz.func49 rfl (n:=41) rfl rfl rfl ?_;refine gao ?_;refine oS (sF [_,_] rfl hsp ?_) rfl;refine gab ?_
 refine oL (fun k ls H=>∃ (i:Nat) (out:List (Wd×Nat)) (v:LV),i<=(qaS 10 s).length/\k=(qaS 10 s).length-i/\ls=[(3,v),(9,.list ((qaS 10 s).map str)),(10,int .i64 (qaS 10 s).length),(11,int .i64 (i:Nat))]/\Acc 2 v (out.map qcg) H []/\out++qj5 i ((qaS 10 s).drop i)=qgp s)
  ⟨_,_,_,⟨0,[],qab,Nat.zero_le _,rfl,rfl,Acc.nil,rfl⟩,⟨rfl,rfl,qak zo,rfl,trivial⟩,zhR _⟩ ?_
 rintro k ls H ⟨i,out,v,hi,rfl,rfl,hacc,hE⟩ j hj;refine gaj ?_;refine oC rfl (fun hc=>?_) (fun hc=>?_)
 ·have hlt:i<(qaS 10 s).length:=by have:=zt hc;omega
  have hlo:out.length<=(qgp s).length:=by rw[<-hE,zLa];omega
  rw[qpP hlt] at hE;have hll:=qdc (List.getElem_mem hlt);have hc1:=qt7 hG hM (qaS 10 s)[i] 35 zo;have hW:qfC (qaS 10 s)[i]=full (qaS 32 ((qaS 10 s)[i].takeWhile fun d=>decide (d≠35))):=rfl;have htw:((qaS 10 s)[i].takeWhile fun d=>decide (d≠35)).length<=(qaS 10 s)[i].length:=(List.takeWhile_prefix _).length_le;have hs2:=qkv hG hM ((qaS 10 s)[i].takeWhile fun d=>decide (d≠35)) 32 zo;have hql:=qhl 32 ((qaS 10 s)[i].takeWhile fun d=>decide (d≠35));generalize (qaS 10 s)[i].takeWhile (fun d=>decide (d≠35))=line at hc1 hW htw hs2 hql;generalize hq:qaS 32 line=q at hW hs2 hql;have hqa:(q.map str).length=q.length:=zLm _
  repeat (first|refine LOps.nil ?_|refine qN ?_|refine qae.skip ?_)
  refine qae.seq ?_;refine cM (A:=List (Wd×Nat)×LV×Heap) (fun a=>[(3,a.2.1),(9,.list ((qaS 10 s).map str)),(10,int .i64 (qaS 10 s).length),(11,int .i64 (i:Nat))]) (fun a=>a.2.2) (fun a=>a.1=out++(full q).map (fun w=>(w,i+1))/\Acc 2 a.2.1 (a.1.map qcg) a.2.2 []) ?_ ?_
  ·refine gaa ?_;refine oP (xR (el':=str (qaS 10 s)[i]) (cs:=[str (qaS 10 s)[i]]) rfl rfl zo (qbd _ _ _ hlt) rfl rfl) rfl ?_;refine gat ?_;refine oS (S.fnIf [_,_] rfl hc1 ?_) rfl;rintro lv ⟨a,b,rfl⟩;refine gau ?_;refine oS (sF [_,_] rfl hs2 ?_) rfl;refine gab ?_
   refine oL (fun k ls H=>∃ (x:Nat) (out2:List (Wd×Nat)) (v:LV),x<=q.length/\k=q.length-x/\ls=[(3,v),(4,int .i64 (i:Nat)),(9,.list ((qaS 10 s).map str)),(10,int .i64 (qaS 10 s).length),(11,int .i64 (i:Nat)),(23,.list (q.map str)),(24,int .i64 q.length),(25,int .i64 (x:Nat))]/\Acc 2 v (out2.map qcg) H []/\out2.length<=out.length+x/\out2++(full (q.drop x)).map (fun w=>(w,i+1))=out++(full q).map (fun w=>(w,i+1)))
    ⟨_,_,_,⟨0,out,v,Nat.zero_le _,rfl,rfl,hacc,by omega,rfl⟩,⟨rfl,rfl,rfl,rfl,rfl,rfl,qak zo,rfl,trivial⟩,zhR _⟩ ?_
   rintro k ls H ⟨x,out2,v2,hx,rfl,rfl,hacc2,hlen2,hE2⟩ j2 hj2;have hol2:(out2.map qcg).length=out2.length:=zLm _;refine gaj ?_;refine oC rfl (fun hc=>?_) (fun hc=>?_)
   ·have hlt2:x<q.length:=by have:=zt hc;omega
    rw[qqn hlt2] at hE2;refine gam ?_;refine oP (xR (el':=str q[x]) (cs:=[str q[x]]) rfl rfl zo (qbd _ _ _ hlt2) rfl rfl) rfl ?_;refine gac ?_;refine oC rfl (fun hn=>?_) (fun hn=>?_)
    ·have hne:¬ q[x]=[]:=by simpa using hn
     rw[if_neg hne] at hE2;refine gah ?_;refine oP (pM (lv:=v2) rfl) rfl ?_;refine gad ?_;refine zQ2 ?_;refine oS (S.acc rfl hacc2 rfl (by simp;rfl) rfl (by simp;omega) fun v3 H3 hacc3=>?_) rfl;refine oP (pA (lv:=v3) rfl) rfl ?_;refine gan ?_;exact ⟨_,_,_,by omega,⟨x+1,out2++[(q[x],i+1)],v3,by omega,rfl,rfl,by rw[zMa];exact hacc3,by simp;omega,by rw[zAs];exact hE2⟩,⟨rfl,rfl,rfl,rfl,rfl,rfl,rfl,qak zo,trivial⟩,zhR _,hj2⟩
    ·have hne:q[x]=[]:=by simpa using hn
     rw[if_pos hne] at hE2;refine gaa ?_;exact ⟨_,_,_,by omega,⟨x+1,out2,v2,by omega,rfl,rfl,hacc2,by omega,hE2⟩,⟨rfl,rfl,rfl,rfl,rfl,rfl,rfl,qak zo,trivial⟩,zhR _,hj2⟩
   ·have hx':x=q.length:=by have:=zf hc;omega
    subst hx';rw[List.drop_length] at hE2;refine gab ?_;exact ⟨(out2,v2,H),⟨by simpa [full] using hE2,hacc2⟩,⟨rfl,rfl,rfl,rfl,trivial⟩,zhR _,hj2⟩
  ·rintro ⟨out2,v2,H2⟩ ⟨ho,hacc2⟩ j3 hj3;simp only at ho hacc2;rw[hW,<-zAs,<-ho] at hE;refine gan ?_;exact ⟨_,_,_,by omega,⟨i+1,out2,v2,by omega,rfl,rfl,hacc2,by rw[<-hE]⟩,⟨rfl,rfl,rfl,qak zo,trivial⟩,zhR _,hj3.trans hj⟩
 ·have hi':i=(qaS 10 s).length:=by have:=zf hc;omega
  subst hi';rw[List.drop_length,qj5,zLz] at hE;subst hE;refine qae.sub (d:=3) (v:=v) rfl hacc.sub ?_;refine cW zhn ?_;refine gac ?_;exact qaf hj (rC (rT (v:=.list _) rfl zsr) rN) rfl
end
theorem qou {all met:List Wd} {p:Wd×Nat} {x:Wd} {r:List (Wd×Nat)} (h:defW p.1=some x):errT all met (p::r)=if x∈met then (p.2,8) else errT all (met++[x]) r:=by
 obtain ⟨w,ln⟩:=p;simp only at h;rw[errT,h]
theorem qoU {all met:List Wd} {p:Wd×Nat} {x:Wd} {r:List (Wd×Nat)} (h:defW p.1=none) (h2:refW p.1=some x):errT all met (p::r)=if x∈all then errT all met r else (p.2,7):=by
 obtain ⟨w,ln⟩:=p;simp only at h h2;rw[errT,h,h2]
theorem qmt {all met:List Wd} {p:Wd×Nat} {r:List (Wd×Nat)} (h:defW p.1=none) (h2:refW p.1=none):errT all met (p::r)=if qnR p.1=true then errT all met r else (p.2,3):=by
 obtain ⟨w,ln⟩:=p;simp only at h h2;rw[errT,h,h2]
section
variable {B0:Nat} {w0:World}
theorem check_spec (l:List (Wd×Nat)) (hl:l.length<=1000000000) (hs:∀ p∈l,p.1.length<=1000000000):LCalls (KC B0 w0) 50 [.list (l.map qcg)] [] (Ret (.tuple [int .i64 ((errT (defs (txt l)) [] l).1:Nat),int .i64 ((errT (defs (txt l)) [] l).2:Nat)])):=by
 have hla:(l.map qcg).length=l.length:=zLm _;have zb:∀ w,(zeroValue 4).run (KC B0 w0).P w=.ok (.bool false) w:=fun w=>(Go.zero_of_info (P:=Tryz.prog) (n:=1) zk).1 w;generalize hR:errT (defs (txt l)) [] l=R;refine cI Tryz.func50 rfl (n:=70) rfl rfl rfl ?_;refine gai ?_;refine oS (S.makeMap fun m=>?_) rfl;refine gaa ?_
 refine oL (fun k ls H=>∃ (i:Nat) (es:Array MapEntry) (clock:Nat),i<=l.length/\k=l.length-i/\ls=[(0,.list (l.map qcg)),(4,.atom (.map (some m))),(17,.list (l.map qcg)),(18,int .i64 l.length),(19,int .i64 (i:Nat))]/\H=[(m,.obj (.map es clock))]/\SetMap es (fun s=>decide (s∈defs (txt (l.take i)))))
  ⟨_,_,_,⟨0,#[],0,Nat.zero_le _,rfl,rfl,rfl,set_nil⟩,⟨rfl,rfl,rfl,qak zo,rfl,trivial⟩,zhR _⟩ ?_
 rintro k ls H ⟨i,es,clock,hi,rfl,rfl,rfl,hM⟩ j1 hj1;refine gaj ?_;refine oC rfl (fun hc=>?_) (fun hc=>?_)
 ·have hlt:i<l.length:=by have:=zt hc;omega
  have kd:=qgg (B0:=B0) (w0:=w0) l[i] (by have:=hs _ (List.getElem_mem hlt);omega);have htt:=qn2 hlt;refine gam ?_;refine zQ38 ?_;refine gad ?_;refine oS (sA fun b6=>?_) rfl;refine gac ?_;refine oS (S.fnIf [_] rfl kd ?_) rfl;rintro lv ⟨s,rfl,hs2⟩;refine gau ?_;refine oC rfl (fun h=>?_) (fun h=>?_)
  ·obtain ⟨d,hd⟩:=Option.isSome_iff_exists.1 h;obtain rfl:=hs2 d hd;refine gag ?_;refine oS (S.setPut (t:=84) (kt:=9) (el:=4) zk zk rfl rfl rfl zp1 hM fun es' clock' hM'=>?_) rfl;refine gan ?_;exact ⟨_,_,_,by omega,⟨i+1,es',clock',by omega,rfl,rfl,rfl,by rw[htt,qjR hd];exact qnZ hM'⟩,⟨rfl,rfl,rfl,rfl,qak zo,trivial⟩,⟨[_],List.Perm.refl _⟩,hj1⟩
  ·have hn:defW l[i].1=none:=by
    cases ho:defW l[i].1 with
    |none=>rfl
    |some d=>rw[ho] at h;cases h
   refine gaa ?_;exact ⟨_,_,_,by omega,⟨i+1,es,clock,by omega,rfl,rfl,rfl,by rw[htt,qiH hn];exact hM⟩,⟨rfl,rfl,rfl,rfl,qak zo,trivial⟩,zhD zhr,hj1⟩
 ·have hi':i=l.length:=by have:=zf hc;omega
  subst hi';rw[List.take_length] at hM;refine gaa ?_;refine oS (S.makeMap fun m2=>?_) rfl;refine gaa ?_
  refine oL (fun k ls H=>∃ (i:Nat) (es2:Array MapEntry) (clock2:Nat),i<=l.length/\k=l.length-i/\ls=[(4,.atom (.map (some m))),(9,.atom (.map (some m2))),(33,.list (l.map qcg)),(34,int .i64 l.length),(35,int .i64 (i:Nat))]/\H=[(m2,.obj (.map es2 clock2)),(m,.obj (.map es clock))]/\SetMap es2 (fun s=>decide (s∈defs (txt (l.take i))))/\errT (defs (txt l)) (defs (txt (l.take i))) (l.drop i)=R)
   ⟨_,_,_,⟨0,#[],0,Nat.zero_le _,rfl,rfl,rfl,set_nil,hR⟩,⟨rfl,rfl,rfl,qak zo,rfl,trivial⟩,zhR _⟩ ?_
  rintro k ls H ⟨i,es2,clock2,hi,rfl,rfl,rfl,hM2,hE⟩ j2 hj2;refine gaj ?_;refine oC rfl (fun hc=>?_) (fun hc=>?_)
  ·have hlt:i<l.length:=by have:=zt hc;omega
   have hsl:=hs _ (List.getElem_mem hlt);have kd:=qgg (B0:=B0) (w0:=w0) l[i] zo;have kr:=qi3 (B0:=B0) (w0:=w0) l[i] zo;have kc:=qmK (B0:=B0) (w0:=w0) l[i] zo;have htt:=qn2 hlt;rw[List.drop_eq_getElem_cons hlt] at hE;refine gam ?_;refine zQ38 ?_;refine gad ?_;refine oS (sA fun b11=>?_) rfl;refine gac ?_;refine oS (S.fnIf [_] rfl kd ?_) rfl;rintro lv ⟨s,rfl,hs2⟩;refine gau ?_;refine oC rfl (fun h=>?_) (fun h=>?_)
   ·obtain ⟨d,hd⟩:=Option.isSome_iff_exists.1 h;obtain rfl:=hs2 d hd;refine gag ?_;refine oP (Pure.setGet (t:=84) (kt:=9) (el:=4) zk zk zb rfl rfl zm1 hM2) rfl ?_;refine gaf ?_;refine oC rfl (fun h3=>?_) (fun h3=>?_)
    ·have hin:=zt h3;refine gaa ?_;rw[qou hd,if_pos hin] at hE;exact qaf (hj2.trans hj1) (rC (zrt rfl) (zra rfl)) (by rw[<-hE];rfl)
    ·have hin:=zf h3;refine gaa ?_;refine oS (S.setPut (t:=84) (kt:=9) (el:=4) zk zk rfl rfl rfl zp1 hM2 fun es' clock' hM'=>?_) rfl;refine gan ?_;exact ⟨_,_,_,by omega,⟨i+1,es',clock',by omega,rfl,rfl,rfl,by rw[htt,qjR hd];exact qnZ hM',by rw[htt,qjR hd,<-hE,qou hd,if_neg hin]⟩,⟨rfl,rfl,rfl,rfl,qak zo,trivial⟩,⟨[_],List.Perm.cons _ (List.Perm.swap ..)⟩,hj2⟩
   ·have hn:defW l[i].1=none:=by
     cases ho:defW l[i].1 with
     |none=>rfl
     |some d=>rw[ho] at h;cases h
    refine gac ?_;refine oS (S.fnIf [_] rfl kr ?_) rfl;rintro lv ⟨s,rfl,hs3⟩;refine gau ?_;refine oC rfl (fun h3=>?_) (fun h3=>?_)
    ·obtain ⟨d,hd⟩:=Option.isSome_iff_exists.1 h3;obtain rfl:=hs3 d hd;refine gag ?_;refine oP (Pure.setGet (t:=84) (kt:=9) (el:=4) zk zk zb rfl rfl zm2 hM) rfl ?_;refine gad ?_;refine oC rfl (fun h4=>?_) (fun h4=>?_)
     ·have hin:¬ s∈defs (txt l):=by simpa using h4
      refine gaa ?_;rw[qoU hn hd,if_neg hin] at hE;exact qaf (hj2.trans hj1) (rC (zrt rfl) (zra rfl)) (by rw[<-hE];rfl)
     ·have hin:s∈defs (txt l):=by simpa using h4
      refine gaa ?_;exact ⟨_,_,_,by omega,⟨i+1,es2,clock2,by omega,rfl,rfl,rfl,by rw[htt,qiH hn];exact hM2,by rw[htt,qiH hn,<-hE,qoU hn hd,if_pos hin]⟩,⟨rfl,rfl,rfl,rfl,qak zo,trivial⟩,zhD zhr,hj2⟩
    ·have hrn:refW l[i].1=none:=by
      cases ho:refW l[i].1 with
      |none=>rfl
      |some d=>rw[ho] at h3;cases h3
     refine gac ?_;refine oS (sF [_] rfl kc ?_) rfl;refine gad ?_;refine oC rfl (fun h4=>?_) (fun h4=>?_)
     ·have hin:¬ qnR l[i].1=true:=by simpa using h4
      refine gaa ?_;rw[qmt hn hrn,if_neg hin] at hE;exact qaf (hj2.trans hj1) (rC (zrt rfl) (zra rfl)) (by rw[<-hE];rfl)
     ·have hin:qnR l[i].1=true:=by simpa using h4
      refine gaa ?_;exact ⟨_,_,_,by omega,⟨i+1,es2,clock2,by omega,rfl,rfl,rfl,by rw[htt,qiH hn];exact hM2,by rw[htt,qiH hn,<-hE,qmt hn hrn,if_pos hin]⟩,⟨rfl,rfl,rfl,rfl,qak zo,trivial⟩,zhD zhr,hj2⟩
  ·have hi':i=l.length:=by have:=zf hc;omega
   subst hi';rw[List.drop_length,errT] at hE;refine gaa ?_;exact qaf (hj2.trans hj1) (rC (zrt rfl) (zra rfl)) (by rw[<-hE];rfl)
end
end Go.Proofs.YtdakelgkjdaijaaGreatDoor.Asm
namespace Go.Proofs.YtdakelgkjdaijaaGreatDoor.Asm
open Go.GL Go.RowKit Go.Stele
def qh8 (km:Option Nat) (Hk:Heap) (kn:Wd->Nat):Prop:=(km=none/\Hk=[]/\∀ x,kn x=0)∨∃ b m clock,km=some b/\Hk=[(b,.map (kvs m) clock)]/\∀ x,(GL.kvGet m x).getD (int .i64 0)=int .i64 (kn x:Nat)
section
variable {C:Ctx} {e:Env} {H:Heap} {dst:Option Nat} {ty:TypeId} {pos:String} {aft:Array Edge} {g:Option (Nat×Bool)} {K:LV->Heap->Prop} {X:List PanicEntry->Heap->Prop} {x y:Operand}
theorem S.known {t kt el:TypeId} (ht:C.P.underlying t=some (.map kt el)) (hkt:C.P.underlying kt=some .string) (hz:∀ w,(zeroValue el).run C.P w=.ok (.int .i64 0) w) {km:Option Nat} {Hk:Heap} {kn:Wd->Nat} {k:List UInt8} (hK:qh8 km Hk kn) (hm:e.ev x=.atom (.map km)) (hx:e.ev y=str k)
  (hb:∀ q∈Hk,q∈H) (hk:K (int .i64 (kn k:Nat)) H):qad C ⟨dst,.lookup t x y false,ty,pos,aft,g⟩ e H K X:=by
 rcases hK with ⟨rfl,rfl,h0⟩|⟨b,m,clock,rfl,rfl,hI⟩
 ·refine Pure.step (Pure.nilGet ht hkt hz hm hx) ?_;rw[h0 k] at hk;exact hk
 ·refine Pure.step (Pure.kvGet ht hkt hz (zl:=int .i64 0) (fun _ _=>qah) hm hx (hb _ (List.mem_singleton.2 rfl))) ?_;rw[hI k];exact hk
end
theorem qnK {a b:Heap} {q:Nat×LObj}:HSub (a++b) (a++q::b):=⟨[q],List.perm_middle.trans (List.perm_append_singleton _ _).symm⟩
theorem qs8 {a b:Heap} {q:Nat×LObj}:HSub (a++b) ((a++[q])++b):=by
 rw[zAs];exact qnK
theorem qvk (a b:Nat):int .i64 ((a+b:Nat):Int)=int .i64 ((a:Int)+(b:Nat)):=qak zo
theorem qtS {a b:Heap} {q:Nat×LObj}:(a++q::b).Perm (b++(a++[q])):=by
 have h:=zPc (l₁:=a++[q]) (l₂:=b);rw[zAs] at h;exact h
theorem qu8 {s:Nat} {v:LV} {es:List LV} {a H F:Heap} (h:Acc s v es H F):HSub (a++F) (a++H):=by
 cases h with
 |nil=>exact zhR _
 |row=>exact qnK
theorem qne (kn:Wd->Nat) (og:Nat) (l:List Wd) (t:Wd) (labs:List (Wd×Nat)) (h:∀ w∈l,w≠[]):t.length<=(l.foldl (qbL kn og) (t,labs)).1.length:=by
 rw[qgJ,qju kn l t h];omega
theorem qmS (kn:Wd->Nat) (og:Nat):∀ (l:List Wd) (s:Wd×List (Wd×Nat)),s.2.length<=((l.foldl (qbL kn og) s).2).length/\((l.foldl (qbL kn og) s).2).length<=s.2.length+l.length
 |[],s=>by simp
 |w::r,s=>by
  rw[List.foldl_cons];have:=qmS kn og r (qbL kn og s w)
  have h2:s.2.length<=(qbL kn og s w).2.length/\(qbL kn og s w).2.length<=s.2.length+1:=by
   unfold qbL
   cases defW w with
   |some x=>simp
   |none=>simp
  simp only[zLc];omega
theorem qtu:qdC []=qaB 32:=by decide
attribute [local irreducible] LOps qae qad LCalls Go.GL.Pure qax qaj qac LQ LAny qaE qal
section
variable {B0:Nat} {w0:World}
theorem qqg (hG:GW B0 w0) (l:List (Wd×Nat)) (og:Nat) (hog:og<=1000000) (hl:l.length<=1000000000) (hs:∀ p∈l,p.1≠[]/\p.1.length<=1000000000) (kn:Wd->Nat) (hkn:∀ x,kn x<=1000000000000) (hL:((txt l).foldl (qbL kn og) ([],[])).1.length<=2000000000) (km:Option Nat) (Hk:Heap) (hK:qh8 km Hk kn) :
  LCalls (KC B0 w0) 51 [.list (l.map qcg),int .i64 (og:Nat),.atom (.map km)] Hk (fun r H'=>r=.ret (.tuple [str ((txt l).foldl (qbL kn og) ([],[])).1,.list (((txt l).foldl (qbL kn og) ([],[])).2.map qcg)])/\H'=Hk):=by
 have hla:(l.map qcg).length=l.length:=zLm _;have zi:∀ w,(zeroValue 3).run (KC B0 w0).P w=.ok (.int .i64 0) w:=fun w=>(Go.zero_of_info (P:=Tryz.prog) (n:=1) zk).1 w
 have hne0:∀ i,∀ w∈txt (l.drop i),w≠[]:=fun i w hw=>by
  obtain ⟨p,hp,rfl⟩:=List.mem_map.1 hw;exact (hs p (List.mem_of_mem_drop hp)).1
 generalize hR:(txt l).foldl (qbL kn og) ([],[])=R at hL ⊢;refine cI Tryz.func51 rfl (n:=68) rfl rfl rfl ?_;refine gai ?_;refine oS (sA fun bb=>?_) rfl;refine gaa ?_
 refine oL (fun k ls H=>∃ (i:Nat) (t:List UInt8) (labs:List (Wd×Nat)) (v:LV) (last:UInt8) (HB HL:Heap),i<=l.length/\k=l.length-i/\ls=[(1,int .i64 (og:Nat)),(2,.atom (.map km)),(8,ptr bb 0),(9,v),(10,int .u8 last.toNat),(18,.list (l.map qcg)),(19,int .i64 l.length),(20,int .i64 (i:Nat))]/\H=HB++HL/\BH bb t HB/\Acc 2 v (labs.map qcg) HL Hk/\qdC t=qaB last/\labs.length<=i/\(txt (l.drop i)).foldl (qbL kn og) (t,labs)=R)
  ⟨_,_,_,⟨0,[],[],qab,32,[(bb,.cells 70 [.atom (.pointer none),.atom (.slice none 0 0)])],Hk,Nat.zero_le _,rfl,rfl,rfl,⟨_,_,[],.inl rfl,BRow.nil,rfl⟩,Acc.nil,qtu,Nat.zero_le _,hR⟩,⟨rfl,rfl,rfl,rfl,rfl,rfl,qak zo,rfl,trivial⟩,zhR _⟩ ?_
 rintro k ls H ⟨i,t,labs,v,last,HB,HL,hi,rfl,rfl,rfl,hB,hacc,hla2,hll,hE⟩ j hj;have hol:(labs.map qcg).length=labs.length:=zLm _;have htR:=qne kn og (txt (l.drop i)) t labs (hne0 i);rw[hE] at htR;refine gaj ?_;refine oC rfl (fun hc=>?_) (fun hc=>?_)
 ·have hlt:i<l.length:=by have:=zt hc;omega
  obtain ⟨hne,hsl⟩:=hs _ (List.getElem_mem hlt);have kd:=qgg (B0:=B0) (w0:=w0) l[i] zo;have kr:=qi3 (B0:=B0) (w0:=w0) l[i] zo
  have hdr:txt (l.drop i)=l[i].1::txt (l.drop (i+1)):=by
   unfold txt;rw[List.drop_eq_getElem_cons hlt,zMc]
  rw[hdr,List.foldl_cons] at hE;refine gam ?_;refine zQ38 ?_;refine gad ?_;refine oS (sA fun b12=>?_) rfl;refine gac ?_;refine oS (S.fnIf [_] rfl kd ?_) rfl;rintro lv ⟨s,rfl,hs2⟩;refine gau ?_;refine oC rfl (fun h=>?_) (fun h=>?_)
  ·obtain ⟨d,hd⟩:=Option.isSome_iff_exists.1 h;obtain rfl:=hs2 d hd;have hst:qbL kn og (t,labs) l[i].1=(t,labs++[(s,og+t.length)]):=by unfold qbL;rw[hd]
   rw[hst] at hE;refine gah ?_;refine zQ17 ?_;refine gab ?_;refine oS (S.callH (H1:=HB) (F:=(b12,.cells 167 [str l[i].1,int .i64 l[i].2])::HL) [_] rfl List.perm_middle.symm (qiX bb t HB hB) (fun v' H' h=>?_) (fun ch H' h=>by obtain ⟨h,_⟩:=h;cases h)) rfl;obtain ⟨hv,rfl⟩:=h;cases hv;refine gad ?_;refine zQ2 ?_;refine oS (sG (H1:=HL) (A:=H'++[(b12,.cells 167 [str l[i].1,int .i64 l[i].2])]) qtS rfl hacc rfl (by simp;rfl) rfl (by simp;omega) fun v' H2 hacc'=>?_) rfl;refine zQ30 ?_;refine gaa ?_
   exact ⟨_,_,_,by omega,⟨i+1,t,labs++[(s,og+t.length)],v',last,H',H2,by omega,rfl,rfl,rfl,hB,by
    rw[zMa]
    have e1:[qcg (s,og+t.length)]=[LV.agg [str s,int .i64 ((og:Int)+(t.length:Nat))]]:=by
     unfold qcg;rw[qvk]
    rw[List.map_singleton,e1]
    exact hacc',hla2,by simp;omega,hE⟩,⟨rfl,rfl,rfl,rfl,rfl,rfl,rfl,qak zo,trivial⟩,qs8,hj⟩
  ·have hn:defW l[i].1=none:=by
    cases ho:defW l[i].1 with
    |none=>rfl
    |some d=>rw[ho] at h;cases h
   have hst:qbL kn og (t,labs) l[i].1=(addT kn t l[i].1,labs):=by unfold qbL;rw[hn]
   obtain ⟨hp0,hp1,hp2⟩:=qii kn t l[i].1 hn hne;have hadd:addT kn t l[i].1=t++(if qdC t && qdw (qb2 kn l[i].1) then [32] else [])++qb2 kn l[i].1:=by unfold addT;rw[hn]
   have htR2:=qne kn og (txt (l.drop (i+1))) (addT kn t l[i].1) labs (hne0 (i+1));rw[hst] at hE;rw[hE] at htR2;refine cM (A:=Wd) (fun s=>[(1,int .i64 (og:Nat)),(2,.atom (.map km)),(8,ptr bb 0),(9,v),(10,int .u8 last.toNat),(13,str s),(18,.list (l.map qcg)),(19,int .i64 l.length),(20,int .i64 (i:Nat))]) (fun _=>(b12,.cells 167 [str l[i].1,int .i64 l[i].2])::(HB++HL)) (fun s=>s=qb2 kn l[i].1) ?_ ?_
   ·refine gac ?_;refine oS (S.fnIf [_] rfl kr ?_) rfl;rintro lv ⟨s,rfl,hs3⟩;refine gau ?_;refine oC rfl (fun h3=>?_) (fun h3=>?_)
    ·obtain ⟨d,hd⟩:=Option.isSome_iff_exists.1 h3;obtain rfl:=hs3 d hd;refine gag ?_;refine oS (S.known (t:=104) (kt:=9) (el:=3) zk zk zi hK rfl rfl (fun q hq=>zMo _ (List.mem_append_right _ (hacc.hsub.mem q hq))) ?_) rfl;refine oS (sF [_] rfl (qfG hG (kn s) (hkn s)) ?_) rfl;refine gaf ?_;exact ⟨qe7 (kn s),(by unfold qb2;rw[hd]),⟨rfl,rfl,rfl,rfl,rfl,rfl,rfl,rfl,rfl,trivial⟩,zhR _,rfl⟩
    ·have hrn:refW l[i].1=none:=by
      cases ho:refW l[i].1 with
      |none=>rfl
      |some d=>rw[ho] at h3;cases h3
     refine gaq ?_;exact ⟨l[i].1,(by unfold qb2;rw[hrn]),⟨rfl,rfl,rfl,rfl,rfl,rfl,rfl,rfl,rfl,trivial⟩,zhR _,rfl⟩
   rintro s hpc j2 hj2;rw[<-hpc] at hp0 hp1 hp2 hadd;have hs0:=hp0;have hone:=qqi (qaB last && qdw s);obtain ⟨c,r,hcr⟩:=List.exists_cons_of_ne_nil hs0;have hfc:qdw s=qaB c:=by rw[hcr];rfl
   rw[hla2] at hadd hp2;refine qae.seq ?_;refine cM (A:=Heap) (fun _=>[(1,int .i64 (og:Nat)),(2,.atom (.map km)),(8,ptr bb 0),(9,v),(10,int .u8 last.toNat),(13,str s),(18,.list (l.map qcg)),(19,int .i64 l.length),(20,int .i64 (i:Nat))]) (fun HB'=>HB'++(b12,.cells 167 [str l[i].1,int .i64 l[i].2])::HL) (fun HB'=>BH bb (t++if (qaB last && qdw s)=true then [32] else []) HB') ?_ ?_
   ·refine gag ?_;refine oS (sF [_] rfl (qg2 last) ?_) rfl;refine gab ?_;refine oB 52 rfl (fun h4=>?_) (fun h4=>?_)
    ·have h4':qaB last=true:=h4;rw[h4',Bool.true_and,hfc];refine gab ?_;refine oP (pI (c:=c) rfl rfl zo (by rw[hcr];rfl)) rfl ?_;refine gab ?_;refine oS (sF [_] rfl (qg2 c) ?_) rfl;refine gab ?_;refine oC rfl (fun h5=>?_) (fun h5=>?_)
     ·refine gah ?_;refine oS (S.callH (H1:=HB) (F:=(b12,.cells 167 [str l[i].1,int .i64 l[i].2])::HL) [_,_] rfl List.perm_middle.symm (qjY bb t 32 HB hB zo) (fun v' H' h=>?_) (fun ch H' h=>by obtain ⟨⟨x,h⟩,_⟩:=h;cases h)) rfl;refine gaf ?_;exact ⟨H',by rw[if_pos h5];exact h.2,⟨rfl,rfl,rfl,rfl,rfl,rfl,rfl,rfl,rfl,trivial⟩,zhR _,rfl⟩
     ·refine gaq ?_;exact ⟨HB,by rw[if_neg (by rw[h5];decide),zLz];exact hB,⟨rfl,rfl,rfl,rfl,rfl,rfl,rfl,rfl,rfl,trivial⟩,⟨[],by simpa using List.perm_middle.symm⟩,rfl⟩
    ·have h4':qaB last=false:=h4;rw[h4',Bool.false_and];refine gab ?_;refine oC rfl (fun h5=>by cases h5) (fun h5=>?_);refine gaq ?_;exact ⟨HB,by rw[if_neg zDd,zLz];exact hB,⟨rfl,rfl,rfl,rfl,rfl,rfl,rfl,rfl,rfl,trivial⟩,⟨[],by simpa using List.perm_middle.symm⟩,rfl⟩
   rintro HB' hB' j3 hj3;have hsl3:=List.length_pos_iff.2 hs0
   have hget:s[((s.length:Int)-1).toNat]? = some (s.getLast hs0):=by
    rw[show ((s.length:Int)-1).toNat=s.length-1 by omega,List.getLast_eq_getElem,List.getElem?_eq_getElem zo]
   have hlast:qdC s=qaB (s.getLast hs0):=by
    unfold qdC;rw[List.getLast?_eq_some_getLast hs0]
   have htl:(t++if (qaB last && qdw s)=true then [32] else []).length+s.length<=2000000000:=by
    have:(t++if (qaB last && qdw s)=true then [32] else []).length=t.length+one (qaB last && qdw s):=by
     rw[zLa];unfold one;split <;> rfl
    omega
   rw[hadd] at hE hp1;generalize (t++if (qaB last && qdw s)=true then [32] else [])=t2 at hB' htl hE hp1;refine gag ?_;refine oS (S.callH (H1:=HB') (F:=(b12,.cells 167 [str l[i].1,int .i64 l[i].2])::HL) [_,_] rfl zpr (qaD bb t2 s HB' hB' zo) (fun v' H' h=>?_) (fun ch H' h=>by obtain ⟨⟨x,h⟩,_⟩:=h;cases h)) rfl;obtain ⟨⟨x,hx⟩,hB2⟩:=h;refine gac ?_;refine oP (pI (c:=s.getLast hs0) rfl rfl zo hget) rfl ?_;refine gaa ?_;exact ⟨_,_,_,by omega,⟨i+1,t2++s,labs,v,s.getLast hs0,H',HL,by omega,rfl,rfl,rfl,hB2,hacc,by rw[hp1,hlast],by omega,hE⟩,⟨rfl,rfl,rfl,rfl,rfl,rfl,rfl,qak zo,trivial⟩,qnK,hj3.trans (hj2.trans hj)⟩
 ·have hi':i=l.length:=by have:=zf hc;omega
  subst hi';rw[List.drop_length] at hE;have hE':(t,labs)=R:=hE;subst hE';refine qae.sub (d:=9) (v:=v) rfl hacc.sub ?_;refine cW (qu8 hacc) ?_;refine gaa ?_;refine oS (S.callH (H1:=HB) (F:=Hk) [_] rfl zpr (qjh bb t HB hB zo) (fun v' H' h=>?_) (fun ch H' h=>by obtain ⟨h,_⟩:=h;cases h)) rfl;obtain ⟨hv,rfl⟩:=h;cases hv;refine gad ?_;exact rR hj (rC (zrt rfl) (rC (rT (v:=.list _) rfl zsr) rN)) zhr ⟨rfl,by simp⟩
end
end Go.Proofs.YtdakelgkjdaijaaGreatDoor.Asm
namespace Go.GL
open Go.RowKit
theorem qtC {P:Program} {fn:Func} {r s t q:ResultVar} (h:fn.results=#[r,s,t,q]) {tmps:Array Value} {w:World} {v u x y:Value} (h1:(qa7 tmps r).run P w=.ok v w) (h2:(qa7 tmps s).run P w=.ok u w) (h3:(qa7 tmps t).run P w=.ok x w) (h4:(qa7 tmps q).run P w=.ok y w) :
  (results fn tmps).run P w=.ok (.tuple #[v,u,x,y]) w:=by
 have:results fn tmps=(do let v <-qa7 tmps r;let u <-qa7 tmps s;let x <-qa7 tmps t;let y <-qa7 tmps q;Pure.pure (.tuple #[v,u,x,y])):=by
  cases r <;> cases s <;> cases t <;> cases q <;> simp[results,h,qa7]
 rw[this,qdG h1,qdG h2,qdG h3,qdG h4]
 try rfl
theorem qnM {C:Ctx} {n:Nat} {fn:Func} {e:Env} {H:Heap} {a:Act} {w:World} {L:Live} (hE:RelE n a e w L) (hH:RelH C w L H) {vs:List LV}
  (h:qbA C n e H fn.results.toList vs) (h3:fn.results.size=4):∃ v,(results fn a.tmps).run C.P w=.ok v w/\Rep w L (qbq vs) v:=by
 obtain ⟨rs,hrs⟩:∃ rs,fn.results=List.toArray rs:=⟨fn.results.toList,by simp⟩;rw[hrs] at h h3;simp only[List.size_toArray] at h h3
 match rs,vs,h,h3,hrs with
 |[r,s,t,q],[x,y,z,o],h,_,hrs=>
  obtain ⟨v1,g1,r1⟩:=h.1 a w L hE hH;obtain ⟨v2,g2,r2⟩:=h.2.1 a w L hE hH;obtain ⟨v3,g3,r3⟩:=h.2.2.1 a w L hE hH;obtain ⟨v4,g4,r4⟩:=h.2.2.2.1 a w L hE hH
  exact ⟨_,qtC hrs g1 g2 g3 g4,by simp only[qbq,Rep];exact ⟨[v1,v2,v3,v4],rfl,by simp only[RepL];exact ⟨v1,_,rfl,r1,v2,_,rfl,r2,v3,_,rfl,r3,v4,_,rfl,r4,rfl⟩⟩⟩
 |[_,_,_,_],[],h,_,_=>exact h.elim
 |[_,_,_,_],[_],h,_,_=>exact h.2.elim
 |[_,_,_,_],[_,_],h,_,_=>exact h.2.2.elim
 |[_,_,_,_],[_,_,_],h,_,_=>exact h.2.2.2.elim
 |[_,_,_,_],_::_::_::_::_::_,h,_,_=>exact h.2.2.2.2.elim
theorem LCalls.intro4 {C:Ctx} {f:FuncId} {fn:Func} {c:Code} {n:Nat} {args:List LV} {H:Heap} {R:LRes->Heap->Prop} (hf:C.P.funcs[f]? = some fn) (hb:fn.body=some c) (hn:fn.ntmps=n) (h3:Nat.beq fn.results.size 4=true)
  (hl:Nat.ble args.length n=true) (h:qae C n c (qac C n fn.results.toList R) (qgm args) H):LCalls C f args H R:=fun vs w L hv hH=>by
 subst hn;have hl':args.length<=fn.ntmps:=by simpa using hl
 have h3':fn.results.size=4:=Nat.eq_of_beq_eq_true h3;have hlen:=hv.length;refine calls_of_wp hf hb (Go.wp_mono (h _ w L ⟨?_,rfl,fun i=>?_⟩ hH) fun ex a' w' hq=>?_)
 ·simp;omega
 ·exact zT0
 ·obtain ⟨e',H',L',g1,g2,g3,g4⟩:=hq
  have ret:RelE fn.ntmps a' e' w' L'->(e'.ds=[]/\∃ vs H'',qbA C fn.ntmps e' H' fn.results.toList vs/\HSub H'' H'/\R (.ret (qbq vs)) H'') ->
    a'.defers=[]/\∃ v,(results fn a'.tmps).run C.P w'=.ok v w'/\qcu C w L H (fun v=>R (.ret v)) (fun ch=>R (.panic ch)) (.returned v) w':=fun hE hr=>by
   obtain ⟨h1,vs',H'',h2,h4,h5⟩:=hr;obtain ⟨v,r1,r2⟩:=qnM hE g2 h2 h3';exact ⟨hE.ds.trans h1,v,r1,qbq vs',H'',L',g1.weak h4,g2.weak h4,r2,h5⟩
  cases ex with
  |normal=>exact ret g3 g4
  |ret=>exact ret g3 g4
  |panic ch=>
   obtain ⟨h1,H'',h4,h5⟩:=g4
   exact ⟨g3.trans h1,H'',L',g1.weak h4,g2.weak h4,h5⟩
  |exit id=>exact g4.elim
  |goto id=>exact g4.elim
  |outgrown=>exact g4.elim
end Go.GL
namespace Go.Stele
open Go.Lib
structure MS where
 mem:Nat->Nat
 pc:Nat
 data:List Nat
 calls:List Nat
 inp:List Nat
 out:Wd
 digit:Bool
inductive MR where
 |run (s:MS)
 |stop (e:Nat) (out:Wd)
def MR.trap (s:MS):MR:=.stop 12 s.out
def qes (v:Nat) (s:MS):MR:=if s.data.length<256 then .run { s with data:=v::s.data } else .trap s
def binM (c a b:Nat):Option Nat:=
 if c=43 then some ((a+b) % 4294967296)
 else if c=45 then some ((a+4294967296-b) % 4294967296)
 else if c=42 then some (a * b % 4294967296)
 else if c=47 then (if b=0 then none else some (a / b))
 else if c=37 then (if b=0 then none else some (a % b))
 else if c=94 then some (a ^^^ b)
 else some (if a<b then 1 else 0)
def qdh (c:Nat):Bool:=decide (48<=c) && decide (c<=57)
def qnQ (c:Nat) (s:MS):MR:=if s.digit=true then (match s.data with
 |d::r=>.run { s with data:=(d * 10+c-48) % 4294967296::r }
 |[]=>.trap s) else qes (c-48) s
def ldM (s:MS):MR:=match s.data with
 |a::r=>if a<262144 then qes (s.mem a) { s with data:=r } else .trap s
 |[]=>.trap s
def stoM (s:MS):MR:=match s.data with
 |a::v::r=>if a<262144 then .run { s with data:=r,mem:=fun i=>if i=a then v else s.mem i } else .trap s
 |_=>.trap s
def jmpM (s:MS):MR:=match s.data with
 |t::v::r=>.run { s with data:=r,pc:=if v=0 then t else s.pc }
 |_=>.trap s
def qnA (s:MS):MR:=match s.data with
 |t::r=>if s.calls.length<64 then .run { s with data:=r,calls:=s.pc::s.calls,pc:=t } else .trap s
 |[]=>.trap s
def bakM (s:MS):MR:=match s.calls with
 |t::r=>.run { s with calls:=r,pc:=t }
 |[]=>.trap s
def rdM (s:MS):MR:=match s.inp with
 |v::r=>qes v { s with inp:=r }
 |[]=>qes 4294967295 s
def wrM (s:MS):MR:=match s.data with
 |v::r=>.run { s with data:=r,out:=s.out++[UInt8.ofNat v] }
 |[]=>.trap s
def opM (c:Nat) (s:MS):MR:=match s.data with
 |b::a::r=>(match binM c a b with
  |some v=>qes v { s with data:=r }
  |none=>.trap s)
 |_=>.trap s
def exeM (c:Nat) (s:MS):MR:=
 if qdh c=true then qnQ c s
 else if c=32∨c=10 then .run s
 else if c=64 then ldM s
 else if c=33 then stoM s
 else if c=63 then jmpM s
 else if c=58 then qnA s
 else if c=59 then bakM s
 else if c=44 then rdM s
 else if c=46 then wrM s
 else if c=36 then .stop 0 s.out
 else if c=43∨c=45∨c=42∨c=47∨c=37∨c=94∨c=60 then opM c s
 else .trap s
def qlk (s:MS):MR:=
 if s.pc<262144 then (match exeM (s.mem s.pc) { s with pc:=s.pc+1 } with
  |.run s'=>.run { s' with digit:=qdh (s.mem s.pc) }
  |.stop e o=>.stop e o)
 else .trap s
def runM:Nat->MS->Nat×Wd×Nat
 |0,s=>(13,s.out,0)
 |n+1,s=>match qlk s with
  |.run s'=>((runM n s').1,(runM n s').2.1,(runM n s').2.2+1)
  |.stop e o=>(e,o,1)
def qgS (code:Wd) (og:Nat):Nat->Nat:=fun i=>if og<=i then (match code[i-og]? with
 |some c=>c.toNat
 |none=>0) else 0
def qhP (code:Wd) (og:Nat) (inp:List Nat):MS:=⟨qgS code og,og,[],[],inp,[],false⟩
/-! ### Some steps -/
end Go.Stele
namespace Go.Stele
structure IS where
 sc:List UInt8->Nat
 ar:List UInt8->List Nat
 inp:List Nat
 out:List UInt8
 left:Nat
inductive IR (A:Type) where
 |ok (v:A) (s:IS)
 |stop (e:Int) (s:IS)
def IR.bind {A B:Type} (r:IR A) (f:A->IS->IR B):IR B:=match r with
 |.ok v s=>f v s
 |.stop e s=>.stop e s
def IR.st {A:Type}:IR A->IS
 |.ok _ s=>s
 |.stop _ s=>s
def tick (s:IS):IR Unit:=if s.left=0 then .stop 13 s else .ok () { s with left:=s.left-1 }
def b2n (b:Bool):Nat:=if b=true then 1 else 0
def binI (op:List UInt8) (a b:Nat):Option Nat:=
 if op=[43] then some ((a+b) % 4294967296)
 else if op=[45] then some ((a+4294967296-b) % 4294967296)
 else if op=[42] then some (a * b % 4294967296)
 else if op=[94] then some (a ^^^ b)
 else if op=[61,61] then some (b2n (decide (a=b)))
 else if op=[33,61] then some (b2n (decide (a≠b)))
 else if op=[60] then some (b2n (decide (a<b)))
 else if op=[62] then some (b2n (decide (b<a)))
 else if op=[60,61] then some (b2n (decide (a<=b)))
 else if op=[62,61] then some (b2n (decide (b<=a)))
 else if op=[38,38] then some (b2n (decide (a≠0/\b≠0)))
 else if op=[124,124] then some (b2n (decide (a≠0∨b≠0)))
 else if b=0 then none
 else if op=[47] then some (a / b) else some (a % b)
def keyI (f:FnD) (name:List UInt8):List UInt8:=if name∈f.params∨name∈f.locals then f.name++[46]++name else name
def fnI (P:Pr) (name:List UInt8):FnD:=(P.funcs.find? fun f=>decide (f.name=name)).getD ⟨[],[],[],[]⟩
def qlG (s:IS) (k:List UInt8) (v:Nat):IS:={ s with sc:=fun x=>if x=k then v else s.sc x }
def qe3 (f:FnD):List (List UInt8)->List Nat->IS->IS
 |p::ps,v::vs,s=>qe3 f ps vs (qlG s (keyI f p) v)
 |_,_,s=>s
def mapR {A:Type} (g:A->IS->IR Nat):List A->IS->IR (List Nat)
 |[],s=>.ok [] s
 |a::l,s=>(g a s).bind fun v s=>(mapR g l s).bind fun vs s=>.ok (v::vs) s
def blkR (g:Sm->IS->IR (Option Nat)):List Sm->IS->IR (Option Nat)
 |[],s=>.ok none s
 |a::l,s=>(g a s).bind fun r s=>match r with
  |some v=>.ok (some v) s
  |none=>blkR g l s
def whlR (c:IS->IR Nat) (b:IS->IR (Option Nat)):Nat->Nat->IS->IR (Option Nat)
 |0,v,s=>if v=0 then .ok none s else .stop 13 s
 |m+1,v,s=>if v=0 then .ok none s else (b s).bind fun r s=>match r with
  |some x=>.ok (some x) s
  |none=>(c s).bind fun v s=>whlR c b m v s
def callI (P:Pr) (g:FnD->Sm->IS->IR (Option Nat)) (name:List UInt8) (vs:List Nat) (s:IS):IR Nat:=
 if name=[105,110] then (match s.inp with
  |[]=>.ok 4294967295 s
  |v::r=>.ok v { s with inp:=r })
 else if name=[111,117,116] then .ok 0 { s with out:=s.out++[UInt8.ofNat (vs.headD 0)] }
 else (blkR (g (fnI P name)) (fnI P name).body (qe3 (fnI P name) (fnI P name).params vs s)).bind fun r s=>.ok (r.getD 0) s
def opI (P:Pr) (g:FnD->Sm->IS->IR (Option Nat)) (f:FnD) (op:List UInt8) (num:Nat) (name:List UInt8) (vs:List Nat) (s:IS):IR Nat:=
 if op=[110,117,109] then .ok num s
 else if op=[118,97,114] then .ok (s.sc (keyI f name)) s
 else if op=[101,108,101,109] then (match (s.ar name)[vs.headD 0]? with
  |some v=>.ok v s
  |none=>.stop 2 s)
 else if op=[110,101,103] then .ok ((4294967296-vs.headD 0) % 4294967296) s
 else if op=[110,111,116] then .ok (b2n (decide (vs.headD 0=0))) s
 else if op=[99,97,108,108] then callI P g name vs s
 else match binI op (vs.headD 0) (vs.tail.headD 0) with
  |some v=>.ok v s
  |none=>.stop 12 s
mutual
def evI (P:Pr):Nat->FnD->Ex->IS->IR Nat
 |0,_,_,s=>.stop 13 s
 |n+1,f,.mk op num name args,s=>(tick s).bind fun _ s=>(mapR (evI P n f) args s).bind fun vs s=>opI P (stI P n) f op num name vs s
def stI (P:Pr):Nat->FnD->Sm->IS->IR (Option Nat)
 |0,_,_,s=>.stop 13 s
 |n+1,f,.mk kind name index value thn els,s=>(tick s).bind fun _ s=>
  if kind=7 then .stop 0 s else (evI P n f (value.headD default) s).bind fun v s=>
   if kind=1 then .ok none (qlG s (keyI f name) v)
   else if kind=2 then (evI P n f (index.headD default) s).bind fun i s=>match (s.ar name)[i]? with
    |some _=>.ok none { s with ar:=fun x=>if x=name then (s.ar name).set i v else s.ar x }
    |none=>.stop 2 s
   else if kind=5 then .ok (some v) s
   else if kind=3 then (if v≠0 then blkR (stI P n f) thn s else blkR (stI P n f) els s)
   else if kind=4 then whlR (evI P n f (value.headD default)) (blkR (stI P n f) thn) n v s
   else .ok none s
end
/-! ### A greater limit -/
def up (k:Nat) (s:IS):IS:={ s with left:=s.left+k }
def Grow {A:Type} (s:IS) (r:IR A):Prop:=s.out <+: r.st.out/\r.st.left<=s.left
theorem Grow.bind {A B:Type} {s:IS} {r:IR A} {f:A->IS->IR B} (h:Grow s r) (hf:∀ v s',Grow s' (f v s')):Grow s (r.bind f):=by
 cases r with
 |ok v s'=>exact ⟨List.IsPrefix.trans h.1 (hf v s').1,zNt (hf v s').2 h.2⟩
 |stop e s'=>exact h
theorem qms (s:IS):Grow s (tick s):=by
 unfold tick;split
 ·exact ⟨zPf _,zNr _⟩
 ·exact ⟨zPf _,Nat.sub_le _ _⟩
theorem qiW {A:Type} {g:A->IS->IR Nat} (h:∀ a s,Grow s (g a s)):∀ (l:List A) (s:IS),Grow s (mapR g l s)
 |[],s=>⟨zPf _,zNr _⟩
 |a::l,s=>(h a s).bind fun v s=>(qiW h l s).bind fun vs s=>⟨zPf _,zNr _⟩
theorem qdV {g:Sm->IS->IR (Option Nat)} (h:∀ a s,Grow s (g a s)):∀ (l:List Sm) (s:IS),Grow s (blkR g l s)
 |[],s=>⟨zPf _,zNr _⟩
 |a::l,s=>(h a s).bind fun r s=>by
  cases r with
  |none=>exact qdV h l s
  |some v=>exact ⟨zPf _,zNr _⟩
theorem ql1 {c:IS->IR Nat} {b:IS->IR (Option Nat)} (hc:∀ s,Grow s (c s)) (hb:∀ s,Grow s (b s)):∀ (m v:Nat) (s:IS),Grow s (whlR c b m v s)
 |0,v,s=>by
  unfold whlR
  split <;> exact ⟨zPf _,zNr _⟩
 |m+1,v,s=>by
  unfold whlR;split
  ·exact ⟨zPf _,zNr _⟩
  ·refine (hb s).bind fun r s=>?_
   cases r with
   |some x=>exact ⟨zPf _,zNr _⟩
   |none=>exact (hc s).bind fun v s=>ql1 hc hb m v s
theorem qdQ (f:FnD):∀ (ps:List (List UInt8)) (vs:List Nat) (s:IS),(qe3 f ps vs s).out=s.out/\(qe3 f ps vs s).left=s.left/\∀ k,qe3 f ps vs (up k s)=up k (qe3 f ps vs s)
 |p::ps,v::vs,s=>by
  obtain ⟨h1,h2,h3⟩:=qdQ f ps vs (qlG s (keyI f p) v)
  exact ⟨h1,h2,fun k=>h3 k⟩
 |[],_,s=>by unfold qe3;exact ⟨rfl,rfl,fun _=>rfl⟩
 |_::_,[],s=>by unfold qe3;exact ⟨rfl,rfl,fun _=>rfl⟩
theorem qn1 {P:Pr} {g:FnD->Sm->IS->IR (Option Nat)} (h:∀ f a s,Grow s (g f a s)) (f:FnD) (op:List UInt8) (num:Nat) (name:List UInt8) (vs:List Nat) (s:IS):Grow s (opI P g f op num name vs s):=by
 unfold opI;split
 ·exact ⟨zPf _,zNr _⟩
 split
 ·exact ⟨zPf _,zNr _⟩
 split
 ·split <;> exact ⟨zPf _,zNr _⟩
 split
 ·exact ⟨zPf _,zNr _⟩
 split
 ·exact ⟨zPf _,zNr _⟩
 split
 ·unfold callI;split
  ·split <;> exact ⟨zPf _,zNr _⟩
  split
  ·exact ⟨List.prefix_append _ _,zNr _⟩
  ·refine Grow.bind ?_ fun r s=>⟨zPf _,zNr _⟩;have:=qdV (h (fnI P name)) (fnI P name).body (qe3 (fnI P name) (fnI P name).params vs s);unfold Grow at this ⊢
   rwa [(qdQ _ _ _ _).1,(qdQ _ _ _ _).2.1] at this
 ·split <;> exact ⟨zPf _,zNr _⟩
theorem qfW (P:Pr):∀ n:Nat,(∀ f x s,Grow s (evI P n f x s))/\∀ f x s,Grow s (stI P n f x s)
 |0=>⟨fun f x s=>by unfold evI;exact ⟨zPf _,zNr _⟩,fun f x s=>by unfold stI;exact ⟨zPf _,zNr _⟩⟩
 |n+1=>by
  obtain ⟨h1,h2⟩:=qfW P n;refine ⟨fun f x s=>?_,fun f x s=>?_⟩
  ·obtain ⟨op,num,name,args⟩:=x;unfold evI;exact (qms s).bind fun _ s=>(qiW (h1 f) args s).bind fun vs s=>qn1 h2 f op num name vs s
  ·obtain ⟨kind,name,index,value,thn,els⟩:=x;unfold stI;refine (qms s).bind fun _ s=>?_;split
   ·exact ⟨zPf _,zNr _⟩
   ·refine (h1 f _ s).bind fun v s=>?_;split
    ·exact ⟨zPf _,zNr _⟩
    split
    ·refine (h1 f _ s).bind fun i s=>?_;split <;> exact ⟨zPf _,zNr _⟩
    split
    ·exact ⟨zPf _,zNr _⟩
    split
    ·split
     ·exact qdV (h2 f) _ _
     ·exact qdV (h2 f) _ _
    split
    ·exact ql1 (h1 f _) (qdV (h2 f) _) _ _ _
    ·exact ⟨zPf _,zNr _⟩
theorem qsf (c:IS->IR Nat) (b:IS->IR (Option Nat)) (m:Nat) (s:IS):whlR c b m 0 s=.ok none s:=by
 cases m <;> rw[whlR,if_pos rfl]
theorem qiC {s s':IS} {u:Unit} (h:tick s=.ok u s'):s'.left<s.left:=by
 unfold tick at h;split at h
 ·cases h
 ·cases h;simp only;omega
theorem quX (P:Pr) (n:Nat) (f:FnD) (x:Ex) (s s':IS) (v:Nat) (h:evI P n f x s=.ok v s'):s'.left<s.left:=by
 cases n with
 |zero=>unfold evI at h;cases h
 |succ n=>
  obtain ⟨op,num,name,args⟩:=x;unfold evI at h
  cases ht:tick s with
  |stop e s1=>rw[ht] at h;cases h
  |ok u s1=>
   rw[ht] at h;have h1:=qiC ht;have hG:Grow s1 ((mapR (evI P n f) args s1).bind fun vs s=>opI P (stI P n) f op num name vs s):=(qiW ((qfW P n).1 f) args s1).bind fun vs s=>qn1 (qfW P n).2 f op num name vs s;have h2:=hG.2;have h3:(mapR (evI P n f) args s1).bind (fun vs s=>opI P (stI P n) f op num name vs s)=.ok v s':=h;rw[h3] at h2;exact Nat.lt_of_le_of_lt h2 h1
/-! ### A run -/
structure OutI where
 out:List UInt8
 err:Int
 steps:Nat
def qdf (P:Pr) (inp:List Nat) (limit:Nat):IS:=⟨fun _=>0,fun x=>match P.arrays.find? fun a=>decide (a.name=x) with
 |some a=>List.replicate a.size 0
 |none=>[],inp,[],limit⟩
def qcG (P:Pr):FnD:=P.funcs.getLast?.getD ⟨[],[],[],[]⟩
def endI {A:Type} (limit:Nat):IR A->OutI
 |.ok _ s=>⟨s.out,0,limit-s.left⟩
 |.stop e s=>⟨s.out,e,limit-s.left⟩
def runI (P:Pr) (inp:List Nat) (limit:Nat):OutI:=endI limit (blkR (stI P limit (qcG P)) (qcG P).body (qdf P inp limit))
end Go.Stele
namespace Go.Stele
abbrev Nm:=List UInt8
def qmN:List Nm:=qch++[[105,110],[111,117,116]]
def isNm (s:Nm):Bool:=decide (s.length<=24) && !qmN.contains s && (match s with
 |[]=>false
 |c::r=>qaV c && r.all qaM)
structure FSum where
 name:Nm
 params:Nat
 need:Nat
 depth:Nat
structure CEnv where
 vars:List Nm
 arrays:List Nm
 later:List Nm
 own:List Nm
 funcs:List FSum
def CEnv.globals (c:CEnv):List Nm:=c.vars++c.arrays++c.later
def CEnv.fn (c:CEnv) (name:Nm):Option FSum:=c.funcs.find? fun f=>decide (f.name=name)
def orE (a b:Int):Int:=if a≠0 then a else b
def qjL:List Nm:=[[124,124],[38,38],[61,61],[33,61],[60],[62],[60,61],[62,61],[94],[43],[45],[42],[47],[37]]
def qci (op:Nm):Int:=if op=nNum∨op=nVar then 0 else if op=qcY∨op=nNeg∨op=nNot then 1 else if op=qbG then -1 else if op∈qjL then 2 else -2
def qcA (c:CEnv) (name:Nm):Int:=if name∈c.vars∨name∈c.own then 0 else if name∈c.globals then 10 else 7
def qfF (c:CEnv) (name:Nm):Int:=if name∈c.arrays then 0 else if name∈c.globals∨name∈c.own then 10 else 7
def callE (c:CEnv) (name:Nm) (n:Nat):Int:=
 if name=[105,110] then (if n=0 then 0 else 1)
 else if name=[111,117,116] then (if n=1 then 0 else 1)
 else match c.fn name with
  |some f=>if n=f.params then 0 else 1
  |none=>if name∈c.vars∨name∈c.arrays∨name∈c.own then 10 else 7
def useE (c:CEnv) (op name:Nm) (n:Nat):Int:=if op=nVar then qcA c name else if op=qcY then qfF c name else if op=qbG then callE c name n else 0
mutual
def errE (c:CEnv):Ex->Int
 |.mk op num name args=>if qci op = -1∨qci op=args.length then orE (qb6 c args) (useE c op name args.length) else 3
def qb6 (c:CEnv):List Ex->Int
 |[]=>0
 |x::l=>orE (errE c x) (qb6 c l)
end
def qmh:Nat->List Nat->Nat->Nat
 |i,[],m=>m
 |i,n::l,m=>qmh (i+1) l (max m (i+n))
def qnl (c:CEnv) (name:Nm) (ns:List Nat):Nat:=
 if name=[105,110] then 1
 else if name=[111,117,116] then ns.headD 0
 else match c.fn name with
  |some f=>qmh 0 ns (max (f.params+1) f.need)
  |none=>0
def opN (c:CEnv) (op name:Nm) (ns:List Nat):Nat:=
 if op=nNum∨op=nVar then 1
 else if op=qcY∨op=nNeg then 1+ns.headD 0
 else if op=qbG then qnl c name ns
 else if op=nNot then max 2 (ns.headD 0)
 else if op=[62]∨op=[60,61] then max (max 3 (ns.headD 0)) (1+ns.tail.headD 0)
 else if op=[33,61] then max (max 3 (1+ns.headD 0)) (2+ns.tail.headD 0)
 else if op=[38,38] then max (1+ns.headD 0) (2+ns.tail.headD 0)
 else if op=[124,124] then max (2+ns.headD 0) (3+ns.tail.headD 0)
 else max (max 2 (ns.headD 0)) (1+ns.tail.headD 0)
mutual
def qdr (c:CEnv):Ex->Nat
 |.mk op num name args=>opN c op name (qbN c args)
def qbN (c:CEnv):List Ex->List Nat
 |[]=>[]
 |x::l=>qdr c x::qbN c l
end
def qgC (c:CEnv) (op name:Nm):Nat:=if op=qbG/\name≠[105,110]/\name≠[111,117,116] then (match c.fn name with
 |some f=>f.depth+1
 |none=>0) else 0
mutual
def depE (c:CEnv):Ex->Nat
 |.mk op num name args=>max (qde c args) (qgC c op name)
def qde (c:CEnv):List Ex->Nat
 |[]=>0
 |x::l=>max (depE c x) (qde c l)
end
def exOp1:Ex->Nm
 |.mk op _ _ _=>op
def qbX:Sm->Bool
 |.mk kind name index value thn els=>
  if kind=1 then decide (name≠[]/\index.length=0/\value.length=1/\thn.length=0/\els.length=0)
  else if kind=2 then decide (name≠[]/\index.length=1/\value.length=1/\thn.length=0/\els.length=0)
  else if kind=3 then decide (name=[]/\index.length=0/\value.length=1)
  else if kind=4 then decide (name=[]/\index.length=0/\value.length=1/\els.length=0)
  else if kind=5 then decide (name=[]/\index.length=0/\value.length=1/\thn.length=0/\els.length=0)
  else if kind=6 then decide (name=[]/\index.length=0/\value.length=1/\thn.length=0/\els.length=0/\exOp1 (value.headD default)=qbG)
  else if kind=7 then decide (name=[]/\index.length=0/\value.length=0/\thn.length=0/\els.length=0)
  else false
mutual
def errS (c:CEnv):Sm->Int
 |.mk kind name index value thn els=>if qbX (.mk kind name index value thn els)=false then 3
  else orE (qb6 c value) (orE (qb6 c index) (orE (if kind=1 then qcA c name else if kind=2 then qfF c name else 0) (orE (qcr c thn) (qcr c els))))
def qcr (c:CEnv):List Sm->Int
 |[]=>0
 |s::l=>orE (errS c s) (qcr c l)
end
mutual
def ql0 (c:CEnv):Sm->Nat
 |.mk kind name index value thn els=>
  if kind=7 then 0
  else if kind=2 then max (qdr c (value.headD default)) (2+qdr c (index.headD default))
  else if kind=5 then qdr c (value.headD default)
  else max 2 (max (max (qdr c (value.headD default)) (qcq c thn)) (qcq c els))
def qcq (c:CEnv):List Sm->Nat
 |[]=>0
 |s::l=>max (ql0 c s) (qcq c l)
end
mutual
def depS (c:CEnv):Sm->Nat
 |.mk kind name index value thn els=>max (max (qde c value) (qde c index)) (max (qcW c thn) (qcW c els))
def qcW (c:CEnv):List Sm->Nat
 |[]=>0
 |s::l=>max (depS c s) (qcW c l)
end
def qb1:List Nm->List Nm->Int
 |known,[]=>0
 |known,s::l=>if isNm s=false then 7 else if s∈known then 8 else qb1 (s::known) l
def qg9:Int->List Int->Int
 |total,[]=>0
 |total,n::l=>if n<=0 then 2 else if 150000-total<n then 6 else qg9 (total+n) l
def envF (vars arrays later:List Nm) (known:List FSum) (f:FnD):CEnv:=⟨vars,arrays,later,f.params++f.locals,known⟩
def errF (vars arrays later:List Nm) (known:List FSum) (f:FnD):Int:=orE (qb1 (vars++arrays++later) (f.params++f.locals)) (qcr (envF vars arrays later known f) f.body)
def sumF (vars arrays later:List Nm) (known:List FSum) (f:FnD):FSum:=⟨f.name,f.params.length,max (max 2 (f.params.length+1)) (qcq (envF vars arrays later known f) f.body),max 1 (qcW (envF vars arrays later known f) f.body)⟩
def qf5 (vars arrays later:List Nm):List FSum->List FnD->Int
 |known,[]=>0
 |known,f::l=>orE (errF vars arrays later known f) (qf5 vars arrays later (known++[sumF vars arrays later known f]) l)
def qmf (vars arrays later:List Nm):List FSum->List FnD->List FSum
 |known,[]=>known
 |known,f::l=>qmf vars arrays later (known++[sumF vars arrays later known f]) l
def qan (vars:List Nm) (fs:List FnD):List Nm:=vars++(fs.map fun f=>(f.params++f.locals).map fun x=>f.name++[46]++x).flatten
def qti (vars:List Nm) (fs:List FnD) (sums:List FSum):Int:=match fs.getLast?,sums.getLast? with
 |some f,some m=>if f.name=[109,97,105,110]/\f.params=[] then (if (qan vars fs).length<=8000/\m.need<=200/\m.depth<=60 then 0 else 6) else 9
 |_,_=>9
def qc2 (vars:List Nm) (arrays:List (Nm×Int)) (fs:List FnD):Int:=
 orE (qb1 [] (vars++arrays.map (·.1)++fs.map (·.name))) (orE (qg9 0 (arrays.map (·.2)))
  (orE (qf5 vars (arrays.map (·.1)) (fs.map (·.name)) [] fs) (qti vars fs (qmf vars (arrays.map (·.1)) (fs.map (·.name)) [] fs))))
def qbI (p:Pr):Int:=qc2 p.vars (p.arrays.map fun a=>(a.name,(a.size:Int))) p.funcs
theorem qap {a b:Int}:orE a b=0 ↔ a=0/\b=0:=by
 unfold orE;split
 ·constructor
  ·intro h;contradiction
  ·rintro ⟨h,_⟩;contradiction
 ·constructor
  ·intro h;exact ⟨by omega,h⟩
  ·rintro ⟨_,h⟩;exact h
end Go.Stele
namespace Go.Stele
abbrev KT:=Int×List UInt8
def sg (c:UInt8):KT:=(4,[c])
def qc1 (x:List UInt8):Prop:=qdF ⟨2,x,0⟩
mutual
inductive PE:Ex->Nat->List KT->Nat->Prop
 |num {n k:Nat} (h:n<4294967296):PE (.mk nNum n [] []) k [(1,Go.Lib.decDigits n)] 0
 |var {s:List UInt8} {k:Nat} (h:qc1 s):PE (.mk nVar 0 s []) k [(2,s)] 0
 |elem {s:List UInt8} {k:Nat} {a:Ex} {ts:List KT} {d:Nat} (h:qc1 s) (ha:PE a 0 ts d):PE (.mk qcY 0 s [a]) k ((2,s)::sg 91::(ts++[sg 93])) (d+1)
 |call {s:List UInt8} {k:Nat} {l:List Ex} {ts:List KT} {d:Nat} (h:qc1 s) (hl:PEs l ts d):PE (.mk qbG 0 s l) k ((2,s)::sg 40::(ts++[sg 41])) (d+1)
 |neg {k:Nat} {a:Ex} {ts:List KT} {d:Nat} (ha:PE a 6 ts d):PE (.mk nNeg 0 [] [a]) k (sg 45::ts) (d+1)
 |not {k:Nat} {a:Ex} {ts:List KT} {d:Nat} (ha:PE a 6 ts d):PE (.mk nNot 0 [] [a]) k (sg 33::ts) (d+1)
 |bin {s k:Nat} {op:List UInt8} {a b:Ex} {t1 t2:List KT} {d1 d2:Nat} (hs:s<6) (ho:op∈qaZ s) (hk:k<=s) (ha:PE a (qbS s) t1 d1) (hb:PE b (s+1) t2 d2):PE (.mk op 0 [] [a,b]) k (t1++(4,op)::t2) (max d1 d2)
 |par {s k:Nat} {op:List UInt8} {a b:Ex} {t1 t2:List KT} {d1 d2:Nat} (hs:s<6) (ho:op∈qaZ s) (hk:s<k) (ha:PE a (qbS s) t1 d1) (hb:PE b (s+1) t2 d2):PE (.mk op 0 [] [a,b]) k (sg 40::((t1++(4,op)::t2)++[sg 41])) (max d1 d2+1)
inductive PEs:List Ex->List KT->Nat->Prop
 |nil:PEs [] [] 0
 |one {a:Ex} {ts:List KT} {d:Nat} (ha:PE a 0 ts d):PEs [a] ts d
 |more {a b:Ex} {l:List Ex} {t1 t2:List KT} {d1 d2:Nat} (ha:PE a 0 t1 d1) (hl:PEs (b::l) t2 d2):PEs (a::b::l) (t1++sg 44::t2) (max d1 d2)
end
theorem PE.weak {e:Ex} {k k':Nat} {ts:List KT} {d:Nat} (h:PE e k ts d) (hk:k'<=k):∃ ts' d',PE e k' ts' d'/\ts'.length<=ts.length/\d'<=d:=by
 cases h with
 |num h=>exact ⟨_,_,.num h,zNr _,zNr _⟩
 |var h=>exact ⟨_,_,.var h,zNr _,zNr _⟩
 |elem h ha=>exact ⟨_,_,.elem h ha,zNr _,zNr _⟩
 |call h ha=>exact ⟨_,_,.call h ha,zNr _,zNr _⟩
 |neg ha=>exact ⟨_,_,.neg ha,zNr _,zNr _⟩
 |not ha=>exact ⟨_,_,.not ha,zNr _,zNr _⟩
 |bin hs ho hk2 ha hb=>exact ⟨_,_,.bin hs ho (by omega) ha hb,zNr _,zNr _⟩
 |par hs ho hk2 ha hb=>
  rename_i s _ _ _ _ _ _ _
  by_cases h2:k'<=s
  ·exact ⟨_,_,.bin hs ho h2 ha hb,by simp only[zLa,zLc,zLn];omega,by omega⟩
  ·exact ⟨_,_,.par hs ho (by omega) ha hb,zNr _,zNr _⟩
theorem PE.paren {e:Ex} {ts:List KT} {d:Nat} (h:PE e 0 ts d):∃ ts' d',PE e 6 ts' d'/\ts'.length<=ts.length+2/\d'<=d+1:=by
 cases h with
 |num h=>exact ⟨_,_,.num h,by omega,by omega⟩
 |var h=>exact ⟨_,_,.var h,by omega,by omega⟩
 |elem h ha=>exact ⟨_,_,.elem h ha,by omega,by omega⟩
 |call h ha=>exact ⟨_,_,.call h ha,by omega,by omega⟩
 |neg ha=>exact ⟨_,_,.neg ha,by omega,by omega⟩
 |not ha=>exact ⟨_,_,.not ha,by omega,by omega⟩
 |bin hs ho hk2 ha hb=>exact ⟨_,_,.par hs ho hs ha hb,by simp only[zLa,zLc,zLn];omega,by omega⟩
 |par hs ho hk2 ha hb=>omega
theorem PEs.snoc:∀ {l:List Ex} {a:Ex} {t0 t1:List KT} {d0 d1:Nat},PEs l t0 d0->PE a 0 t1 d1->∃ t,PEs (l++[a]) t (max d0 d1)/\t.length=t0.length+(if l=[] then 0 else 1)+t1.length:=by
 intro l
 induction l with
 |nil=>
  intro a t0 t1 d0 d1 h h1
  cases h with
  |nil=>exact ⟨t1,by rw[Nat.zero_max];exact .one h1,by simp⟩
 |cons b l ih=>
  intro a t0 t1 d0 d1 h h1
  cases h with
  |one hb=>exact ⟨_,.more hb (.one h1),by simp only[zLa,zLc];simp;omega⟩
  |more hb hl=>
   obtain ⟨t,g1,g2⟩:=ih hl h1;exact ⟨_,by rw[Nat.max_assoc];exact .more hb g1,by simp only[zLa,zLc,g2];simp;omega⟩
/-! ### What is read can be printed -/
def Wh {A:Type} (P:A->Nat->Nat->Prop) (r:OR A):Prop:=∀ v i op,r=some (.ok v i op)->P v i op
theorem qa5 {A B:Type} {r:OR A} {k:A->Nat->Nat->OR B} {P:A->Nat->Nat->Prop} {Q:B->Nat->Nat->Prop} (hr:Wh P r) (hk:∀ v i op,P v i op->Wh Q (k v i op)):Wh Q (qaw r k):=fun v i op h=>by
 rcases qau h with ⟨w,i1,op1,h1,h2⟩|⟨_,_,_,h2⟩
 ·exact hk _ _ _ (hr _ _ _ h1) v i op h2
 ·cases h2
theorem qhc {A B:Type} {r:OR A} {k:A->Nat->Nat->OR B} {Q:B->Nat->Nat->Prop} (hk:∀ v i op,r=some (.ok v i op)->Wh Q (k v i op)):Wh Q (qaw r k):=qa5 (fun _ _ _ h=>h) hk
theorem qcH {A:Type} {P:A->Nat->Nat->Prop} {v:A} {i op:Nat} (h:P v i op):Wh P (some (.ok v i op)):=fun _ _ _ e=>by cases e;exact h
theorem qcL {A:Type} {P:A->Nat->Nat->Prop}:Wh P none:=fun _ _ _ e=>by cases e
theorem qkZ {A:Type} {P Q:A->Nat->Nat->Prop} {r:OR A} (h:Wh P r) (hPQ:∀ v i op,P v i op->Q v i op):Wh Q r:=fun v i op e=>hPQ _ _ _ (h v i op e)
theorem qdz {B:Type} {T:List Tok} {x:List UInt8} {i op:Nat} {k:Unit->Nat->Nat->OR B} {Q:B->Nat->Nat->Prop} (hk:op<100->Wh Q (k () (i+1) (op+1))):Wh Q (qaw (some (qbC T x i op)) k):=qhc fun v i1 op1 h=>by
 injection h with h;obtain ⟨rfl,rfl,h3,_⟩:=qbb h;exact hk h3
theorem qjq {B:Type} {T:List Tok} {x:List UInt8} {i op:Nat} {k:Unit->Nat->Nat->OR B} {Q:B->Nat->Nat->Prop} (hk:Wh Q (k () (i+1) (op-1))):Wh Q (qaw (some (sEnd T x i op)) k):=qhc fun v i1 op1 h=>by
 injection h with h;obtain ⟨rfl,rfl,_⟩:=qeT h;exact hk
theorem qiF {B:Type} {T:List Tok} {x:List UInt8} {i op:Nat} {k:Unit->Nat->Nat->OR B} {Q:B->Nat->Nat->Prop} (hk:Wh Q (k () (i+1) op)):Wh Q (qaw (some (qcX T x i op)) k):=qhc fun v i1 op1 h=>by
 obtain ⟨rfl,rfl⟩:=qfp h;exact hk
theorem qpt {T:List Tok} (hT:∀ t∈T,qdF t) {i op i' op':Nat} {s:List UInt8} (h:qcw T 2 i op=.ok s i' op'):qc1 s/\i'=i+1/\op'=op:=by
 unfold qcw at h;split at h
 ·rename_i t ht
  split at h
  ·rename_i hk
   cases h;have:=hT t (List.mem_of_getElem? ht);refine ⟨?_,rfl,rfl⟩;unfold qc1;unfold qdF at this ⊢;rw[hk] at this;exact this
  ·cases h
 ·cases h
theorem qhB {B:Type} {T:List Tok} (hT:∀ t∈T,qdF t) {i op:Nat} {k:List UInt8->Nat->Nat->OR B} {Q:B->Nat->Nat->Prop} (hk:∀ s,qc1 s->Wh Q (k s (i+1) op)):Wh Q (qaw (some (qcw T 2 i op)) k):=qhc fun v i1 op1 h=>by
 injection h with h;obtain ⟨h1,rfl,rfl⟩:=qpt hT h;exact hk v h1
theorem qs2 (s:List UInt8):qh6 s<4294967296:=by
 unfold qh6;split
 ·rename_i u h
  exact qiL h
 ·decide
theorem qlP {B:Type} {T:List Tok} {i op:Nat} {k:Nat->Nat->Nat->OR B} {Q:B->Nat->Nat->Prop} (hk:∀ n,n<4294967296->Wh Q (k n (i+1) op)):Wh Q (qaw (some (qcf T i op)) k):=qhc fun v i1 op1 h=>by
 injection h with h;unfold qcf Res.bind at h;split at h
 ·rename_i h1
  cases h;obtain ⟨rfl,rfl⟩:=qeC (congrArg some h1);exact hk _ (qs2 _)
 ·cases h
theorem qp8 {T:List Tok} {i:Nat} {xs:List (List UInt8)} (h:qaK T i xs=true):qdj T i∈xs:=by
 unfold qaK at h;unfold qdj;split at h
 ·rename_i t ht
  simp only[zBa] at h;simpa using h.2
 ·cases h
def SE (k i op:Nat) (e:Ex) (i' op':Nat):Prop:=op'=op/\∃ ts d,PE e k ts d/\ts.length+i<=i'/\d<=100-op
def SX (i op:Nat) (e:Ex) (i' op':Nat):Prop:=op'=op/\∃ ts d,PE e 0 ts d/\ts.length+2+i<=i'/\d+1<=100-op
def SA (i op:Nat) (l:List Ex) (i' op':Nat):Prop:=op'=op/\∃ ts d,PEs l ts d/\ts.length+2+i<=i'/\d+1<=100-op
def SL (i op:Nat) (l:List Ex) (i' op':Nat):Prop:=op'=op/\∃ ts d,PEs l ts d/\ts.length+i<=i'/\d<=100-op
theorem quz {T:List Tok} (hT:∀ t∈T,qdF t):∀ f:Nat,(∀ k i op,k<=6->Wh (SE k i op) (eLev T f k i op))/\(∀ k e i0 i op ts d,k<6->PE e (qbS k) ts d->ts.length+i0<=i->d<=100-op->Wh (SE k i0 op) (qb8 T f k e i op)) /\
  (∀ i op,Wh (SE 6 i op) (qa0 T f i op))/\(∀ i op,Wh (SE 6 i op) (qcs T f i op))/\(∀ i op,Wh (SX i op) (qbw T f i op))/\(∀ i op,Wh (SA i op) (qcR T f i op)) /\
  (∀ acc i0 i op ts d,PEs acc ts d->ts.length+i0<=i->d<=100-op->Wh (SL i0 op) (qav T f acc i op))
 |0=>⟨fun _ _ _ _=>by rw[eLev];exact qcL,fun _ _ _ _ _ _ _ _ _ _ _=>by rw[qb8];exact qcL,fun _ _=>by rw[qa0];exact qcL,fun _ _=>by rw[qcs];exact qcL,fun _ _=>by rw[qbw];exact qcL,fun _ _=>by rw[qcR];exact qcL,fun _ _ _ _ _ _ _ _ _=>by rw[qav];exact qcL⟩
 |f+1=>by
  obtain ⟨hL,hO,hU,hP,hI,hA,hB⟩:=quz hT f;refine ⟨fun k i op hk=>?_,fun k e i0 i op ts d hk hP0 hts hd=>?_,fun i op=>?_,fun i op=>?_,fun i op=>?_,fun i op=>?_,fun acc i0 i op ts d hP0 hts hd=>?_⟩
  ·rw[eLev];split
   ·rename_i h6
    subst h6;exact hU i op
   ·refine qa5 (hL (k+1) i op (by omega)) fun v i' op' h=>?_;obtain ⟨rfl,ts,d,h1,h2,h3⟩:=h;obtain ⟨ts',d',g1,g2,g3⟩:=h1.weak (k':=qbS k) (by unfold qbS;split <;> omega);exact hO k v i i' _ ts' d' (by omega) g1 (by omega) (by omega)
  ·rw[qb8];split
   ·rename_i ht
    refine qa5 (hL (k+1) (i+1) op (by omega)) fun v i' op' h=>?_;obtain ⟨rfl,t2,d2,h1,h2,h3⟩:=h;have hb:PE (.mk (qdj T i) 0 [] [e,v]) k (ts++(4,qdj T i)::t2) (max d d2):=.bin hk (qp8 ht) (zNr _) hP0 h1;split
    ·exact qcH ⟨rfl,_,_,hb,by simp only[zLa,zLc];omega,by omega⟩
    ·rename_i h22
     refine hO k _ i0 i' _ _ _ hk (by rw[qbS,if_neg h22];exact hb) (by simp only[zLa,zLc];omega) (by omega)
   ·obtain ⟨ts',d',g1,g2,g3⟩:=hP0.weak (k':=k) (by unfold qbS;split <;> omega);exact qcH ⟨rfl,ts',d',g1,by omega,by omega⟩
  ·rw[qa0];split
   ·refine qdz fun ho=>qa5 (hU (i+1) (op+1)) fun v i' op' h=>?_;obtain ⟨rfl,ts,d,h1,h2,h3⟩:=h;exact qcH ⟨by omega,_,_,.neg h1,by simp only[zLc];omega,by omega⟩
   ·split
    ·refine qdz fun ho=>qa5 (hU (i+1) (op+1)) fun v i' op' h=>?_;obtain ⟨rfl,ts,d,h1,h2,h3⟩:=h;exact qcH ⟨by omega,_,_,.not h1,by simp only[zLc];omega,by omega⟩
    ·exact hP i op
  ·rw[qcs];split
   ·refine qdz fun ho=>qa5 (hL 0 (i+1) (op+1) (by omega)) fun v i' op' h=>qjq ?_;obtain ⟨rfl,ts,d,h1,h2,h3⟩:=h;obtain ⟨ts',d',g1,g2,g3⟩:=h1.paren;exact qcH ⟨by omega,ts',d',g1,by omega,by omega⟩
   ·split
    ·exact qlP fun n hn=>qcH ⟨rfl,_,_,.num hn,by simp only[zLc,zLn];omega,by omega⟩
    ·refine qhB hT fun s hs=>?_;split
     ·refine qa5 (hI (i+1) op) fun v i' op' h=>?_;obtain ⟨rfl,ts,d,h1,h2,h3⟩:=h;exact qcH ⟨rfl,_,_,.elem hs h1,by simp only[zLc,zLa,zLn];omega,by omega⟩
     ·split
      ·refine qa5 (hA (i+1) op) fun v i' op' h=>?_;obtain ⟨rfl,ts,d,h1,h2,h3⟩:=h;exact qcH ⟨rfl,_,_,.call hs h1,by simp only[zLc,zLa,zLn];omega,by omega⟩
      ·exact qcH ⟨rfl,_,_,.var hs,by simp only[zLc,zLn];omega,by omega⟩
  ·rw[qbw];refine qdz fun ho=>qa5 (hL 0 (i+1) (op+1) (by omega)) fun v i' op' h=>qjq ?_;obtain ⟨rfl,ts,d,h1,h2,h3⟩:=h;exact qcH ⟨by omega,ts,d,h1,by omega,by omega⟩
  ·rw[qcR];refine qdz fun ho=>qa5 (hB [] (i+1) (i+1) (op+1) [] 0 .nil (by simp) (by omega)) fun v i' op' h=>qjq ?_;obtain ⟨rfl,ts,d,h1,h2,h3⟩:=h;exact qcH ⟨by omega,ts,d,h1,by omega,by omega⟩
  ·rw[qav];split
   ·exact qcH ⟨rfl,ts,d,hP0,by omega,by omega⟩
   ·refine qhc fun _ i1 op1 h1=>?_
    have hi:i1=i+(if acc=[] then 0 else 1)/\op1=op:=by
     injection h1 with h1;split at h1
     ·rename_i ha
      cases h1;rw[if_pos ha];exact ⟨rfl,rfl⟩
     ·rename_i ha
      rw[if_neg ha];exact qfp (congrArg some h1)
    obtain ⟨rfl,rfl⟩:=hi;refine qa5 (hL 0 _ op1 (by omega)) fun v i' op' h=>?_;obtain ⟨rfl,t2,d2,h1,h2,h3⟩:=h;obtain ⟨t,g1,g2⟩:=hP0.snoc h1;exact hB _ i0 i' _ t _ g1 (by omega) (by omega)
/-! ### Statements -/
mutual
inductive PS:Sm->List KT->Nat->Prop
 |assign {s:List UInt8} {e:Ex} {ts:List KT} {d:Nat} (h:qc1 s) (he:PE e 0 ts d):PS (.mk 1 s [] [e] [] []) ((2,s)::sg 61::(ts++[sg 59])) d
 |store {s:List UInt8} {x e:Ex} {t1 t2:List KT} {d1 d2:Nat} (h:qc1 s) (hx:PE x 0 t1 d1) (he:PE e 0 t2 d2):PS (.mk 2 s [x] [e] [] []) ((2,s)::sg 91::(t1++sg 93::sg 61::(t2++[sg 59]))) (max (d1+1) d2)
 |call {s:List UInt8} {l:List Ex} {ts:List KT} {d:Nat} (h:qc1 s) (hl:PEs l ts d):PS (.mk 6 [] [] [.mk qbG 0 s l] [] []) ((2,s)::sg 40::(ts++[sg 41,sg 59])) (d+1)
 |ret {e:Ex} {ts:List KT} {d:Nat} (he:PE e 0 ts d):PS (.mk 5 [] [] [e] [] []) ((3,qeh)::(ts++[sg 59])) d
 |halt:PS (.mk 7 [] [] [] [] []) [(3,qjH),sg 59] 0
 |ifElse {e:Ex} {th el:List Sm} {ts t1 t2:List KT} {d d1 d2:Nat} (he:PE e 0 ts d) (h1:PSs th t1 d1) (h2:PSs el t2 d2) (hne:el≠[]) :
   PS (.mk 3 [] [] [e] th el) ((3,kwIf)::(ts++sg 123::(t1++sg 125::(3,qe2)::sg 123::(t2++[sg 125])))) (max d (max (d1+1) (d2+1)))
 |ifThen {e:Ex} {th:List Sm} {ts t1:List KT} {d d1:Nat} (he:PE e 0 ts d) (h1:PSs th t1 d1):PS (.mk 3 [] [] [e] th []) ((3,kwIf)::(ts++sg 123::(t1++[sg 125]))) (max d (d1+1))
 |while {e:Ex} {th:List Sm} {ts t1:List KT} {d d1:Nat} (he:PE e 0 ts d) (h1:PSs th t1 d1):PS (.mk 4 [] [] [e] th []) ((3,qfk)::(ts++sg 123::(t1++[sg 125]))) (max d (d1+1))
inductive PSs:List Sm->List KT->Nat->Prop
 |nil:PSs [] [] 0
 |cons {s:Sm} {l:List Sm} {t1 t2:List KT} {d1 d2:Nat} (h:PS s t1 d1) (hl:PSs l t2 d2):PSs (s::l) (t1++t2) (max d1 d2)
end
theorem PSs.snoc:∀ {l:List Sm} {a:Sm} {t0 t1:List KT} {d0 d1:Nat},PSs l t0 d0->PS a t1 d1->PSs (l++[a]) (t0++t1) (max d0 d1):=by
 intro l
 induction l with
 |nil=>
  intro a t0 t1 d0 d1 h h1
  cases h with
  |nil=>
   have:=PSs.cons h1 .nil;rw[zLz,Nat.max_zero] at this;rw[Nat.zero_max]
   exact this
 |cons b l ih=>
  intro a t0 t1 d0 d1 h h1
  cases h with
  |cons hb hl=>
   rw[zAs,Nat.max_assoc];exact .cons hb (ih hl h1)
def SS (i op:Nat) (s:Sm) (i' op':Nat):Prop:=op'=op/\∃ ts d,PS s ts d/\ts.length+i<=i'/\d<=100-op
def SM (i op:Nat) (s:Sm) (i' op':Nat):Prop:=op'=op/\∃ ts d,PS s ts d/\ts.length+i<=i'+1/\d<=100-op
def SSs (i op:Nat) (s:List Sm) (i' op':Nat):Prop:=op'=op/\∃ ts d,PSs s ts d/\ts.length+i<=i'/\d<=100-op
def SB (i op:Nat) (s:List Sm) (i' op':Nat):Prop:=op'=op/\∃ ts d,PSs s ts d/\ts.length+2+i<=i'/\d+1<=100-op
theorem qun {T:List Tok} (hT:∀ t∈T,qdF t):∀ f:Nat,(∀ i op,Wh (SB i op) (qbj T f i op))/\(∀ acc i0 i op ts d,PSs acc ts d->ts.length+i0<=i->d<=100-op->Wh (SSs i0 op) (qbc T f acc i op)) /\
  (∀ i op,Wh (SS i op) (qco T f i op))/\(∀ i op,Wh (SM i op) (qaX T f i op))
 |0=>⟨fun _ _=>by rw[qbj];exact qcL,fun _ _ _ _ _ _ _ _ _=>by rw[qbc];exact qcL,fun _ _=>by rw[qco];exact qcL,fun _ _=>by rw[qaX];exact qcL⟩
 |f+1=>by
  obtain ⟨hB,hL,hS,hM⟩:=qun hT f;obtain ⟨eL,_,_,_,eI,eA,_⟩:=quz hT f;refine ⟨fun i op=>?_,fun acc i0 i op ts d hP0 hts hd=>?_,fun i op=>?_,fun i op=>?_⟩
  ·rw[qbj];refine qdz fun ho=>qa5 (hL [] (i+1) (i+1) (op+1) [] 0 .nil (by simp) (by omega)) fun v i' op' h=>qjq ?_;obtain ⟨rfl,ts,d,h1,h2,h3⟩:=h;exact qcH ⟨by omega,ts,d,h1,by omega,by omega⟩
  ·rw[qbc];split
   ·exact qcH ⟨rfl,ts,d,hP0,hts,hd⟩
   ·refine qa5 (hS i op) fun v i' op' h=>?_;obtain ⟨rfl,t2,d2,h1,h2,h3⟩:=h;exact hL _ i0 i' _ _ _ (hP0.snoc h1) (by simp only[zLa];omega) (by omega)
  ·rw[qco];split
   ·refine qa5 (eL 0 (i+1) op (by omega)) fun v i1 op1 h=>?_;obtain ⟨rfl,t1,d1,g1,g2,g3⟩:=h;refine qa5 (hB i1 _) fun th i2 op2 h=>?_;obtain ⟨rfl,t2,d2,k1,k2,k3⟩:=h;split
    ·refine qa5 (hB (i2+1) _) fun el i3 op3 h=>?_;obtain ⟨rfl,t3,d3,l1,l2,l3⟩:=h
     by_cases hne:el=[]
     ·subst hne;exact qcH ⟨rfl,_,_,.ifThen g1 k1,by simp only[zLc,zLa,zLn];omega,by omega⟩
     ·exact qcH ⟨rfl,_,_,.ifElse g1 k1 l1 hne,by simp only[zLc,zLa,zLn];omega,by omega⟩
    ·exact qcH ⟨rfl,_,_,.ifThen g1 k1,by simp only[zLc,zLa,zLn];omega,by omega⟩
   ·split
    ·refine qa5 (eL 0 (i+1) op (by omega)) fun v i1 op1 h=>?_;obtain ⟨rfl,t1,d1,g1,g2,g3⟩:=h;refine qa5 (hB i1 _) fun th i2 op2 h=>?_;obtain ⟨rfl,t2,d2,k1,k2,k3⟩:=h;exact qcH ⟨rfl,_,_,.while g1 k1,by simp only[zLc,zLa,zLn];omega,by omega⟩
    ·refine qa5 (hM i op) fun v i1 op1 h=>qiF ?_;obtain ⟨rfl,t1,d1,g1,g2,g3⟩:=h;exact qcH ⟨rfl,_,_,g1,by omega,by omega⟩
  ·rw[qaX];split
   ·refine qa5 (eL 0 (i+1) op (by omega)) fun v i1 op1 h=>?_;obtain ⟨rfl,t1,d1,g1,g2,g3⟩:=h;exact qcH ⟨rfl,_,_,.ret g1,by simp only[zLc,zLa,zLn];omega,by omega⟩
   ·split
    ·exact qcH ⟨rfl,_,_,.halt,by simp only[zLc,zLa,zLn];omega,by omega⟩
    ·refine qhB hT fun s hs=>?_;split
     ·refine qa5 (eA (i+1) op) fun v i1 op1 h=>?_;obtain ⟨rfl,t1,d1,g1,g2,g3⟩:=h;exact qcH ⟨rfl,_,_,.call hs g1,by simp only[zLc,zLa,zLn];omega,by omega⟩
     ·split
      ·refine qa5 (eI (i+1) op) fun v i1 op1 h=>qiF ?_;obtain ⟨rfl,t1,d1,g1,g2,g3⟩:=h;refine qa5 (eL 0 (i1+1) _ (by omega)) fun e i2 op2 h=>?_;obtain ⟨rfl,t2,d2,k1,k2,k3⟩:=h;exact qcH ⟨rfl,_,_,.store hs g1 k1,by simp only[zLc,zLa,zLn];omega,by omega⟩
      ·refine qiF (qa5 (eL 0 (i+1+1) op (by omega)) fun e i2 op2 h=>?_);obtain ⟨rfl,t2,d2,k1,k2,k3⟩:=h;exact qcH ⟨rfl,_,_,.assign hs k1,by simp only[zLc,zLa,zLn];omega,by omega⟩
/-! ### Declarations -/
def qbp:List (List UInt8)->List KT
 |[]=>[]
 |[a]=>[(2,a)]
 |a::b::l=>(2,a)::sg 44::qbp (b::l)
theorem qfQ:∀ l:List (List UInt8),(qbp l).length=2 * l.length-1
 |[]=>rfl
 |[a]=>rfl
 |a::b::l=>by
  rw[qbp,zLc,zLc,qfQ (b::l)];simp only[zLc];omega
def varK (l:List (List UInt8)):List KT:=if l=[] then [] else (3,qe8)::(qbp l++[sg 59])
theorem qim (l:List (List UInt8)):(varK l).length=if l=[] then 0 else 2 * l.length+1:=by
 unfold varK;split
 ·rfl
 ·rename_i h
  have:0<l.length:=List.length_pos_iff.2 h;simp only[zLc,zLa,qfQ,zLn];omega
def qeG (l:List (List UInt8)):Prop:=∀ x∈l,qc1 x
theorem qeG.app {a b:List (List UInt8)} (ha:qeG a) (hb:qeG b):qeG (a++b):=fun x hx=>by
 rcases List.mem_append.1 hx with h|h
 ·exact ha x h
 ·exact hb x h
inductive PF:FnD->List KT->Nat->Prop
 |mk {nm:List UInt8} {ps ls:List (List UInt8)} {b:List Sm} {ts:List KT} {d:Nat} (h:qc1 nm) (hp:qeG ps) (hl:qeG ls) (hb:PSs b ts d) :
   PF ⟨nm,ps,ls,b⟩ ((3,qh0)::(2,nm)::sg 40::(qbp ps++sg 41::sg 123::(varK ls++(ts++[sg 125])))) (d+1)
inductive PFs:List FnD->List KT->Prop
 |nil:PFs [] []
 |cons {f:FnD} {l:List FnD} {t1 t2:List KT} {d:Nat} (h:PF f t1 d) (hd:d<=100) (hl:PFs l t2):PFs (f::l) (t1++t2)
def arK (a:Ar):List KT:=[(3,qeQ),(2,a.name),sg 91,(1,Go.Lib.decDigits a.size),sg 93,sg 59]
def qpf (l:List Ar):Prop:=∀ a∈l,qc1 a.name/\a.size<4294967296
inductive PP:Pr->List KT->Prop
 |mk {v:List (List UInt8)} {a:List Ar} {f:List FnD} {ts:List KT} (hv:qeG v) (ha:qpf a) (hf:PFs f ts):PP ⟨v,a,f⟩ (varK v++((a.map arK).flatten++ts))
theorem PFs.snoc:∀ {l:List FnD} {a:FnD} {t0 t1:List KT} {d:Nat},PFs l t0->PF a t1 d->d<=100->PFs (l++[a]) (t0++t1):=by
 intro l
 induction l with
 |nil=>
  intro a t0 t1 d h h1 hd
  cases h with
  |nil=>
   have:=PFs.cons h1 hd .nil;rw[zLz] at this
   exact this
 |cons b l ih=>
  intro a t0 t1 d h h1 hd
  cases h with
  |cons hb hd' hl=>
   rw[zAs];exact .cons hb hd' (ih hl h1 hd)
theorem qgB {T:List Tok} (hT:∀ t∈T,qdF t):∀ (f:Nat) (acc:List (List UInt8)) (i op:Nat),qeG acc->Wh (fun l i' op'=>op'=op/\qeG l/\acc.length<=l.length/\2 * l.length+i<=2 * acc.length+i') (qaA T f acc i op)
 |0,_,_,_,_=>by rw[qaA];exact qcL
 |f+1,acc,i,op,ha=>by
  rw[qaA];split
  ·refine qhB hT fun s hs=>qkZ (qgB hT f (acc++[s]) (i+1+1) op (ha.app fun x hx=>by cases List.mem_singleton.1 hx;exact hs)) fun l i' op' h=>?_;obtain ⟨rfl,h1,h2,h3⟩:=h;rw[zLa,List.length_singleton] at h2 h3;exact ⟨rfl,h1,by omega,by omega⟩
  ·exact qcH ⟨rfl,ha,zNr _,by omega⟩
theorem qm5 {T:List Tok} (hT:∀ t∈T,qdF t) (f i op:Nat):Wh (fun l i' op'=>op'=op/\qeG l/\0<l.length/\2 * l.length+i<=1+i') (qcE T f i op):=
 qhB hT fun s hs=>qkZ (qgB hT f [s] (i+1) op fun x hx=>by cases List.mem_singleton.1 hx;exact hs) fun l i' op' h=>by
  obtain ⟨rfl,h1,h2,h3⟩:=h;rw[List.length_singleton] at h2 h3;exact ⟨rfl,h1,by omega,by omega⟩
theorem qkN {T:List Tok} (hT:∀ t∈T,qdF t):∀ (f:Nat) (acc:List (List UInt8)) (i op:Nat),qeG acc->Wh (fun l i' op'=>op'=op/\qeG l/\acc.length<=l.length/\(if acc.length=l.length then i<=i' else 2 * l.length+1+i<=2 * acc.length+i')) (qcc T f acc i op)
 |0,_,_,_,_=>by rw[qcc];exact qcL
 |f+1,acc,i,op,ha=>by
  rw[qcc];split
  ·refine qa5 (qm5 hT f (i+1) op) fun l i1 op1 h=>qiF ?_;obtain ⟨rfl,h1,h2,h3⟩:=h;refine qkZ (qkN hT f (acc++l) (i1+1) _ (ha.app h1)) fun l2 i' op' h=>?_;obtain ⟨rfl,g1,g2,g3⟩:=h;rw[zLa] at g2 g3;refine ⟨rfl,g1,by omega,?_⟩;rw[if_neg (by omega)];split at g3 <;> omega
  ·exact qcH ⟨rfl,ha,zNr _,by rw[if_pos rfl];omega⟩
theorem qt5 {T:List Tok} (hT:∀ t∈T,qdF t) (f i:Nat):Wh (fun a i' op'=>op'=0/\∃ ts d,PF a ts d/\d<=100/\ts.length+i<=i'+1) (qeI T f i 0):=by
 unfold qeI;refine qhB hT fun nm hnm=>qdz fun _=>qa5 (P:=fun ps i' op'=>op'=1/\qeG ps/\2 * ps.length-1+(i+1+1)<=i') ?_ fun ps i1 op1 h=>qjq (qdz fun _=>?_)
 ·split
  ·exact qcH ⟨rfl,(fun x hx=>by cases hx),by simp⟩
  ·exact qkZ (qm5 hT f _ _) fun l i' op' h=>⟨h.1,h.2.1,by omega⟩
 obtain ⟨rfl,h1,h2⟩:=h;refine qa5 (qkN hT f [] _ _ fun x hx=>by cases hx) fun ls i2 op2 h=>?_;obtain ⟨rfl,g1,_,g3⟩:=h;refine qa5 ((qun hT f).2.1 [] i2 i2 _ [] 0 .nil (by simp) (by omega)) fun b i3 op3 h=>qjq ?_;obtain ⟨rfl,ts,d,k1,k2,k3⟩:=h;refine qcH ⟨by omega,_,_,.mk hnm h1 g1 k1,by omega,?_⟩;simp only[zLc,zLa,zLn,qfQ,qim] at g3 ⊢
 by_cases hl:ls=[]
 ·subst hl;simp only[zLn,if_pos] at g3 ⊢;omega
 ·have:¬ 0=ls.length:=fun h=>hl (List.eq_nil_of_length_eq_zero h.symm);rw[if_neg this] at g3;rw[if_neg hl];omega
theorem qrR {T:List Tok} (hT:∀ t∈T,qdF t) (i:Nat):Wh (fun a i' op'=>op'=0/\qc1 a.name/\a.size<4294967296/\5+i<=i') (qd6 T i 0):=by
 unfold qd6;exact qhB hT fun nm hnm=>qdz fun _=>qlP fun n hn=>qjq (qiF (qcH ⟨rfl,hnm,hn,by omega⟩))
def ntK (v:Nat) (a:Nat) (t:Nat):Nat:=(if v=0 then 0 else 2 * v+1)+6 * a+t
theorem qij {T:List Tok} (hT:∀ t∈T,qdF t):∀ (f:Nat) (v:List (List UInt8)) (a:List Ar) (fs:List FnD) (ts:List KT) (i:Nat),qeG v->qpf a->PFs fs ts->ntK v.length a.length ts.length<=i->i<=T.length ->
  Wh (fun q _ _=>∃ v' a' f' t',q=⟨v',a',f'⟩/\qeG v'/\qpf a'/\PFs f' t'/\ntK v'.length a'.length t'.length<=T.length) (qbH T f ⟨v,a,fs⟩ i 0)
 |0,_,_,_,_,_,_,_,_,_,_=>by rw[qbH];exact qcL
 |f+1,v,a,fs,ts,i,hv,ha,hf,hi,hT'=>by
  rw[qbH];split
  ·exact qcH ⟨_,_,_,_,rfl,hv,ha,hf,by omega⟩
  rename_i hlt
  split
  ·rename_i hw
   refine qhc fun l i1 op1 h1=>?_;have hg:=(qbY T f [] i 0 _ h1).2.2.1 hT';obtain ⟨rfl,g1,_,g3⟩:=qkN hT f [] i 0 (fun x hx=>by cases hx) _ _ _ h1;refine qij hT f (v++l) a fs ts i1 (hv.app g1) ha hf ?_ hg;rw[zLa];simp only[zLn] at g3;unfold ntK at hi ⊢;split at g3
   ·rename_i h0
    rw[<-h0,Nat.add_zero];omega
   ·rw[if_neg (by omega)];split at hi <;> omega
  ·split
   ·refine qhc fun l i1 op1 h1=>?_;have hg:=(qc6 T (i+1) 0 _ h1).2.2.1 (by omega);obtain ⟨rfl,g1,g2,g3⟩:=qrR hT (i+1) _ _ _ h1;refine qij hT f v (a++[l]) fs ts i1 hv (fun x hx=>?_) hf ?_ hg
    ·rcases List.mem_append.1 hx with h|h
     ·exact ha x h
     ·cases List.mem_singleton.1 h;exact ⟨g1,g2⟩
    ·rw[zLa,List.length_singleton];unfold ntK at hi ⊢;omega
   ·split
    ·refine qhc fun l i1 op1 h1=>?_;have hg:=(qdL T f (i+1) 0 _ h1).2.2.1 (by omega);obtain ⟨rfl,t1,d,g1,g2,g3⟩:=qt5 hT f (i+1) _ _ _ h1;refine qij hT f v a (fs++[l]) (ts++t1) i1 hv ha (hf.snoc g1 g2) ?_ hg;rw[zLa];unfold ntK at hi ⊢;omega
    ·exact fun _ _ _ e=>by cases e
theorem qlf:∀ a:List Ar,((a.map arK).flatten).length=6 * a.length
 |[]=>rfl
 |a::l=>by
  rw[zMc,List.flatten_cons,zLa,qlf l,zLc];simp only[arK,zLc,zLn];omega
theorem qmX {T:List Tok} (hT:∀ t∈T,qdF t) {f i op:Nat} {p:Pr} (h:qbH T f ⟨[],[],[]⟩ 0 0=some (.ok p i op)):∃ ts,PP p ts/\ts.length<=T.length:=by
 obtain ⟨v,a,fs,t,rfl,h1,h2,h3,h4⟩:=qij hT f [] [] [] [] 0 (fun x hx=>by cases hx) (fun x hx=>by cases hx) .nil (by simp[ntK]) (Nat.zero_le _) _ _ _ h;refine ⟨_,.mk h1 h2 h3,?_⟩;simp only[zLa,qim,qlf];unfold ntK at h4
 by_cases hv:v=[]
 ·subst hv;simp only[zLn,if_pos] at h4 ⊢;omega
 ·have:¬ v.length=0:=fun h=>hv (List.eq_nil_of_length_eq_zero h);rw[if_neg this] at h4;rw[if_neg hv];omega
end Go.Stele
