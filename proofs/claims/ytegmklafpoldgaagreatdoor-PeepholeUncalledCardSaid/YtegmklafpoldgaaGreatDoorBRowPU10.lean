/- Texts joined: AsmSpec, PeepLib, AsmA, PeepM, AsmB, AsmC, GlFour, MchSpec, MchWord, MchIns, CmpSpec, CmpSim, CmpLab, AsmD, CmpKn, CmpTrn. -/
import Derived.Lib.Strings
import Derived.Lib.SlTrimSet
import Derived.Lib.SplitLaws
import Derived.Shelf.Strings.SlTrimAscii
import Derived.Test.YtegmklafpoldgaaGreatDoorBRowPU2
import Derived.Test.YtegmklafpoldgaaGreatDoorBRowPU3
import Derived.Test.YtegmklafpoldgaaGreatDoorBRowPU5
import Derived.Test.YtegmklafpoldgaaGreatDoorBRowPU9
set_option linter.unusedVariables false
set_option linter.unusedSimpArgs false
set_option maxRecDepth 100000
set_option maxHeartbeats 4000000
namespace Go.Stele
open Go.Lib
def addrW (n:Nat):Wd:=([48,48,48,48,48]++decDigits n).drop (([48,48,48,48,48]++decDigits n).length-6)
def pieceW (known:Wd→Nat) (w:Wd):Wd:=match refW w with
 |some x=>addrW (known x)
 |none=>w
def addT (known:Wd→Nat) (t w:Wd):Wd:=match defW w with
 |some _=>t
 |none=>t++(if lastD t && firstD (pieceW known w) then [32] else [])++pieceW known w
def textA (known:Wd→Nat) (l:List Wd):Wd:=l.foldl (addT known) []
def stepA (known:Wd→Nat) (og:Nat) (s:Wd×List (Wd×Nat)) (w:Wd):Wd×List (Wd×Nat):=match defW w with
 |some x=>(s.1,s.2++[(x,og+s.1.length)])
 |none=>(addT known s.1 w,s.2)
def labsA (known:Wd→Nat) (og:Nat) (l:List Wd):List (Wd×Nat):=(l.foldl (stepA known og) ([],[])).2
def findL (labs:List (Wd×Nat)) (x:Wd):Nat:=match labs.find? fun p=>decide (p.1=x) with
 |some p=>p.2
 |none=>0
def errT (all:List Wd):List Wd→List (Wd×Nat)→Nat×Nat
 |_,[]=>(0,0)
 |met,(w,ln)::r=>match defW w with
  |some x=>if x∈met then (ln,8) else errT all (met++[x]) r
  |none=>match refW w with
   |some x=>if x∈all then errT all met r else (ln,7)
   |none=>if codeW w=true then errT all met r else (ln,3)
def asmP (src:Wd) (og:Int):Except (Nat×Nat) (Wd×List (Wd×Nat)):=
 if og<0∨262144≤og then .error (0,2)
 else if (errT (defs (wordsP src)) [] (toksP src)).2≠0 then .error (errT (defs (wordsP src)) [] (toksP src))
 else if 40000<(textA (findL (labsA (fun _=>0) og.toNat (wordsP src))) (wordsP src)).length then .error (0,6)
 else .ok (textA (findL (labsA (fun _=>0) og.toNat (wordsP src))) (wordsP src),labsA (fun _=>0) og.toNat (wordsP src))
theorem addrW_len (n:Nat):(addrW n).length=6∧∀ c∈addrW n,isDigit c=true:=by
 have h1:1≤(decDigits n).length:=List.length_pos_iff.2 (decDigits_ne n)
 constructor
 ·unfold addrW
  rw[List.length_drop,zLa]
  simp only[zLc,zLn]
  omega
 ·intro c hc
  have h2:=List.mem_of_mem_drop hc
  rcases List.mem_append.1 h2 with h|h
  ·simp only[zMi,List.not_mem_nil,or_false,or_self] at h
   rw[h];decide
  ·exact dec_digits n c h
theorem piece_first {known:Wd→Nat} {w:Wd} (known':Wd→Nat):firstD (pieceW known w)=firstD (pieceW known' w)∧lastD (pieceW known w)=lastD (pieceW known' w)∧(pieceW known w).length=(pieceW known' w).length:=by
 unfold pieceW
 cases refW w with
 |none=>exact ⟨rfl,rfl,rfl⟩
 |some x=>
  have key:∀ n,firstD (addrW n)=true∧lastD (addrW n)=true∧(addrW n).length=6:=fun n=>by
   obtain ⟨h1,h2⟩:=addrW_len n
   have hne:addrW n≠[]:=fun h=>by rw[h] at h1;cases h1
   refine ⟨?_,?_,h1⟩
   ·cases h:addrW n with
    |nil=>exact absurd h hne
    |cons c r=>exact h2 c (by rw[h];simp)
   ·unfold lastD
    rw[List.getLast?_eq_some_getLast hne]
    exact h2 _ (List.getLast_mem hne)
  obtain ⟨a1,a2,a3⟩:=key (known x)
  obtain ⟨b1,b2,b3⟩:=key (known' x)
  exact ⟨a1.trans b1.symm,a2.trans b2.symm,a3.trans b3.symm⟩
theorem lastD_app {a b:Wd} (h:b≠[]):lastD (a++b)=lastD b:=by
 unfold lastD
 rw[List.getLast?_append,List.getLast?_eq_some_getLast h];try rfl
theorem addT_nil (known:Wd→Nat) (t w:Wd) (hd:defW w=none) (hw:w≠[]):pieceW known w≠[]∧lastD (addT known t w)=lastD (pieceW known w)∧(addT known t w).length=t.length+one (lastD t && firstD (pieceW known w))+(pieceW known w).length:=by
 have hp:pieceW known w≠[]:=by
  unfold pieceW
  cases refW w with
  |none=>exact hw
  |some x=>intro h;have:=(addrW_len (known x)).1;rw[show addrW (known x)=[] from h] at this;cases this
 refine ⟨hp,?_,?_⟩
 ·unfold addT
  rw[hd]
  exact lastD_app hp
 ·unfold addT
  rw[hd]
  simp only[zLa,one]
  split <;> rfl
theorem foldT_len (known:Wd→Nat):∀ (l:List Wd) (t:Wd),(∀ w∈l,w≠[])→(l.foldl (addT known) t).length=t.length+lenW (lastD t) l
 |[],t,_=>rfl
 |w::r,t,h=>by
  have hr:=fun x hx=>h x (zMo w hx)
  rw[List.foldl_cons,foldT_len known r _ hr,lenW]
  cases hd:defW w with
  |some x=>
   have:addT known t w=t:=by unfold addT;rw[hd]
   rw[this]
  |none=>
   obtain ⟨h1,h2,h3⟩:=addT_nil known t w hd (h w (by simp))
   rw[h2,h3]
   cases hr:refW w with
   |some x=>
    have hp:pieceW known w=addrW (known x):=by unfold pieceW;rw[hr]
    obtain ⟨a1,a2⟩:=addrW_len (known x)
    have hf:firstD (addrW (known x))=true:=by
     cases h:addrW (known x) with
     |nil=>rw[h] at a1;cases a1
     |cons c q=>exact a2 c (by rw[h];simp)
    have hl:lastD (addrW (known x))=true:=by
     have hne:addrW (known x)≠[]:=fun h=>by rw[h] at a1;cases a1
     unfold lastD
     rw[List.getLast?_eq_some_getLast hne]
     exact a2 _ (List.getLast_mem hne)
    rw[hp,hf,hl,a1,Bool.and_true]
    simp only
    omega
   |none=>
    have hp:pieceW known w=w:=by unfold pieceW;rw[hr]
    rw[hp]
    simp only
    omega
theorem textA_len (known:Wd→Nat) (l:List Wd) (h:∀ w∈l,w≠[]):(textA known l).length=lenW false l:=by
 have:=foldT_len known l [] h
 rw[textA,this]
 simp[lastD]
theorem stepA_fst (known:Wd→Nat) (og:Nat):∀ (l:List Wd) (s:Wd×List (Wd×Nat)),(l.foldl (stepA known og) s).1=l.foldl (addT known) s.1
 |[],s=>rfl
 |w::r,s=>by
  rw[List.foldl_cons,List.foldl_cons,stepA_fst known og r]
  congr 1
  unfold stepA
  cases hd:defW w with
  |some x=>simp only;unfold addT;rw[hd]
  |none=>rfl
theorem labs_any (known known':Wd→Nat) (og:Nat):∀ (l:List Wd) (s s':Wd×List (Wd×Nat)),(∀ w∈l,w≠[])→s.1.length=s'.1.length→lastD s.1=lastD s'.1→s.2=s'.2→(l.foldl (stepA known og) s).2=(l.foldl (stepA known' og) s').2
 |[],s,s',_,_,_,h=>h
 |w::r,s,s',hw,h1,h2,h3=>by
  rw[List.foldl_cons,List.foldl_cons]
  have hr:=fun x hx=>hw x (zMo w hx)
  cases hd:defW w with
  |some x=>
   have e1:stepA known og s w=(s.1,s.2++[(x,og+s.1.length)]):=by unfold stepA;rw[hd]
   have e2:stepA known' og s' w=(s'.1,s'.2++[(x,og+s'.1.length)]):=by unfold stepA;rw[hd]
   rw[e1,e2]
   exact labs_any known known' og r _ _ hr h1 h2 (by simp only[h3,h1])
  |none=>
   have e1:stepA known og s w=(addT known s.1 w,s.2):=by unfold stepA;rw[hd]
   have e2:stepA known' og s' w=(addT known' s'.1 w,s'.2):=by unfold stepA;rw[hd]
   rw[e1,e2]
   obtain ⟨a1,a2,a3⟩:=addT_nil known s.1 w hd (hw w (by simp))
   obtain ⟨b1,b2,b3⟩:=addT_nil known' s'.1 w hd (hw w (by simp))
   obtain ⟨c1,c2,c3⟩:=piece_first (known:=known) (w:=w) known'
   exact labs_any known known' og r _ _ hr (by rw[a3,b3,c1,c3,h1,h2]) (by rw[a2,b2,c2]) h3
theorem labsA_any (known known':Wd→Nat) (og:Nat) (l:List Wd) (h:∀ w∈l,w≠[]):labsA known og l=labsA known' og l:=labs_any known known' og l _ _ h rfl rfl rfl
theorem labsA_names (known:Wd→Nat) (og:Nat):∀ (l:List Wd) (s:Wd×List (Wd×Nat)),((l.foldl (stepA known og) s).2).map (·.1)=s.2.map (·.1)++defs l
 |[],s=>by simp[defs]
 |w::r,s=>by
  rw[List.foldl_cons,labsA_names known og r]
  unfold stepA defs
  cases hd:defW w with
  |some x=>simp[hd]
  |none=>simp[hd]
end Go.Stele
namespace Go.Stele
open Go.Lib
def nameSet:List UInt8:=[97,98,99,100,101,102,103,104,105,106,107,108,109,110,111,112,113,114,115,116,117,118,119,120,121,122,48,49,50,51,52,53,54,55,56,57,95]
theorem nameSet_inner:∀ n:Nat,n<256→nameSet.contains (UInt8.ofNat n)=isInner (UInt8.ofNat n):=by decide +kernel
theorem set_inner (c:UInt8):nameSet.contains c=isInner c:=by
 have h:=nameSet_inner c.toNat c.toNat_lt
 rwa [UInt8.ofNat_toNat] at h
theorem dropWhile_nil {p:UInt8→Bool}:∀ {l:List UInt8},l.dropWhile p=[] ↔ l.all p=true
 |[]=>by simp
 |c::l=>by
  rw[List.dropWhile_cons,List.all_cons]
  cases h:p c with
  |true=>simpa using dropWhile_nil
  |false=>simp
theorem trim_nil (s:List UInt8):(trimS s nameSet=[]) ↔ s.all isInner=true:=by
 have he:(fun c=>nameSet.contains c)=isInner:=funext set_inner
 unfold trimS trimLeftS trimRightS
 rw[he,dropWhile_nil]
 constructor
 ·intro h
  by_cases h2:s.reverse.dropWhile isInner=[]
  ·rw[dropWhile_nil] at h2
   rw[List.all_reverse] at h2
   exact h2
  ·exfalso
   obtain ⟨c,r,hcr⟩:=List.exists_cons_of_ne_nil h2
   have h3:isInner c=false:=by
    have:=List.head?_dropWhile_not isInner s.reverse
    rw[hcr] at this
    simpa using this
   rw[hcr,List.all_reverse,List.all_cons,h3] at h
   cases h
 ·intro h
  have h2:s.reverse.dropWhile isInner=[]:=by rw[dropWhile_nil,List.all_reverse];exact h
  rw[h2]
  try rfl
theorem pre_hit (r:List UInt8):hasPrefix (38::r) [38]=true∧trimPrefix (38::r) [38]=r:=by
 simp[trimPrefix,hasPrefix,List.isPrefixOf]
theorem pre_miss {c:UInt8} (h:c≠38) (r:List UInt8):hasPrefix (c::r) [38]=false:=by
 have:¬ (38:UInt8)=c:=fun e=>h e.symm
 simp[hasPrefix,List.isPrefixOf,this]
theorem ref_eq (w:Wd):refW w=if hasPrefix w [38]=true∧nameW (trimPrefix w [38])=true then some (trimPrefix w [38]) else none:=by
 cases w with
 |nil=>rfl
 |cons c r=>
  by_cases h:c=38
  ·subst h
   rw[(pre_hit r).1,(pre_hit r).2]
   simp[refW]
  ·rw[pre_miss h]
   simp[refW,h]
theorem suffix_one (w:Wd):hasSuffix w [58]=decide (w.getLast? = some 58):=by
 unfold hasSuffix
 rw[Bool.eq_iff_iff,List.isSuffixOf_iff_suffix,decide_eq_true_iff]
 constructor
 ·rintro ⟨t,rfl⟩
  simp
 ·intro h
  rw[List.getLast?_eq_some_iff] at h
  obtain ⟨t,rfl⟩:=h
  exact ⟨t,rfl⟩
theorem def_eq (w:Wd):defW w=if hasSuffix w [58]=true∧nameW (trimSuffix w [58])=true then some (trimSuffix w [58]) else none:=by
 rw[suffix_one]
 unfold defW
 by_cases h:w.getLast? = some 58
 ·have h2:trimSuffix w [58]=w.dropLast:=by
   unfold trimSuffix
   rw[suffix_one,decide_eq_true h,if_pos rfl,List.dropLast_eq_take]
   try rfl
  rw[h2]
  simp[h]
 ·simp[h]
end Go.Stele
namespace Go.GL
open Go.RowKit
theorem elemsOk_strs:∀ l:List (List UInt8),elemsOk 1 (l.map str)
 |[]=>eN
 |a::l=>eC rfl rfl (elemsOk_strs l)
theorem LCalls.ret_strs {C:Ctx} {f:FuncId} {vs:List Value} {l:List (List UInt8)} {t:TypeId}
  (h:∀ w,Below C.B0 C.w0 w→Calls C.P f vs.toArray w (fun e w'=>e=.returned (.slice (some ⟨w.heap.size,0,none⟩) l.length l.length)∧w'=w.alloc (.cells (l.map fun s=>Value.string ⟨s.toArray⟩).toArray t))):LCalls C f (vs.map .atom) [] (Ret (.list (l.map str))):=fun xs w L hv hH=>by
 have hx:xs=vs:=by
  clear h hH
  induction vs generalizing xs with
  |nil=>simpa [RepL] using hv
  |cons v vs ih=>
   simp only[zMc,RepL,Rep] at hv
   obtain ⟨y,ys,rfl,rfl,hv⟩:=hv
   rw[ih _ hv]
 subst hx
 refine (h w hH.base).mono fun e w' he=>?_
 obtain ⟨rfl,rfl⟩:=he
 have hr:RepL w L (l.map str) (l.map fun s=>Value.string ⟨s.toArray⟩):=by
  have:=repL_atoms (w:=w) (L:=L) (l.map fun s=>Value.string ⟨s.toArray⟩)
  rw[List.map_map] at this
  exact this
 have hok:elemsOk 1 (l.map str):=elemsOk_strs l
 have hl:(l.map str).length=l.length:=zLm _
 have:=left_newRow (K:=fun lv H=>∃ b,lv=.app b l.length 1 (l.map str)) (t:=t) (cap:=l.length) (rest:=[]) hH hr hok zo (by simp) fun b=>⟨b,rfl⟩
 have e1:((l.map fun s=>Value.string ⟨s.toArray⟩).flatMap fun v=>v.cells.toList)++[]=l.map fun s=>Value.string ⟨s.toArray⟩:=by
  rw[zLz]
  clear this hok hr h hv hl
  induction l with
  |nil=>rfl
  |cons a l ih=>rw[zMc,List.flatMap_cons,ih];try rfl
 rw[e1,hl] at this
 obtain ⟨lv,H',L',r1,r2,r3,b,rfl⟩:=this
 exact ⟨.list (l.map str),[],L',r1.weak zhn,r2.weak zhn,LV.Sub.app _ _ _ _ _ _ _ r3,rfl,rfl⟩
end Go.GL
namespace Go.Proofs.YtegmklafpoldgaaGreatDoor
open Go.GL Go.RowKit Go.Stele
namespace Asm
def GM (w0:World):Prop:=∃ m,w0.cell? ⟨0,0,none⟩=some (.int .i64 m)
theorem cells_rows {w:World} {L:Live} {b:Nat}:∀ (k off:Nat) (ws:List (List UInt8)),RepRows w L b k off (ws.map str)→∀ (j:Nat) x,(ws.map fun l=>(⟨l.toArray⟩:ByteArray))[j]? = some x→k=1∧w.cell? ⟨b,off+j,none⟩=some (.string x)
 |k,off,[],_,j,x,h=>by simp at h
 |k,off,s::ws,h,0,x,hx=>by
  simp only[zMc,RepRows] at h
  obtain ⟨⟨hk,_,y,hy,hr⟩,_⟩:=h
  simp only[Rep] at hr
  simp at hx
  rw[←hx,Nat.add_zero,hy,hr]
  exact ⟨hk.symm,rfl⟩
 |k,off,s::ws,h,j+1,x,hx=>by
  simp only[zMc,RepRows] at h
  obtain ⟨⟨hk,_⟩,h2⟩:=h
  have:=cells_rows k (off+k) ws h2 j x (by simpa using hx)
  refine ⟨hk.symm,?_⟩
  rw[←this.2,←hk,Nat.add_assoc,Nat.add_comm 1 j]
section
variable {B0:Nat} {w0:World}
theorem cutPrefix_spec (s p:List UInt8):LCalls (KC B0 w0) 131 [str s,str p] [] (Ret (.tuple [str (Go.Lib.trimPrefix s p),bool (Go.Lib.hasPrefix s p)])):=by
 refine LCalls.mono (LCalls.of_belowT (vs:=[.string ⟨s.toArray⟩,.string ⟨p.toArray⟩]) (p:=fun us=>us=[.string ⟨(Go.Lib.trimPrefix s p).toArray⟩,.bool (Go.Lib.hasPrefix s p)]) fun w hw=>?_) ?_
 ·refine (Tryz.strings_CutPrefix ⟨s.toArray⟩ ⟨p.toArray⟩ w).mono fun e w' he=>⟨_,he.1,rfl,by rw[he.2];exact Below.refl _ _⟩
 ·rintro r H ⟨v,rfl,⟨us,rfl,rfl⟩,rfl⟩
  exact ⟨rfl,rfl⟩
theorem cutSuffix_spec (s p:List UInt8) (hs:s.length≤1000000000):LCalls (KC B0 w0) 157 [str s,str p] [] (Ret (.tuple [str (Go.Lib.trimSuffix s p),bool (Go.Lib.hasSuffix s p)])):=by
 refine LCalls.mono (LCalls.of_belowT (vs:=[.string ⟨s.toArray⟩,.string ⟨p.toArray⟩]) (p:=fun us=>us=[.string ⟨(Go.Lib.trimSuffix s p).toArray⟩,.bool (Go.Lib.hasSuffix s p)]) fun w hw=>?_) ?_
 ·refine (Tryz.strings_CutSuffix ⟨s.toArray⟩ ⟨p.toArray⟩ w (by show s.toArray.size≤_;simp;omega)).mono fun e w' he=>⟨_,he.1,rfl,by rw[he.2];exact Below.refl _ _⟩
 ·rintro r H ⟨v,rfl,⟨us,rfl,rfl⟩,rfl⟩
  exact ⟨rfl,rfl⟩
theorem joinS_spec (sep:List UInt8) (ws:List (List UInt8)) (hn:ws.length≤1000000000) (hl:(Go.Lib.join ws sep).length≤1000000000):LCalls (KC B0 w0) 26 [.list (ws.map str),str sep] [] (Ret (str (Go.Lib.join ws sep))):=fun xs w L hv hH=>by
 simp only[RepL] at hv
 obtain ⟨y,ys,rfl,hy,z,zs,rfl,hz,rfl⟩:=hv
 simp only[Rep] at hy hz
 obtain ⟨a,cap,rfl,hcap,hrows⟩:=hy
 subst hz
 rw[zLm] at hcap
 have hmap:(ws.map fun l=>(⟨l.toArray⟩:ByteArray)).map (·.data.toList)=ws:=by
  rw[List.map_map]
  conv=>rhs;rw[←List.map_id ws]
  rfl
 have hc:Calls Tryz.prog 26 #[.slice a ws.length cap,.string ⟨sep.toArray⟩] w fun e w'=>e=.returned (.string ⟨(Go.Lib.join ws sep).toArray⟩)∧Below w.heap.size w w':=by
  by_cases hne:ws=[]
  ·subst hne
   exact (Tryz.strings_Join_none a cap ⟨sep.toArray⟩ w).mono fun e w' he=>⟨by rw[he.1];try rfl,by rw[he.2];exact Below.refl _ _⟩
  ·obtain ⟨b,off,k,rfl,hr⟩:=hrows (by simpa using hne)
   have hcells:=fun j x hx=>(cells_rows k off ws hr j x hx).2
   have hb:b<w.heap.size:=by
    obtain ⟨s,r,rfl⟩:=List.exists_cons_of_ne_nil hne
    have:=hcells 0 _ rfl
    exact World.block_lt_of_cell? _ _ this
   have:=Tryz.strings_Join b off cap (ws.map fun l=>(⟨l.toArray⟩:ByteArray)) ⟨sep.toArray⟩ w hcells hb (by rw[zLm];omega) (by rw[zLm];exact hcap) (by rw[hmap];show (Go.Lib.join ws sep).length≤_;omega)
   rw[zLm,hmap] at this
   exact this
 rw[zLm]
 refine hc.mono fun e w' he=>?_
 obtain ⟨rfl,hb⟩:=he
 obtain ⟨h1,h2⟩:=fr_below hH hb
 exact ⟨str (Go.Lib.join ws sep),[],L,h1,h2,rep_atom,rfl,rfl⟩
theorem GM.at (hG:GW B0 w0) (h:GM w0) {w:World} (hb:Below B0 w0 w):∃ m,w.cell? ⟨0,0,none⟩=some (.int .i64 m):=by
 obtain ⟨m,hm⟩:=h
 exact ⟨m,(cell_of_heap (hb.block 0 (Nat.lt_of_lt_of_le zDd hG.big)) 0).trans hm⟩
theorem split_spec (hG:GW B0 w0) (hM:GM w0) (s:List UInt8) (c:UInt8) (hs:s.length≤1000000000):LCalls (KC B0 w0) 94 [str s,str [c]] [] (Ret (.list ((pieces c s).map str))):=by
 rw[←split_one]
 refine LCalls.ret_strs (vs:=[.string ⟨s.toArray⟩,.string ⟨#[c]⟩]) (t:=9) fun w hw=>?_
 obtain ⟨m,hm⟩:=GM.at hG hM hw
 have h1:=Tryz.strings_Split ⟨s.toArray⟩ ⟨#[c]⟩ m w (by show s.toArray.size<_;simp;omega) hm (zNr 1)
 have e1:(Go.Lib.splitB ⟨#[c]⟩ 0 (Go.Lib.countB ⟨s.toArray⟩ ⟨#[c]⟩) ⟨s.toArray⟩).map Value.string=(Go.Lib.split s [c]).map fun s=>Value.string ⟨s.toArray⟩:=by
  have:=Go.Lib.splitB_data ⟨#[c]⟩ 0 (Go.Lib.countB ⟨s.toArray⟩ ⟨#[c]⟩) ⟨s.toArray⟩
  have e2:Go.Lib.split s [c]=Go.Lib.splitK (⟨#[c]⟩:ByteArray).data.toList 0 (Go.Lib.countB ⟨s.toArray⟩ ⟨#[c]⟩) (⟨s.toArray⟩:ByteArray).data.toList:=rfl
  rw[e2,←this,List.map_map]
  try rfl
 have e3:(Go.Lib.split s [c]).length=Go.Lib.countB ⟨s.toArray⟩ ⟨#[c]⟩+1:=by
  have:=congrArg List.length e1
  rw[zLm,zLm,Go.Lib.splitB_all ⟨#[c]⟩ (zNr 1) 0 _ _ rfl] at this
  exact this.symm
 rw[e1] at h1
 rw[e3]
 exact h1
theorem cut_spec (hG:GW B0 w0) (hM:GM w0) (s:List UInt8) (c:UInt8) (hs:s.length≤1000000000):LCalls (KC B0 w0) 95 [str s,str [c]] [] (RetIf fun lv=>∃ a b,lv=.tuple [str (s.takeWhile fun d=>decide (d≠c)),str a,bool b]):=by
 rw[←cut_one]
 refine LCalls.mono (LCalls.of_belowT (vs:=[.string ⟨s.toArray⟩,.string ⟨#[c]⟩]) (p:=fun us=>us=[.string ⟨(Go.Lib.cut s [c]).1.toArray⟩,.string ⟨(Go.Lib.cut s [c]).2.1.toArray⟩,.bool (Go.Lib.cut s [c]).2.2]) fun w hw=>?_) ?_
 ·obtain ⟨m,hm⟩:=GM.at hG hM hw
  refine (Tryz.strings_Cut ⟨s.toArray⟩ ⟨#[c]⟩ m w (by show s.toArray.size<_;simp;omega) hm).mono fun e w' he=>?_
  obtain ⟨rfl,n,rfl⟩:=he
  exact ⟨_,rfl,rfl,below_drewN (Below.refl _ _) n⟩
 ·rintro r H ⟨v,rfl,⟨us,rfl,rfl⟩,rfl⟩
  exact ⟨_,rfl,⟨_,_,rfl⟩,rfl⟩
def tokLV (p:Wd×Nat):LV:=.agg [str p.1,int .i64 p.2]
end
def nameSet2:List UInt8:=[97,98,99,100,101,102,103,104,105,106,107,108,109,110,111,112,113,114,115,116,117,118,119,120,121,122,95,48,49,50,51,52,53,54,55,56,57]
theorem set2_inner (c:UInt8):nameSet2.contains c=isInner c:=by
 have:∀ n:Nat,n<256→nameSet2.contains (UInt8.ofNat n)=isInner (UInt8.ofNat n):=by decide +kernel
 have h:=this c.toNat c.toNat_lt
 rwa [UInt8.ofNat_toNat] at h
theorem trim_gen {st:List UInt8} {p:UInt8→Bool} (he:∀ c,st.contains c=p c) (s:List UInt8):(Go.Lib.trimS s st=[]) ↔ s.all p=true:=by
 have he:(fun c=>st.contains c)=p:=funext he
 unfold Go.Lib.trimS Go.Lib.trimLeftS Go.Lib.trimRightS
 rw[he,dropWhile_nil]
 constructor
 ·intro h
  by_cases h2:s.reverse.dropWhile p=[]
  ·rw[dropWhile_nil] at h2
   rw[List.all_reverse] at h2
   exact h2
  ·exfalso
   obtain ⟨c,r,hcr⟩:=List.exists_cons_of_ne_nil h2
   have h3:p c=false:=by
    have:=List.head?_dropWhile_not p s.reverse
    rw[hcr] at this
    simpa using this
   rw[hcr,List.all_reverse,List.all_cons,h3] at h
   cases h
 ·intro h
  have h2:s.reverse.dropWhile p=[]:=by rw[dropWhile_nil,List.all_reverse];exact h
  rw[h2]
  try rfl
def OptLV (o:Option Wd) (lv:LV):Prop:=∃ s,lv=.tuple [str s,bool o.isSome]∧∀ l,o=some l→s=l
theorem OptLV.mk {o:Option Wd} {s:Wd} {b:Bool} (hb:o.isSome=b) (hs:∀ l,o=some l→s=l):OptLV o (.tuple [str s,bool b]):=⟨s,by rw[hb],hs⟩
theorem ite_some {p q:Bool} {s:Wd} {o:Option Wd} (h:o=if p=true∧q=true then some s else none):o.isSome=(p && q)∧∀ l,o=some l→s=l:=by
 subst h
 cases p <;> cases q <;> simp
attribute [local irreducible] LOps LCode LStep LCalls Go.GL.Pure QThen QBlock RetPost LQ LAny LLate LLateOp
section
variable {B0:Nat} {w0:World}
theorem trim_any (s st:List UInt8) (hs:s.length≤1000000000) (h1:st.length≤100) (h3:st.all (fun b=>decide (b.toNat<128))=true):LCalls (KC B0 w0) 159 [str s,str st] [] (Ret (str (Go.Lib.trimS s st))):=
 LCalls.ret_of (vs:=[.string ⟨s.toArray⟩,.string ⟨st.toArray⟩]) fun w hw=>(Go.Proofs.Any.strings_Trim_laid Tryz.lays160 (by kernel_rfl) ⟨s.toArray⟩ ⟨st.toArray⟩ w (by show s.toArray.size≤_;simp;omega) (by show st.toArray.size<_;simp;omega) (Go.Proofs.ascii_of_all h3))
theorem asmName_spec (s:List UInt8) (hs:s.length≤1000000000):LCalls (KC B0 w0) 158 [str s] [] (Ret (bool (nameW s))):=by
 have hT:=trim_any (B0:=B0) (w0:=w0) s nameSet2 hs zDd zDd
 have hnil:=trim_gen set2_inner s
 refine cI Tryz.func158 rfl (n:=23) rfl rfl rfl ?_
 refine gdr ?_
 refine oB 5 rfl (fun h1=>?_) (fun h1=>?_)
 ·have e:s=[]:=of_decide_eq_true h1
  subst e
  refine gbc ?_
  refine oC rfl (fun h=>?_) (fun h=>by cases h)
  refine gaf ?_
  exact retRet rfl (rC (rT (v:=.atom _) rfl (vR _)) rN) rfl
 have h1':¬ s=[]:=of_decide_eq_false h1
 obtain ⟨c,r,rfl⟩:∃ c r,s=c::r:=by
  cases s with
  |nil=>exact absurd rfl h1'
  |cons c r=>exact ⟨c,r,rfl⟩
 have hN:=nameW_eq c r
 refine gds ?_
 refine oB 10 rfl (fun h2=>?_) (fun h2=>?_)
 ·have h2':¬ (c::r).length≤40:=by have:=of_decide_eq_true h2;omega
  rw[decide_eq_false h2',Bool.false_and,Bool.false_and] at hN
  refine gbc ?_
  refine oC rfl (fun h=>?_) (fun h=>by cases h)
  refine gaf ?_
  exact retRet rfl (rC (rT (v:=.atom _) rfl (vR _)) rN) (bool_eq hN.symm)
 have h2':(c::r).length≤40:=by have:=of_decide_eq_false h2;omega
 rw[decide_eq_true h2',Bool.true_and] at hN
 refine gaj ?_
 refine oP (pI (c:=c) rfl rfl (by omega) rfl) rfl ?_
 refine gel ?_
 refine oB 15 rfl (fun h3=>?_) (fun h3=>?_)
 ·have h3':isLetter c=false:=by
   unfold isLetter
   rw[decide_eq_false (by have:cv c<97:=of_decide_eq_true h3;omega),Bool.false_and]
  rw[h3',Bool.false_and] at hN
  refine gbg ?_
  refine oC rfl (fun h=>?_) (fun h=>by cases h)
  refine gaf ?_
  exact retRet rfl (rC (rT (v:=.atom _) rfl (vR _)) rN) (bool_eq hN.symm)
 refine gaj ?_
 refine oP (pI (c:=c) rfl rfl (by omega) rfl) rfl ?_
 refine gkw ?_
 refine oC rfl (fun h=>?_) (fun h=>?_)
 ·have h3':isLetter c=false:=by
   unfold isLetter
   rw[decide_eq_false (p:=cv c≤122) (by have:cv c > 122:=of_decide_eq_true h;omega),Bool.and_false]
  rw[h3',Bool.false_and] at hN
  refine gaf ?_
  exact retRet rfl (rC (rT (v:=.atom _) rfl (vR _)) rN) (bool_eq hN.symm)
 have h3':isLetter c=true:=by
  unfold isLetter
  rw[decide_eq_true (by have:¬ cv c<97:=of_decide_eq_false h3;omega),decide_eq_true (by have:¬ cv c > 122:=of_decide_eq_false h;omega)]
  try rfl
 rw[h3',Bool.true_and] at hN
 refine gaw ?_
 refine oS (sF [_,_] rfl hT ?_) rfl
 refine gfd ?_
 exact retRet rfl (rC (rT (v:=.atom _) rfl (vR _)) rN) (bool_eq (by
  rw[hN,Bool.eq_iff_iff,decide_eq_true_iff]
  exact hnil))
theorem asmDef_spec (p:Wd×Nat) (hs:p.1.length≤1000000000):LCalls (KC B0 w0) 96 [tokLV p] [] (RetIf (OptLV (defW p.1))):=by
 obtain ⟨w,ln⟩:=p
 simp only at hs ⊢
 obtain ⟨r1,r2⟩:=ite_some (def_eq w)
 have hlen:(Go.Lib.trimSuffix w [58]).length≤1000000000:=by
  unfold Go.Lib.trimSuffix
  split
  ·rw[List.length_take];omega
  ·exact hs
 unfold tokLV
 refine cI Tryz.func96 rfl (n:=18) rfl rfl rfl ?_
 refine gac ?_
 refine oS (sB (cs:=[str w,int .i64 ln]) rfl fun b1=>?_) rfl
 refine gcf ?_
 refine oS (sF [_,_] rfl (cutSuffix_spec w [58] hs) ?_) rfl
 refine gam ?_
 refine oB 14 rfl (fun h=>?_) (fun h=>?_)
 ·exact zT19
 ·rw[h,Bool.false_and] at r1
  refine gaz ?_
  exact retRetIf rfl (rC (rT (v:=.atom _) rfl (vR _)) (rC (rT (v:=.atom _) rfl (vR _)) rN)) (OptLV.mk r1 r2)
theorem asmRef_spec (p:Wd×Nat) (hs:p.1.length≤1000000000):LCalls (KC B0 w0) 97 [tokLV p] [] (RetIf (OptLV (refW p.1))):=by
 obtain ⟨w,ln⟩:=p
 simp only at hs ⊢
 obtain ⟨r1,r2⟩:=ite_some (ref_eq w)
 have hlen:(Go.Lib.trimPrefix w [38]).length≤1000000000:=by
  unfold Go.Lib.trimPrefix
  split
  ·rw[List.length_drop];omega
  ·exact hs
 unfold tokLV
 refine cI Tryz.func97 rfl (n:=18) rfl rfl rfl ?_
 refine gac ?_
 refine oS (sB (cs:=[str w,int .i64 ln]) rfl fun b1=>?_) rfl
 refine gcf ?_
 refine oS (sF [_,_] rfl (cutPrefix_spec w [38]) ?_) rfl
 refine gam ?_
 refine oB 14 rfl (fun h=>?_) (fun h=>?_)
 ·exact zT19
 ·rw[h,Bool.false_and] at r1
  refine gaz ?_
  exact retRetIf rfl (rC (rT (v:=.atom _) rfl (vR _)) (rC (rT (v:=.atom _) rfl (vR _)) rN)) (OptLV.mk r1 r2)
theorem asmCode_spec (p:Wd×Nat) (hs:p.1.length≤1000000000):LCalls (KC B0 w0) 98 [tokLV p] [] (Ret (bool (codeW p.1))):=by
 obtain ⟨w,ln⟩:=p
 simp only at hs ⊢
 have hT:=trim_any (B0:=B0) (w0:=w0) w codeSet hs zDd zDd
 have hnil:(Go.Lib.trimS w codeSet=[]) ↔ codeW w=true:=trim_gen (p:=fun c=>codeSet.contains c) (fun c=>rfl) w
 unfold tokLV
 refine cI Tryz.func98 rfl (n:=7) rfl rfl rfl ?_
 refine gac ?_
 refine oS (sB (cs:=[str w,int .i64 ln]) rfl fun b1=>?_) rfl
 refine gcf ?_
 refine oS (sF [_,_] rfl hT ?_) rfl
 refine gfd ?_
 exact retRet rfl (rC (rT (v:=.atom _) rfl (vR _)) rN) (bool_eq (by
  rw[Bool.eq_iff_iff,decide_eq_true_iff]
  exact hnil))
theorem asmDigit_spec (c:UInt8):LCalls (KC B0 w0) 101 [int .u8 c.toNat] [] (Ret (bool (isDigit c))):=by
 have hD:isDigit c=(decide (48≤cv c) && decide (cv c≤57)):=rfl
 refine cI Tryz.func101 rfl (n:=9) rfl rfl rfl ?_
 refine gcl ?_
 refine oB 5 rfl (fun h=>?_) (fun h=>?_)
 ·have h':cv c ≥ 48:=of_decide_eq_true h
  rw[decide_eq_true (show 48≤cv c from h'),Bool.true_and] at hD
  refine gcm ?_
  exact retRet rfl (rC (rT (v:=.atom _) rfl (vR _)) rN) (bool_eq hD.symm)
 ·have h':¬ cv c ≥ 48:=of_decide_eq_false h
  rw[decide_eq_false (show ¬ 48≤cv c from h'),Bool.false_and] at hD
  refine gaz ?_
  exact retRet rfl (rC (rT (v:=.atom _) rfl (vR _)) rN) (bool_eq hD.symm)
theorem address_spec (hG:GW B0 w0) (n:Nat) (hn:n≤1000000000000):LCalls (KC B0 w0) 100 [int .i64 n] [] (Ret (str (addrW n))):=by
 have hi:=itoa_spec hG n (by omega)
 have hne:=decDigits_ne n
 have hl:(Go.Lib.decDigits n).length≤20:=by
  rw[Go.Lib.decDigits_length]
  exact zNt (nDigits_le 12 n (by omega)) zDd
 have hA:addrW n=([48,48,48,48,48]++Go.Lib.decDigits n).drop (([48,48,48,48,48]++Go.Lib.decDigits n).length-6):=rfl
 generalize Go.Lib.decDigits n=d at hi hne hl hA
 have hpos:=List.length_pos_iff.2 hne
 have hsl:([48,48,48,48,48]++d:List UInt8).length=d.length+5:=by simp
 refine cI Tryz.func100 rfl (n:=12) rfl rfl rfl ?_
 refine gal ?_
 refine oS (sF [_] rfl hi ?_) rfl
 refine gkx ?_
 refine oP (Pure.sslice (l:=[48,48,48,48,48]++d) (i:=(([48,48,48,48,48]++d:List UInt8).length:Int)-6) (j:=(([48,48,48,48,48]++d:List UInt8).length:Int)) rfl ⟨_,rfl⟩ rfl (by omega) (by omega) (by omega)) rfl ?_
 refine ga0 ?_
 exact retRet rfl (rC (rT (v:=.atom _) rfl (vR _)) rN) (by
  rw[hA]
  have e1:(((([48,48,48,48,48]++d:List UInt8).length:Nat):Int)-6).toNat=([48,48,48,48,48]++d:List UInt8).length-6:=by omega
  show str (List.drop (((([48,48,48,48,48]++d:List UInt8).length:Nat):Int)-6).toNat (List.take ((([48,48,48,48,48]++d:List UInt8).length:Nat):Int).toNat ([48,48,48,48,48]++d)))=_
  rw[e1,Int.toNat_natCast,List.take_length])
theorem builderLen_spec (b:Nat) (l:List UInt8) (H:Heap) (hB:BH b l H):LCalls (KC B0 w0) 99 [ptr b 0] H (fun r H'=>r=.ret (int .i64 l.length)∧H'=H):=by
 obtain ⟨p,v,Hv,hp,hacc,rfl⟩:=hB
 refine cI Tryz.func99 rfl (n:=8) rfl rfl rfl ?_
 refine gfe ?_
 refine oP (Pure.blen rfl hacc) rfl ?_
 refine ga0 ?_
 exact rR rfl (rC (rT (v:=.atom _) rfl (vR _)) rN) (zhR _) ⟨rfl,rfl⟩
theorem writeByte_spec (b:Nat) (l:List UInt8) (c:UInt8) (H:Heap) (hB:BH b l H) (hlen:l.length≤10000000000):LCalls (KC B0 w0) 102 [ptr b 0,int .u8 c.toNat] H (fun r H'=>(∃ x,r=.ret x)∧BH b (l++[c]) H'):=by
 obtain ⟨p,v,Hv,hp,hacc,rfl⟩:=hB
 refine cI Tryz.func102 rfl (n:=17) rfl rfl rfl ?_
 refine gal ?_
 refine oS (S.callH (H1:=[(b,_)]) (F:=Hv) [_] rfl (List.Perm.refl _) (copyCheck_spec b p (.atom v) hp) (fun x H' h=>?_) (fun ch H' h=>?_)) rfl
 ·obtain ⟨⟨x',hx'⟩,rfl⟩:=h
  cases hx'
  refine gcx ?_
  refine oS (sL [_] rfl (eC rfl rfl eN) rfl rfl rfl ?_) rfl
  refine oS (S.appBL1 (q:=(b,.cells 134 [ptr b 0,.atom v])) (l:=l) (m:=[c]) rfl hacc rfl (by simp) (by simp;omega) fun v' H' hacc'=>?_) rfl
  refine gc7 ?_
  have hacc2:=hacc'
  generalize l++[c]=lm at hacc' hacc2 ⊢
  cases hacc' with
  |nil=>
   refine gff ?_
   exact rR rfl (rC (rT (v:=.atom _) rfl (vR _)) rN) (zhR _) ⟨⟨_,rfl⟩,ptr b 0,_,_,.inr rfl,hacc2,rfl⟩
  |row h0 h1 h2=>
   refine gff ?_
   exact rR rfl (rC (rT (v:=.atom _) rfl (vR _)) rN) (zhR _) ⟨⟨_,rfl⟩,ptr b 0,_,_,.inr rfl,hacc2,rfl⟩
 ·obtain ⟨⟨x',hx'⟩,_⟩:=h
  cases hx'
end
end Asm
end Go.Proofs.YtegmklafpoldgaaGreatDoor
namespace Go.GL
variable {C:Ctx} {dst:Option Nat} {ty:TypeId} {pos:String} {aft:Array Edge} {g:Option (Nat×Bool)} {e:Env} {H:Heap} {K:LV→Heap→Prop} {X:List PanicEntry→Heap→Prop}
theorem S.setPut {t kt el:TypeId} (ht:C.P.underlying t=some (.map kt el)) (hkt:C.P.underlying kt=some .string) {b clock:Nat} {es:Array MapEntry} {p:List UInt8→Bool} {F:Heap} {m z:Operand} {x:Operand} {k:List UInt8} (hm:e.ev m=.atom (.map (some b))) (hx:e.ev x=str k) (hz:e.ev z=bool true)
  (hp:Pick (b,.obj (.map es clock)) H F) (hs:SetMap es p) (hk:∀ es' clock',SetMap es' (fun s=>p s || decide (s=k))→K (.atom undef) ((b,.obj (.map es' clock'))::F)):LStep C ⟨dst,.mapUpdate t m x z,ty,pos,aft,g⟩ e H K X:=
 fun ρ w L h hH=>(S.setAdd (dst:=dst) (ty:=ty) (pos:=pos) (aft:=aft) (g:=g) (X:=X) ht hkt hm hx hz hp hs hk) ρ w L h hH
end Go.GL
namespace Go.Proofs.YtegmklafpoldgaaGreatDoor.Asm
open Go.GL Go.RowKit Go.Stele
abbrev txt (l:List (Wd×Nat)):List Wd:=l.map (·.1)
theorem txt_take {l:List (Wd×Nat)} {i:Nat} (h:i<l.length):txt (l.take (i+1))=txt (l.take i)++[l[i].1]:=by
 unfold txt
 rw[List.take_succ_eq_append_getElem h,zMa]
 rfl
theorem defs_some {a:List Wd} {w d:Wd} (h:defW w=some d):defs (a++[w])=defs a++[d]:=by
 rw[defs_app,defs_cons,h]
 rfl
theorem defs_no {a:List Wd} {w:Wd} (h:defW w=none):defs (a++[w])=defs a:=by
 rw[defs_app,defs_none h]
 simp[defs]
theorem set_nil:SetMap #[] (fun s=>decide (s∈([]:List Wd))):=⟨fun e he=>by simp at he,fun s h=>by simp at h⟩
theorem set_snoc {es:Array MapEntry} {ds:List Wd} {d:Wd} (h:SetMap es (fun s=>decide (s∈ds) || decide (s=d))):SetMap es (fun s=>decide (s∈ds++[d])):=
 cast (congrArg (SetMap es) (funext fun s=>by simp)) h
attribute [local irreducible] LOps LCode LStep LCalls Go.GL.Pure QThen QBlock RetPost LQ LAny LLate LLateOp
section
variable {B0:Nat} {w0:World}
theorem tokens_spec (hG:GW B0 w0) (hM:GM w0) (s:List UInt8) (hs:s.length≤400000000):LCalls (KC B0 w0) 36 [str s] [] (Ret (.list ((toksP s).map tokLV))):=by
 have hP:toksP s=toksN 0 (pieces 10 s):=rfl
 have hpl:=pieces_len 10 s
 have hpa:((pieces 10 s).map str).length=(pieces 10 s).length:=zLm _
 have htl:(toksP s).length≤s.length+1:=by
  have h1:=wordsP_len s
  rw[←toksP_fst,zLm] at h1
  exact h1
 have hsp:=split_spec hG hM s 10 zo
 refine cI Tryz.func36 rfl (n:=41) rfl rfl rfl ?_
 refine gal ?_
 refine oS (sF [_,_] rfl hsp ?_) rfl
 refine gbf ?_
 refine oL (fun k ls H=>∃ (i:Nat) (out:List (Wd×Nat)) (v:LV),i≤(pieces 10 s).length∧k=(pieces 10 s).length-i∧ls=[(3,v),(9,.list ((pieces 10 s).map str)),(10,int .i64 (pieces 10 s).length),(11,int .i64 (i:Nat))]∧Acc 2 v (out.map tokLV) H []∧out++toksN i ((pieces 10 s).drop i)=toksP s)
  ⟨_,_,_,⟨0,[],nilSlice,Nat.zero_le _,rfl,rfl,Acc.nil,rfl⟩,⟨rfl,rfl,int_eq zo,rfl,trivial⟩,zhR _⟩ ?_
 rintro k ls H ⟨i,out,v,hi,rfl,rfl,hacc,hE⟩ j hj
 refine gae ?_
 refine oC rfl (fun hc=>?_) (fun hc=>?_)
 ·have hlt:i<(pieces 10 s).length:=by have:=zt hc;omega
  have hlo:out.length≤(toksP s).length:=by rw[←hE,zLa];omega
  rw[toksN_drop hlt] at hE
  have hll:=pieces_mem_len (List.getElem_mem hlt)
  have hc1:=cut_spec hG hM (pieces 10 s)[i] 35 zo
  have hW:lineW (pieces 10 s)[i]=full (pieces 32 ((pieces 10 s)[i].takeWhile fun d=>decide (d≠35))):=rfl
  have htw:((pieces 10 s)[i].takeWhile fun d=>decide (d≠35)).length≤(pieces 10 s)[i].length:=(List.takeWhile_prefix _).length_le
  have hs2:=split_spec hG hM ((pieces 10 s)[i].takeWhile fun d=>decide (d≠35)) 32 zo
  have hql:=pieces_len 32 ((pieces 10 s)[i].takeWhile fun d=>decide (d≠35))
  generalize (pieces 10 s)[i].takeWhile (fun d=>decide (d≠35))=line at hc1 hW htw hs2 hql
  generalize hq:pieces 32 line=q at hW hs2 hql
  have hqa:(q.map str).length=q.length:=zLm _
  repeat (first|refine LOps.nil ?_|refine qN ?_|refine LCode.skip ?_)
  refine LCode.seq ?_
  refine cM (A:=List (Wd×Nat)×LV×Heap) (fun a=>[(3,a.2.1),(9,.list ((pieces 10 s).map str)),(10,int .i64 (pieces 10 s).length),(11,int .i64 (i:Nat))]) (fun a=>a.2.2) (fun a=>a.1=out++(full q).map (fun w=>(w,i+1))∧Acc 2 a.2.1 (a.1.map tokLV) a.2.2 []) ?_ ?_
  ·refine gky ?_
   refine oP (xR (el':=str (pieces 10 s)[i]) (cs:=[str (pieces 10 s)[i]]) rfl rfl zo (map_get _ _ _ hlt) rfl rfl) rfl ?_
   refine gb1 ?_
   refine oS (S.fnIf [_,_] rfl hc1 ?_) rfl
   rintro lv ⟨a,b,rfl⟩
   refine gam ?_
   refine oS (sF [_,_] rfl hs2 ?_) rfl
   refine gbf ?_
   refine oL (fun k ls H=>∃ (x:Nat) (out2:List (Wd×Nat)) (v:LV),x≤q.length∧k=q.length-x∧ls=[(3,v),(4,int .i64 (i:Nat)),(9,.list ((pieces 10 s).map str)),(10,int .i64 (pieces 10 s).length),(11,int .i64 (i:Nat)),(23,.list (q.map str)),(24,int .i64 q.length),(25,int .i64 (x:Nat))]∧Acc 2 v (out2.map tokLV) H []∧out2.length≤out.length+x∧out2++(full (q.drop x)).map (fun w=>(w,i+1))=out++(full q).map (fun w=>(w,i+1)))
    ⟨_,_,_,⟨0,out,v,Nat.zero_le _,rfl,rfl,hacc,by omega,rfl⟩,⟨rfl,rfl,rfl,rfl,rfl,rfl,int_eq zo,rfl,trivial⟩,zhR _⟩ ?_
   rintro k ls H ⟨x,out2,v2,hx,rfl,rfl,hacc2,hlen2,hE2⟩ j2 hj2
   have hol2:(out2.map tokLV).length=out2.length:=zLm _
   refine gae ?_
   refine oC rfl (fun hc=>?_) (fun hc=>?_)
   ·have hlt2:x<q.length:=by have:=zt hc;omega
    rw[full_drop hlt2] at hE2
    refine gag ?_
    refine oP (xR (el':=str q[x]) (cs:=[str q[x]]) rfl rfl zo (map_get _ _ _ hlt2) rfl rfl) rfl ?_
    refine gkz ?_
    refine oC rfl (fun hn=>?_) (fun hn=>?_)
    ·have hne:¬ q[x]=[]:=by simpa using hn
     rw[if_neg hne] at hE2
     refine gb5 ?_
     refine oP (pM (lv:=v2) rfl) rfl ?_
     refine gk0 ?_
     refine oS (sL [_] rfl (eC rfl rfl eN) rfl rfl rfl ?_) rfl
     refine oS (S.acc rfl hacc2 rfl (by simp;rfl) rfl (by simp;omega) fun v3 H3 hacc3=>?_) rfl
     refine oP (pA (lv:=v3) rfl) rfl ?_
     refine gah ?_
     exact ⟨_,_,_,by omega,⟨x+1,out2++[(q[x],i+1)],v3,by omega,rfl,rfl,by rw[zMa];exact hacc3,by simp;omega,by rw[zAs];exact hE2⟩,⟨rfl,rfl,rfl,rfl,rfl,rfl,rfl,int_eq zo,trivial⟩,zhR _,hj2⟩
    ·have hne:q[x]=[]:=by simpa using hn
     rw[if_pos hne] at hE2
     refine gax ?_
     exact ⟨_,_,_,by omega,⟨x+1,out2,v2,by omega,rfl,rfl,hacc2,by omega,hE2⟩,⟨rfl,rfl,rfl,rfl,rfl,rfl,rfl,int_eq zo,trivial⟩,zhR _,hj2⟩
   ·have hx':x=q.length:=by have:=zf hc;omega
    subst hx'
    rw[List.drop_length] at hE2
    refine gk1 ?_
    exact ⟨(out2,v2,H),⟨by simpa [full] using hE2,hacc2⟩,⟨rfl,rfl,rfl,rfl,trivial⟩,zhR _,hj2⟩
  ·rintro ⟨out2,v2,H2⟩ ⟨ho,hacc2⟩ j3 hj3
   simp only at ho hacc2
   rw[hW,←zAs,←ho] at hE
   refine gk2 ?_
   exact ⟨_,_,_,by omega,⟨i+1,out2,v2,by omega,rfl,rfl,hacc2,by rw[←hE]⟩,⟨rfl,rfl,rfl,int_eq zo,trivial⟩,zhR _,hj3.trans hj⟩
 ·have hi':i=(pieces 10 s).length:=by have:=zf hc;omega
  subst hi'
  rw[List.drop_length,toksN,zLz] at hE
  subst hE
  refine LCode.sub (d:=3) (v:=v) rfl hacc.sub ?_
  refine cW zhn ?_
  refine gc8 ?_
  exact retRet hj (rC (rT (v:=.list _) rfl zsr) rN) rfl
end
theorem errT_def {all met:List Wd} {p:Wd×Nat} {x:Wd} {r:List (Wd×Nat)} (h:defW p.1=some x):errT all met (p::r)=if x∈met then (p.2,8) else errT all (met++[x]) r:=by
 obtain ⟨w,ln⟩:=p
 simp only at h
 rw[errT,h]
theorem errT_ref {all met:List Wd} {p:Wd×Nat} {x:Wd} {r:List (Wd×Nat)} (h:defW p.1=none) (h2:refW p.1=some x):errT all met (p::r)=if x∈all then errT all met r else (p.2,7):=by
 obtain ⟨w,ln⟩:=p
 simp only at h h2
 rw[errT,h,h2]
theorem errT_code {all met:List Wd} {p:Wd×Nat} {r:List (Wd×Nat)} (h:defW p.1=none) (h2:refW p.1=none):errT all met (p::r)=if codeW p.1=true then errT all met r else (p.2,3):=by
 obtain ⟨w,ln⟩:=p
 simp only at h h2
 rw[errT,h,h2]
section
variable {B0:Nat} {w0:World}
theorem check_spec (l:List (Wd×Nat)) (hl:l.length≤1000000000) (hs:∀ p∈l,p.1.length≤1000000000):LCalls (KC B0 w0) 37 [.list (l.map tokLV)] [] (Ret (.tuple [int .i64 ((errT (defs (txt l)) [] l).1:Nat),int .i64 ((errT (defs (txt l)) [] l).2:Nat)])):=by
 have hla:(l.map tokLV).length=l.length:=zLm _
 have zb:∀ w,(zeroValue 4).run (KC B0 w0).P w=.ok (.bool false) w:=fun w=>(Go.zero_of_info (P:=Tryz.prog) (n:=1) zk).1 w
 generalize hR:errT (defs (txt l)) [] l=R
 refine cI Tryz.func37 rfl (n:=70) rfl rfl rfl ?_
 refine ga1 ?_
 refine oS (S.makeMap fun m=>?_) rfl
 refine ga9 ?_
 refine oL (fun k ls H=>∃ (i:Nat) (es:Array MapEntry) (clock:Nat),i≤l.length∧k=l.length-i∧ls=[(0,.list (l.map tokLV)),(4,.atom (.map (some m))),(17,.list (l.map tokLV)),(18,int .i64 l.length),(19,int .i64 (i:Nat))]∧H=[(m,.obj (.map es clock))]∧SetMap es (fun s=>decide (s∈defs (txt (l.take i)))))
  ⟨_,_,_,⟨0,#[],0,Nat.zero_le _,rfl,rfl,rfl,set_nil⟩,⟨rfl,rfl,rfl,int_eq zo,rfl,trivial⟩,zhR _⟩ ?_
 rintro k ls H ⟨i,es,clock,hi,rfl,rfl,rfl,hM⟩ j1 hj1
 refine gae ?_
 refine oC rfl (fun hc=>?_) (fun hc=>?_)
 ·have hlt:i<l.length:=by have:=zt hc;omega
  have kd:=asmDef_spec (B0:=B0) (w0:=w0) l[i] (by have:=hs _ (List.getElem_mem hlt);omega)
  have htt:=txt_take hlt
  refine gag ?_
  refine oP (xR (el':=tokLV l[i]) (cs:=[_,_]) rfl rfl zo (map_get _ _ _ hlt) rfl rfl) rfl ?_
  refine ga5 ?_
  refine oS (sA fun b6=>?_) rfl
  refine gfg ?_
  refine oS (S.fnIf [_] rfl kd ?_) rfl
  rintro lv ⟨s,rfl,hs2⟩
  refine gam ?_
  refine oC rfl (fun h=>?_) (fun h=>?_)
  ·obtain ⟨d,hd⟩:=Option.isSome_iff_exists.1 h
   obtain rfl:=hs2 d hd
   refine gas ?_
   refine oS (S.setPut (t:=102) (kt:=9) (el:=4) zk zk rfl rfl rfl zp1 hM fun es' clock' hM'=>?_) rfl
   refine gah ?_
   exact ⟨_,_,_,by omega,⟨i+1,es',clock',by omega,rfl,rfl,rfl,by rw[htt,defs_some hd];exact set_snoc hM'⟩,⟨rfl,rfl,rfl,rfl,int_eq zo,trivial⟩,⟨[_],List.Perm.refl _⟩,hj1⟩
  ·have hn:defW l[i].1=none:=by
    cases ho:defW l[i].1 with
    |none=>rfl
    |some d=>rw[ho] at h;cases h
   refine gax ?_
   exact ⟨_,_,_,by omega,⟨i+1,es,clock,by omega,rfl,rfl,rfl,by rw[htt,defs_no hn];exact hM⟩,⟨rfl,rfl,rfl,rfl,int_eq zo,trivial⟩,zhD zhr,hj1⟩
 ·have hi':i=l.length:=by have:=zf hc;omega
  subst hi'
  rw[List.take_length] at hM
  refine gbb ?_
  refine oS (S.makeMap fun m2=>?_) rfl
  refine ga9 ?_
  refine oL (fun k ls H=>∃ (i:Nat) (es2:Array MapEntry) (clock2:Nat),i≤l.length∧k=l.length-i∧ls=[(4,.atom (.map (some m))),(9,.atom (.map (some m2))),(33,.list (l.map tokLV)),(34,int .i64 l.length),(35,int .i64 (i:Nat))]∧H=[(m2,.obj (.map es2 clock2)),(m,.obj (.map es clock))]∧SetMap es2 (fun s=>decide (s∈defs (txt (l.take i))))∧errT (defs (txt l)) (defs (txt (l.take i))) (l.drop i)=R)
   ⟨_,_,_,⟨0,#[],0,Nat.zero_le _,rfl,rfl,rfl,set_nil,hR⟩,⟨rfl,rfl,rfl,int_eq zo,rfl,trivial⟩,zhR _⟩ ?_
  rintro k ls H ⟨i,es2,clock2,hi,rfl,rfl,rfl,hM2,hE⟩ j2 hj2
  refine gae ?_
  refine oC rfl (fun hc=>?_) (fun hc=>?_)
  ·have hlt:i<l.length:=by have:=zt hc;omega
   have hsl:=hs _ (List.getElem_mem hlt)
   have kd:=asmDef_spec (B0:=B0) (w0:=w0) l[i] zo
   have kr:=asmRef_spec (B0:=B0) (w0:=w0) l[i] zo
   have kc:=asmCode_spec (B0:=B0) (w0:=w0) l[i] zo
   have htt:=txt_take hlt
   rw[List.drop_eq_getElem_cons hlt] at hE
   refine gag ?_
   refine oP (xR (el':=tokLV l[i]) (cs:=[_,_]) rfl rfl zo (map_get _ _ _ hlt) rfl rfl) rfl ?_
   refine ga5 ?_
   refine oS (sA fun b11=>?_) rfl
   refine gfg ?_
   refine oS (S.fnIf [_] rfl kd ?_) rfl
   rintro lv ⟨s,rfl,hs2⟩
   refine gam ?_
   refine oC rfl (fun h=>?_) (fun h=>?_)
   ·obtain ⟨d,hd⟩:=Option.isSome_iff_exists.1 h
    obtain rfl:=hs2 d hd
    refine gab ?_
    refine oP (Pure.setGet (t:=102) (kt:=9) (el:=4) zk zk zb rfl rfl zm1 hM2) rfl ?_
    refine gaq ?_
    refine oC rfl (fun h3=>?_) (fun h3=>?_)
    ·have hin:=zt h3
     refine gc9 ?_
     rw[errT_def hd,if_pos hin] at hE
     exact retRet (hj2.trans hj1) (rC (zrt rfl) (zra rfl)) (by rw[←hE];rfl)
    ·have hin:=zf h3
     refine gk3 ?_
     refine oS (S.setPut (t:=102) (kt:=9) (el:=4) zk zk rfl rfl rfl zp1 hM2 fun es' clock' hM'=>?_) rfl
     refine gah ?_
     exact ⟨_,_,_,by omega,⟨i+1,es',clock',by omega,rfl,rfl,rfl,by rw[htt,defs_some hd];exact set_snoc hM',by rw[htt,defs_some hd,←hE,errT_def hd,if_neg hin]⟩,⟨rfl,rfl,rfl,rfl,int_eq zo,trivial⟩,⟨[_],List.Perm.cons _ (List.Perm.swap ..)⟩,hj2⟩
   ·have hn:defW l[i].1=none:=by
     cases ho:defW l[i].1 with
     |none=>rfl
     |some d=>rw[ho] at h;cases h
    refine gb6 ?_
    refine oS (S.fnIf [_] rfl kr ?_) rfl
    rintro lv ⟨s,rfl,hs3⟩
    refine gam ?_
    refine oC rfl (fun h3=>?_) (fun h3=>?_)
    ·obtain ⟨d,hd⟩:=Option.isSome_iff_exists.1 h3
     obtain rfl:=hs3 d hd
     refine gab ?_
     refine oP (Pure.setGet (t:=102) (kt:=9) (el:=4) zk zk zb rfl rfl zm2 hM) rfl ?_
     refine ga8 ?_
     refine oC rfl (fun h4=>?_) (fun h4=>?_)
     ·have hin:¬ s∈defs (txt l):=by simpa using h4
      refine gc9 ?_
      rw[errT_ref hn hd,if_neg hin] at hE
      exact retRet (hj2.trans hj1) (rC (zrt rfl) (zra rfl)) (by rw[←hE];rfl)
     ·have hin:s∈defs (txt l):=by simpa using h4
      refine gax ?_
      exact ⟨_,_,_,by omega,⟨i+1,es2,clock2,by omega,rfl,rfl,rfl,by rw[htt,defs_no hn];exact hM2,by rw[htt,defs_no hn,←hE,errT_ref hn hd,if_pos hin]⟩,⟨rfl,rfl,rfl,rfl,int_eq zo,trivial⟩,zhD zhr,hj2⟩
    ·have hrn:refW l[i].1=none:=by
      cases ho:refW l[i].1 with
      |none=>rfl
      |some d=>rw[ho] at h3;cases h3
     refine gb6 ?_
     refine oS (sF [_] rfl kc ?_) rfl
     refine ga8 ?_
     refine oC rfl (fun h4=>?_) (fun h4=>?_)
     ·have hin:¬ codeW l[i].1=true:=by simpa using h4
      refine gc9 ?_
      rw[errT_code hn hrn,if_neg hin] at hE
      exact retRet (hj2.trans hj1) (rC (zrt rfl) (zra rfl)) (by rw[←hE];rfl)
     ·have hin:codeW l[i].1=true:=by simpa using h4
      refine gax ?_
      exact ⟨_,_,_,by omega,⟨i+1,es2,clock2,by omega,rfl,rfl,rfl,by rw[htt,defs_no hn];exact hM2,by rw[htt,defs_no hn,←hE,errT_code hn hrn,if_pos hin]⟩,⟨rfl,rfl,rfl,rfl,int_eq zo,trivial⟩,zhD zhr,hj2⟩
  ·have hi':i=l.length:=by have:=zf hc;omega
   subst hi'
   rw[List.drop_length,errT] at hE
   refine gbw ?_
   exact retRet (hj2.trans hj1) (rC (zrt rfl) (zra rfl)) (by rw[←hE];rfl)
end
end Go.Proofs.YtegmklafpoldgaaGreatDoor.Asm
namespace Go.Proofs.YtegmklafpoldgaaGreatDoor.Asm
open Go.GL Go.RowKit Go.Stele
def Known (km:Option Nat) (Hk:Heap) (kn:Wd→Nat):Prop:=(km=none∧Hk=[]∧∀ x,kn x=0)∨∃ b m clock,km=some b∧Hk=[(b,.map (kvs m) clock)]∧∀ x,(GL.kvGet m x).getD (int .i64 0)=int .i64 (kn x:Nat)
section
variable {C:Ctx} {e:Env} {H:Heap} {dst:Option Nat} {ty:TypeId} {pos:String} {aft:Array Edge} {g:Option (Nat×Bool)} {K:LV→Heap→Prop} {X:List PanicEntry→Heap→Prop} {x y:Operand}
theorem S.known {t kt el:TypeId} (ht:C.P.underlying t=some (.map kt el)) (hkt:C.P.underlying kt=some .string) (hz:∀ w,(zeroValue el).run C.P w=.ok (.int .i64 0) w) {km:Option Nat} {Hk:Heap} {kn:Wd→Nat} {k:List UInt8} (hK:Known km Hk kn) (hm:e.ev x=.atom (.map km)) (hx:e.ev y=str k)
  (hb:∀ q∈Hk,q∈H) (hk:K (int .i64 (kn k:Nat)) H):LStep C ⟨dst,.lookup t x y false,ty,pos,aft,g⟩ e H K X:=by
 rcases hK with ⟨rfl,rfl,h0⟩|⟨b,m,clock,rfl,rfl,hI⟩
 ·refine Pure.step (Pure.nilGet ht hkt hz hm hx) ?_
  rw[h0 k] at hk
  exact hk
 ·refine Pure.step (Pure.kvGet ht hkt hz (zl:=int .i64 0) (fun _ _=>rep_atom) hm hx (hb _ (List.mem_singleton.2 rfl))) ?_
  rw[hI k]
  exact hk
end
theorem sub_mid {a b:Heap} {q:Nat×LObj}:HSub (a++b) (a++q::b):=⟨[q],List.perm_middle.trans (List.perm_append_singleton _ _).symm⟩
theorem sub_mid' {a b:Heap} {q:Nat×LObj}:HSub (a++b) ((a++[q])++b):=by
 rw[zAs]
 exact sub_mid
theorem add_eq2 (a b:Nat):int .i64 ((a+b:Nat):Int)=int .i64 ((a:Int)+(b:Nat)):=int_eq zo
theorem perm_acc {a b:Heap} {q:Nat×LObj}:(a++q::b).Perm (b++(a++[q])):=by
 have h:=zPc (l₁:=a++[q]) (l₂:=b)
 rw[zAs] at h
 exact h
theorem acc_sub {s:Nat} {v:LV} {es:List LV} {a H F:Heap} (h:Acc s v es H F):HSub (a++F) (a++H):=by
 cases h with
 |nil=>exact zhR _
 |row=>exact sub_mid
theorem fold_le (kn:Wd→Nat) (og:Nat) (l:List Wd) (t:Wd) (labs:List (Wd×Nat)) (h:∀ w∈l,w≠[]):t.length≤(l.foldl (stepA kn og) (t,labs)).1.length:=by
 rw[stepA_fst,foldT_len kn l t h]
 omega
theorem fold_labs (kn:Wd→Nat) (og:Nat):∀ (l:List Wd) (s:Wd×List (Wd×Nat)),s.2.length≤((l.foldl (stepA kn og) s).2).length∧((l.foldl (stepA kn og) s).2).length≤s.2.length+l.length
 |[],s=>by simp
 |w::r,s=>by
  rw[List.foldl_cons]
  have:=fold_labs kn og r (stepA kn og s w)
  have h2:s.2.length≤(stepA kn og s w).2.length∧(stepA kn og s w).2.length≤s.2.length+1:=by
   unfold stepA
   cases defW w with
   |some x=>simp
   |none=>simp
  simp only[zLc]
  omega
theorem last_nil:lastD []=isDigit 32:=by decide
attribute [local irreducible] LOps LCode LStep LCalls Go.GL.Pure QThen QBlock RetPost LQ LAny LLate LLateOp
section
variable {B0:Nat} {w0:World}
theorem joined_ex (hG:GW B0 w0) (l:List (Wd×Nat)) (og:Nat) (hog:og≤1000000) (hl:l.length≤1000000000) (hs:∀ p∈l,p.1≠[]∧p.1.length≤1000000000) (kn:Wd→Nat) (hkn:∀ x,kn x≤1000000000000) (hL:((txt l).foldl (stepA kn og) ([],[])).1.length≤2000000000) (km:Option Nat) (Hk:Heap) (hK:Known km Hk kn) :
  LCalls (KC B0 w0) 38 [.list (l.map tokLV),int .i64 (og:Nat),.atom (.map km)] Hk (fun r H'=>r=.ret (.tuple [str ((txt l).foldl (stepA kn og) ([],[])).1,.list (((txt l).foldl (stepA kn og) ([],[])).2.map tokLV)])∧H'=Hk):=by
 have hla:(l.map tokLV).length=l.length:=zLm _
 have zi:∀ w,(zeroValue 3).run (KC B0 w0).P w=.ok (.int .i64 0) w:=fun w=>(Go.zero_of_info (P:=Tryz.prog) (n:=1) zk).1 w
 have hne0:∀ i,∀ w∈txt (l.drop i),w≠[]:=fun i w hw=>by
  obtain ⟨p,hp,rfl⟩:=List.mem_map.1 hw
  exact (hs p (List.mem_of_mem_drop hp)).1
 generalize hR:(txt l).foldl (stepA kn og) ([],[])=R at hL ⊢
 refine cI Tryz.func38 rfl (n:=68) rfl rfl rfl ?_
 refine ga1 ?_
 refine oS (sA fun bb=>?_) rfl
 refine ga9 ?_
 refine oL (fun k ls H=>∃ (i:Nat) (t:List UInt8) (labs:List (Wd×Nat)) (v:LV) (last:UInt8) (HB HL:Heap),i≤l.length∧k=l.length-i∧ls=[(1,int .i64 (og:Nat)),(2,.atom (.map km)),(8,ptr bb 0),(9,v),(10,int .u8 last.toNat),(18,.list (l.map tokLV)),(19,int .i64 l.length),(20,int .i64 (i:Nat))]∧H=HB++HL∧BH bb t HB∧Acc 2 v (labs.map tokLV) HL Hk∧lastD t=isDigit last∧labs.length≤i∧(txt (l.drop i)).foldl (stepA kn og) (t,labs)=R)
  ⟨_,_,_,⟨0,[],[],nilSlice,32,[(bb,.cells 134 [.atom (.pointer none),.atom (.slice none 0 0)])],Hk,Nat.zero_le _,rfl,rfl,rfl,⟨_,_,[],.inl rfl,BRow.nil,rfl⟩,Acc.nil,last_nil,Nat.zero_le _,hR⟩,⟨rfl,rfl,rfl,rfl,rfl,rfl,int_eq zo,rfl,trivial⟩,zhR _⟩ ?_
 rintro k ls H ⟨i,t,labs,v,last,HB,HL,hi,rfl,rfl,rfl,hB,hacc,hla2,hll,hE⟩ j hj
 have hol:(labs.map tokLV).length=labs.length:=zLm _
 have htR:=fold_le kn og (txt (l.drop i)) t labs (hne0 i)
 rw[hE] at htR
 refine gae ?_
 refine oC rfl (fun hc=>?_) (fun hc=>?_)
 ·have hlt:i<l.length:=by have:=zt hc;omega
  obtain ⟨hne,hsl⟩:=hs _ (List.getElem_mem hlt)
  have kd:=asmDef_spec (B0:=B0) (w0:=w0) l[i] zo
  have kr:=asmRef_spec (B0:=B0) (w0:=w0) l[i] zo
  have hdr:txt (l.drop i)=l[i].1::txt (l.drop (i+1)):=by
   unfold txt
   rw[List.drop_eq_getElem_cons hlt,zMc]
  rw[hdr,List.foldl_cons] at hE
  refine gag ?_
  refine oP (xR (el':=tokLV l[i]) (cs:=[_,_]) rfl rfl zo (map_get _ _ _ hlt) rfl rfl) rfl ?_
  refine ga5 ?_
  refine oS (sA fun b12=>?_) rfl
  refine gk4 ?_
  refine oS (S.fnIf [_] rfl kd ?_) rfl
  rintro lv ⟨s,rfl,hs2⟩
  refine gam ?_
  refine oC rfl (fun h=>?_) (fun h=>?_)
  ·obtain ⟨d,hd⟩:=Option.isSome_iff_exists.1 h
   obtain rfl:=hs2 d hd
   have hst:stepA kn og (t,labs) l[i].1=(t,labs++[(s,og+t.length)]):=by unfold stepA;rw[hd]
   rw[hst] at hE
   refine gac ?_
   refine oP (pM (lv:=v) rfl) rfl ?_
   refine gat ?_
   refine oS (S.callH (H1:=HB) (F:=(b12,.cells 150 [str l[i].1,int .i64 l[i].2])::HL) [_] rfl List.perm_middle.symm (builderLen_spec bb t HB hB) (fun v' H' h=>?_) (fun ch H' h=>by obtain ⟨h,_⟩:=h;cases h)) rfl
   obtain ⟨hv,rfl⟩:=h
   cases hv
   refine gk5 ?_
   refine oS (sL [_] rfl (eC rfl rfl eN) rfl rfl rfl ?_) rfl
   refine oS (sG (H1:=HL) (A:=H'++[(b12,.cells 150 [str l[i].1,int .i64 l[i].2])]) perm_acc rfl hacc rfl (by simp;rfl) rfl (by simp;omega) fun v' H2 hacc'=>?_) rfl
   refine oP (pA (lv:=v') rfl) rfl ?_
   refine gk6 ?_
   exact ⟨_,_,_,by omega,⟨i+1,t,labs++[(s,og+t.length)],v',last,H',H2,by omega,rfl,rfl,rfl,hB,by
    rw[zMa]
    have e1:[tokLV (s,og+t.length)]=[LV.agg [str s,int .i64 ((og:Int)+(t.length:Nat))]]:=by
     unfold tokLV
     rw[add_eq2]
    rw[List.map_singleton,e1]
    exact hacc',hla2,by simp;omega,hE⟩,⟨rfl,rfl,rfl,rfl,rfl,rfl,rfl,int_eq zo,trivial⟩,sub_mid',hj⟩
  ·have hn:defW l[i].1=none:=by
    cases ho:defW l[i].1 with
    |none=>rfl
    |some d=>rw[ho] at h;cases h
   have hst:stepA kn og (t,labs) l[i].1=(addT kn t l[i].1,labs):=by unfold stepA;rw[hn]
   obtain ⟨hp0,hp1,hp2⟩:=addT_nil kn t l[i].1 hn hne
   have hadd:addT kn t l[i].1=t++(if lastD t && firstD (pieceW kn l[i].1) then [32] else [])++pieceW kn l[i].1:=by unfold addT;rw[hn]
   have htR2:=fold_le kn og (txt (l.drop (i+1))) (addT kn t l[i].1) labs (hne0 (i+1))
   rw[hst] at hE
   rw[hE] at htR2
   refine cM (A:=Wd) (fun s=>[(1,int .i64 (og:Nat)),(2,.atom (.map km)),(8,ptr bb 0),(9,v),(10,int .u8 last.toNat),(13,str s),(18,.list (l.map tokLV)),(19,int .i64 l.length),(20,int .i64 (i:Nat))]) (fun _=>(b12,.cells 150 [str l[i].1,int .i64 l[i].2])::(HB++HL)) (fun s=>s=pieceW kn l[i].1) ?_ ?_
   ·refine gb6 ?_
    refine oS (S.fnIf [_] rfl kr ?_) rfl
    rintro lv ⟨s,rfl,hs3⟩
    refine gam ?_
    refine oC rfl (fun h3=>?_) (fun h3=>?_)
    ·obtain ⟨d,hd⟩:=Option.isSome_iff_exists.1 h3
     obtain rfl:=hs3 d hd
     refine gas ?_
     refine oS (S.known (t:=64) (kt:=9) (el:=3) zk zk zi hK rfl rfl (fun q hq=>zMo _ (List.mem_append_right _ (hacc.hsub.mem q hq))) ?_) rfl
     refine oS (sF [_] rfl (address_spec hG (kn s) (hkn s)) ?_) rfl
     refine gar ?_
     exact ⟨addrW (kn s),(by unfold pieceW;rw[hd]),⟨rfl,rfl,rfl,rfl,rfl,rfl,rfl,rfl,rfl,trivial⟩,zhR _,rfl⟩
    ·have hrn:refW l[i].1=none:=by
      cases ho:refW l[i].1 with
      |none=>rfl
      |some d=>rw[ho] at h3;cases h3
     refine ga6 ?_
     exact ⟨l[i].1,(by unfold pieceW;rw[hrn]),⟨rfl,rfl,rfl,rfl,rfl,rfl,rfl,rfl,rfl,trivial⟩,zhR _,rfl⟩
   rintro s hpc j2 hj2
   rw[←hpc] at hp0 hp1 hp2 hadd
   have hs0:=hp0
   have hone:=one_le (isDigit last && firstD s)
   obtain ⟨c,r,hcr⟩:=List.exists_cons_of_ne_nil hs0
   have hfc:firstD s=isDigit c:=by rw[hcr];rfl
   rw[hla2] at hadd hp2
   refine LCode.seq ?_
   refine cM (A:=Heap) (fun _=>[(1,int .i64 (og:Nat)),(2,.atom (.map km)),(8,ptr bb 0),(9,v),(10,int .u8 last.toNat),(13,str s),(18,.list (l.map tokLV)),(19,int .i64 l.length),(20,int .i64 (i:Nat))]) (fun HB'=>HB'++(b12,.cells 150 [str l[i].1,int .i64 l[i].2])::HL) (fun HB'=>BH bb (t++if (isDigit last && firstD s)=true then [32] else []) HB') ?_ ?_
   ·refine gab ?_
    refine oS (sF [_] rfl (asmDigit_spec last) ?_) rfl
    refine gat ?_
    refine oB 52 rfl (fun h4=>?_) (fun h4=>?_)
    ·have h4':isDigit last=true:=h4
     rw[h4',Bool.true_and,hfc]
     refine gaj ?_
     refine oP (pI (c:=c) rfl rfl zo (by rw[hcr];rfl)) rfl ?_
     refine gcu ?_
     refine oS (sF [_] rfl (asmDigit_spec c) ?_) rfl
     refine gcp ?_
     refine oC rfl (fun h5=>?_) (fun h5=>?_)
     ·refine gb5 ?_
      refine oS (S.callH (H1:=HB) (F:=(b12,.cells 150 [str l[i].1,int .i64 l[i].2])::HL) [_,_] rfl List.perm_middle.symm (writeByte_spec bb t 32 HB hB zo) (fun v' H' h=>?_) (fun ch H' h=>by obtain ⟨⟨x,h⟩,_⟩:=h;cases h)) rfl
      refine gaq ?_
      exact ⟨H',by rw[if_pos h5];exact h.2,⟨rfl,rfl,rfl,rfl,rfl,rfl,rfl,rfl,rfl,trivial⟩,zhR _,rfl⟩
     ·refine ga6 ?_
      exact ⟨HB,by rw[if_neg (by rw[h5];decide),zLz];exact hB,⟨rfl,rfl,rfl,rfl,rfl,rfl,rfl,rfl,rfl,trivial⟩,⟨[],by simpa using List.perm_middle.symm⟩,rfl⟩
    ·have h4':isDigit last=false:=h4
     rw[h4',Bool.false_and]
     refine gbm ?_
     refine oC rfl (fun h5=>by cases h5) (fun h5=>?_)
     refine ga6 ?_
     exact ⟨HB,by rw[if_neg zDd,zLz];exact hB,⟨rfl,rfl,rfl,rfl,rfl,rfl,rfl,rfl,rfl,trivial⟩,⟨[],by simpa using List.perm_middle.symm⟩,rfl⟩
   rintro HB' hB' j3 hj3
   have hsl3:=List.length_pos_iff.2 hs0
   have hget:s[((s.length:Int)-1).toNat]? = some (s.getLast hs0):=by
    rw[show ((s.length:Int)-1).toNat=s.length-1 by omega,List.getLast_eq_getElem,List.getElem?_eq_getElem zo]
   have hlast:lastD s=isDigit (s.getLast hs0):=by
    unfold lastD
    rw[List.getLast?_eq_some_getLast hs0]
   have htl:(t++if (isDigit last && firstD s)=true then [32] else []).length+s.length≤2000000000:=by
    have:(t++if (isDigit last && firstD s)=true then [32] else []).length=t.length+one (isDigit last && firstD s):=by
     rw[zLa]
     unfold one
     split <;> rfl
    omega
   rw[hadd] at hE hp1
   generalize (t++if (isDigit last && firstD s)=true then [32] else [])=t2 at hB' htl hE hp1
   refine gab ?_
   refine oS (S.callH (H1:=HB') (F:=(b12,.cells 150 [str l[i].1,int .i64 l[i].2])::HL) [_,_] rfl zpr (writeString_spec bb t2 s HB' hB' zo) (fun v' H' h=>?_) (fun ch H' h=>by obtain ⟨⟨x,h⟩,_⟩:=h;cases h)) rfl
   obtain ⟨⟨x,hx⟩,hB2⟩:=h
   refine gk7 ?_
   refine oP (pI (c:=s.getLast hs0) rfl rfl zo hget) rfl ?_
   refine gce ?_
   exact ⟨_,_,_,by omega,⟨i+1,t2++s,labs,v,s.getLast hs0,H',HL,by omega,rfl,rfl,rfl,hB2,hacc,by rw[hp1,hlast],by omega,hE⟩,⟨rfl,rfl,rfl,rfl,rfl,rfl,rfl,int_eq zo,trivial⟩,sub_mid,hj3.trans (hj2.trans hj)⟩
 ·have hi':i=l.length:=by have:=zf hc;omega
  subst hi'
  rw[List.drop_length] at hE
  have hE':(t,labs)=R:=hE
  subst hE'
  refine LCode.sub (d:=9) (v:=v) rfl hacc.sub ?_
  refine cW (acc_sub hacc) ?_
  refine gbb ?_
  refine oS (S.callH (H1:=HB) (F:=Hk) [_] rfl zpr (string_spec bb t HB hB zo) (fun v' H' h=>?_) (fun ch H' h=>by obtain ⟨h,_⟩:=h;cases h)) rfl
  obtain ⟨hv,rfl⟩:=h
  cases hv
  refine gk8 ?_
  exact rR hj (rC (zrt rfl) (rC (rT (v:=.list _) rfl zsr) rN)) zhr ⟨rfl,by simp⟩
end
end Go.Proofs.YtegmklafpoldgaaGreatDoor.Asm
namespace Go.GL
open Go.RowKit
theorem results4 {P:Program} {fn:Func} {r s t q:ResultVar} (h:fn.results=#[r,s,t,q]) {tmps:Array Value} {w:World} {v u x y:Value} (h1:(readRes tmps r).run P w=.ok v w) (h2:(readRes tmps s).run P w=.ok u w) (h3:(readRes tmps t).run P w=.ok x w) (h4:(readRes tmps q).run P w=.ok y w) :
  (results fn tmps).run P w=.ok (.tuple #[v,u,x,y]) w:=by
 have:results fn tmps=(do let v ←readRes tmps r;let u ←readRes tmps s;let x ←readRes tmps t;let y ←readRes tmps q;Pure.pure (.tuple #[v,u,x,y])):=by
  cases r <;> cases s <;> cases t <;> cases q <;> simp[results,h,readRes]
 rw[this,bind_run h1,bind_run h2,bind_run h3,bind_run h4]
 try rfl
theorem results_of4 {C:Ctx} {n:Nat} {fn:Func} {e:Env} {H:Heap} {a:Act} {w:World} {L:Live} (hE:RelE n a e w L) (hH:RelH C w L H) {vs:List LV}
  (h:AllRes C n e H fn.results.toList vs) (h3:fn.results.size=4):∃ v,(results fn a.tmps).run C.P w=.ok v w∧Rep w L (resLV vs) v:=by
 obtain ⟨rs,hrs⟩:∃ rs,fn.results=List.toArray rs:=⟨fn.results.toList,by simp⟩
 rw[hrs] at h h3
 simp only[List.size_toArray] at h h3
 match rs,vs,h,h3,hrs with
 |[r,s,t,q],[x,y,z,o],h,_,hrs=>
  obtain ⟨v1,g1,r1⟩:=h.1 a w L hE hH
  obtain ⟨v2,g2,r2⟩:=h.2.1 a w L hE hH
  obtain ⟨v3,g3,r3⟩:=h.2.2.1 a w L hE hH
  obtain ⟨v4,g4,r4⟩:=h.2.2.2.1 a w L hE hH
  exact ⟨_,results4 hrs g1 g2 g3 g4,by simp only[resLV,Rep];exact ⟨[v1,v2,v3,v4],rfl,by simp only[RepL];exact ⟨v1,_,rfl,r1,v2,_,rfl,r2,v3,_,rfl,r3,v4,_,rfl,r4,rfl⟩⟩⟩
 |[_,_,_,_],[],h,_,_=>exact h.elim
 |[_,_,_,_],[_],h,_,_=>exact h.2.elim
 |[_,_,_,_],[_,_],h,_,_=>exact h.2.2.elim
 |[_,_,_,_],[_,_,_],h,_,_=>exact h.2.2.2.elim
 |[_,_,_,_],_::_::_::_::_::_,h,_,_=>exact h.2.2.2.2.elim
theorem LCalls.intro4 {C:Ctx} {f:FuncId} {fn:Func} {c:Code} {n:Nat} {args:List LV} {H:Heap} {R:LRes→Heap→Prop} (hf:C.P.funcs[f]? = some fn) (hb:fn.body=some c) (hn:fn.ntmps=n) (h3:Nat.beq fn.results.size 4=true)
  (hl:Nat.ble args.length n=true) (h:LCode C n c (RetPost C n fn.results.toList R) (argsEnv args) H):LCalls C f args H R:=fun vs w L hv hH=>by
 subst hn
 have hl':args.length≤fn.ntmps:=by simpa using hl
 have h3':fn.results.size=4:=Nat.eq_of_beq_eq_true h3
 have hlen:=hv.length
 refine calls_of_wp hf hb (Go.wp_mono (h _ w L ⟨?_,rfl,fun i=>?_⟩ hH) fun ex a' w' hq=>?_)
 ·simp;omega
 ·exact zT1
 ·obtain ⟨e',H',L',g1,g2,g3,g4⟩:=hq
  have ret:RelE fn.ntmps a' e' w' L'→(e'.ds=[]∧∃ vs H'',AllRes C fn.ntmps e' H' fn.results.toList vs∧HSub H'' H'∧R (.ret (resLV vs)) H'') →
    a'.defers=[]∧∃ v,(results fn a'.tmps).run C.P w'=.ok v w'∧CallPost C w L H (fun v=>R (.ret v)) (fun ch=>R (.panic ch)) (.returned v) w':=fun hE hr=>by
   obtain ⟨h1,vs',H'',h2,h4,h5⟩:=hr
   obtain ⟨v,r1,r2⟩:=results_of4 hE g2 h2 h3'
   exact ⟨hE.ds.trans h1,v,r1,resLV vs',H'',L',g1.weak h4,g2.weak h4,r2,h5⟩
  cases ex with
  |normal=>exact ret g3 g4
  |ret=>exact ret g3 g4
  |panic ch=>
   obtain ⟨h1,H'',h4,h5⟩:=g4
   exact ⟨g3.trans h1,H'',L',g1.weak h4,g2.weak h4,h5⟩
  |exit id=>exact g4.elim
  |goto id=>exact g4.elim
  |outgrown=>exact g4.elim
end Go.GL
namespace Go.Stele
open Go.Lib
def binM (c a b:Nat):Option Nat:=
 if c=43 then some ((a+b) % 4294967296)
 else if c=45 then some ((a+4294967296-b) % 4294967296)
 else if c=42 then some (a * b % 4294967296)
 else if c=47 then (if b=0 then none else some (a / b))
 else if c=37 then (if b=0 then none else some (a % b))
 else if c=94 then some (a ^^^ b)
 else some (if a<b then 1 else 0)
/-! ### Some steps -/
end Go.Stele
namespace Go.Stele
open Go.Lib
theorem dec_lenM:∀ (k n:Nat),n<10 ^ (k+1)→(decDigits n).length≤k+1
 |0,n,h=>by rw[decDigits,dif_pos (by simpa using h)];simp
 |k+1,n,h=>by
  rw[decDigits]
  split
  ·simp
  ·have:=dec_lenM k (n / 10) (by rw[Nat.pow_succ] at h;omega)
   rw[zLa,List.length_singleton]
   omega
/-! ### Digits -/
/-! ### Words -/
structure PW where
 W:List Wd
 og:Nat
 known:Wd→Nat
def PW.pre (C:PW) (i:Nat):Wd:=textA C.known (C.W.take i)
def PW.plc (C:PW) (i:Nat):Nat:=C.og+(C.pre i).length
end Go.Stele
namespace Go.Stele
open Go.Lib
def PW.Code (C:PW) (i:Nat) (ws:List Wd):Prop:=∀ k (h:k<ws.length),C.W[i+k]? = some ws[k]
theorem PW.Code.app {C:PW} {i:Nat} {a b:List Wd} (h:C.Code i (a++b)):C.Code i a∧C.Code (i+a.length) b:=by
 constructor
 ·intro k hk
  have:=h k (by rw[zLa];omega)
  rwa [List.getElem_append_left hk] at this
 ·intro k hk
  have:=h (a.length+k) (by rw[zLa];omega)
  rw[List.getElem_append_right (by omega)] at this
  rw[Nat.add_assoc]
  simpa using this
theorem PW.Code.cons {C:PW} {i:Nat} {w:Wd} {b:List Wd} (h:C.Code i (w::b)):C.W[i]? = some w∧C.Code (i+1) b:=by
 have h1:=PW.Code.app (a:=[w]) (b:=b) h
 have h2:=h1.1 0 (by simp)
 exact ⟨by simpa using h2,h1.2⟩
theorem sign_words {c:UInt8} (h:c∈([43,45,42,47,37,94,60,64,33,63,58,59,44,46,36]:Wd)):defW [c]=none∧refW [c]=none∧isDigit c=false:=by
 have:∀ c∈([43,45,42,47,37,94,60,64,33,63,58,59,44,46,36]:Wd),defW [c]=none∧refW [c]=none∧isDigit c=false:=by decide +kernel
 exact this c h
section
variable {C:PW} {i:Nat}
def isOp (c:UInt8):Prop:=c=43∨c=45∨c=42∨c=47∨c=37∨c=94∨c=60
end
end Go.Stele
namespace Go.Stele
open Go.Lib
structure CC where
 sc:Nm→Wd
 ar:Nm→Wd
 t0:Wd
 t1:Wd
 t2:Wd
def greaterW (c:CC):List Wd:=[c.t2,[33],c.t1,[33],c.t2,[64],c.t1,[64],[60]]
def opW (c:CC) (op:Nm) (num:Nat) (name:Nm) (l:List (List Wd)):List Wd:=
 if op=nNum then [decDigits num]
 else if op=nVar then [c.sc name,[64]]
 else if op=nElem then c.ar name::(l.headD []++[[43],[64]])
 else if op=nCall then l.flatten++(if name=[105,110] then [[44]] else if name=[111,117,116] then [[46],[48]] else [[38,102,95]++name,[58]])
 else if op=nNeg then [48]::(l.headD []++[[45]])
 else if op=nNot then l.headD []++[[49],[60]]
 else if op=[33,61] then [48]::(l.headD []++(l.drop 1).headD []++[[94],[60]])
 else if op=[38,38] then [48]::(l.headD []++[[60],[48]]++(l.drop 1).headD []++[[60],[42]])
 else if op=[124,124] then [48]::[48]::(l.headD []++[[60],[48]]++(l.drop 1).headD []++[[60],[43],[60]])
 else l.headD []++(l.drop 1).headD []++(if op=[62] then greaterW c else if op=[60,61] then greaterW c++[[49],[94]] else if op=[62,61] then [[60],[49],[94]] else if op=[61,61] then [[94],[49],[60]] else [op])
mutual
def exW (c:CC):Ex→List Wd
 |.mk op num name args=>opW c op num name (exWl c args)
def exWl (c:CC):List Ex→List (List Wd)
 |[]=>[]
 |x::l=>exW c x::exWl c l
end
def labW (n:Nat):Wd:=106::decDigits n
mutual
def stW (c:CC):Nat→Sm→List Wd×Nat
 |n,.mk kind name index value thn els=>
  if kind=1 then (exW c (value.headD default)++[c.sc name,[33]],n)
  else if kind=2 then (exW c (value.headD default)++c.ar name::(exW c (index.headD default)++[[43],[33]]),n)
  else if kind=3 then
   (match els with
   |[]=>(exW c (value.headD default)++[38::labW n,[63]]++(stWs c (n+1) thn).1++[labW n++[58]],(stWs c (n+1) thn).2)
   |_::_=>(exW c (value.headD default)++[38::labW n,[63]]++(stWs c (n+2) thn).1++[[48],38::labW (n+1),[63],labW n++[58]]++(stWs c (stWs c (n+2) thn).2 els).1++[labW (n+1)++[58]],(stWs c (stWs c (n+2) thn).2 els).2))
  else if kind=4 then ([labW n++[58]]++exW c (value.headD default)++[38::labW (n+1),[63]]++(stWs c (n+2) thn).1++[[48],38::labW n,[63],labW (n+1)++[58]],(stWs c (n+2) thn).2)
  else if kind=5 then (exW c (value.headD default)++[[59]],n)
  else if kind=6 then (exW c (value.headD default)++[c.t0,[33]],n)
  else if kind=7 then ([[36]],n)
  else ([],n)
def stWs (c:CC):Nat→List Sm→List Wd×Nat
 |n,[]=>([],n)
 |n,s::l=>((stW c n s).1++(stWs c (stW c n s).2 l).1,(stWs c (stW c n s).2 l).2)
end
def placeA (l:List Nm) (S:Int) (k:Nm):Int:=if k∈l then S+3+(l.idxOf k:Nat) else 0
def keyC (l:List Nm) (own name:Nm):Nm:=if own++[46]++name∈l then own++[46]++name else name
def arrA:Int→List (Nm×Int)→Nm→Int
 |_,[],_=>0
 |at',(x,n)::r,name=>if x=name then at' else arrA (at'+n) r name
structure Org where
 code:Int
 scalars:Int
 arrays:Int
def ccF (vars:List Nm) (arrays:List (Nm×Int)) (fs:List FnD) (o:Org) (own:Nm):CC:=
 ⟨fun s=>itoa (placeA (scalarsP vars fs) o.scalars (keyC (scalarsP vars fs) own s)),fun s=>itoa (arrA o.arrays arrays s),itoa o.scalars,itoa (o.scalars+1),itoa (o.scalars+2)⟩
def fnW (c:CC) (n:Nat) (f:FnD):List Wd×Nat:=
 ([[102,95]++f.name++[58]]++f.params.reverse.flatMap (fun p=>[c.sc p,[33]])++(stWs c n f.body).1++[[48],[59]],(stWs c n f.body).2)
def fnWs (cc:Nm→CC):Nat→List FnD→List Wd×Nat
 |n,[]=>([],n)
 |n,f::l=>((fnW (cc f.name) n f).1++(fnWs cc (fnW (cc f.name) n f).2 l).1,(fnWs cc (fnW (cc f.name) n f).2 l).2)
def prW (vars:List Nm) (arrays:List (Nm×Int)) (fs:List FnD) (o:Org):List Wd:=
 [[38,102,95,109,97,105,110],[58],itoa o.scalars,[33],[36]]++(fnWs (ccF vars arrays fs o) 0 fs).1
def insideA (a n:Int):Bool:=decide (0≤a∧a≤262144-n)
def meetsA (a n b m:Int):Bool:=decide (0<n∧0<m∧a<b+m∧b<a+n)
def fitsP (vars:List Nm) (arrays:List (Nm×Int)) (fs:List FnD) (o:Org):Bool:=
 let total:=(arrays.map (·.2)).sum
 let n:Int:=3+(scalarsP vars fs).length
 insideA o.scalars n && insideA o.code 40000 && insideA o.arrays total && !meetsA o.code 40000 o.scalars n && !meetsA o.arrays total o.scalars n && !meetsA o.arrays total o.code 40000
def cmpP (vars:List Nm) (arrays:List (Nm×Int)) (fs:List FnD) (o:Org):Except Int Wd:=
 if checkP vars arrays fs≠0 then .error (checkP vars arrays fs)
 else if fitsP vars arrays fs o=false then .error 2
 else match asmP (join (prW vars arrays fs o) [32]) o.code with
  |.error e=>.error e.2
  |.ok _=>.ok (join (prW vars arrays fs o) [32])
end Go.Stele
namespace Go.Stele
open Go.Lib
section
variable {A:Type}
end
structure Trn where
 C:PW
 P:Pr
 cc:FnD→CC
 cenv:FnD→CEnv
 sa:Nm→Nat
 aa:Nm→Nat
 S:Nat
 fst:FnD→Nat
def Trn.keys (X:Trn):List Nm:=scalarsP X.P.vars X.P.funcs
def Trn.Data (X:Trn) (x:Nat):Prop:=(∃ k∈X.keys,x=X.sa k)∨(X.S≤x∧x≤X.S+2)∨∃ a∈X.P.arrays,∃ i,i<a.size∧x=X.aa a.name+i
structure TrnOk (X:Trn):Prop where
 sc:∀ f∈X.P.funcs,∀ name,scalarE (X.cenv f) name=0→(X.cc f).sc name=decDigits (X.sa (keyI f name))∧keyI f name∈X.keys
 ar:∀ f∈X.P.funcs,∀ name,arrayE (X.cenv f) name=0→(X.cc f).ar name=decDigits (X.aa name)∧∃ a∈X.P.arrays,a.name=name
 temps:∀ f∈X.P.funcs,(X.cc f).t0=decDigits X.S∧(X.cc f).t1=decDigits (X.S+1)∧(X.cc f).t2=decDigits (X.S+2)
 low:∀ x,X.Data x→x<262144
 free:∀ x,X.Data x→x<X.C.og∨X.C.og+(textA X.C.known X.C.W).length≤x
 keyLow:∀ k∈X.keys,X.S+3≤X.sa k
 inj:∀ k∈X.keys,∀ k'∈X.keys,X.sa k=X.sa k'→k=k'
 apart:∀ a∈X.P.arrays,∀ i,i<a.size→(∀ k∈X.keys,X.sa k≠X.aa a.name+i)∧¬ (X.S≤X.aa a.name+i∧X.aa a.name+i≤X.S+2)
 arInj:∀ a∈X.P.arrays,∀ b∈X.P.arrays,∀ i j,i<a.size→j<b.size→X.aa a.name+i=X.aa b.name+j→a.name=b.name∧i=j
 arLow:∀ a∈X.P.arrays,X.aa a.name<1000000
 arName:∀ a∈X.P.arrays,∀ b∈X.P.arrays,a.name=b.name→a.size=b.size
 body:∀ f∈X.P.funcs,errSs (X.cenv f) f.body=0∧numSs f.body
 fn:∀ f∈X.P.funcs,∀ name g,(X.cenv f).fn name=some g→fnI X.P name∈X.P.funcs∧(fnI X.P name).name=name∧g.params=(fnI X.P name).params.length∧needSs (X.cenv (fnI X.P name)) (fnI X.P name).body≤g.need∧depSs (X.cenv (fnI X.P name)) (fnI X.P name).body≤g.depth
 par:∀ f∈X.P.funcs,(∀ p∈f.params,keyI f p∈X.keys∧(X.cc f).sc p=decDigits (X.sa (keyI f p)))∧(f.params.map (keyI f)).Nodup
 code:∀ f∈X.P.funcs,∃ nl,X.C.Code (X.fst f) (fnW (X.cc f) nl f).1
 ldef:∀ (j n:Nat),X.C.W[j]? = some (labW n++[58])→defW (labW n++[58])=some (labW n)
 lref:∀ (j n:Nat),X.C.W[j]? = some (38::labW n)→refW (38::labW n)=some (labW n)
 fdef:∀ f∈X.P.funcs,defW ([102,95]++f.name++[58])=some ([102,95]++f.name)
 fref:∀ f∈X.P.funcs,refW ([38,102,95]++f.name)=some ([102,95]++f.name)
 label:∀ (j:Nat) (w x:Wd),X.C.W[j]? = some w→defW w=some x→X.C.known x=X.C.plc j
end Go.Stele
namespace Go.Stele
open Go.Lib
theorem errT_zero (all:List Wd):∀ (l:List (Wd×Nat)) (met:List Wd),(errT all met l).2=0→met.Nodup→(met++defs (l.map (·.1))).Nodup∧∀ w∈l.map (·.1),OkW all w
 |[],met,_,hm=>by
  simp only[List.map_nil,defs,List.filterMap_nil,zLz]
  exact ⟨hm,fun w hw=>(List.not_mem_nil hw).elim⟩
 |(w,ln)::r,met,h,hm=>by
  rw[errT] at h
  rw[zMc,defs_cons]
  cases hd:defW w with
  |some x=>
   rw[hd] at h
   simp only at h ⊢
   split at h
   ·simp at h
   ·rename_i hx
    have hn:(met++[x]).Nodup:=List.nodup_append.2 ⟨hm,by simp,fun a ha b hb=>by
     rw[List.mem_singleton.1 hb]
     exact fun e=>hx (e▸ha)⟩
    obtain ⟨h1,h2⟩:=errT_zero all r (met++[x]) h hn
    refine ⟨by rw[zAs] at h1;exact h1,fun y hy=>?_⟩
    rcases zMi.1 hy with rfl|hy
    ·unfold OkW;rw[hd];trivial
    ·exact h2 y hy
  |none=>
   rw[hd] at h
   simp only at h ⊢
   have key:OkW all w∧(errT all met r).2=0:=by
    unfold OkW
    rw[hd]
    cases hr:refW w with
    |some x=>
     rw[hr] at h
     simp only at h ⊢
     split at h
     ·rename_i hx;exact ⟨hx,h⟩
     ·simp at h
    |none=>
     rw[hr] at h
     simp only at h ⊢
     split at h
     ·rename_i hx;exact ⟨hx,h⟩
     ·simp at h
   obtain ⟨h1,h2⟩:=errT_zero all r met key.2 hm
   refine ⟨by simpa using h1,fun y hy=>?_⟩
   rcases zMi.1 hy with rfl|hy
   ·exact key.1
   ·exact h2 y hy
theorem asm_ok {src:Wd} (h:(errT (defs (wordsP src)) [] (toksP src)).2=0):AsmOk (wordsP src):=by
 have:=errT_zero _ _ _ h List.nodup_nil
 rw[toksP_fst,List.nil_append] at this
 exact this
theorem stepA_keep (known:Wd→Nat) (og:Nat) {p:Wd×Nat}:∀ (l:List Wd) (s:Wd×List (Wd×Nat)),p∈s.2→p∈(l.foldl (stepA known og) s).2
 |[],s,h=>h
 |w::l,s,h=>by
  rw[List.foldl_cons]
  refine stepA_keep known og l _ ?_
  unfold stepA
  split
  ·exact List.mem_append.2 (.inl h)
  ·exact h
theorem stepA_at (known:Wd→Nat) (og:Nat) {w x:Wd} (hd:defW w=some x):∀ (l:List Wd) (s:Wd×List (Wd×Nat)) (j:Nat),l[j]? = some w→(x,og+((l.take j).foldl (addT known) s.1).length)∈(l.foldl (stepA known og) s).2
 |[],s,j,h=>by simp at h
 |v::l,s,0,h=>by
  simp only[List.getElem?_cons_zero,Option.some.injEq] at h
  subst h
  rw[List.foldl_cons]
  refine stepA_keep known og l _ ?_
  unfold stepA
  rw[hd]
  simp
 |v::l,s,j+1,h=>by
  rw[List.getElem?_cons_succ] at h
  have ih:=stepA_at known og hd l (stepA known og s v) j h
  have e:(stepA known og s v).1=addT known s.1 v:=by
   unfold stepA
   cases hv:defW v with
   |some y=>simp only;unfold addT;rw[hv]
   |none=>rfl
  rw[e] at ih
  rw[List.foldl_cons,List.take_succ_cons,List.foldl_cons]
  exact ih
theorem find_uniq:∀ (labs:List (Wd×Nat)) (x:Wd) (n:Nat),(labs.map (·.1)).Nodup→(x,n)∈labs→findL labs x=n
 |[],x,n,_,h=>(List.not_mem_nil h).elim
 |(y,k)::l,x,n,hn,h=>by
  rw[zMc,List.nodup_cons] at hn
  unfold findL
  rw[List.find?_cons]
  rcases zMi.1 h with h|h
  ·injection h with h1 h2
   subst h1 h2
   simp
  ·have hne:y≠x:=fun e=>hn.1 (List.mem_map.2 ⟨(x,n),h,by simp[e]⟩)
   simp only[hne,decide_false]
   exact find_uniq l x n hn.2 h
theorem label_plc {W:List Wd} (og:Nat) (hn:(defs W).Nodup) (he:∀ w∈W,w≠[]) {j:Nat} {w x:Wd} (hw:W[j]? = some w) (hd:defW w=some x) :
  findL (labsA (fun _=>0) og W) x=PW.plc ⟨W,og,findL (labsA (fun _=>0) og W)⟩ j:=by
 generalize hk:findL (labsA (fun _=>0) og W)=known
 have h1:=stepA_at known og hd W ([],[]) j hw
 have h2:labsA (fun _=>0) og W=labsA known og W:=labsA_any _ _ og W he
 rw[←hk,h2]
 refine find_uniq _ _ _ ?_ ?_
 ·have:=labsA_names known og W ([],[])
  unfold labsA
  rw[this]
  simpa using hn
 ·rw[←h2,hk]
  rw[h2]
  exact h1
/-! ### Labels that the assembler took -/
theorem name_code {x:Wd} (h:nameW x=true):x≠[]∧∀ c r,x=c::r→isLetter c=true:=by
 unfold nameW at h
 cases x with
 |nil=>cases h
 |cons c r=>
  simp only[zBa] at h
  exact ⟨by simp,fun c' r' e=>by injection e with e1 _;rw[←e1];exact h.1.2⟩
theorem def_of {ds:List Wd} {c:UInt8} {x:Wd} (h:OkW ds (c::x++[58])) (h1:c≠38) (h2:codeSet.contains c=false):defW (c::x++[58])=some (c::x):=by
 cases hd:defW (c::x++[58]) with
 |some y=>
  unfold defW at hd
  split at hd
  ·injection hd with hd
   rw[←hd,List.dropLast_concat]
  ·cases hd
 |none=>
  exfalso
  unfold OkW at h
  rw[hd] at h
  have hr:refW (c::x++[58])=none:=by
   unfold refW
   simp only[List.cons_append,h1,false_and,if_false]
  rw[hr] at h
  simp only at h
  unfold codeW at h
  rw[List.cons_append,List.all_cons,h2] at h
  cases h
theorem ref_of {ds:List Wd} {x:Wd} (h:OkW ds (38::x)):refW (38::x)=some x:=by
 have hd:defW (38::x)=none:=by
  unfold defW
  split
  ·rename_i h1
   exfalso
   cases x with
   |nil=>exact absurd h1.1 zDd
   |cons c r=>
    have:=(name_code h1.2).2 38 _ (List.dropLast_cons_cons ..)
    exact absurd this zDd
  ·rfl
 cases hr:refW (38::x) with
 |some y=>
  unfold refW at hr
  simp only[true_and] at hr
  split at hr
  ·injection hr with hr;rw[←hr]
  ·cases hr
 |none=>
  exfalso
  unfold OkW at h
  rw[hd,hr] at h
  simp only at h
  unfold codeW at h
  rw[List.all_cons,show codeSet.contains 38=false by decide,Bool.false_and] at h
  cases h
theorem ref_def {x:Wd} (h:defW (x++[58])=some x):refW (38::x)=some x:=by
 unfold defW at h
 split at h
 ·rename_i h1
  rw[List.dropLast_concat] at h1
  unfold refW
  simp only[true_and,h1.2,if_true]
 ·cases h
end Go.Stele
namespace Go.Proofs.YtegmklafpoldgaaGreatDoor.Asm
open Go.GL Go.RowKit Go.Stele
theorem lenW_le:∀ (l:List Wd) (d:Bool),lenW d l≤3 * tot l
 |[],d=>Nat.zero_le _
 |w::r,d=>by
  have h1:=one_le d
  have h2:=one_le (d && firstD w)
  rw[lenW,tot_cons]
  cases defW w with
  |some l=>have:=lenW_le r d;simp only;omega
  |none=>
   cases hr:refW w with
   |some l=>
    have:=lenW_le r true
    have hlen:2≤w.length:=by
     unfold refW at hr
     split at hr
     ·cases hr
     ·rename_i c q
      split at hr
      ·rename_i hc
       have:=List.length_pos_iff.2 (nameW_ne hc.2)
       simp only[zLc]
       omega
      ·cases hr
    simp only
    omega
   |none=>have:=lenW_le r (lastD w);simp only;omega
theorem labs_le (kn:Wd→Nat) (og M:Nat):∀ (l:List Wd) (s:Wd×List (Wd×Nat)),(∀ w∈l,w≠[])→((l.foldl (stepA kn og) s).1).length≤M→(∀ p∈s.2,p.2≤og+M)→∀ p∈(l.foldl (stepA kn og) s).2,p.2≤og+M
 |[],s,_,_,h=>h
 |w::r,s,hw,hM,h=>by
  rw[List.foldl_cons] at hM ⊢
  refine labs_le kn og M r _ (fun x hx=>hw x (zMo w hx)) hM ?_
  have h1:=fold_le kn og r (stepA kn og s w).1 (stepA kn og s w).2 (fun x hx=>hw x (zMo w hx))
  intro p hp
  unfold stepA at hp h1 hM
  cases hd:defW w with
  |none=>
   rw[hd] at hp
   exact h p hp
  |some x=>
   rw[hd] at hp h1 hM
   simp only at hp h1 hM
   rcases List.mem_append.1 hp with hp|hp
   ·exact h p hp
   ·rw[List.mem_singleton.1 hp]
    simp only
    omega
def labKV (labs:List (Wd×Nat)):KV:=labs.map fun p=>(p.1,int .i64 (p.2:Nat))
theorem labKV_get:∀ (labs:List (Wd×Nat)) (x:Wd),(GL.kvGet (labKV labs) x).getD (int .i64 0)=int .i64 (findL labs x:Nat)
 |[],x=>rfl
 |p::r,x=>by
  unfold labKV findL
  rw[zMc,GL.kvGet,List.find?_cons]
  by_cases h:p.1=x
  ·rw[if_pos h,decide_eq_true h]
   rfl
  ·rw[if_neg h,decide_eq_false h]
   exact labKV_get r x
theorem labKV_take {labs:List (Wd×Nat)} {i:Nat} (h:i<labs.length) (hn:(labs.map (·.1)).Nodup):GL.kvPut (labKV (labs.take i)) labs[i].1 (int .i64 (labs[i].2:Nat))=labKV (labs.take (i+1)):=by
 unfold labKV
 rw[List.take_succ_eq_append_getElem h,zMa]
 refine kv_new ?_
 rw[List.map_map]
 intro hm
 have e1:labs.map (·.1)=(labs.take i).map (·.1)++labs[i].1::(labs.drop (i+1)).map (·.1):=by
  conv=>lhs;rw[←List.take_append_drop i labs,List.drop_eq_getElem_cons h]
  rw[zMa,zMc]
 rw[e1,List.nodup_append] at hn
 exact hn.2.2 _ hm _ zMs rfl
theorem findL_le {labs:List (Wd×Nat)} {M:Nat} (h:∀ p∈labs,p.2≤M) (x:Wd):findL labs x≤M:=by
 unfold findL
 cases hf:labs.find? fun p=>decide (p.1=x) with
 |none=>exact Nat.zero_le _
 |some p=>exact h p (List.mem_of_find?_eq_some hf)
def asmLV:Except (Nat×Nat) (Wd×List (Wd×Nat))→LV
 |.error e=>.tuple [str [],.list [],int .i64 (e.1:Nat),int .i64 (e.2:Nat)]
 |.ok x=>.tuple [str x.1,.list (x.2.map tokLV),int .i64 0,int .i64 0]
attribute [local irreducible] LOps LCode LStep LCalls Go.GL.Pure QThen QBlock RetPost LQ LAny LLate LLateOp
section
variable {B0:Nat} {w0:World}
theorem assemble_spec (hG:GW B0 w0) (hM:GM w0) (src:List UInt8) (og:Int) (hs:src.length≤300000000):LCalls (KC B0 w0) 17 [str src,int .i64 og] [] (Ret (asmLV (asmP src og))):=by
 have hA:asmP src og=asmP src og:=rfl
 conv at hA=>rhs;unfold asmP
 generalize hR:asmP src og=R at hA ⊢
 refine LCalls.intro4 Tryz.func17 rfl (n:=65) rfl rfl rfl ?_
 refine gdo ?_
 refine oB 19 rfl (fun h1=>?_) (fun h1=>?_)
 ·have h1':og<0:=zt h1
  rw[if_pos (.inl h1')] at hA
  subst hA
  refine gbg ?_
  refine oC rfl (fun h=>?_) (fun h=>by cases h)
  refine gaf ?_
  exact retRet rfl (rC (zrt rfl) (rC (rT (v:=nilSlice) rfl vN) (rC (zrt rfl) (zra rfl)))) rfl
 have h1':¬ og<0:=zf h1
 refine gk9 ?_
 refine oC rfl (fun h2=>?_) (fun h2=>?_)
 ·have h2':og ≥ 262144:=zt h2
  rw[if_pos (.inr h2')] at hA
  subst hA
  refine gaf ?_
  exact retRet rfl (rC (zrt rfl) (rC (rT (v:=nilSlice) rfl vN) (rC (zrt rfl) (zra rfl)))) rfl
 have h2':¬ og ≥ 262144:=zf h2
 rw[if_neg zo] at hA
 obtain ⟨o,rfl⟩:∃ o:Nat,og=(o:Int):=⟨og.toNat,by omega⟩
 rw[Int.toNat_natCast] at hA
 have hao:=@asm_ok src
 have hft:=toksP_fst src
 have hwt:=words_tot src
 have hwl:=wordsP_len src
 have hcl:=wordsP_clean src
 have hlw:=lenW_le (wordsP src) false
 have htk:=tokens_spec hG hM src zo
 rw[←hft] at hwt hwl hcl hlw hA hao
 rw[zLm] at hwl
 generalize toksP src=l at hwt hwl hcl hlw htk hA hao
 have hne:∀ w∈txt l,w≠[]:=fun w hw=>(hcl w hw).1
 have hsz:∀ p∈l,p.1≠[]∧p.1.length≤1000000000:=fun p hp=>by
  have hm:p.1∈l.map (·.1):=List.mem_map_of_mem hp
  have:=tot_mem hm
  exact ⟨(hcl _ hm).1,by omega⟩
 have hck:=check_spec (B0:=B0) (w0:=w0) l zo (fun p hp=>(hsz p hp).2)
 have hlen:∀ kn,((txt l).foldl (stepA kn o) ([],[])).1.length=lenW false (txt l):=fun kn=>by
  rw[stepA_fst]
  exact textA_len kn _ hne
 have hjo:=fun kn hkn km Hk hK=>joined_ex hG l o zo zo hsz kn hkn (by rw[hlen kn];show lenW false (l.map (·.1))≤_;omega) km Hk hK
 generalize hE:errT (defs (txt l)) [] l=E at hck hA hao
 have hE2:E=(E.1,E.2):=rfl
 refine gaw ?_
 refine oS (sF [_] rfl htk ?_) rfl
 refine gfh ?_
 refine oS (sF [_] rfl hck ?_) rfl
 refine gfi ?_
 refine oC rfl (fun h1=>?_) (fun h1=>?_)
 ·have h3:¬ E.2=0:=by simpa using h1
  rw[if_pos h3] at hA
  subst hA
  refine gda ?_
  exact retRet rfl (rC (zrt rfl) (rC (rT (v:=nilSlice) rfl vN) (rC (zrt rfl) (zra rfl)))) rfl
 have h3:E.2=0:=by simpa using h1
 rw[if_neg zo] at hA
 have hnd:=(hao h3).1
 refine gfj ?_
 refine oS (S.callH (H1:=[]) (F:=[]) [_,_,.const (.map none)] rfl zpr (hjo (fun _=>0) (fun _=>Nat.zero_le _) none [] (.inl ⟨rfl,rfl,fun _=>rfl⟩)) (fun v' H' hh=>?_) (fun ch H' hh=>by obtain ⟨h,_⟩:=hh;cases h)) rfl
 obtain ⟨hv,rfl⟩:=hh
 cases hv
 have hlabs:((txt l).foldl (stepA (fun _=>0) o) ([],[])).2=labsA (fun _=>0) o (l.map (·.1)):=rfl
 have hle:∀ p∈((txt l).foldl (stepA (fun _=>0) o) ([],[])).2,p.2≤1000000000000:=fun p hp=>by
  have:=labs_le (fun _=>0) o (lenW false (txt l)) (txt l) ([],[]) hne (by rw[hlen];exact zNr _) (fun p hp=>by cases hp) p hp
  have h5:lenW false (txt l)≤3 * tot (l.map (·.1)):=hlw
  omega
 have hnl:(((txt l).foldl (stepA (fun _=>0) o) ([],[])).2.map (·.1)).Nodup:=by
  rw[labsA_names]
  exact hnd
 have hll:=(fold_labs (fun _=>0) o (txt l) ([],[])).2
 rw[hlabs] at hle hnl hll
 generalize hLB:labsA (fun _=>0) o (l.map (·.1))=labs at hle hnl hll hA hlabs
 rw[hlabs]
 have hll2:labs.length≤l.length:=by
  have:(txt l).length=l.length:=zLm _
  simp only[zLn] at hll
  omega
 have hlab:(labs.map tokLV).length=labs.length:=zLm _
 refine gla ?_
 refine oS (S.kvNew fun m=>?_) rfl
 refine ga9 ?_
 refine oL (fun k ls H=>∃ (i:Nat) (clock:Nat),i≤labs.length∧k=labs.length-i∧ls=[(1,int .i64 (o:Nat)),(8,.list (l.map tokLV)),(13,.atom (.map (some m))),(41,.list (labs.map tokLV)),(42,int .i64 labs.length),(43,int .i64 (i:Nat))]∧H=[(m,.map (kvs (labKV (labs.take i))) clock)])
  ⟨_,_,_,⟨0,0,Nat.zero_le _,rfl,rfl,rfl⟩,⟨rfl,rfl,rfl,rfl,int_eq zo,rfl,trivial⟩,zhR _⟩ ?_
 rintro k ls H ⟨i,clock,hi,rfl,rfl,rfl⟩ j hj
 refine gae ?_
 refine oC rfl (fun hc=>?_) (fun hc=>?_)
 ·have hlt:i<labs.length:=by have:=zt hc;omega
  refine gag ?_
  refine oP (xR (el':=tokLV labs[i]) (cs:=[_,_]) rfl rfl zo (map_get _ _ _ hlt) rfl rfl) rfl ?_
  refine ga5 ?_
  refine oS (sA fun b15=>?_) rfl
  refine glb ?_
  refine oS (S.kvPut (t:=64) (kt:=9) (el:=3) (m:=labKV (labs.take i)) (k:=labs[i].1) (lv:=int .i64 (labs[i].2:Nat)) zk zk rfl rfl rfl zp1 fun clock'=>?_) rfl
  rw[labKV_take hlt hnl]
  refine gah ?_
  exact ⟨_,_,_,by omega,⟨i+1,clock',by omega,rfl,rfl,rfl⟩,⟨rfl,rfl,rfl,rfl,rfl,int_eq zo,trivial⟩,⟨[_],List.Perm.refl _⟩,hj⟩
 ·have hi':i=labs.length:=by have:=zf hc;omega
  subst hi'
  rw[List.take_length]
  have hkn:=findL_le hle
  refine glc ?_
  refine oS (S.callH (H1:=[(m,.map (kvs (labKV labs)) clock)]) (F:=[]) [_,_,_] rfl zpr (hjo (findL labs) hkn (some m) _ (.inr ⟨m,labKV labs,clock,rfl,rfl,labKV_get labs⟩)) (fun v' H' hh=>?_) (fun ch H' hh=>by obtain ⟨h,_⟩:=hh;cases h)) rfl
  obtain ⟨hv,rfl⟩:=hh
  cases hv
  have e1:((txt l).foldl (stepA (findL labs) o) ([],[])).1=textA (findL labs) (l.map (·.1)):=stepA_fst _ _ _ _
  have e2:((txt l).foldl (stepA (findL labs) o) ([],[])).2=labs:=by
   show labsA (findL labs) o (l.map (·.1))=labs
   rw[labsA_any (findL labs) (fun _=>0) o (l.map (·.1)) hne]
   exact hLB
  rw[e1,e2]
  generalize textA (findL labs) (l.map (·.1))=tx at hA
  refine gld ?_
  refine oC rfl (fun h2=>?_) (fun h2=>?_)
  ·have h5:40000<tx.length:=by have:=zt h2;omega
   rw[if_pos h5] at hA
   subst hA
   refine gaf ?_
   exact retRet hj (rC (zrt rfl) (rC (rT (v:=nilSlice) rfl vN) (rC (zrt rfl) (zra rfl)))) rfl
  ·have h5:¬ 40000<tx.length:=by have:=zf h2;omega
   rw[if_neg h5] at hA
   subst hA
   refine gle ?_
   exact retRet hj (rC (zrt rfl) (rC (rT (v:=.list _) rfl zsr) (rC (zrt rfl) (zra rfl)))) rfl
end
end Go.Proofs.YtegmklafpoldgaaGreatDoor.Asm
namespace Go.Stele
open Go.Lib
section
variable (vars arrays later:List Nm)
def knF:List FSum→List FnD→FnD→List FSum
 |known,[],f=>known
 |known,g::l,f=>if g.name=f.name then known else knF (known++[sumF vars arrays later known g]) l f
end
section
variable {vars arrays later:List Nm}
theorem kn_err:∀ (fs:List FnD) (known:List FSum),errFs vars arrays later known fs=0→(fs.map (·.name)).Nodup→∀ f∈fs,errSs (envF vars arrays later (knF vars arrays later known fs f) f) f.body=0
 |[],known,_,_,f,hf=>(List.not_mem_nil hf).elim
 |g::l,known,h,hn,f,hf=>by
  rw[errFs] at h
  obtain ⟨h1,h2⟩:=orE_zero.1 h
  rw[zMc,List.nodup_cons] at hn
  rw[knF]
  rcases zMi.1 hf with rfl|hf
  ·rw[if_pos rfl]
   exact (orE_zero.1 h1).2
  ·rw[if_neg (fun e=>hn.1 (List.mem_map.2 ⟨f,hf,e.symm⟩))]
   exact kn_err l _ h2 hn.2 f hf
theorem kn_sum:∀ (fs:List FnD) (known:List FSum),(fs.map (·.name)).Nodup→∀ f∈fs,∀ k∈knF vars arrays later known fs f,k∈known∨∃ g∈fs,k=sumF vars arrays later (knF vars arrays later known fs g) g
 |[],known,_,f,hf,k,hk=>(List.not_mem_nil hf).elim
 |g::l,known,hn,f,hf,k,hk=>by
  rw[zMc,List.nodup_cons] at hn
  rw[knF] at hk
  rcases zMi.1 hf with rfl|hf
  ·rw[if_pos rfl] at hk
   exact .inl hk
  ·rw[if_neg (fun e=>hn.1 (List.mem_map.2 ⟨f,hf,e.symm⟩))] at hk
   rcases kn_sum l _ hn.2 f hf k hk with h|⟨x,h1,h2⟩
   ·rcases List.mem_append.1 h with h|h
    ·exact .inl h
    ·refine .inr ⟨g,List.mem_cons_self ..,?_⟩
     rw[knF,if_pos rfl]
     exact List.mem_singleton.1 h
   ·refine .inr ⟨x,zMo _ h1,?_⟩
    rw[knF,if_neg (fun e=>hn.1 (List.mem_map.2 ⟨x,h1,e.symm⟩))]
    exact h2
theorem sum_need (known:List FSum) (f:FnD):needSs (envF vars arrays later known f) f.body≤(sumF vars arrays later known f).need∧depSs (envF vars arrays later known f) f.body≤(sumF vars arrays later known f).depth:=⟨Nat.le_max_right _ _,Nat.le_max_right _ _⟩
end
/-! ### Where a function's words begin -/
def fstF (cc:Nm→CC):Nat→Nat→List FnD→FnD→Nat
 |_,i,[],_=>i
 |n,i,g::l,f=>if g.name=f.name then i else fstF cc (fnW (cc g.name) n g).2 (i+(fnW (cc g.name) n g).1.length) l f
theorem code_at {C:PW} {cc:Nm→CC}:∀ (fs:List FnD) (n i:Nat),C.Code i (fnWs cc n fs).1→(fs.map (·.name)).Nodup→∀ f∈fs,∃ nl,C.Code (fstF cc n i fs f) (fnW (cc f.name) nl f).1
 |[],n,i,_,_,f,hf=>(List.not_mem_nil hf).elim
 |g::l,n,i,h,hn,f,hf=>by
  rw[zMc,List.nodup_cons] at hn
  rw[fnWs] at h
  obtain ⟨h1,h2⟩:=h.app
  rw[fstF]
  rcases zMi.1 hf with rfl|hf
  ·rw[if_pos rfl]
   exact ⟨n,h1⟩
  ·rw[if_neg (fun e=>hn.1 (List.mem_map.2 ⟨f,hf,e.symm⟩))]
   exact code_at l _ _ h2 hn.2 f hf
theorem code_all (W:List Wd) (og:Nat) (known:Wd→Nat):PW.Code ⟨W,og,known⟩ 0 W:=fun k hk=>by
 rw[Nat.zero_add]
 exact List.getElem?_eq_getElem hk
/-! ### Where the arrays lie -/
def offA:List Ar→Nm→Nat
 |[],_=>0
 |a::l,x=>if a.name=x then 0 else a.size+offA l x
def totA (l:List Ar):Nat:=(l.map (·.size)).sum
theorem totA_int (l:List Ar):((l.map fun a=>(a.name,(a.size:Int))).map (·.2)).sum=((totA l:Nat):Int):=by
 unfold totA
 induction l with
 |nil=>rfl
 |cons a l ih=>
  simp only[zMc,List.sum_cons] at ih ⊢
  rw[ih]
  omega
theorem arrA_off:∀ (l:List Ar) (at':Int) (a:Ar),a∈l→arrA at' (l.map fun a=>(a.name,(a.size:Int))) a.name=at'+(offA l a.name:Nat)
 |[],at',a,h=>(List.not_mem_nil h).elim
 |b::l,at',a,h=>by
  rw[zMc,arrA,offA]
  by_cases he:b.name=a.name
  ·rw[if_pos he,if_pos he];simp
  ·rw[if_neg he,if_neg he]
   rcases zMi.1 h with rfl|h
   ·exact absurd rfl he
   ·rw[arrA_off l _ a h]
    omega
theorem off_le:∀ (l:List Ar),(l.map (·.name)).Nodup→∀ a∈l,offA l a.name+a.size≤totA l
 |[],_,a,h=>(List.not_mem_nil h).elim
 |b::l,hn,a,h=>by
  rw[zMc,List.nodup_cons] at hn
  have ht:totA (b::l)=b.size+totA l:=by simp[totA]
  rw[offA,ht]
  rcases zMi.1 h with rfl|h
  ·rw[if_pos rfl];omega
  ·rw[if_neg (fun e=>hn.1 (List.mem_map.2 ⟨a,h,e.symm⟩))]
   have:=off_le l hn.2 a h
   omega
theorem off_apart:∀ (l:List Ar),(l.map (·.name)).Nodup→∀ a∈l,∀ b∈l,a.name≠b.name→offA l a.name+a.size≤offA l b.name∨offA l b.name+b.size≤offA l a.name
 |[],_,a,h,_,_,_=>(List.not_mem_nil h).elim
 |x::l,hn,a,ha,b,hb,hne=>by
  rw[zMc,List.nodup_cons] at hn
  rw[offA,offA]
  rcases zMi.1 ha with rfl|ha
  ·rw[if_pos rfl,if_neg hne]
   left;omega
  ·rw[if_neg (fun e=>hn.1 (List.mem_map.2 ⟨a,ha,e.symm⟩))]
   rcases zMi.1 hb with rfl|hb
   ·rw[if_pos rfl]
    right;omega
   ·rw[if_neg (fun e=>hn.1 (List.mem_map.2 ⟨b,hb,e.symm⟩))]
    rcases off_apart l hn.2 a ha b hb hne with h|h
    ·left;omega
    ·right;omega
theorem arr_same {l:List Ar} (h:(l.map (·.name)).Nodup) {a b:Ar} (ha:a∈l) (hb:b∈l) (he:a.name=b.name):a=b:=by
 induction l with
 |nil=>cases ha
 |cons x l ih=>
  rw[zMc,List.nodup_cons] at h
  rcases zMi.1 ha with rfl|ha'
  ·rcases zMi.1 hb with rfl|hb'
   ·rfl
   ·exact absurd (List.mem_map.2 ⟨b,hb',he.symm⟩) h.1
  ·rcases zMi.1 hb with rfl|hb'
   ·exact absurd (List.mem_map.2 ⟨a,ha',he⟩) h.1
   ·exact ih h.2 ha' hb'
end Go.Stele
namespace Go.Stele
open Go.Lib
def arrsP (P:Pr):List (Nm×Int):=P.arrays.map fun a=>(a.name,(a.size:Int))
def wordsC (P:Pr) (o:Org):List Wd:=prW P.vars (arrsP P) P.funcs o
def knownC (P:Pr) (o:Org):Wd→Nat:=findL (labsA (fun _=>0) o.code.toNat (wordsC P o))
def trnP (P:Pr) (o:Org):Trn where
 C:=⟨wordsC P o,o.code.toNat,knownC P o⟩
 P:=P
 cc:=fun f=>ccF P.vars (arrsP P) P.funcs o f.name
 cenv:=fun f=>envF P.vars (P.arrays.map (·.name)) (P.funcs.map (·.name)) (knF P.vars (P.arrays.map (·.name)) (P.funcs.map (·.name)) [] P.funcs f) f
 sa:=fun k=>o.scalars.toNat+3+(scalarsP P.vars P.funcs).idxOf k
 aa:=fun n=>o.arrays.toNat+offA P.arrays n
 S:=o.scalars.toNat
 fst:=fstF (ccF P.vars (arrsP P) P.funcs o) 0 5 P.funcs
theorem itoa_pos {z:Int} (h:0≤z):itoa z=decDigits z.toNat:=by
 unfold itoa
 rw[if_neg (by omega)]
structure FitN (P:Pr) (o:Org):Prop where
 s0:0≤o.scalars
 c0:0≤o.code
 a0:0≤o.arrays
 s1:o.scalars.toNat+3+(scalarsP P.vars P.funcs).length≤262144
 c1:o.code.toNat+40000≤262144
 a1:o.arrays.toNat+totA P.arrays≤262144
 cs:o.scalars.toNat+3+(scalarsP P.vars P.funcs).length≤o.code.toNat∨o.code.toNat+40000≤o.scalars.toNat
 asA:0<totA P.arrays→o.scalars.toNat+3+(scalarsP P.vars P.funcs).length≤o.arrays.toNat∨o.arrays.toNat+totA P.arrays≤o.scalars.toNat
 ac:0<totA P.arrays→o.code.toNat+40000≤o.arrays.toNat∨o.arrays.toNat+totA P.arrays≤o.code.toNat
theorem fit_of {P:Pr} {o:Org} (h:fitsP P.vars (arrsP P) P.funcs o=true):FitN P o:=by
 unfold fitsP insideA meetsA at h
 simp only[zBa,Bool.not_eq_true',zDe,decide_eq_false_iff_not] at h
 have ht:((arrsP P).map (·.2)).sum=((totA P.arrays:Nat):Int):=totA_int P.arrays
 rw[ht] at h
 obtain ⟨⟨⟨⟨⟨h1,h2⟩,h3⟩,h4⟩,h5⟩,h6⟩:=h
 constructor <;> omega
section
variable {P:Pr} {o:Org}
theorem sc_at (hv:Valid P) (hf:FitN P o) {f:FnD} (hm:f∈P.funcs) (name:Nm) (hk:keyI f name∈scalarsP P.vars P.funcs):((trnP P o).cc f).sc name=decDigits ((trnP P o).sa (keyI f name)):=by
 show itoa (placeA (scalarsP P.vars P.funcs) o.scalars (keyC (scalarsP P.vars P.funcs) f.name name))=_
 have h1:keyC (scalarsP P.vars P.funcs) f.name name=keyI f name:=key_eq hv.names hm name
 have h2:=hf.s0
 rw[h1]
 unfold placeA
 rw[if_pos hk,itoa_pos (by omega)]
 show _=decDigits (o.scalars.toNat+3+_)
 congr 1
 omega
theorem idx_lt {l:List Nm} {k:Nm} (h:k∈l):l.idxOf k<l.length:=List.idxOf_lt_length_of_mem h
theorem idx_inj {l:List Nm} {k k':Nm} (h:k∈l) (h':k'∈l) (he:l.idxOf k=l.idxOf k'):k=k':=by
 have h1:l[l.idxOf k]? = some k:=by rw[List.getElem?_eq_getElem (idx_lt h),List.getElem_idxOf]
 have h2:l[l.idxOf k']? = some k':=by rw[List.getElem?_eq_getElem (idx_lt h'),List.getElem_idxOf]
 rw[he,h2] at h1
 injection h1 with h1
 exact h1.symm
theorem trn_ok (hc:checkPr P=0) (hnum:∀ f∈P.funcs,numSs f.body) (hfit:fitsP P.vars (arrsP P) P.funcs o=true) (hasm:AsmOk (wordsC P o)) (hne:∀ w∈wordsC P o,w≠[]) (hlen:(textA (knownC P o) (wordsC P o)).length≤40000):TrnOk (trnP P o):=by
 have hv:=valid_of hc
 have hF:=fit_of hfit
 have hnames:=(fresh_zero _ _ hv.names).1
 have hfn:(P.funcs.map (·.name)).Nodup:=(List.nodup_append.1 hnames).2.1
 have han:(P.arrays.map (·.name)).Nodup:=(List.nodup_append.1 (List.nodup_append.1 hnames).1).2.1
 have herr:errFs P.vars (P.arrays.map (·.name)) (P.funcs.map (·.name)) [] P.funcs=0:=by
  unfold checkPr checkP at hc
  have e1:(P.arrays.map fun a=>(a.name,(a.size:Int))).map (·.1)=P.arrays.map (·.name):=by rw[List.map_map];try rfl
  rw[e1] at hc
  exact (orE_zero.1 (orE_zero.1 (orE_zero.1 hc).2).2).1
 obtain ⟨s0,c0,a0,s1,c1,a1,cs,as',ac⟩:=hF
 have hF:FitN P o:=⟨s0,c0,a0,s1,c1,a1,cs,as',ac⟩
 have hcode:∀ f∈P.funcs,∃ nl,(trnP P o).C.Code ((trnP P o).fst f) (fnW ((trnP P o).cc f) nl f).1:=fun f hf=>by
  have h1:PW.Code (trnP P o).C 0 ([[38,102,95,109,97,105,110],[58],itoa o.scalars,[33],[36]]++(fnWs (ccF P.vars (arrsP P) P.funcs o) 0 P.funcs).1):=code_all _ _ _
  exact code_at P.funcs 0 5 h1.app.2 hfn f hf
 have hmem:∀ {j:Nat} {w:Wd},(wordsC P o)[j]? = some w→OkW (defs (wordsC P o)) w:=fun h=>hasm.2 _ (List.mem_of_getElem? h)
 have hfd:∀ f∈P.funcs,defW ([102,95]++f.name++[58])=some ([102,95]++f.name):=fun f hf=>by
  obtain ⟨nl,h⟩:=hcode f hf
  unfold fnW at h
  simp only[List.singleton_append,List.cons_append,zAs] at h
  have h1:(wordsC P o)[(trnP P o).fst f]? = some (102::(95::f.name)++[58]):=by
   have h0:=h.cons.1
   simp only[zAs,List.cons_append,List.nil_append] at h0 ⊢
   exact h0
  have h2:=def_of (hmem h1) zDd zDd
  simpa using h2
 refine ⟨fun f hf name h=>?_,fun f hf name h=>?_,fun f hf=>?_,fun x hx=>?_,fun x hx=>?_,fun k hk=>?_,fun k hk k' hk' h=>?_,fun a ha i hi=>?_,fun a ha b hb i j hi hj h=>?_,fun a ha=>?_,fun a ha b hb h=>?_,fun f hf=>⟨kn_err _ _ herr hfn f hf,hnum f hf⟩,fun f hf name g h=>?_,fun f hf=>?_,hcode,fun j n h=>?_,fun j n h=>?_,hfd,fun f hf=>ref_def (hfd f hf),fun j w x hw hd=>?_⟩
 ·have hk:keyI f name∈scalarsP P.vars P.funcs:=key_placed hf h
  exact ⟨sc_at hv hF hf name hk,hk⟩
 ·unfold arrayE at h
  split at h
  ·rename_i hm
   obtain ⟨a,h1,h2⟩:=List.mem_map.1 (show name∈P.arrays.map (·.name) from hm)
   refine ⟨?_,a,h1,h2⟩
   show itoa (arrA o.arrays (arrsP P) name)=decDigits (o.arrays.toNat+offA P.arrays name)
   rw[←h2]
   unfold arrsP
   rw[arrA_off _ _ _ h1,itoa_pos (by omega)]
   congr 1
   omega
  ·split at h <;> cases h
 ·show itoa o.scalars=decDigits o.scalars.toNat∧itoa (o.scalars+1)=decDigits (o.scalars.toNat+1)∧itoa (o.scalars+2)=decDigits (o.scalars.toNat+2)
  rw[itoa_pos s0,itoa_pos (by omega),itoa_pos (by omega)]
  exact ⟨rfl,by congr 1;omega,by congr 1;omega⟩
 ·rcases hx with ⟨k,hk,rfl⟩|hx|⟨a,ha,i,hi,rfl⟩
  ·have h1:(scalarsP P.vars P.funcs).idxOf k<_:=idx_lt hk
   show o.scalars.toNat+3+(scalarsP P.vars P.funcs).idxOf k<262144
   omega
  ·have h1:o.scalars.toNat≤x∧x≤o.scalars.toNat+2:=hx
   omega
  ·have h1:=off_le _ han a ha
   show o.arrays.toNat+offA P.arrays a.name+i<262144
   omega
 ·show x<o.code.toNat∨o.code.toNat+(textA (knownC P o) (wordsC P o)).length≤x
  rcases hx with ⟨k,hk,rfl⟩|hx|⟨a,ha,i,hi,rfl⟩
  ·have h1:(scalarsP P.vars P.funcs).idxOf k<_:=idx_lt hk
   show o.scalars.toNat+3+(scalarsP P.vars P.funcs).idxOf k<_∨_≤o.scalars.toNat+3+(scalarsP P.vars P.funcs).idxOf k
   omega
  ·have h1:o.scalars.toNat≤x∧x≤o.scalars.toNat+2:=hx
   omega
  ·have h1:=off_le _ han a ha
   have h2:=ac (by have:i<a.size:=hi;omega)
   have h3:i<a.size:=hi
   show o.arrays.toNat+offA P.arrays a.name+i<_∨_≤o.arrays.toNat+offA P.arrays a.name+i
   omega
 ·exact Nat.le_add_right _ _
 ·have h1:o.scalars.toNat+3+(scalarsP P.vars P.funcs).idxOf k=o.scalars.toNat+3+(scalarsP P.vars P.funcs).idxOf k':=h
  have h2:(scalarsP P.vars P.funcs).idxOf k=(scalarsP P.vars P.funcs).idxOf k':=by omega
  exact idx_inj hk hk' h2
 ·have h1:=off_le _ han a ha
  have h2:=as' (by omega)
  refine ⟨fun k hk=>?_,?_⟩
  ·have h3:(scalarsP P.vars P.funcs).idxOf k<_:=idx_lt hk
   show o.scalars.toNat+3+(scalarsP P.vars P.funcs).idxOf k≠o.arrays.toNat+offA P.arrays a.name+i
   omega
  ·show ¬ (o.scalars.toNat≤o.arrays.toNat+offA P.arrays a.name+i∧o.arrays.toNat+offA P.arrays a.name+i≤o.scalars.toNat+2)
   omega
 ·have h:o.arrays.toNat+offA P.arrays a.name+i=o.arrays.toNat+offA P.arrays b.name+j:=h
  by_cases he:a.name=b.name
  ·rw[he] at h
   exact ⟨he,by omega⟩
  ·rcases off_apart _ han a ha b hb he with h1|h1
   ·omega
   ·omega
 ·have h1:=off_le _ han a ha
  show o.arrays.toNat+offA P.arrays a.name<1000000
  omega
 ·rw[arr_same han ha hb h]
 ·have h1:g∈knF P.vars (P.arrays.map (·.name)) (P.funcs.map (·.name)) [] P.funcs f:=List.mem_of_find?_eq_some h
  have h2:g.name=name:=of_decide_eq_true (List.find?_some (p:=fun g:FSum=>decide (g.name=name)) h)
  rcases kn_sum P.funcs [] hfn f hf g h1 with h3|⟨x,h3,h4⟩
  ·exact (List.not_mem_nil h3).elim
  ·have h5:x.name=name:=by rw[←h2,h4];try rfl
   have h6:=fnI_mem (P:=P) hfn h3
   rw[h5] at h6
   show fnI P name∈P.funcs∧_
   rw[show (trnP P o).P=P from rfl,h6,h4]
   exact ⟨h3,h5,rfl,(sum_need _ x).1,(sum_need _ x).2⟩
 ·have ho:=hv.own f hf
  have hkey:∀ p∈f.params,keyI f p=f.name++[46]++p:=fun p hp=>by unfold keyI;rw[if_pos (.inl hp)]
  refine ⟨fun p hp=>?_,?_⟩
  ·have hk:keyI f p∈scalarsP P.vars P.funcs:=by
    rw[hkey p hp]
    exact (own_key hv.names hf p).2 (List.mem_append.2 (.inl hp))
   exact ⟨hk,sc_at hv hF hf p hk⟩
  ·have hn:f.params.Nodup:=(List.nodup_append.1 ho.1).1
   refine List.pairwise_map.2 (hn.imp_of_mem fun {a b} ha hb hab he=>hab ?_)
   rw[hkey a ha,hkey b hb] at he
   exact List.append_cancel_left he
 ·exact def_of (c:=106) (x:=decDigits n) (hmem h) zDd zDd
 ·exact ref_of (hmem h)
 ·exact label_plc o.code.toNat hasm.1 hne hw hd
end
end Go.Stele
