/- Texts joined: RenLaw3, RenLaw4, RenRef, RenA0, RenLib, Shelf, FmtUint. -/
import Derived.Lib.TrimByte
import Derived.Lib.IndexAny
import Derived.Lib.Repeat
import Derived.Lib.ReplaceLaws
import Derived.Lib.Strings
import Derived.Shelf.Strings.Builder1
import Derived.Shelf.Strings.Builder2
import Derived.Shelf.Strings.OnBuilder
import Derived.Shelf.Strings.Trim
import Derived.Shelf.Small.Utf8
import Derived.Shelf.Small.Strs
import Derived.Shelf.Strings.BuilderF
import Derived.Shelf.Strings.BuilderK
import Derived.Shelf.Utf8.RuneCount
import Derived.Shelf.Strings.Builder2Cap
import Derived.Shelf.Strconv.Atoi
import Derived.Shelf.Strconv.Itoa0
import Derived.Shelf.Strconv.Itoa1
import Derived.Shelf.LaysM
import Derived.Shelf.Strconv.Itoa2
import Derived.Shelf.Strconv.Itoa3
import Derived.Shelf.Strconv.AtoiErrFast
import Derived.Shelf.Strconv.ParseIntEmpty
import Derived.Shelf.Strconv.AtoiFail
import Derived.Shelf.Strconv.Clone
import Derived.Shelf.Strconv.SyntaxError
import Derived.Shelf.LaysC
import Derived.Shelf.Strconv.ToError
import Derived.Shelf.Strconv.AtoiErr
import Derived.Shelf.Strconv.ErrVar
import Derived.Shelf.Strconv.Lower
import Derived.Shelf.Strconv.ParseUint10
import Derived.Shelf.Strconv.ParseUint10Empty
import Derived.Shelf.Strconv.ParseUint10Any
import Derived.Shelf.Strconv.ParseInt10
import Derived.Shelf.Strconv.AtoiLong
import Derived.Shelf.Strconv.AtoiInnerAll
import Derived.Shelf.Strconv.RangeError
import Derived.Shelf.Strconv.ToErrorRange
import Derived.Shelf.Strconv.AtoiAll
import Derived.Shelf.Strconv.ErrVarAll
import Derived.Shelf.Strconv.ParseUintEmpty
import Derived.Shelf.Strconv.ParseUint10b64
import Derived.Shelf.Strconv.ParseUint10b32
import Derived.Shelf.Strconv.ParseUint10b16
import Derived.Shelf.Strconv.ParseUint10b8
import Derived.Shelf.Strconv.ParseUint10At
import Derived.Shelf.Strconv.ParseInt10At64
import Derived.Shelf.Strconv.ParseInt10At32
import Derived.Shelf.Strconv.ParseInt10At16
import Derived.Shelf.Strconv.ParseInt10At8
import Derived.Shelf.Strconv.ParseInt10All
import Derived.Shelf.Strings.Search1
import Derived.Shelf.Strings.Search2
import Derived.Shelf.Strings.Search3
import Derived.Shelf.Strings.Cut
import Derived.Shelf.Strings.Count
import Derived.Shelf.Strings.Shaped
import Derived.Shelf.Strings.Prefix
import Derived.Shelf.Strings.Split
import Derived.Shelf.Strings.Replace
import Derived.Shelf.Strings.SplitShaped
import Derived.Shelf.Unicode.Decode
import Derived.Shelf.Strings.Runes
import Derived.Shelf.Strings.RuneCount
import Derived.Shelf.Strings.IndexAny
import Derived.Shelf.Strings.AsciiSet
import Derived.Shelf.Strings.IndexAnyAll
import Derived.Shelf.Strings.Explode
import Derived.Shelf.Bits.Mul64
import Derived.Shelf.Strings.Repeat
import Derived.Shelf.Unicode.DecodeSlow
import Derived.Shelf.Unicode.DecodeAny
import Derived.Shelf.Strings.BuilderCap
import Derived.Shelf.Slices.Equal
import Derived.Shelf.Slices.Empties2
import Derived.Test.YtocofhbdbgnmbaaGreatDoorProg
import Derived.Lib.Walk
import Derived.Lib.ItoaMem
import Derived.Lib.AppendIntMem
import Derived.WalkKit
import Derived.BigCall
import Derived.BigGuard
import Derived.Below
import Derived.Test.YtocofhbdbgnmbaaGreatDoorBRowR51
import Derived.Test.YtocofhbdbgnmbaaGreatDoorBRowR52
set_option linter.unusedVariables false
set_option linter.unusedSimpArgs false
namespace Go.Stele
open Go.Lib
def len1 (l:List Wd):Nat:=(l.map fun w=>w.length+1).sum
theorem len1_cons (a:Wd) (l:List Wd):len1 (a::l)=a.length+1+len1 l:=by simp[len1]
theorem len1_nil:len1 []=0:=rfl
theorem len1_app (a b:List Wd):len1 (a++b)=len1 a+len1 b:=by simp[len1]
theorem text_len:∀ l:List Wd,(textP l).length=len1 l
 |[]=>rfl
 |a::l=>by
  have:=text_len l
  unfold textP at this ⊢
  rw[List.flatMap_cons,List.length_append,this,len1_cons]
  simp
def Piece (w:Nat) (p:Wd):Prop:=p≠[]∧p.length≤w∧∀ c∈p,33≤c.toNat
def LineOk (w:Nat) (p:Wd):Prop:=p≠[]∧p.length≤w∧∀ c∈p,32≤c.toNat
def dark (s:Wd):Wd:=s.filter fun c=>decide (c≠32)
theorem dark_app (a b:Wd):dark (a++b)=dark a++dark b:=List.filter_append ..
theorem dark_piece {w:Nat} {p:Wd} (h:Piece w p):dark p=p:=List.filter_eq_self.2 fun c hc=>by
 have:=h.2.2 c hc
 simp only[decide_eq_true_eq]
 rintro rfl
 simp at this
theorem put_props {w:Nat} {p:Wd} (hp:Piece w p):∀ {out:List Wd},(∀ l∈out,LineOk w l)→(∀ l∈putW w p out,LineOk w l)∧dark (putW w p out).flatten=dark out.flatten++p∧len1 (putW w p out)=len1 out+p.length+1
 |[],_=>by
  rw[putW]
  refine ⟨fun l hl=>?_,?_,?_⟩
  ·rw[List.mem_singleton.1 hl]
   exact ⟨hp.1,hp.2.1,fun c hc=>Nat.le_of_lt (hp.2.2 c hc)⟩
  ·simp only[List.flatten_cons,List.flatten_nil,List.append_nil]
   exact dark_piece hp
  ·rw[len1_cons,len1_nil];omega
 |[a],h=>by
  obtain ⟨h1,h2,h3⟩:=h a (by simp)
  rw[putW]
  split
  ·refine ⟨fun l hl=>?_,?_,?_⟩
   ·rw[List.mem_singleton.1 hl]
    refine ⟨by simp,by simp only[List.length_append,List.length_cons];omega,fun c hc=>?_⟩
    rcases List.mem_append.1 hc with hc|hc
    ·exact h3 c hc
    ·rcases List.mem_cons.1 hc with rfl|hc
     ·simp
     ·exact Nat.le_of_lt (hp.2.2 c hc)
   ·simp only[List.flatten_cons,List.flatten_nil,List.append_nil]
    rw[dark_app,show dark (32::p)=dark p from rfl,dark_piece hp]
   ·simp only[len1_cons,len1_nil,List.length_append,List.length_cons];omega
  ·refine ⟨fun l hl=>?_,?_,?_⟩
   ·rcases List.mem_cons.1 hl with rfl|hl
    ·exact ⟨h1,h2,h3⟩
    ·rw[List.mem_singleton.1 hl]
     exact ⟨hp.1,hp.2.1,fun c hc=>Nat.le_of_lt (hp.2.2 c hc)⟩
   ·simp only[List.flatten_cons,List.flatten_nil,List.append_nil]
    rw[dark_app,dark_piece hp]
   ·simp only[len1_cons,len1_nil];omega
 |a::b::r,h=>by
  obtain ⟨k1,k2,k3⟩:=put_props hp (out:=b::r) fun l hl=>h l (List.mem_cons_of_mem _ hl)
  rw[putW]
  refine ⟨fun l hl=>?_,?_,?_⟩
  ·rcases List.mem_cons.1 hl with rfl|hl
   ·exact h _ (by simp)
   ·exact k1 l hl
  ·rw[List.flatten_cons,dark_app,k2,List.flatten_cons (l:=a),dark_app,List.append_assoc]
  ·rw[len1_cons,k3,len1_cons a];omega
  simp
theorem foldl_props {w:Nat}:∀ (ps:List Wd) {out:List Wd},(∀ p∈ps,Piece w p)→(∀ l∈out,LineOk w l) →
  (∀ l∈ps.foldl (fun out p=>putW w p out) out,LineOk w l)∧dark (ps.foldl (fun out p=>putW w p out) out).flatten=dark out.flatten++ps.flatten∧len1 (ps.foldl (fun out p=>putW w p out) out)=len1 out+len1 ps
 |[],out,_,h=>⟨h,by simp,rfl⟩
 |p::ps,out,hp,h=>by
  obtain ⟨k1,k2,k3⟩:=put_props (hp p (by simp)) h
  obtain ⟨j1,j2,j3⟩:=foldl_props ps (fun x hx=>hp x (List.mem_cons_of_mem _ hx)) k1
  rw[List.foldl_cons]
  refine ⟨j1,?_,?_⟩
  ·rw[j2,k2,List.flatten_cons,List.append_assoc]
  ·rw[j3,k3,len1_cons];omega
theorem partW_props {w:Nat} (hw:1≤w):∀ (f:Nat) (s:Wd),s.length≤f→s≠[]→(∀ c∈s,33≤c.toNat)→(∀ p∈partW w f s,Piece w p)∧(partW w f s).flatten=s∧len1 (partW w f s)≤2 * s.length
 |0,s,hf,hne,_=>absurd (List.length_eq_zero_iff.1 (by omega)) hne
 |f+1,s,hf,hne,hc=>by
  have hpos:=List.length_pos_iff.2 hne
  rw[partW]
  split
  ·refine ⟨fun p hp=>?_,by simp,?_⟩
   ·rw[List.mem_singleton.1 hp]
    exact ⟨hne,by assumption,hc⟩
   ·rw[len1_cons,len1_nil];omega
  ·have hd:s.drop w≠[]:=by
    intro h
    have:=congrArg List.length h
    rw[List.length_drop,List.length_nil] at this
    omega
   obtain ⟨k1,k2,k3⟩:=partW_props hw f (s.drop w) (by rw[List.length_drop];omega) hd fun c h=>hc c (List.mem_of_mem_drop h)
   refine ⟨fun p hp=>?_,?_,?_⟩
   ·rcases List.mem_cons.1 hp with rfl|hp
    ·refine ⟨?_,by rw[List.length_take];omega,fun c h=>hc c (List.mem_of_mem_take h)⟩
     intro h
     have:=congrArg List.length h
     rw[List.length_take,List.length_nil] at this
     omega
    ·exact k1 p hp
   ·rw[List.flatten_cons,k2,List.take_append_drop]
   ·rw[len1_cons,List.length_take]
    rw[List.length_drop] at k3
    omega
theorem okWord_iff {s:Wd}:okWord s=true ↔ s≠[]∧∀ c∈s,33≤c.toNat∧c.toNat≤126:=by
 unfold okWord
 simp only[Bool.and_eq_true,decide_eq_true_eq,List.all_eq_true]
theorem parts_props {w:Nat} (hw:1≤w):∀ (l:List Wd),l.all okWord=true→(∀ p∈partsP w l,Piece w p)∧(partsP w l).flatten=l.flatten∧len1 (partsP w l)≤2 * l.flatten.length
 |[],_=>⟨fun p hp=>(by cases hp),rfl,Nat.le_refl _⟩
 |s::l,h=>by
  rw[List.all_cons,Bool.and_eq_true] at h
  obtain ⟨h1,h2⟩:=okWord_iff.1 h.1
  obtain ⟨k1,k2,k3⟩:=partW_props hw s.length s (Nat.le_refl _) h1 fun c hc=>(h2 c hc).1
  obtain ⟨j1,j2,j3⟩:=parts_props hw l h.2
  have:partsP w (s::l)=partW w s.length s++partsP w l:=List.flatMap_cons
  rw[this]
  refine ⟨fun p hp=>?_,?_,?_⟩
  ·rcases List.mem_append.1 hp with hp|hp
   ·exact k1 p hp
   ·exact j1 p hp
  ·rw[List.flatten_append,k2,j2,List.flatten_cons]
  ·rw[len1_app,List.flatten_cons,List.length_append]
   omega
theorem wrap_props {w:Nat} (hw:1≤w) {l:List Wd} (h:l.all okWord=true):(∀ r∈wrapP l w,LineOk w r)∧dark (wrapP l w).flatten=l.flatten∧len1 (wrapP l w)≤2 * l.flatten.length:=by
 obtain ⟨k1,k2,k3⟩:=parts_props hw l h
 obtain ⟨j1,j2,j3⟩:=foldl_props (w:=w) (partsP w l) (out:=[]) k1 (by simp)
 refine ⟨j1,?_,?_⟩
 ·have:dark ([]:List Wd).flatten=[]:=rfl
  rw[this,List.nil_append,k2] at j2
  exact j2
 ·rw[len1_nil,Nat.zero_add] at j3
  show len1 ((partsP w l).foldl (fun out p=>putW w p out) [])≤_
  omega
theorem flatten_join (c:UInt8):∀ l:List Wd,l.flatten.length≤(join l [c]).length
 |[]=>Nat.le_refl _
 |[a]=>by rw[join_one];simp
 |a::b::r=>by
  have:=flatten_join c (b::r)
  rw[join_two,List.flatten_cons,List.length_append,List.length_append,List.length_append]
  omega
def para (words:List Wd):Blk:=⟨2,words,[],[],0⟩
theorem para_ok {words:List Wd} {text:Wd} (h:fmtP [para words]=.ok text):words≠[]∧words.all okWord=true∧text=join words [32]++[10]∧text.length≤20000∧docP text=.ok [para words]:=by
 obtain ⟨ts,h1,h2,h3⟩:=fmtP_ok h
 have hg:=docP_good h3 (para words) (by simp)
 have hw:words≠[]∧words.all okWord=true:=by
  rcases hg with h|h|h|h
  ·exact absurd h.1 (by simp[para])
  ·exact h.2
  ·exact absurd h.1 (by simp[para])
  ·exact absurd h.1 (by simp[para])
 refine ⟨hw.1,hw.2,?_,(docP_ok.1 h3).1,h3⟩
 have:fmtBs [para words]=some [join words [32]++[10]]:=rfl
 rw[this] at h1
 cases h1
 rw[h2,join_one]
theorem para_render {words:List Wd} {text:Wd} (h:fmtP [para words]=.ok text) {w:Nat} (hw:1≤w∧w≤200):renderP text w=.ok (textP (wrapP words w)):=by
 obtain ⟨h1,h2,h3,h4,h5⟩:=para_ok h
 obtain ⟨k1,k2,k3⟩:=wrap_props hw.1 h2
 have h6:=flatten_join 32 words
 have h7:=congrArg List.length h3
 rw[List.length_append] at h7
 refine (renderP_ok hw).2 ⟨_,[textP (wrapP words w)],h5,?_,?_,?_⟩
 ·show bodyP w [para words]=_
  rw[bodyP]
  have:rowsP w (para words)=.ok (wrapP words w):=by
   unfold rowsP
   rw[if_neg (by simp[para]),if_pos (by rfl)]
   exact if_pos h2
  rw[this]
  rfl
 ·rw[join_one,text_len]
  omega
 ·rw[join_one]
theorem width_law {words:List Wd} {text:Wd} (h:fmtP [para words]=.ok text) {w:Nat} (hw:1≤w∧w≤200) :
  ∃ rows,renderP text w=.ok (textP rows)∧rows≠[]∧(∀ r∈rows,r≠[]∧r.length≤w∧(10:UInt8) ∉ r)∧dark ((textP rows).filter fun c=>decide (c≠10))=words.flatten:=by
 obtain ⟨h1,h2,h3,h4,h5⟩:=para_ok h
 obtain ⟨k1,k2,k3⟩:=wrap_props hw.1 h2
 have hno:∀ r∈wrapP words w,(10:UInt8) ∉ r:=fun r hr hc=>by
  have:=(k1 r hr).2.2 10 hc
  simp at this
 refine ⟨_,para_render h hw,wrap_ne h1,fun r hr=>⟨(k1 r hr).1,(k1 r hr).2.1,hno r hr⟩,?_⟩
 have hf:∀ l:List Wd,(∀ r∈l,(10:UInt8) ∉ r)→(textP l).filter (fun c=>decide (c≠10))=l.flatten:=by
  intro l hl
  induction l with
  |nil=>rfl
  |cons a l ih=>
   have ih:=ih fun r hr=>hl r (List.mem_cons_of_mem _ hr)
   have ha:a.filter (fun c=>decide (c≠10))=a:=List.filter_eq_self.2 fun c hc=>by
    simp only[decide_eq_true_eq]
    rintro rfl
    exact hl a (by simp) hc
   unfold textP at ih ⊢
   rw[List.flatMap_cons,List.filter_append,ih,List.filter_append,ha,List.flatten_cons]
   simp
 rw[hf _ hno,k2]
theorem text_pieces:∀ l:List Wd,(∀ r∈l,(10:UInt8) ∉ r)→pieces 10 (textP l)=l++[[]]
 |[],_=>rfl
 |a::l,h=>by
  have ih:=text_pieces l fun r hr=>h r (List.mem_cons_of_mem _ hr)
  have:textP (a::l)=a++10::textP l:=by
   unfold textP
   rw[List.flatMap_cons,List.append_assoc]
   rfl
  rw[this,pieces_cut (h a (by simp)),ih]
  rfl
theorem text_trim {l:List Wd} (hne:l≠[]) (h:∀ r∈l,(10:UInt8) ∉ r):∃ t,textP l=t++[10]∧pieces 10 t=l:=by
 have h1:=List.dropLast_concat_getLast hne
 refine ⟨textP l.dropLast++l.getLast hne,?_,?_⟩
 ·have:textP (l.dropLast++[l.getLast hne])=textP l.dropLast++l.getLast hne++[10]:=by
   unfold textP
   rw[List.flatMap_append]
   simp
  rw[←this,h1]
 ·have hp:=text_pieces l h
  have h2:textP l=(textP l.dropLast++l.getLast hne)++[10]:=by
   have:textP (l.dropLast++[l.getLast hne])=textP l.dropLast++l.getLast hne++[10]:=by
    unfold textP
    rw[List.flatMap_append]
    simp
   rw[←this,h1]
  rw[h2,pieces_end] at hp
  exact List.append_cancel_right hp
/-! ### Wide lines -/
theorem partW_one {w:Nat} {s:Wd} (h:s.length≤w):∀ f,partW w f s=[s]
 |0=>rfl
 |f+1=>by rw[partW,if_pos h]
theorem parts_same {w:Nat}:∀ {l:List Wd},(∀ s∈l,s.length≤w)→partsP w l=l
 |[],_=>rfl
 |s::l,h=>by
  unfold partsP
  rw[List.flatMap_cons,partW_one (h s (by simp))]
  have:=parts_same (w:=w) (l:=l) fun x hx=>h x (List.mem_cons_of_mem _ hx)
  unfold partsP at this
  rw[this]
  rfl
theorem join_merge (a p:Wd) (r:List Wd):join (a::p::r) [32]=join ((a++32::p)::r) [32]:=by
 cases r with
 |nil=>rw[join_two,join_one,join_one];simp
 |cons b r=>rw[join_two,join_two,join_two];simp
theorem foldl_one {w:Nat}:∀ (ps:List Wd) (a:Wd),(join (a::ps) [32]).length≤w→ps.foldl (fun out p=>putW w p out) [a]=[join (a::ps) [32]]
 |[],a,_=>by rw[join_one];rfl
 |p::ps,a,h=>by
  rw[join_merge] at h ⊢
  have h1:(a++32::p).length≤w:=Nat.le_trans (join_part (c:=32) (l:=(a++32::p)::ps) (i:=0) rfl) h
  rw[List.foldl_cons,putW,if_pos (by simp only[List.length_append,List.length_cons] at h1;omega)]
  exact foldl_one ps _ h
theorem wide_law {words:List Wd} {text:Wd} (h:fmtP [para words]=.ok text) (hn:len1 words≤200) {w:Nat} (hw:len1 words≤w+1) (hw2:w≤200):renderP text w=.ok (join words [32]++[10]):=by
 obtain ⟨h1,h2,h3,h4,h5⟩:=para_ok h
 have h6:=join_sum 32 words h1
 have h7:(join words [32]).length≤w:=by unfold len1 at hw;omega
 have h8:1≤w:=by
  cases words with
  |nil=>exact absurd rfl h1
  |cons a r=>
   have:=join_part (c:=32) (l:=a::r) (i:=0) (p:=a) rfl
   have ha:=(okWord_iff.1 (List.all_eq_true.1 h2 a (by simp))).1
   have:=List.length_pos_iff.2 ha
   omega
 rw[para_render h ⟨h8,hw2⟩]
 have:wrapP words w=[join words [32]]:=by
  unfold wrapP
  rw[parts_same fun s hs=>by
   obtain ⟨i,hi⟩:=List.getElem?_of_mem hs
   have:=join_part (c:=32) hi
   omega]
  cases words with
  |nil=>exact absurd rfl h1
  |cons a r=>
   rw[List.foldl_cons]
   exact foldl_one r a h7
 rw[this]
 simp[textP]
end Go.Stele
namespace Go.Stele
open Go.Lib
def encR:List (Nat×UInt8)→Wd
 |[]=>[]
 |(k,c)::l=>decDigits k++c::encR l
theorem encR_app:∀ a b:List (Nat×UInt8),encR (a++b)=encR a++encR b
 |[],b=>rfl
 |(k,c)::a,b=>by
  rw[List.cons_append,encR,encR,encR_app a b,List.append_assoc,List.cons_append]
def RunsOk:UInt8→List (Nat×UInt8)→Prop
 |_,[]=>True
 |last,(k,c)::l=>1≤k∧k≤99999∧(c=46∨c=35)∧c≠last∧RunsOk c l
def isRun (c:UInt8):Bool:=decide (c≠46∧c≠35)
theorem dec_isRun (k:Nat):∀ c∈decDigits k,isRun c=true:=fun c hc=>by
 have:=dec_digit k c hc
 unfold isRun
 rw[decide_eq_true_eq]
 constructor <;> (rintro rfl;simp at this)
theorem runs_dec {k:Nat} {c:UInt8} (hc:c=46∨c=35) (r:Wd):(decDigits k++c::r).dropWhile isRun=c::r∧(decDigits k++c::r).takeWhile isRun=decDigits k:=by
 have h:=dec_isRun k
 have hf:isRun c=false:=by rcases hc with rfl|rfl <;> rfl
 constructor
 ·rw[List.dropWhile_append_of_pos h,List.dropWhile_cons_of_neg (by simp[hf])]
 ·rw[List.takeWhile_append_of_pos h,List.takeWhile_cons_of_neg (by simp[hf]),List.append_nil]
theorem runs_enc:∀ (l:List (Nat×UInt8)) (f:Nat) (last:UInt8),(encR l).length≤f→RunsOk last l→runsP f last (encR l)=some l
 |[],0,last,_,_=>rfl
 |[],f+1,last,_,_=>rfl
 |(k,c)::l,0,last,hf,_=>by
  rw[encR,List.length_append,List.length_cons] at hf
  omega
 |(k,c)::l,f+1,last,hf,h=>by
  obtain ⟨h1,h2,h3,h4,h5⟩:=h
  have hne:encR ((k,c)::l)≠[]:=by rw[encR];simp
  rw[runsP,if_neg hne]
  obtain ⟨k1,k2⟩:=runs_dec (k:=k) h3 (encR l)
  have e1:(encR ((k,c)::l)).dropWhile (fun c=>decide (c≠46∧c≠35))=c::encR l:=k1
  have e2:(encR ((k,c)::l)).takeWhile (fun c=>decide (c≠46∧c≠35))=decDigits k:=k2
  rw[e1]
  simp only
  rw[e2,(posW_iff (Nat.le_refl _) _ k).2 ⟨h1,h2,rfl⟩]
  simp only
  rw[if_neg h4,runs_enc l f c (by
   rw[encR,List.length_append,List.length_cons] at hf
   omega) h5]
theorem enc_chars:∀ (l:List (Nat×UInt8)) (last:UInt8),RunsOk last l→∀ c∈encR l,33≤c.toNat∧c.toNat≤126
 |[],_,_,c,hc=>by cases hc
 |(k,d)::l,last,h,c,hc=>by
  obtain ⟨_,_,h3,_,h5⟩:=h
  rw[encR] at hc
  rcases List.mem_append.1 hc with hc|hc
  ·have:=dec_digit k c hc
   omega
  ·rcases List.mem_cons.1 hc with rfl|hc
   ·rcases h3 with rfl|rfl <;> decide
   ·exact enc_chars l d h5 c hc
theorem runLen_app (a b:List (Nat×UInt8)):runLen (a++b)=runLen a+runLen b:=by simp[runLen]
theorem runCells_app (a b:List (Nat×UInt8)):runCells (a++b)=runCells a++runCells b:=by simp[runCells]
theorem runCells_len:∀ l:List (Nat×UInt8),(runCells l).length=runLen l
 |[]=>rfl
 |p::l=>by
  have:=runCells_len l
  unfold runCells runLen at this ⊢
  rw[List.flatMap_cons,List.length_append,this,List.length_replicate,List.map_cons,List.sum_cons]
theorem rowsOf_all {w:Nat}:∀ (n:Nat) (s:Wd),n * w=s.length→(∀ r∈rowsOf w n s,r.length=w∧∀ c∈r,c∈s)∧(rowsOf w n s).flatten=s
 |0,s,h=>by
  have:s=[]:=List.length_eq_zero_iff.1 (by omega)
  subst this
  exact ⟨fun r hr=>(by cases hr),rfl⟩
 |n+1,s,h=>by
  have hle:w≤s.length:=by rw[Nat.succ_mul] at h;omega
  obtain ⟨k1,k2⟩:=rowsOf_all (w:=w) n (s.drop w) (by rw[List.length_drop];rw[Nat.succ_mul] at h;omega)
  rw[rowsOf]
  refine ⟨fun r hr=>?_,?_⟩
  ·rcases List.mem_cons.1 hr with rfl|hr
   ·exact ⟨by rw[List.length_take];omega,fun c hc=>List.mem_of_mem_take hc⟩
   ·obtain ⟨j1,j2⟩:=k1 r hr
    exact ⟨j1,fun c hc=>List.mem_of_mem_drop (j2 c hc)⟩
  ·rw[List.flatten_cons,k2,List.take_append_drop]
def picT (w:Nat) (l:List (Nat×UInt8)):Wd:=[33,32]++(decDigits w++32::encR l)
theorem picT_doc {w:Nat} (hw:1≤w∧w≤200) {l:List (Nat×UInt8)} (hne:l≠[]) (h:RunsOk 0 l) (hl:(picT w l).length≤20000):docP (picT w l)=.ok [⟨4,[],[],encR l,w⟩]:=by
 have he:encR l≠[]:=by
  cases l with
  |nil=>exact absurd rfl hne
  |cons p l=>obtain ⟨k,c⟩:=p;rw[encR];simp
 have hch:=enc_chars l 0 h
 have hch2:∀ c∈picT w l,32≤c.toNat∧c.toNat≤126:=fun c hc=>by
  unfold picT at hc
  rcases List.mem_append.1 hc with hc|hc
  ·simp only[List.mem_cons,List.not_mem_nil,or_false] at hc
   rcases hc with rfl|rfl <;> decide
  ·rcases List.mem_append.1 hc with hc|hc
   ·have:=dec_digit w c hc
    omega
   ·rcases List.mem_cons.1 hc with rfl|hc
    ·decide
    ·have:=hch c hc
     omega
 have hall:(picT w l).all okCh=true:=List.all_eq_true.2 fun c hc=>by
  have:=hch2 c hc
  unfold okCh
  simp only[Bool.and_eq_true,decide_eq_true_eq]
  exact this
 have h10:(10:UInt8) ∉ picT w l:=fun hc=>by
  have:=hch2 10 hc
  simp at this
 have hwords:wordsL (picT w l)≠[]:=by
  have:picT w l=[33]++32::(decDigits w++32::encR l):=rfl
  unfold wordsL
  rw[this,pieces_cut (by decide)]
  simp[full]
 have hdig:∀ c∈decDigits w,decide (c≠(32:UInt8))=true:=fun c hc=>by
  have:=dec_digit w c hc
  rw[decide_eq_true_eq]
  rintro rfl
  simp at this
 have hpic:picP (decDigits w++32::encR l)=some (w,encR l):=by
  have e1:(decDigits w++32::encR l).dropWhile (fun c=>decide (c≠(32:UInt8)))=32::encR l:=by
   rw[List.dropWhile_append_of_pos hdig,List.dropWhile_cons_of_neg (by simp)]
  have e2:(decDigits w++32::encR l).takeWhile (fun c=>decide (c≠(32:UInt8)))=decDigits w:=by
   rw[List.takeWhile_append_of_pos hdig,List.takeWhile_cons_of_neg (by simp),List.append_nil]
  unfold picP
  rw[e1]
  simp only
  rw[if_neg (by
   rintro (h1|h1)
   ·exact he h1
   ·have:=hch 32 h1
    simp at this),e2,(posW_iff (by omega) _ w).2 ⟨hw.1,hw.2,rfl⟩]
 refine docP_ok.2 ⟨hl,?_⟩
 rw[pieces_one h10,docF]
 have hline:lineP (picT w l)=.ok ⟨4,[],[],encR l,w⟩:=by
  unfold lineP
  rw[if_neg (by rw[hall];decide),if_neg hwords,if_neg (by unfold picT;simp),if_neg (by unfold picT;simp),if_pos (by unfold picT;rfl)]
  have:(picT w l).drop 2=decDigits w++32::encR l:=rfl
  rw[this,hpic]
 rw[hline]
 rfl
theorem picture_law {w:Nat} (hw:1≤w∧w≤40) {l:List (Nat×UInt8)} (h:RunsOk 0 l) (hl:(picT w l).length≤20000) (h0:runLen l≠0) (hm:runLen l % w=0) :
  (200<runLen l / w→renderP (picT w l) 80=.error (0,6)) ∧
  (¬ 200<runLen l / w→∃ rows,renderP (picT w l) 80=.ok (textP rows)∧rows.length=runLen l / w∧(∀ r∈rows,r.length=w∧(10:UInt8) ∉ r)∧rows.flatten=runCells l):=by
 have hne:l≠[]:=by
  rintro rfl
  exact h0 rfl
 have hd:=picT_doc ⟨hw.1,by omega⟩ hne h hl
 have hr:runsP (encR l).length 0 (encR l)=some l:=runs_enc l _ 0 (Nat.le_refl _) h
 have hrows:rowsP 80 ⟨4,[],[],encR l,w⟩=expandP (encR l) w:=rfl
 have hexp:expandP (encR l) w=if 200<runLen l / w then .error 6 else .ok (rowsOf w (runLen l / w) (runCells l)):=by
  unfold expandP
  rw[if_neg (by omega),hr]
  simp only
  rw[if_neg (by omega)]
 have hdiv:runLen l / w * w=(runCells l).length:=by
  rw[runCells_len]
  have:=Nat.div_add_mod (runLen l) w
  rw[hm,Nat.mul_comm] at this
  omega
 constructor
 ·intro h1
  unfold renderP
  rw[if_neg (by decide),hd]
  simp only
  have:bodyP (80:Int).toNat [⟨4,[],[],encR l,w⟩]=.error 6:=by
   rw[bodyP]
   show (match rowsP 80 _ with|.error e=>_|.ok rows=>_)=_
   rw[hrows,hexp,if_pos h1]
  rw[this]
 ·intro h1
  obtain ⟨k1,k2⟩:=rowsOf_all (w:=w) (runLen l / w) (runCells l) hdiv
  have hcell:∀ c∈runCells l,c=46∨c=35:=by
   have:∀ (l:List (Nat×UInt8)) (last:UInt8),RunsOk last l→∀ c∈runCells l,c=46∨c=35:=by
    intro l
    induction l with
    |nil=>intro last h c hc;cases hc
    |cons p l ih=>
     obtain ⟨k,d⟩:=p
     intro last h c hc
     obtain ⟨_,_,h3,_,h5⟩:=h
     unfold runCells at hc
     rw[List.flatMap_cons] at hc
     rcases List.mem_append.1 hc with hc|hc
     ·rw[List.mem_replicate] at hc
      rw[hc.2]
      exact h3
     ·exact ih d h5 c hc
   exact this l 0 h
  refine ⟨rowsOf w (runLen l / w) (runCells l),?_,rowsOf_len _ _ _,fun r hr=>⟨(k1 r hr).1,fun hc=>?_⟩,k2⟩
  ·refine (renderP_ok (w:=80) (by decide)).2 ⟨_,[textP (rowsOf w (runLen l / w) (runCells l))],hd,?_,?_,?_⟩
   ·rw[bodyP,hrows,hexp,if_neg h1]
    rfl
   ·rw[join_one,text_len]
    have:∀ rs:List Wd,(∀ r∈rs,r.length=w)→len1 rs=rs.length * (w+1):=by
     intro rs hrs
     induction rs with
     |nil=>simp[len1]
     |cons a rs ih=>
      rw[len1_cons,ih fun r hr=>hrs r (List.mem_cons_of_mem _ hr),hrs a (by simp),List.length_cons,Nat.succ_mul]
      omega
    rw[this _ fun r hr=>(k1 r hr).1,rowsOf_len]
    have h2:runLen l / w * (w+1)≤200 * (w+1):=Nat.mul_le_mul_right _ (by omega)
    omega
   ·rw[join_one]
  ·rcases hcell 10 ((k1 r hr).2 10 hc) with h|h <;> cases h
def altC (i:Nat):UInt8:=if i % 2=0 then 46 else 35
def altR:Nat→List Nat→List (Nat×UInt8)
 |_,[]=>[]
 |i,k::l=>(k,altC i)::altR (i+1) l
theorem altR_app:∀ (a:List Nat) (i:Nat) (k:Nat),altR i (a++[k])=altR i a++[(k,altC (i+a.length))]
 |[],i,k=>rfl
 |x::a,i,k=>by
  rw[List.cons_append,altR,altR_app a (i+1) k,altR,List.length_cons,List.cons_append,show i+1+a.length=i+(a.length+1) by omega]
theorem altR_ok:∀ (l:List Nat) (i:Nat) (last:UInt8),(∀ k∈l,1≤k∧k≤99999)→altC i≠last→RunsOk last (altR i l)
 |[],_,_,_,_=>trivial
 |k::l,i,last,h,hl=>by
  refine ⟨(h k (by simp)).1,(h k (by simp)).2,?_,hl,altR_ok l (i+1) _ (fun x hx=>h x (List.mem_cons_of_mem _ hx)) ?_⟩
  ·unfold altC
   split
   ·exact .inl rfl
   ·exact .inr rfl
  ·unfold altC
   by_cases h2:i % 2=0
   ·rw[if_pos h2,if_neg (by omega)];decide
   ·rw[if_neg h2,if_pos (by omega)];decide
end Go.Stele
namespace Go.Stele
open Go.Lib
/-! ### Words and lines, character by character -/
def scanB:Wd→Wd→List Wd
 |cur,[]=>flush cur
 |cur,c::r=>if c=32 then flush cur++scanB [] r else scanB (cur++[c]) r
theorem not_mem_snoc {c d:UInt8} {cur:Wd} (h:c ∉ cur) (hd:d≠c):c ∉ cur++[d]:=fun hc=>by
 rcases List.mem_append.1 hc with hc|hc
 ·exact h hc
 ·exact hd (List.mem_singleton.1 hc).symm
theorem scanB_eq:∀ (s cur:Wd),(32:UInt8) ∉ cur→scanB cur s=full (pieces 32 (cur++s))
 |[],cur,h=>by rw[scanB,List.append_nil,pieces_one h,full_one]
 |c::r,cur,h=>by
  rw[scanB]
  split
  ·rename_i hc
   subst hc
   rw[scanB_eq r [] (by simp),pieces_cut h,List.nil_append,←List.singleton_append,full_app,full_one]
  ·rename_i hc
   rw[scanB_eq r (cur++[c]) (not_mem_snoc h hc),List.append_assoc]
   rfl
theorem scanB_words (s:Wd):scanB [] s=wordsL s:=scanB_eq s [] (by simp)
def scanD (c:UInt8):Wd→Wd→List Wd
 |cur,[]=>[]
 |cur,d::r=>if d=c then cur::scanD c [] r else scanD c (cur++[d]) r
theorem scanD_eq (c:UInt8):∀ (s cur:Wd),c ∉ cur→scanD c cur s=(pieces c (cur++s)).dropLast
 |[],cur,h=>by rw[scanD,List.append_nil,pieces_one h];rfl
 |d::r,cur,h=>by
  rw[scanD]
  split
  ·rename_i hc
   subst hc
   obtain ⟨p,ps,hp⟩:=pieces_ne d r
   rw[scanD_eq d r [] (by simp),pieces_cut h,List.nil_append,hp]
   rfl
  ·rename_i hc
   rw[scanD_eq c r (cur++[d]) (not_mem_snoc h hc),List.append_assoc]
   rfl
theorem scanD_row {s:Wd} (h:s.getLast? = some 124):scanD 124 [] s=pieces 124 s.dropLast:=by
 obtain ⟨t,rfl⟩:=List.getLast?_eq_some_iff.1 h
 rw[scanD_eq 124 _ [] (by simp),List.nil_append,pieces_end,List.dropLast_concat,List.dropLast_concat]
/-! ### Blanks at the ends -/
def trimR (s:Wd):Wd:=(trimL s.reverse).reverse
theorem trimSp_eq (s:Wd):trimSp s=trimR (trimL s):=rfl
theorem trimL_step (r:Wd):trimL (32::r)=trimL r:=by unfold trimL;rw[List.dropWhile_cons_of_pos (by rfl)]
theorem trimL_stop {s:Wd} (h:s.head? ≠ some 32):trimL s=s:=by
 cases s with
 |nil=>rfl
 |cons a r=>
  unfold trimL
  rw[List.dropWhile_cons_of_neg]
  intro ha
  exact h (by rw[of_decide_eq_true ha];rfl)
theorem trimR_step (r:Wd):trimR (r++[32])=trimR r:=by
 unfold trimR
 rw[List.reverse_append]
 show (trimL (32::r.reverse)).reverse=_
 rw[trimL_step]
theorem trimR_stop {s:Wd} (h:s.getLast? ≠ some 32):trimR s=s:=by
 unfold trimR
 rw[trimL_stop (by rw[List.head?_reverse];exact h),List.reverse_reverse]
/-! ### Numbers, digit by digit -/
def isDg (c:UInt8):Bool:=decide (48≤c.toNat) && decide (c.toNat≤57)
def pvR (a:Nat) (l:Wd):Nat:=l.foldl (fun a c=>10 * a+(c.toNat-48)) a
theorem pvR_append (a:Nat) (l m:Wd):pvR a (l++m)=pvR (pvR a l) m:=List.foldl_append ..
theorem pvR_snoc (l:Wd) (c:UInt8):pvR 0 (l++[c])=10 * pvR 0 l+(c.toNat-48):=by rw[pvR_append];rfl
theorem isDg_iff {c:UInt8}:isDg c=true ↔ 48≤c.toNat∧c.toNat≤57:=by
 unfold isDg
 rw[Bool.and_eq_true,decide_eq_true_eq,decide_eq_true_eq]
theorem dec_isDg (n:Nat):∀ c∈decDigits n,isDg c=true:=fun c hc=>isDg_iff.2 (dec_digit n c hc)
theorem byte_digit {c:UInt8} (h:48≤c.toNat∧c.toNat≤57):UInt8.ofNat (48+(c.toNat-48))=c:=by
 rw[show 48+(c.toNat-48)=c.toNat by omega]
 exact UInt8.ofNat_toNat
theorem dec_snoc {n d:Nat} (hn:1≤n) (hd:d<10):decDigits (10 * n+d)=decDigits n++[UInt8.ofNat (48+d)]:=by
 rw[decDigits,dif_neg (by omega)]
 congr 1
 ·congr 1;omega
 ·congr 3;omega
theorem dec_pv:∀ (k:Nat) (d:Wd),d.length=k+1→(∀ c∈d,isDg c=true)→d.head? ≠ some 48→1≤pvR 0 d∧decDigits (pvR 0 d)=d:=by
 intro k
 induction k with
 |zero=>
  intro d hl hd h0
  match d,hl with
  |[c],_=>
   have hc:=isDg_iff.1 (hd c (by simp))
   have h48:c.toNat≠48:=fun h=>h0 (by
    have:c=48:=UInt8.toNat.inj h
    rw[this];rfl)
   have:pvR 0 [c]=c.toNat-48:=by simp[pvR]
   rw[this]
   refine ⟨by omega,?_⟩
   rw[decDigits,dif_pos (by omega),byte_digit hc]
 |succ k ih=>
  intro d hl hd h0
  have hne:d≠[]:=by
   rintro rfl
   simp at hl
  have h1:=List.dropLast_concat_getLast hne
  obtain ⟨i1,i2⟩:=ih d.dropLast (by rw[List.length_dropLast];omega) (fun c hc=>hd c ((List.dropLast_sublist d).subset hc)) (by
   intro h
   refine h0 ?_
   cases d with
   |nil=>exact absurd rfl hne
   |cons a r=>
    cases r with
    |nil=>simp at hl
    |cons b r=>exact h)
  have hc:=isDg_iff.1 (hd (d.getLast hne) (List.getLast_mem hne))
  have h2:pvR 0 d=10 * pvR 0 d.dropLast+((d.getLast hne).toNat-48):=by
   conv=>lhs;rw[←h1]
   rw[pvR_snoc]
  rw[h2]
  refine ⟨by omega,?_⟩
  rw[dec_snoc i1 (by omega),i2,byte_digit hc,h1]
theorem pv_dec (u:Nat):pvR 0 (decDigits u)=u:=by
 induction u using Nat.strongRecOn with
 |ind u ih=>
  by_cases h:u<10
  ·rw[decDigits,dif_pos h]
   show 10 * 0+((UInt8.ofNat (48+u)).toNat-48)=u
   rw[digit_toNat h]
   omega
  ·rw[decDigits,dif_neg h,pvR_append,ih (u / 10) (by omega)]
   show 10 * (u / 10)+((UInt8.ofNat (48+u % 10)).toNat-48)=u
   rw[digit_toNat (by omega)]
   omega
theorem head_app {l m:Wd} (h:l≠[]):(l++m).head? = l.head? := by
 cases l with
 |nil=>exact absurd rfl h
 |cons a r=>rfl
theorem pv_lt:∀ (d:Wd),(∀ c∈d,isDg c=true)→pvR 0 d<10 ^ d.length:=by
 intro d
 induction h:d.length generalizing d with
 |zero=>
  intro _
  rw[List.length_eq_zero_iff.1 h]
  simp[pvR]
 |succ k ih=>
  intro hd
  have hne:d≠[]:=by
   rintro rfl
   simp at h
  have h1:=List.dropLast_concat_getLast hne
  have i1:=ih d.dropLast (by rw[List.length_dropLast];omega) fun c hc=>hd c ((List.dropLast_sublist d).subset hc)
  have hc:=isDg_iff.1 (hd (d.getLast hne) (List.getLast_mem hne))
  have h2:pvR 0 d=10 * pvR 0 d.dropLast+((d.getLast hne).toNat-48):=by
   conv=>lhs;rw[←h1]
   rw[pvR_snoc]
  rw[h2,Nat.pow_succ]
  omega
theorem dec_head {n:Nat} (h:1≤n):(decDigits n).head? ≠ some 48:=by
 induction n using Nat.strongRecOn with
 |_ n ih=>
  rw[decDigits]
  split
  ·intro h1
   have h2:UInt8.ofNat (48+n)=48:=by simpa using h1
   have h3:=congrArg UInt8.toNat h2
   rw[digit_toNat (by assumption)] at h3
   simp at h3
   omega
  ·rw[head_app (decDigits_ne _)]
   exact ih (n / 10) (by omega) (by omega)
def digM (m:Nat) (s:Wd):Wd:=(s.take m).takeWhile isDg
theorem digM_dec {m:Nat} {d r:Wd} {c:UInt8} (hd:∀ x∈d,isDg x=true) (hl:d.length≤m) (hc:isDg c=false):digM m (d++c::r)=d:=by
 unfold digM
 rw[List.take_append,List.take_of_length_le hl,List.takeWhile_append_of_pos hd]
 cases h:m-d.length with
 |zero=>simp
 |succ k=>rw[List.take_succ_cons,List.takeWhile_cons_of_neg (by rw[hc];decide),List.append_nil]
/-! ### The reference's picture -/
def picR (s:Wd):Option (Nat×Wd):=
 let d:=digM 4 s
 if d=[]∨s.head? = some 48∨200<pvR 0 d∨s.length≤d.length+1∨s[d.length]? ≠ some 32 then none
 else if (32:UInt8)∈s.drop (d.length+1) then none else some (pvR 0 d,s.drop (d.length+1))
theorem digM_spec (m:Nat) (s:Wd):(∀ c∈digM m s,isDg c=true)∧(digM m s).length≤m∧s.take (digM m s).length=digM m s:=by
 unfold digM
 refine ⟨fun c hc=>List.all_eq_true.1 (List.all_takeWhile ..) c hc,?_,?_⟩
 ·have h1:=(List.takeWhile_sublist (p:=isDg) (l:=s.take m)).length_le
  rw[List.length_take] at h1
  omega
 ·have h1:=List.takeWhile_prefix isDg (l:=s.take m)
  obtain ⟨t,ht⟩:=h1
  have h2:(s.take m).take ((s.take m).takeWhile isDg).length=(s.take m).takeWhile isDg:=by
   conv=>lhs;arg 2;rw[←ht]
   rw[List.take_left]
  rw[List.take_take] at h2
  have h3:=(List.takeWhile_sublist (p:=isDg) (l:=s.take m)).length_le
  rw[List.length_take] at h3
  rwa [Nat.min_eq_left (by omega)] at h2
theorem picP_iff (s:Wd) (n:Nat) (r:Wd):picP s=some (n,r) ↔ 1≤n∧n≤200∧r≠[]∧(32:UInt8) ∉ r∧s=decDigits n++32::r:=by
 constructor
 ·intro h
  obtain ⟨h1,h2,h3,h4⟩:=picP_good h
  rw[itoa_nat] at h4
  refine ⟨h1,h2,h3,?_,h4⟩
  unfold picP at h
  split at h
  ·cases h
  ·split at h
   ·cases h
   ·rename_i hr
    split at h
    ·cases h
     exact fun h5=>hr (.inr h5)
    ·cases h
 ·rintro ⟨h1,h2,h3,h4,rfl⟩
  have hdig:∀ c∈decDigits n,decide (c≠(32:UInt8))=true:=fun c hc=>by
   have:=dec_digit n c hc
   rw[decide_eq_true_eq]
   rintro rfl
   simp at this
  have e1:(decDigits n++32::r).dropWhile (fun c=>decide (c≠(32:UInt8)))=32::r:=by
   rw[List.dropWhile_append_of_pos hdig,List.dropWhile_cons_of_neg (by simp)]
  have e2:(decDigits n++32::r).takeWhile (fun c=>decide (c≠(32:UInt8)))=decDigits n:=by
   rw[List.takeWhile_append_of_pos hdig,List.takeWhile_cons_of_neg (by simp),List.append_nil]
  unfold picP
  rw[e1]
  simp only
  rw[if_neg (fun h=>h.elim h3 h4),e2,(posW_iff (by omega) _ n).2 ⟨h1,h2,rfl⟩]
theorem picR_eq (s:Wd):picR s=picP s:=by
 have key:∀ n r,picR s=some (n,r) ↔ picP s=some (n,r):=fun n r=>by
  rw[picP_iff]
  constructor
  ·intro h
   unfold picR at h
   simp only at h
   obtain ⟨k1,k2,k3⟩:=digM_spec 4 s
   generalize digM 4 s=d at *
   split at h
   ·cases h
   ·rename_i h1
    split at h
    ·cases h
    ·rename_i h2
     cases h
     simp only[not_or,Decidable.not_not] at h1
     obtain ⟨h3,h4,h5,h6,h7⟩:=h1
     have hpos:=List.length_pos_iff.2 h3
     obtain ⟨p1,p2⟩:=dec_pv (d.length-1) d (by omega) k1 (by
      intro h8
      refine h4 ?_
      rw[←k3] at h8
      cases s with
      |nil=>simp at h8
      |cons a t=>
       cases hd:d.length with
       |zero=>omega
       |succ k=>rw[hd] at h8;exact h8)
     refine ⟨p1,by omega,?_,h2,?_⟩
     ·intro h8
      have:=congrArg List.length h8
      rw[List.length_drop,List.length_nil] at this
      omega
     ·rw[p2]
      obtain ⟨hlt,hg⟩:=List.getElem?_eq_some_iff.1 h7
      have h9:=List.drop_eq_getElem_cons hlt
      rw[hg] at h9
      rw[←h9]
      conv=>rhs;lhs;rw[←k3]
      rw[List.take_append_drop]
  ·rintro ⟨h1,h2,h3,h4,rfl⟩
   have hd:digM 4 (decDigits n++32::r)=decDigits n:=digM_dec (dec_isDg n) (by have:=dec3 h2;omega) (by decide)
   have hr:(decDigits n++32::r).drop ((decDigits n).length+1)=r:=by
    rw[←List.drop_drop,List.drop_left]
    rfl
   unfold picR
   simp only[hd,hr]
   rw[pv_dec,if_neg,if_neg h4]
   rintro (h|h|h|h|h)
   ·exact decDigits_ne n h
   ·rw[head_app (decDigits_ne n)] at h
    exact dec_head h1 h
   ·omega
   ·have:=List.length_pos_iff.2 h3
    simp only[List.length_append,List.length_cons] at h
    omega
   ·rw[List.getElem?_append_right (Nat.le_refl _)] at h
    simp at h
 cases h:picP s with
 |none=>
  cases h2:picR s with
  |none=>rfl
  |some p=>
   obtain ⟨n,r⟩:=p
   rw[(key n r).1 h2] at h
   cases h
 |some p=>
  obtain ⟨n,r⟩:=p
  exact (key n r).2 h
/-! ### Runs, one by one -/
theorem runs_step {last:UInt8} {s:Wd} {f:Nat} (hne:s≠[]) (hf:s.length≤f+1) {l:List (Nat×UInt8)}:runsP (f+1) last s=some l ↔
  ∃ n c r l',s=decDigits n++c::r∧1≤n∧n≤99999∧(c=46∨c=35)∧c≠last∧runsP f c r=some l'∧l=(n,c)::l':=by
 constructor
 ·intro h
  rw[runsP,if_neg hne] at h
  split at h
  ·cases h
  ·rename_i c r hd
   split at h
   ·cases h
   ·rename_i n hn
    split at h
    ·cases h
    ·rename_i hc
     split at h
     ·rename_i l' hl
      cases h
      obtain ⟨h1,h2,h3⟩:=(posW_iff (Nat.le_refl _) _ n).1 hn
      have h4:c=46∨c=35:=by
       have:=List.head?_dropWhile_not (fun c=>decide (c≠(46:UInt8)∧c≠35)) s
       rw[hd] at this
       simp only[List.head?_cons,decide_eq_false_iff_not] at this
       by_cases h46:c=46
       ·exact .inl h46
       ·exact .inr (Classical.not_not.1 fun h35=>this ⟨h46,h35⟩)
      have h5:=List.takeWhile_append_dropWhile (p:=fun c=>decide (c≠(46:UInt8)∧c≠35)) (l:=s)
      rw[hd,←h3] at h5
      exact ⟨n,c,r,l',h5.symm,h1,h2,h4,hc,hl,rfl⟩
     ·cases h
 ·rintro ⟨n,c,r,l',rfl,h1,h2,h3,h4,h5,rfl⟩
  obtain ⟨k1,k2⟩:=runs_dec (k:=n) h3 r
  have e1:(decDigits n++c::r).dropWhile (fun c=>decide (c≠46∧c≠35))=c::r:=k1
  have e2:(decDigits n++c::r).takeWhile (fun c=>decide (c≠46∧c≠35))=decDigits n:=k2
  rw[runsP,if_neg hne,e1]
  simp only
  rw[e2,(posW_iff (Nat.le_refl _) _ n).2 ⟨h1,h2,rfl⟩]
  simp only
  rw[if_neg h4,h5]
theorem runs_fuel:∀ (f g:Nat) (last:UInt8) (s:Wd),s.length≤f→s.length≤g→runsP f last s=runsP g last s:=by
 have key:∀ (f g:Nat) (last:UInt8) (s:Wd) (l:List (Nat×UInt8)),s.length≤f→s.length≤g→runsP f last s=some l→runsP g last s=some l:=by
  intro f
  induction f with
  |zero=>
   intro g last s l h1 h2 h
   have:s=[]:=List.length_eq_zero_iff.1 (by omega)
   subst this
   cases g with
   |zero=>exact h
   |succ g=>
    rw[runsP,if_pos rfl] at h
    rw[runsP,if_pos rfl]
    exact h
  |succ f ih=>
   intro g last s l h1 h2 h
   by_cases hs:s=[]
   ·subst hs
    rw[runsP,if_pos rfl] at h
    cases g with
    |zero=>rw[runsP,if_pos rfl];exact h
    |succ g=>rw[runsP,if_pos rfl];exact h
   ·obtain ⟨n,c,r,l',k1,k2,k3,k4,k5,k6,k7⟩:=(runs_step hs h1).1 h
    have hl:=congrArg List.length k1
    simp only[List.length_append,List.length_cons] at hl
    cases g with
    |zero=>omega
    |succ g=>exact (runs_step hs h2).2 ⟨n,c,r,l',k1,k2,k3,k4,k5,ih g c r l' (by omega) (by omega) k6,k7⟩
 intro f g last s h1 h2
 cases h:runsP f last s with
 |some l=>exact (key f g last s l h1 h2 h).symm
 |none=>
  cases h3:runsP g last s with
  |none=>rfl
  |some l=>rw[key g f last s l h2 h1 h3] at h;cases h
def runsQ (last:UInt8) (s:Wd):Option (List (Nat×UInt8)):=runsP s.length last s
theorem runsQ_nil (last:UInt8):runsQ last []=some []:=rfl
theorem runsQ_iff {last:UInt8} {s:Wd} (hne:s≠[]) {l:List (Nat×UInt8)}:runsQ last s=some l ↔
  ∃ n c r l',s=decDigits n++c::r∧1≤n∧n≤99999∧(c=46∨c=35)∧c≠last∧runsQ c r=some l'∧l=(n,c)::l':=by
 unfold runsQ
 have hpos:=List.length_pos_iff.2 hne
 obtain ⟨f,hf⟩:∃ f,s.length=f+1:=⟨s.length-1,by omega⟩
 rw[hf,runs_step hne (by omega)]
 constructor
 ·rintro ⟨n,c,r,l',k1,k2,k3,k4,k5,k6,k7⟩
  have hl:=congrArg List.length k1
  simp only[List.length_append,List.length_cons] at hl
  exact ⟨n,c,r,l',k1,k2,k3,k4,k5,by rw[runs_fuel r.length f c r (Nat.le_refl _) (by omega)];exact k6,k7⟩
 ·rintro ⟨n,c,r,l',k1,k2,k3,k4,k5,k6,k7⟩
  have hl:=congrArg List.length k1
  simp only[List.length_append,List.length_cons] at hl
  exact ⟨n,c,r,l',k1,k2,k3,k4,k5,by rw[runs_fuel f r.length c r (by omega) (Nat.le_refl _)];exact k6,k7⟩
theorem rowsOf_uniq {w:Nat}:∀ (rows:List Wd),(∀ r∈rows,r.length=w)→rows=rowsOf w rows.length rows.flatten
 |[],_=>rfl
 |a::rows,h=>by
  have ha:=h a (by simp)
  have ih:=rowsOf_uniq rows fun r hr=>h r (List.mem_cons_of_mem _ hr)
  rw[List.flatten_cons,List.length_cons,rowsOf,List.take_left' ha,List.drop_left' ha,←ih]
end Go.Stele
namespace Go.Proofs.YtocofhbdbgnmbaaGreatDoor
open Go.GL Go.RowKit Go.Stele
set_option maxRecDepth 100000
set_option maxHeartbeats 4000000
noncomputable abbrev KC (B0:Nat) (w0:World):Ctx:=⟨Tryz.prog,B0,w0⟩
theorem map_get {A:Type} (f:A→LV) (l:List A) (i:Nat) (h:i<l.length):(l.map f)[((i:Nat):Int).toNat]? = some (f l[i]):=by
 rw[Int.toNat_natCast,List.getElem?_map,List.getElem?_eq_getElem h]
 rfl
theorem wrapU32 {n:Int} (h:0≤n∧n≤4294967295):IntKind.u32.wrap n=n:=by
 simp only[IntKind.wrap,IntKind.bits,IntKind.signed,Bool.false_and]
 simp
 omega
theorem byte_int (c:UInt8) (k:Nat) (h:k<256):((c.toNat:Int)=(k:Int)) ↔ c=UInt8.ofNat k:=by
 constructor
 ·intro h1
  have h2:c.toNat=k:=by omega
  rw[←h2]
  exact UInt8.ofNat_toNat.symm
 ·intro h1
  subst h1
  rw[UInt8.toNat_ofNat']
  omega
theorem byte_t {c:UInt8} {k:Int} (h:decide ((c.toNat:Int)=k)=true):c=UInt8.ofNat k.toNat:=by
 have h1:=zt h
 rw[←h1,Int.toNat_natCast]
 exact UInt8.ofNat_toNat.symm
theorem byte_f {c:UInt8} {k:Int} (h:decide ((c.toNat:Int)=k)=false) (hk:0≤k∧k<256):c≠UInt8.ofNat k.toNat:=by
 have h1:=zf h
 intro h2
 refine h1 ?_
 rw[h2,UInt8.toNat_ofNat']
 omega
theorem get_some {l:List UInt8} {i:Nat} (h:i<l.length):l[((i:Nat):Int).toNat]? = some l[i]:=by
 rw[Int.toNat_natCast]
 exact List.getElem?_eq_getElem h
theorem drop_cons {l:List UInt8} {i:Nat} (h:i<l.length):l.drop i=l[i]::l.drop (i+1):=List.drop_eq_getElem_cons h
end Go.Proofs.YtocofhbdbgnmbaaGreatDoor
namespace Go.Stele
open Go.Lib
theorem trimR_cons (c:UInt8) (r:Wd):trimR (c::r)=if trimR r=[] then (if c=32 then [] else [c]) else c::trimR r:=by
 unfold trimR trimL
 rw[List.reverse_cons,List.dropWhile_append]
 by_cases h:r.reverse.dropWhile (fun c=>decide (c=32))=[]
 ·rw[h]
  simp only[List.isEmpty_nil,if_true,List.reverse_nil]
  by_cases hc:c=32
  ·rw[if_pos hc,List.dropWhile_cons_of_pos (by simpa using hc)]
   rfl
  ·rw[if_neg hc,List.dropWhile_cons_of_neg (by simpa using hc)]
   rfl
 ·rw[if_neg (by simpa using h),if_neg (by simpa using h),List.reverse_append]
  rfl
theorem trim_swap:∀ s:Wd,trimL (trimR s)=trimR (trimL s)
 |[]=>rfl
 |c::r=>by
  have ih:=trim_swap r
  rw[trimR_cons]
  by_cases hc:c=32
  ·subst hc
   rw[trimL_step,if_pos rfl]
   split
   ·rename_i h
    rw[h] at ih
    exact ih
   ·rw[trimL_step];exact ih
  ·have h1:trimL (c::r)=c::r:=trimL_stop (by simpa using hc)
   rw[h1,trimR_cons,if_neg hc]
   split
   ·exact trimL_stop (by simpa using hc)
   ·exact trimL_stop (by simpa using hc)
theorem trimB_sp (s:Wd):trimB s 32=trimSp s:=by
 have h1:∀ l:Wd,l.dropWhile (· == 32)=trimL l:=fun l=>by
  unfold trimL
  congr 1
 rw[trimSp_eq,←trim_swap]
 unfold trimB trimLeftB trimRightB
 rw[h1,h1]
 rfl
theorem indexByte_mem (c:UInt8):∀ s:Wd,decide (0≤indexByte s c)=decide (c∈s):=by
 have h:∀ s:Wd,(-1≤indexByte s c)∧(0≤indexByte s c ↔ c∈s):=by
  intro s
  induction s with
  |nil=>simp[indexByte]
  |cons b l ih=>
   obtain ⟨h1,h2⟩:=ih
   rw[indexByte]
   by_cases hb:b=c
   ·subst hb
    simp
   ·have hb':(b == c)=false:=by simpa using hb
    rw[hb']
    simp only[Bool.false_eq_true,if_false,List.mem_cons]
    have hb2:¬ c=b:=fun h=>hb h.symm
    by_cases hi:indexByte l c = -1
    ·rw[hi]
     rw[hi] at h2
     have:¬ c∈l:=fun h=>by have:=h2.2 h;omega
     simp[this,hb2]
    ·have hi':(indexByte l c == -1)=false:=by simpa using hi
     rw[hi']
     simp only[Bool.false_eq_true,if_false,hb2,false_or]
     constructor
     ·omega
     ·constructor
      ·intro _;exact h2.1 (by omega)
      ·intro h;have:=h2.2 h;omega
 exact fun s=>decide_eq_decide.2 (h s).2
theorem cut_two (c:UInt8) (s:Wd):(cut s [c]).2.1=(s.dropWhile fun d=>decide (d≠c)).drop 1∧(cut s [c]).2.2=decide (c∈s):=by
 by_cases h:c∈s
 ·obtain ⟨a,b,rfl,ha⟩:=first_cut h
  have h1:∀ x∈a,decide (x≠c)=true:=fun x hx=>by
   simp only[decide_eq_true_eq]
   rintro rfl
   exact ha hx
  rw[cut,index_hit ha,if_pos (by omega),List.dropWhile_append_of_pos h1,List.dropWhile_cons_of_neg (by simp)]
  constructor
  ·simp only[Int.toNat_natCast,List.length_cons,List.length_nil,List.drop_succ_cons,List.drop_zero]
   rw[←List.drop_drop,List.drop_left]
   rfl
  ·simp
 ·have h1:∀ x∈s,decide (x≠c)=true:=fun x hx=>by
   simp only[decide_eq_true_eq]
   rintro rfl
   exact h hx
  rw[cut,index_miss h,if_neg (by decide)]
  constructor
  ·have:=List.dropWhile_append_of_pos (l₂:=[]) h1
   rw[List.append_nil] at this
   rw[this]
   rfl
  ·simp[h]
theorem isRun_not (c:UInt8):([46,35]:Wd).contains c=!isRun c:=by
 unfold isRun
 rw[Bool.eq_iff_iff]
 simp only[List.contains_cons,List.contains_nil,Bool.or_false,Bool.or_eq_true,beq_iff_eq,Bool.not_eq_true',decide_eq_false_iff_not,ne_eq,not_and,Decidable.not_not]
 by_cases h:c=46 <;> simp[h]
theorem indexAny_run:∀ s:Wd,indexAny s [46,35]=if s.dropWhile isRun=[] then -1 else ((s.takeWhile isRun).length:Int)
 |[]=>rfl
 |c::r=>by
  have ih:=indexAny_run r
  rw[indexAny,isRun_not]
  cases hc:isRun c with
  |true=>
   simp only[Bool.not_true,Bool.false_eq_true,if_false]
   rw[ih,List.dropWhile_cons_of_pos (by rw[hc]),List.takeWhile_cons_of_pos (by rw[hc])]
   by_cases hd:r.dropWhile isRun=[]
   ·simp[hd]
   ·rw[if_neg hd,if_neg hd]
    have:¬ (((r.takeWhile isRun).length:Int) == -1)=true:=by
     intro h
     have:=eq_of_beq h
     omega
    rw[if_neg this]
    simp
  |false=>
   simp only[Bool.not_false,if_true]
   rw[List.dropWhile_cons_of_neg (by rw[hc];decide),List.takeWhile_cons_of_neg (by rw[hc];decide)]
   simp
theorem prefix_two (a b:UInt8) (s:Wd):hasPrefix s [a,b]=decide (s.take 2=[a,b]):=by
 rw[Bool.eq_iff_iff,decide_eq_true_iff]
 unfold hasPrefix
 match s with
 |[]=>simp[List.isPrefixOf]
 |[x]=>simp[List.isPrefixOf]
 |x::y::r=>
  simp only[List.isPrefixOf,List.take_succ_cons,List.take_zero,Bool.and_eq_true,beq_iff_eq,List.cons.injEq,and_true]
  constructor
  ·rintro ⟨rfl,rfl⟩;exact ⟨rfl,rfl⟩
  ·rintro ⟨rfl,rfl⟩;exact ⟨rfl,rfl⟩
theorem repeat_one (c:UInt8) (n:Nat):repeatL [c] n=List.replicate n c:=by
 have:=repeatL_replicate c 1 n
 rw[Nat.mul_one] at this
 exact this
theorem suffix_nl (s:Wd):hasSuffix (s++[10]) [10]=true∧trimSuffix (s++[10]) [10]=s:=by
 have h:hasSuffix (s++[10]) [10]=true:=by
  unfold hasSuffix
  rw[List.isSuffixOf_iff_suffix]
  exact List.suffix_append _ _
 refine ⟨h,?_⟩
 unfold trimSuffix
 rw[if_pos h]
 simp
theorem replaceK_nil (c:UInt8):∀ (k:Nat) (s:Wd),s.count c≤k→replaceK [c] [] k s=s.filter fun d=>decide (d≠c)
 |0,s,h=>by
  have hc:c ∉ s:=List.count_eq_zero.1 (by omega)
  rw[replaceK,List.filter_eq_self.2]
  intro d hd
  simp only[decide_eq_true_eq]
  rintro rfl
  exact hc hd
 |k+1,s,h=>by
  rw[replaceK]
  by_cases hc:c∈s
  ·obtain ⟨a,b,rfl,ha⟩:=first_cut hc
   rw[index_hit ha,if_neg (by
    intro h
    have:=eq_of_beq h
    omega)]
   have h1:a.filter (fun d=>decide (d≠c))=a:=List.filter_eq_self.2 fun d hd=>by
    simp only[decide_eq_true_eq]
    rintro rfl
    exact ha hd
   have hd:(a++c::b).drop ((a.length:Int).toNat+[c].length)=b:=by
    rw[show (a.length:Int).toNat+[c].length=a.length+1 by simp]
    rw[←List.drop_drop,List.drop_left]
    rfl
   rw[hd,replaceK_nil c k b (by
    rw[List.count_append,List.count_cons_self] at h
    omega),List.filter_append,h1,List.filter_cons]
   simp
  ·rw[index_miss hc,if_pos (by decide),List.filter_eq_self.2]
   intro d hd
   simp only[decide_eq_true_eq]
   rintro rfl
   exact hc hd
theorem replace_nil (c:UInt8) (s:Wd):replaceAll s [c] []=s.filter fun d=>decide (d≠c):=by
 unfold replaceAll replace replaceNum
 rw[if_neg (by simp),if_pos (.inl (by decide))]
 exact replaceK_nil c _ s (by rw[count,countFrom_one c _ s (by omega)];exact Nat.le_refl _)
theorem join_flat:∀ l:List Wd,join l []=l.flatten
 |[]=>rfl
 |[a]=>by rw[join_one];simp
 |a::b::r=>by
  have:=join_flat (b::r)
  rw[join_cons,joinTail] at this
  rw[join_cons,joinTail,List.map_cons,List.flatten_cons,List.flatten_cons,List.nil_append,this]
theorem filter_eq' (s:Wd):(s.filter fun d=>decide (d≠10)).filter (fun d=>decide (d≠32))=dark (s.filter fun c=>decide (c≠10)):=rfl
end Go.Stele
namespace Go.Proofs
open Go.Shelf
def Tryz.lays156_ren:Go.Shelf.Ren:=⟨fun|156=>17|165=>31|166=>11|169=>15|240=>27|241=>60|276=>55|277=>87|n=>n,fun|31=>40|9=>9|3=>3|4=>4|0=>0|20=>20|72=>30|76=>33|70=>28|37=>27|75=>32|127=>69|164=>88|5=>5|80=>39|n=>n,fun|n=>n⟩
theorem Tryz.lays156:Go.Proofs.Lays.n156 Tryz.prog Tryz.lays156_ren:={
 mixed:=by kernel_rfl
 f156:=Tryz.func17.trans (congrArg some (by kernel_rfl))
 f165:=Tryz.func31.trans (congrArg some (by kernel_rfl))
 f166:=Tryz.func11.trans (congrArg some (by kernel_rfl))
 f169:=Tryz.func15.trans (congrArg some (by kernel_rfl))
 f240:=Tryz.func27.trans (congrArg some (by kernel_rfl))
 f241:=Tryz.func60.trans (congrArg some (by kernel_rfl))
 f276:=Tryz.func55.trans (congrArg some (by kernel_rfl))
 f277:=Tryz.func87.trans (congrArg some (by kernel_rfl))
 t0:=Tryz.underlying0
 a0:=Tryz.isAgg0
 z0:=Tryz.sizeOf0
 v0:=Tryz.zeroValue0
 t3:=Tryz.underlying3
 a3:=Tryz.isAgg3
 z3:=Tryz.sizeOf3
 v3:=Tryz.zeroValue3
 t4:=Tryz.underlying4
 a4:=Tryz.isAgg4
 z4:=Tryz.sizeOf4
 v4:=Tryz.zeroValue4
 t9:=Tryz.underlying9
 a9:=Tryz.isAgg9
 z9:=Tryz.sizeOf9
 v9:=Tryz.zeroValue9
 t20:=Tryz.underlying20
 a20:=Tryz.isAgg20
 z20:=Tryz.sizeOf20
 v20:=Tryz.zeroValue20
 t31:=Tryz.underlying40
 a31:=Tryz.isAgg40
 z31:=Tryz.sizeOf40
 v31:=Tryz.zeroValue40
 t37:=Tryz.underlying27
 a37:=Tryz.isAgg27
 z37:=Tryz.sizeOf27
 v37:=Tryz.zeroValue27
 t70:=Tryz.underlying28
 a70:=Tryz.isAgg28
 z70:=Tryz.sizeOf28
 v70:=Tryz.zeroValue28
 t72:=Tryz.underlying30
 a72:=Tryz.isAgg30
 z72:=Tryz.sizeOf30
 v72:=Tryz.zeroValue30
 t75:=Tryz.underlying32
 a75:=Tryz.isAgg32
 z75:=Tryz.sizeOf32
 v75:=Tryz.zeroValue32
 t76:=Tryz.underlying33
 a76:=Tryz.isAgg33
 z76:=Tryz.sizeOf33
 v76:=Tryz.zeroValue33
 t127:=Tryz.underlying69
 a127:=Tryz.isAgg69
 z127:=Tryz.sizeOf69
 v127:=Tryz.zeroValue69
 t164:=Tryz.underlying88
 a164:=Tryz.isAgg88
 z164:=Tryz.sizeOf88
 v164:=Tryz.zeroValue88 }
theorem Tryz.Builder_Extra_156:Builder.Extra Tryz.prog Tryz.lays156_ren:={
 sizeBuilder:=by kernel_rfl
 liesBuilder:=by kernel_rfl
 t5:=Tryz.underlying5
 a5:=Tryz.isAgg5
 z5:=Tryz.sizeOf5
 v5:=Tryz.zeroValue5
 infoByte:=by kernel_rfl
 cellsByte:=by kernel_rfl
 sizeByte:=by kernel_rfl
 neB5:=by decide }
open Go.RowKit in
theorem Tryz.strings_Join_none (a:Option Addr) (c:Nat) (sep:ByteArray) (w:World) :
  Calls Tryz.prog 17 #[.slice a 0 c,.string sep] w fun e w'=>e=.returned (.string ⟨#[]⟩)∧w'=w:=Any.strings_Join_none Tryz.lays156 Tryz.Builder_Extra_156 a c sep w
open Go.RowKit in
theorem Tryz.strings_Join (bk o c:Nat) (xs:List ByteArray) (sep:ByteArray) (w:World) (hcells:∀ (j:Nat) x,xs[j]? = some x→w.cell? ⟨bk,o+j,none⟩=some (.string x)) (hbk:bk<w.heap.size) (hN:xs.length≤140737488355328) (hcap:xs.length≤c) (hlen:(Lib.join (xs.map (·.data.toList)) sep.data.toList).length≤140737488355328) :
  Calls Tryz.prog 17 #[.slice (some ⟨bk,o,none⟩) xs.length c,.string sep] w fun e w'=>e=.returned (.string ⟨(Lib.join (xs.map (·.data.toList)) sep.data.toList).toArray⟩)∧Below w.heap.size w w':=Any.strings_Join Tryz.lays156 Tryz.Builder_Extra_156 bk o c xs sep w hcells hbk hN hcap hlen
def Tryz.lays160_ren:Go.Shelf.Ren:=⟨fun|160=>93|232=>116|231=>115|227=>117|234=>119|233=>118|236=>121|235=>120|228=>129|271=>135|151=>134|197=>70|120=>143|152=>127|260=>98|137=>141|119=>142|224=>112|225=>111|217=>110|266=>132|n=>n,fun|9=>9|4=>4|3=>3|5=>5|117=>141|116=>140|0=>0|124=>144|21=>21|105=>102|46=>65|119=>147|139=>150|138=>149|n=>n,fun|3=>2|4=>3|n=>n⟩
theorem Tryz.lays160:Go.Proofs.Lays.n160 Tryz.prog Tryz.lays160_ren:={
 mixed:=by kernel_rfl
 f119:=Tryz.func142.trans (congrArg some (by kernel_rfl))
 f120:=Tryz.func143.trans (congrArg some (by kernel_rfl))
 f137:=Tryz.func141.trans (congrArg some (by kernel_rfl))
 f151:=Tryz.func134.trans (congrArg some (by kernel_rfl))
 f152:=Tryz.func127.trans (congrArg some (by kernel_rfl))
 f160:=Tryz.func93.trans (congrArg some (by kernel_rfl))
 f197:=Tryz.func70.trans (congrArg some (by kernel_rfl))
 f217:=Tryz.func110.trans (congrArg some (by kernel_rfl))
 f224:=Tryz.func112.trans (congrArg some (by kernel_rfl))
 f225:=Tryz.func111.trans (congrArg some (by kernel_rfl))
 f227:=Tryz.func117.trans (congrArg some (by kernel_rfl))
 f228:=Tryz.func129.trans (congrArg some (by kernel_rfl))
 f231:=Tryz.func115.trans (congrArg some (by kernel_rfl))
 f232:=Tryz.func116.trans (congrArg some (by kernel_rfl))
 f233:=Tryz.func118.trans (congrArg some (by kernel_rfl))
 f234:=Tryz.func119.trans (congrArg some (by kernel_rfl))
 f235:=Tryz.func120.trans (congrArg some (by kernel_rfl))
 f236:=Tryz.func121.trans (congrArg some (by kernel_rfl))
 f260:=Tryz.func98.trans (congrArg some (by kernel_rfl))
 f266:=Tryz.func132.trans (congrArg some (by kernel_rfl))
 f271:=Tryz.func135.trans (congrArg some (by kernel_rfl))
 t0:=Tryz.underlying0
 a0:=Tryz.isAgg0
 z0:=Tryz.sizeOf0
 v0:=Tryz.zeroValue0
 t3:=Tryz.underlying3
 a3:=Tryz.isAgg3
 z3:=Tryz.sizeOf3
 v3:=Tryz.zeroValue3
 t4:=Tryz.underlying4
 a4:=Tryz.isAgg4
 z4:=Tryz.sizeOf4
 v4:=Tryz.zeroValue4
 t5:=Tryz.underlying5
 a5:=Tryz.isAgg5
 z5:=Tryz.sizeOf5
 v5:=Tryz.zeroValue5
 t9:=Tryz.underlying9
 a9:=Tryz.isAgg9
 z9:=Tryz.sizeOf9
 v9:=Tryz.zeroValue9
 t21:=Tryz.underlying21
 a21:=Tryz.isAgg21
 z21:=Tryz.sizeOf21
 v21:=Tryz.zeroValue21
 t46:=Tryz.underlying65
 a46:=Tryz.isAgg65
 z46:=Tryz.sizeOf65
 v46:=Tryz.zeroValue65
 t105:=Tryz.underlying102
 a105:=Tryz.isAgg102
 z105:=Tryz.sizeOf102
 v105:=Tryz.zeroValue102
 t116:=Tryz.underlying140
 a116:=Tryz.isAgg140
 z116:=Tryz.sizeOf140
 t117:=Tryz.underlying141
 a117:=Tryz.isAgg141
 z117:=Tryz.sizeOf141
 v117:=Tryz.zeroValue141
 t119:=Tryz.underlying147
 a119:=Tryz.isAgg147
 z119:=Tryz.sizeOf147
 t124:=Tryz.underlying144
 a124:=Tryz.isAgg144
 z124:=Tryz.sizeOf144
 v124:=Tryz.zeroValue144
 t138:=Tryz.underlying149
 a138:=Tryz.isAgg149
 z138:=Tryz.sizeOf149
 v138:=Tryz.zeroValue149
 t139:=Tryz.underlying150
 a139:=Tryz.isAgg150
 z139:=Tryz.sizeOf150
 v139:=Tryz.zeroValue150
 g3:=by kernel_rfl
 g4:=by kernel_rfl }
open Go.RowKit in
theorem Tryz.strings_Trim_one (s:ByteArray) (c:UInt8) (hc:c.toNat<128) (w:World) (hs:s.size≤9223372036854775807) :
  Calls Tryz.prog 93 #[.string s,.string ⟨#[c]⟩] w fun e w'=>e=.returned (.string ⟨(Lib.trimB s.data.toList c).toArray⟩)∧(w'=w∨w'=w.drew):=Any.strings_Trim_one Tryz.lays160 s c hc w hs
def Tryz.lays283_ren:Go.Shelf.Ren:=⟨fun|283=>83|n=>n,fun|3=>3|9=>9|4=>4|n=>n,fun|n=>n⟩
theorem Tryz.lays283:Go.Proofs.Lays.n283 Tryz.prog Tryz.lays283_ren:={
 mixed:=by kernel_rfl
 f283:=Tryz.func83.trans (congrArg some (by kernel_rfl))
 t3:=Tryz.underlying3
 a3:=Tryz.isAgg3
 z3:=Tryz.sizeOf3
 v3:=Tryz.zeroValue3
 t4:=Tryz.underlying4
 a4:=Tryz.isAgg4
 z4:=Tryz.sizeOf4
 v4:=Tryz.zeroValue4
 t9:=Tryz.underlying9
 a9:=Tryz.isAgg9
 z9:=Tryz.sizeOf9
 v9:=Tryz.zeroValue9 }
open Go.Lib in
theorem Tryz.internal_strconv_small (i:Nat) (h:i<100) (w:World) :
  Calls Tryz.prog 83 #[.int .i64 i] w fun e w'=>e=.returned (.string ⟨(Lib.decDigits i).toArray⟩)∧w'=w:=Any.internal_strconv_small Tryz.lays283 i h w
def Tryz.laysM284_ren:Go.Shelf.Ren:=⟨fun|284=>84|129=>106|317=>105|318=>107|n=>n,fun|53=>64|3=>3|212=>133|0=>0|4=>4|46=>65|5=>5|9=>9|n=>n,fun|17=>0|n=>n⟩
theorem Tryz.laysM284:Go.Proofs.LaysM.n284 Tryz.prog Tryz.laysM284_ren:={
 mixed:=by kernel_rfl
 f129:=Tryz.func106.trans (congrArg some (by kernel_rfl))
 f284:=Tryz.func84.trans (congrArg some (by kernel_rfl))
 f317:=Tryz.func105.trans (congrArg some (by kernel_rfl))
 f318:=Tryz.func107.trans (congrArg some (by kernel_rfl))
 t0:=Tryz.underlying0
 a0:=Tryz.isAgg0
 z0:=Tryz.sizeOf0
 v0:=Tryz.zeroValue0
 t3:=Tryz.underlying3
 a3:=Tryz.isAgg3
 z3:=Tryz.sizeOf3
 v3:=Tryz.zeroValue3
 t4:=Tryz.underlying4
 a4:=Tryz.isAgg4
 z4:=Tryz.sizeOf4
 v4:=Tryz.zeroValue4
 t5:=Tryz.underlying5
 a5:=Tryz.isAgg5
 z5:=Tryz.sizeOf5
 v5:=Tryz.zeroValue5
 t9:=Tryz.underlying9
 a9:=Tryz.isAgg9
 z9:=Tryz.sizeOf9
 v9:=Tryz.zeroValue9
 t46:=Tryz.underlying65
 a46:=Tryz.isAgg65
 z46:=Tryz.sizeOf65
 v46:=Tryz.zeroValue65
 t53:=Tryz.underlying64
 a53:=Tryz.isAgg64
 z53:=Tryz.sizeOf64
 v53:=Tryz.zeroValue64
 t212:=Tryz.underlying133
 a212:=Tryz.isAgg133
 z212:=Tryz.sizeOf133
 v212:=Tryz.zeroValue133
 g17:=by kernel_rfl
 i0:=by kernel_rfl
 i3:=by kernel_rfl
 i4:=by kernel_rfl
 i5:=by kernel_rfl
 i9:=by kernel_rfl
 i46:=by kernel_rfl
 i53:=by kernel_rfl
 i212:=by kernel_rfl
 m17:=by kernel_rfl }
open Go.Lib in
theorem Tryz.internal_strconv_numDigits (u : Nat) (h1 : 1 ≤ u) (h2 : u < 18446744073709551616) (w : World) (htab : Lib.TabIs Tryz.prog w "internal/strconv.uint64pow10" .u64 Lib.pow10Tab) :
  Calls Tryz.prog 84 #[.int .u64 u] w fun e w'=>e=.returned (.int .i64 (Lib.nDigits u))∧w'=w:=Any.internal_strconv_numDigits Tryz.laysM284 u h1 h2 w htab
def Tryz.lays285_ren:Go.Shelf.Ren:=⟨fun|285=>85|n=>n,fun|37=>27|53=>64|3=>3|4=>4|51=>36|9=>9|5=>5|0=>0|n=>n,fun|n=>n⟩
theorem Tryz.lays285:Go.Proofs.Lays.n285 Tryz.prog Tryz.lays285_ren:={
 mixed:=by kernel_rfl
 f285:=Tryz.func85.trans (congrArg some (by kernel_rfl))
 t0:=Tryz.underlying0
 a0:=Tryz.isAgg0
 z0:=Tryz.sizeOf0
 v0:=Tryz.zeroValue0
 t3:=Tryz.underlying3
 a3:=Tryz.isAgg3
 z3:=Tryz.sizeOf3
 v3:=Tryz.zeroValue3
 t4:=Tryz.underlying4
 a4:=Tryz.isAgg4
 z4:=Tryz.sizeOf4
 v4:=Tryz.zeroValue4
 t5:=Tryz.underlying5
 a5:=Tryz.isAgg5
 z5:=Tryz.sizeOf5
 v5:=Tryz.zeroValue5
 t9:=Tryz.underlying9
 a9:=Tryz.isAgg9
 z9:=Tryz.sizeOf9
 v9:=Tryz.zeroValue9
 t37:=Tryz.underlying27
 a37:=Tryz.isAgg27
 z37:=Tryz.sizeOf27
 v37:=Tryz.zeroValue27
 t51:=Tryz.underlying36
 a51:=Tryz.isAgg36
 z51:=Tryz.sizeOf36
 v51:=Tryz.zeroValue36
 t53:=Tryz.underlying64
 a53:=Tryz.isAgg64
 z53:=Tryz.sizeOf64
 v53:=Tryz.zeroValue64 }
open Go.RowKit Go.Sort Go.Lib in
theorem Tryz.internal_strconv_formatBase10 (blk off cap:Nat) (u:Nat) (d:Array UInt8) (w:World) (hH:Holds (fun (b:UInt8)=>Value.int .u8 (b.toNat:Int)) w blk off d) (hu:u<10 ^ d.size) (hu64:u<18446744073709551616) (hsz:d.size<4611686018427387904) :
  Calls Tryz.prog 85 #[.slice (some ⟨blk,off,none⟩) d.size cap,.int .u64 u] w fun e w'=>
   e=.returned (.tuple #[])∧∃ (n v':Nat) (dk:Array UInt8),w'=(putRow (fun (b:UInt8)=>Value.int .u8 (b.toNat:Int)) w blk off dk).drewN n∧FmtInv d.size u 0 v' dk:=Any.internal_strconv_formatBase10 Tryz.lays285 blk off cap u d w hH hu hu64 hsz
def Tryz.laysM171_ren:Go.Shelf.Ren:=⟨fun|171=>67|243=>97|246=>125|283=>83|284=>84|285=>85|286=>86|129=>106|317=>105|318=>107|319=>108|320=>109|337=>130|338=>131|n=>n,fun|3=>3|9=>9|2=>2|4=>4|171=>115|0=>0|53=>64|37=>27|5=>5|173=>118|212=>133|51=>36|20=>20|213=>134|46=>65|232=>164|233=>165|n=>n,fun|17=>0|18=>4|19=>5|n=>n⟩
theorem Tryz.laysM171:Go.Proofs.LaysM.n171 Tryz.prog Tryz.laysM171_ren:={
 mixed:=by kernel_rfl
 f129:=Tryz.func106.trans (congrArg some (by kernel_rfl))
 f171:=Tryz.func67.trans (congrArg some (by kernel_rfl))
 f243:=Tryz.func97.trans (congrArg some (by kernel_rfl))
 f246:=Tryz.func125.trans (congrArg some (by kernel_rfl))
 f283:=Tryz.func83.trans (congrArg some (by kernel_rfl))
 f284:=Tryz.func84.trans (congrArg some (by kernel_rfl))
 f285:=Tryz.func85.trans (congrArg some (by kernel_rfl))
 f286:=Tryz.func86.trans (congrArg some (by kernel_rfl))
 f317:=Tryz.func105.trans (congrArg some (by kernel_rfl))
 f318:=Tryz.func107.trans (congrArg some (by kernel_rfl))
 f319:=Tryz.func108.trans (congrArg some (by kernel_rfl))
 f320:=Tryz.func109.trans (congrArg some (by kernel_rfl))
 f337:=Tryz.func130.trans (congrArg some (by kernel_rfl))
 f338:=Tryz.func131.trans (congrArg some (by kernel_rfl))
 t0:=Tryz.underlying0
 a0:=Tryz.isAgg0
 z0:=Tryz.sizeOf0
 v0:=Tryz.zeroValue0
 t2:=Tryz.underlying2
 a2:=Tryz.isAgg2
 z2:=Tryz.sizeOf2
 v2:=Tryz.zeroValue2
 t3:=Tryz.underlying3
 a3:=Tryz.isAgg3
 z3:=Tryz.sizeOf3
 v3:=Tryz.zeroValue3
 t4:=Tryz.underlying4
 a4:=Tryz.isAgg4
 z4:=Tryz.sizeOf4
 v4:=Tryz.zeroValue4
 t5:=Tryz.underlying5
 a5:=Tryz.isAgg5
 z5:=Tryz.sizeOf5
 v5:=Tryz.zeroValue5
 t9:=Tryz.underlying9
 a9:=Tryz.isAgg9
 z9:=Tryz.sizeOf9
 v9:=Tryz.zeroValue9
 t20:=Tryz.underlying20
 a20:=Tryz.isAgg20
 z20:=Tryz.sizeOf20
 v20:=Tryz.zeroValue20
 t37:=Tryz.underlying27
 a37:=Tryz.isAgg27
 z37:=Tryz.sizeOf27
 v37:=Tryz.zeroValue27
 t46:=Tryz.underlying65
 a46:=Tryz.isAgg65
 z46:=Tryz.sizeOf65
 v46:=Tryz.zeroValue65
 t51:=Tryz.underlying36
 a51:=Tryz.isAgg36
 z51:=Tryz.sizeOf36
 v51:=Tryz.zeroValue36
 t53:=Tryz.underlying64
 a53:=Tryz.isAgg64
 z53:=Tryz.sizeOf64
 v53:=Tryz.zeroValue64
 t171:=Tryz.underlying115
 a171:=Tryz.isAgg115
 z171:=Tryz.sizeOf115
 v171:=Tryz.zeroValue115
 t173:=Tryz.underlying118
 a173:=Tryz.isAgg118
 z173:=Tryz.sizeOf118
 v173:=Tryz.zeroValue118
 t212:=Tryz.underlying133
 a212:=Tryz.isAgg133
 z212:=Tryz.sizeOf133
 v212:=Tryz.zeroValue133
 t213:=Tryz.underlying134
 a213:=Tryz.isAgg134
 z213:=Tryz.sizeOf134
 t232:=Tryz.underlying164
 a232:=Tryz.isAgg164
 z232:=Tryz.sizeOf164
 v232:=Tryz.zeroValue164
 t233:=Tryz.underlying165
 a233:=Tryz.isAgg165
 z233:=Tryz.sizeOf165
 v233:=Tryz.zeroValue165
 g17:=by kernel_rfl
 g18:=by kernel_rfl
 g19:=by kernel_rfl
 i0:=by kernel_rfl
 i2:=by kernel_rfl
 i3:=by kernel_rfl
 i4:=by kernel_rfl
 i5:=by kernel_rfl
 i9:=by kernel_rfl
 i20:=by kernel_rfl
 i37:=by kernel_rfl
 i46:=by kernel_rfl
 i51:=by kernel_rfl
 i53:=by kernel_rfl
 i171:=by kernel_rfl
 i173:=by kernel_rfl
 i212:=by kernel_rfl
 i232:=by kernel_rfl
 i233:=by kernel_rfl
 m17:=by kernel_rfl
 m18:=by kernel_rfl
 m19:=by kernel_rfl }
open Go.RowKit Go.Sort Go.Lib in
theorem Tryz.strconv_Itoa (n : Int) (h0 : -9223372036854775808 ≤ n) (h1 : n ≤ 9223372036854775807) (w : World) (htab : Lib.TabIs Tryz.prog w "internal/strconv.uint64pow10" .u64 Lib.pow10Tab) :
  Calls Tryz.prog 67 #[.int .i64 n] w fun e w'=>e=.returned (.string ⟨(Lib.itoa n).toArray⟩)∧∃ k os,w'=grow (w.drewN k) os:=Any.strconv_Itoa Tryz.laysM171 n h0 h1 w htab
def Tryz.laysC172_ren:Go.Shelf.Ren:=⟨fun|172=>95|244=>123|245=>124|247=>136|279=>137|280=>138|281=>139|282=>140|287=>144|316=>145|171=>67|205=>146|321=>147|322=>148|243=>97|246=>125|283=>83|284=>84|285=>85|286=>86|129=>106|317=>105|318=>107|319=>108|320=>109|337=>130|338=>131|n=>n,fun|9=>9|3=>3|75=>32|76=>33|4=>4|5=>5|167=>157|37=>27|0=>0|85=>158|2=>2|168=>160|53=>64|175=>166|46=>65|210=>169|127=>69|145=>174|143=>172|21=>21|171=>115|173=>118|212=>133|51=>36|20=>20|213=>134|232=>164|233=>165|80=>39|n=>n,fun|15=>6|16=>7|17=>0|18=>4|19=>5|n=>n⟩
theorem Tryz.laysC172:Go.Proofs.LaysC.n172 Tryz.prog Tryz.laysC172_ren:={
 mixed:=by kernel_rfl
 f129:=Tryz.func106.trans (congrArg some (by kernel_rfl))
 f171:=Tryz.func67.trans (congrArg some (by kernel_rfl))
 f172:=Tryz.func95.trans (congrArg some (by kernel_rfl))
 f205:=Tryz.func146.trans (congrArg some (by kernel_rfl))
 f243:=Tryz.func97.trans (congrArg some (by kernel_rfl))
 f244:=Tryz.func123.trans (congrArg some (by kernel_rfl))
 f245:=Tryz.func124.trans (congrArg some (by kernel_rfl))
 f246:=Tryz.func125.trans (congrArg some (by kernel_rfl))
 f247:=Tryz.func136.trans (congrArg some (by kernel_rfl))
 f279:=Tryz.func137.trans (congrArg some (by kernel_rfl))
 f280:=Tryz.func138.trans (congrArg some (by kernel_rfl))
 f281:=Tryz.func139.trans (congrArg some (by kernel_rfl))
 f282:=Tryz.func140.trans (congrArg some (by kernel_rfl))
 f283:=Tryz.func83.trans (congrArg some (by kernel_rfl))
 f284:=Tryz.func84.trans (congrArg some (by kernel_rfl))
 f285:=Tryz.func85.trans (congrArg some (by kernel_rfl))
 f286:=Tryz.func86.trans (congrArg some (by kernel_rfl))
 f287:=Tryz.func144.trans (congrArg some (by kernel_rfl))
 f316:=Tryz.func145.trans (congrArg some (by kernel_rfl))
 f317:=Tryz.func105.trans (congrArg some (by kernel_rfl))
 f318:=Tryz.func107.trans (congrArg some (by kernel_rfl))
 f319:=Tryz.func108.trans (congrArg some (by kernel_rfl))
 f320:=Tryz.func109.trans (congrArg some (by kernel_rfl))
 f321:=Tryz.func147.trans (congrArg some (by kernel_rfl))
 f322:=Tryz.func148.trans (congrArg some (by kernel_rfl))
 f337:=Tryz.func130.trans (congrArg some (by kernel_rfl))
 f338:=Tryz.func131.trans (congrArg some (by kernel_rfl))
 t0:=Tryz.underlying0
 a0:=Tryz.isAgg0
 z0:=Tryz.sizeOf0
 v0:=Tryz.zeroValue0
 t2:=Tryz.underlying2
 a2:=Tryz.isAgg2
 z2:=Tryz.sizeOf2
 v2:=Tryz.zeroValue2
 t3:=Tryz.underlying3
 a3:=Tryz.isAgg3
 z3:=Tryz.sizeOf3
 v3:=Tryz.zeroValue3
 t4:=Tryz.underlying4
 a4:=Tryz.isAgg4
 z4:=Tryz.sizeOf4
 v4:=Tryz.zeroValue4
 t5:=Tryz.underlying5
 a5:=Tryz.isAgg5
 z5:=Tryz.sizeOf5
 v5:=Tryz.zeroValue5
 t9:=Tryz.underlying9
 a9:=Tryz.isAgg9
 z9:=Tryz.sizeOf9
 v9:=Tryz.zeroValue9
 t20:=Tryz.underlying20
 a20:=Tryz.isAgg20
 z20:=Tryz.sizeOf20
 v20:=Tryz.zeroValue20
 t21:=Tryz.underlying21
 a21:=Tryz.isAgg21
 z21:=Tryz.sizeOf21
 v21:=Tryz.zeroValue21
 t37:=Tryz.underlying27
 a37:=Tryz.isAgg27
 z37:=Tryz.sizeOf27
 v37:=Tryz.zeroValue27
 t46:=Tryz.underlying65
 a46:=Tryz.isAgg65
 z46:=Tryz.sizeOf65
 v46:=Tryz.zeroValue65
 t51:=Tryz.underlying36
 a51:=Tryz.isAgg36
 z51:=Tryz.sizeOf36
 v51:=Tryz.zeroValue36
 t53:=Tryz.underlying64
 a53:=Tryz.isAgg64
 z53:=Tryz.sizeOf64
 v53:=Tryz.zeroValue64
 t75:=Tryz.underlying32
 a75:=Tryz.isAgg32
 z75:=Tryz.sizeOf32
 v75:=Tryz.zeroValue32
 t76:=Tryz.underlying33
 a76:=Tryz.isAgg33
 z76:=Tryz.sizeOf33
 v76:=Tryz.zeroValue33
 t85:=Tryz.underlying158
 a85:=Tryz.isAgg158
 z85:=Tryz.sizeOf158
 v85:=Tryz.zeroValue158
 t127:=Tryz.underlying69
 a127:=Tryz.isAgg69
 z127:=Tryz.sizeOf69
 v127:=Tryz.zeroValue69
 t143:=Tryz.underlying172
 a143:=Tryz.isAgg172
 z143:=Tryz.sizeOf172
 v143:=Tryz.zeroValue172
 t145:=Tryz.underlying174
 a145:=Tryz.isAgg174
 z145:=Tryz.sizeOf174
 v145:=Tryz.zeroValue174
 t167:=Tryz.underlying157
 a167:=Tryz.isAgg157
 z167:=Tryz.sizeOf157
 v167:=Tryz.zeroValue157
 t168:=Tryz.underlying160
 a168:=Tryz.isAgg160
 z168:=Tryz.sizeOf160
 v168:=Tryz.zeroValue160
 t171:=Tryz.underlying115
 a171:=Tryz.isAgg115
 z171:=Tryz.sizeOf115
 v171:=Tryz.zeroValue115
 t173:=Tryz.underlying118
 a173:=Tryz.isAgg118
 z173:=Tryz.sizeOf118
 v173:=Tryz.zeroValue118
 t175:=Tryz.underlying166
 a175:=Tryz.isAgg166
 z175:=Tryz.sizeOf166
 v175:=Tryz.zeroValue166
 t210:=Tryz.underlying169
 a210:=Tryz.isAgg169
 z210:=Tryz.sizeOf169
 v210:=Tryz.zeroValue169
 t212:=Tryz.underlying133
 a212:=Tryz.isAgg133
 z212:=Tryz.sizeOf133
 v212:=Tryz.zeroValue133
 t213:=Tryz.underlying134
 a213:=Tryz.isAgg134
 z213:=Tryz.sizeOf134
 t232:=Tryz.underlying164
 a232:=Tryz.isAgg164
 z232:=Tryz.sizeOf164
 v232:=Tryz.zeroValue164
 t233:=Tryz.underlying165
 a233:=Tryz.isAgg165
 z233:=Tryz.sizeOf165
 v233:=Tryz.zeroValue165
 g15:=by kernel_rfl
 g16:=by kernel_rfl
 g17:=by kernel_rfl
 g18:=by kernel_rfl
 g19:=by kernel_rfl
 t80:=Tryz.underlying39
 a80:=Tryz.isAgg39
 z80:=Tryz.sizeOf39
 v80:=Tryz.zeroValue39
 i0:=by kernel_rfl
 i2:=by kernel_rfl
 i3:=by kernel_rfl
 i4:=by kernel_rfl
 i5:=by kernel_rfl
 i9:=by kernel_rfl
 i20:=by kernel_rfl
 i21:=by kernel_rfl
 i37:=by kernel_rfl
 i46:=by kernel_rfl
 i51:=by kernel_rfl
 i53:=by kernel_rfl
 i75:=by kernel_rfl
 i76:=by kernel_rfl
 i80:=by kernel_rfl
 i85:=by kernel_rfl
 i127:=by kernel_rfl
 i143:=by kernel_rfl
 i145:=by kernel_rfl
 i167:=by kernel_rfl
 i168:=by kernel_rfl
 i171:=by kernel_rfl
 i173:=by kernel_rfl
 i175:=by kernel_rfl
 i210:=by kernel_rfl
 i212:=by kernel_rfl
 i232:=by kernel_rfl
 i233:=by kernel_rfl
 m15:=by kernel_rfl
 m16:=by kernel_rfl
 m17:=by kernel_rfl
 m18:=by kernel_rfl
 m19:=by kernel_rfl
 c0:=by kernel_rfl
 c2:=by kernel_rfl
 c3:=by kernel_rfl
 c4:=by kernel_rfl
 c5:=by kernel_rfl
 c9:=by kernel_rfl
 c20:=by kernel_rfl
 c21:=by kernel_rfl
 c37:=by kernel_rfl
 c46:=by kernel_rfl
 c51:=by kernel_rfl
 c53:=by kernel_rfl
 c75:=by kernel_rfl
 c76:=by kernel_rfl
 c80:=by kernel_rfl
 c85:=by kernel_rfl
 c127:=by kernel_rfl
 c143:=by kernel_rfl
 c145:=by kernel_rfl
 c167:=by kernel_rfl
 c168:=by kernel_rfl
 c171:=by kernel_rfl
 c173:=by kernel_rfl
 c175:=by kernel_rfl
 c210:=by kernel_rfl
 c212:=by kernel_rfl
 c213:=by kernel_rfl
 c232:=by kernel_rfl
 c233:=by kernel_rfl }
open Go.RowKit in
theorem Tryz.strconv_Atoi_ok (s:ByteArray) (hmax:s.size≤9223372036854775806) (v:Int) (h:Lib.atoiAll s.data.toList=.ok v) (w:World) :
  Calls Tryz.prog 95 #[.string s] w fun e w'=>e=.returned (.tuple #[.int .i64 v,.nilIface])∧(w'=w∨∃ t,w'=Lib.bytesWorld w 5 t):=Any.strconv_Atoi_ok Tryz.laysC172 s hmax v h w
open Go.RowKit in
theorem Tryz.strconv_Atoi_syntax_var (s : ByteArray) (hlim : s.size ≤ 281474976710656) (h : (∀ v, Lib.atoiAll s.data.toList ≠ .ok v) ∧ Lib.atoiAll s.data.toList ≠ .range) (tp : TypeId) (p : Value) (w : World) (hvar : w.var? Tryz.prog "strconv.ErrSyntax" = some #[.iface tp p]) :
  Calls Tryz.prog 95 #[.string s] w fun e w'=>∃ N,e=.returned (.tuple #[.int .i64 0,.iface 160 (.pointer (some ⟨N,0,none⟩))])∧w.heap.size≤N∧w'.heap[N]? = some (.cells #[.string ⟨#[65,116,111,105]⟩,.string s,.iface tp p] 169 (0,0))∧Below w.heap.size w w':=by
  refine Any.strconv_Atoi_syntax_var Tryz.laysC172 s hlim ?_ tp p w hvar
  cases hq : Lib.atoiAll s.data.toList with
  | ok u => exact absurd hq (h.1 u)
  | range => exact absurd hq h.2
  | _ => rfl
open Go.RowKit in
theorem Tryz.strconv_Atoi_range_var (s : ByteArray) (hlim : s.size ≤ 281474976710656) (h : Lib.atoiAll s.data.toList = .range) (tp : TypeId) (p : Value) (w : World) (hvar : w.var? Tryz.prog "strconv.ErrRange" = some #[.iface tp p]) :
  Calls Tryz.prog 95 #[.string s] w fun e w'=>∃ N,e=.returned (.tuple #[.int .i64 (Lib.atoiSat s.data.toList),.iface 160 (.pointer (some ⟨N,0,none⟩))])∧w.heap.size≤N∧w'.heap[N]? = some (.cells #[.string ⟨#[65,116,111,105]⟩,.string s,.iface tp p] 169 (0,0))∧Below w.heap.size w w':=Any.strconv_Atoi_range_var Tryz.laysC172 s hlim h tp p w hvar
def Tryz.lays144_ren:Go.Shelf.Ren:=⟨fun|144=>96|143=>63|219=>90|217=>110|225=>111|224=>112|267=>113|266=>132|314=>133|n=>n,fun|9=>9|4=>4|3=>3|5=>5|46=>65|146=>90|51=>36|n=>n,fun|1=>1|n=>n⟩
theorem Tryz.lays144:Go.Proofs.Lays.n144 Tryz.prog Tryz.lays144_ren:={
 mixed:=by kernel_rfl
 f143:=Tryz.func63.trans (congrArg some (by kernel_rfl))
 f144:=Tryz.func96.trans (congrArg some (by kernel_rfl))
 f217:=Tryz.func110.trans (congrArg some (by kernel_rfl))
 f219:=Tryz.func90.trans (congrArg some (by kernel_rfl))
 f224:=Tryz.func112.trans (congrArg some (by kernel_rfl))
 f225:=Tryz.func111.trans (congrArg some (by kernel_rfl))
 f266:=Tryz.func132.trans (congrArg some (by kernel_rfl))
 f267:=Tryz.func113.trans (congrArg some (by kernel_rfl))
 f314:=Tryz.func133.trans (congrArg some (by kernel_rfl))
 t3:=Tryz.underlying3
 a3:=Tryz.isAgg3
 z3:=Tryz.sizeOf3
 v3:=Tryz.zeroValue3
 t4:=Tryz.underlying4
 a4:=Tryz.isAgg4
 z4:=Tryz.sizeOf4
 v4:=Tryz.zeroValue4
 t5:=Tryz.underlying5
 a5:=Tryz.isAgg5
 z5:=Tryz.sizeOf5
 v5:=Tryz.zeroValue5
 t9:=Tryz.underlying9
 a9:=Tryz.isAgg9
 z9:=Tryz.sizeOf9
 v9:=Tryz.zeroValue9
 t46:=Tryz.underlying65
 a46:=Tryz.isAgg65
 z46:=Tryz.sizeOf65
 v46:=Tryz.zeroValue65
 t51:=Tryz.underlying36
 a51:=Tryz.isAgg36
 z51:=Tryz.sizeOf36
 v51:=Tryz.zeroValue36
 t146:=Tryz.underlying90
 a146:=Tryz.isAgg90
 z146:=Tryz.sizeOf90
 v146:=Tryz.zeroValue90
 g1:=by kernel_rfl }
open Go.RowKit Go.Lib in
theorem Tryz.strings_Contains_one (s:ByteArray) (c:UInt8) (w:World) :
  Calls Tryz.prog 96 #[.string s,.string ⟨#[c]⟩] w fun e w'=>e=.returned (.bool (decide (0≤Lib.indexByte s.data.toList c)))∧w'=w:=Any.strings_Contains_one Tryz.lays144 s c w
def Tryz.lays145_ren:Go.Shelf.Ren:=⟨fun|145=>94|220=>122|219=>90|217=>110|225=>111|224=>112|267=>113|266=>132|314=>133|n=>n,fun|9=>9|4=>4|59=>125|3=>3|5=>5|46=>65|146=>90|51=>36|n=>n,fun|1=>1|n=>n⟩
theorem Tryz.lays145:Go.Proofs.Lays.n145 Tryz.prog Tryz.lays145_ren:={
 mixed:=by kernel_rfl
 f145:=Tryz.func94.trans (congrArg some (by kernel_rfl))
 f217:=Tryz.func110.trans (congrArg some (by kernel_rfl))
 f219:=Tryz.func90.trans (congrArg some (by kernel_rfl))
 f220:=Tryz.func122.trans (congrArg some (by kernel_rfl))
 f224:=Tryz.func112.trans (congrArg some (by kernel_rfl))
 f225:=Tryz.func111.trans (congrArg some (by kernel_rfl))
 f266:=Tryz.func132.trans (congrArg some (by kernel_rfl))
 f267:=Tryz.func113.trans (congrArg some (by kernel_rfl))
 f314:=Tryz.func133.trans (congrArg some (by kernel_rfl))
 t3:=Tryz.underlying3
 a3:=Tryz.isAgg3
 z3:=Tryz.sizeOf3
 v3:=Tryz.zeroValue3
 t4:=Tryz.underlying4
 a4:=Tryz.isAgg4
 z4:=Tryz.sizeOf4
 v4:=Tryz.zeroValue4
 t5:=Tryz.underlying5
 a5:=Tryz.isAgg5
 z5:=Tryz.sizeOf5
 v5:=Tryz.zeroValue5
 t9:=Tryz.underlying9
 a9:=Tryz.isAgg9
 z9:=Tryz.sizeOf9
 v9:=Tryz.zeroValue9
 t46:=Tryz.underlying65
 a46:=Tryz.isAgg65
 z46:=Tryz.sizeOf65
 v46:=Tryz.zeroValue65
 t51:=Tryz.underlying36
 a51:=Tryz.isAgg36
 z51:=Tryz.sizeOf36
 v51:=Tryz.zeroValue36
 t59:=Tryz.underlying125
 a59:=Tryz.isAgg125
 z59:=Tryz.sizeOf125
 v59:=Tryz.zeroValue125
 t146:=Tryz.underlying90
 a146:=Tryz.isAgg90
 z146:=Tryz.sizeOf90
 v146:=Tryz.zeroValue90
 g1:=by kernel_rfl }
open Go.RowKit Go.Lib in
theorem Tryz.strings_Cut (s sep:ByteArray) (m:Int) (w:World) (hs:s.size<4294967281) (hm:w.cell? ⟨1,0,none⟩=some (.int .i64 m)) :
  Calls Tryz.prog 94 #[.string s,.string sep] w fun e w'=>e=.returned (.tuple #[.string ⟨(Lib.cut s.data.toList sep.data.toList).1.toArray⟩,.string ⟨(Lib.cut s.data.toList sep.data.toList).2.1.toArray⟩,.bool (Lib.cut s.data.toList sep.data.toList).2.2])∧∃ n,w'=w.drewN n:=Any.strings_Cut Tryz.lays145 s sep m w hs hm
def Tryz.lays99_ren:Go.Shelf.Ren:=⟨fun|99=>30|206=>59|n=>n,fun|9=>9|4=>4|3=>3|n=>n,fun|n=>n⟩
theorem Tryz.lays99:Go.Proofs.Lays.n99 Tryz.prog Tryz.lays99_ren:={
 mixed:=by kernel_rfl
 f99:=Tryz.func30.trans (congrArg some (by kernel_rfl))
 f206:=Tryz.func59.trans (congrArg some (by kernel_rfl))
 t3:=Tryz.underlying3
 a3:=Tryz.isAgg3
 z3:=Tryz.sizeOf3
 v3:=Tryz.zeroValue3
 t4:=Tryz.underlying4
 a4:=Tryz.isAgg4
 z4:=Tryz.sizeOf4
 v4:=Tryz.zeroValue4
 t9:=Tryz.underlying9
 a9:=Tryz.isAgg9
 z9:=Tryz.sizeOf9
 v9:=Tryz.zeroValue9 }
open Go.RowKit Go.Lib in
theorem Tryz.strings_HasPrefix (s p:ByteArray) (w:World) :
  Calls Tryz.prog 30 #[.string s,.string p] w fun e w'=>e=.returned (.bool (Lib.hasPrefix s.data.toList p.data.toList))∧w'=w:=Any.strings_HasPrefix Tryz.lays99 s p w
def Tryz.lays100_ren:Go.Shelf.Ren:=⟨fun|100=>20|207=>38|n=>n,fun|9=>9|4=>4|3=>3|n=>n,fun|n=>n⟩
theorem Tryz.lays100:Go.Proofs.Lays.n100 Tryz.prog Tryz.lays100_ren:={
 mixed:=by kernel_rfl
 f100:=Tryz.func20.trans (congrArg some (by kernel_rfl))
 f207:=Tryz.func38.trans (congrArg some (by kernel_rfl))
 t3:=Tryz.underlying3
 a3:=Tryz.isAgg3
 z3:=Tryz.sizeOf3
 v3:=Tryz.zeroValue3
 t4:=Tryz.underlying4
 a4:=Tryz.isAgg4
 z4:=Tryz.sizeOf4
 v4:=Tryz.zeroValue4
 t9:=Tryz.underlying9
 a9:=Tryz.isAgg9
 z9:=Tryz.sizeOf9
 v9:=Tryz.zeroValue9 }
open Go.RowKit Go.Lib in
theorem Tryz.strings_HasSuffix (s p:ByteArray) (w:World) (hs:s.size≤9223372036854775807) :
  Calls Tryz.prog 20 #[.string s,.string p] w fun e w'=>e=.returned (.bool (Lib.hasSuffix s.data.toList p.data.toList))∧w'=w:=Any.strings_HasSuffix Tryz.lays100 s p w hs
def Tryz.lays102_ren:Go.Shelf.Ren:=⟨fun|102=>21|209=>39|207=>38|n=>n,fun|9=>9|4=>4|3=>3|n=>n,fun|n=>n⟩
theorem Tryz.lays102:Go.Proofs.Lays.n102 Tryz.prog Tryz.lays102_ren:={
 mixed:=by kernel_rfl
 f102:=Tryz.func21.trans (congrArg some (by kernel_rfl))
 f207:=Tryz.func38.trans (congrArg some (by kernel_rfl))
 f209:=Tryz.func39.trans (congrArg some (by kernel_rfl))
 t3:=Tryz.underlying3
 a3:=Tryz.isAgg3
 z3:=Tryz.sizeOf3
 v3:=Tryz.zeroValue3
 t4:=Tryz.underlying4
 a4:=Tryz.isAgg4
 z4:=Tryz.sizeOf4
 v4:=Tryz.zeroValue4
 t9:=Tryz.underlying9
 a9:=Tryz.isAgg9
 z9:=Tryz.sizeOf9
 v9:=Tryz.zeroValue9 }
open Go.RowKit Go.Lib in
theorem Tryz.strings_TrimSuffix (s p:ByteArray) (w:World) (hs:s.size≤9223372036854775807) :
  Calls Tryz.prog 21 #[.string s,.string p] w fun e w'=>e=.returned (.string ⟨(Lib.trimSuffix s.data.toList p.data.toList).toArray⟩)∧w'=w:=Any.strings_TrimSuffix Tryz.lays102 s p w hs
def Tryz.lays146_ren:Go.Shelf.Ren:=⟨fun|146=>16|221=>32|268=>61|138=>62|143=>63|195=>88|197=>70|218=>89|219=>90|260=>98|217=>110|225=>111|224=>112|267=>113|266=>132|314=>133|n=>n,fun|9=>9|31=>40|3=>3|4=>4|0=>0|105=>102|21=>21|5=>5|46=>65|119=>147|139=>150|138=>149|146=>90|51=>36|n=>n,fun|1=>1|3=>2|4=>3|n=>n⟩
theorem Tryz.lays146:Go.Proofs.Lays.n146 Tryz.prog Tryz.lays146_ren:={
 mixed:=by kernel_rfl
 f138:=Tryz.func62.trans (congrArg some (by kernel_rfl))
 f143:=Tryz.func63.trans (congrArg some (by kernel_rfl))
 f146:=Tryz.func16.trans (congrArg some (by kernel_rfl))
 f195:=Tryz.func88.trans (congrArg some (by kernel_rfl))
 f197:=Tryz.func70.trans (congrArg some (by kernel_rfl))
 f217:=Tryz.func110.trans (congrArg some (by kernel_rfl))
 f218:=Tryz.func89.trans (congrArg some (by kernel_rfl))
 f219:=Tryz.func90.trans (congrArg some (by kernel_rfl))
 f221:=Tryz.func32.trans (congrArg some (by kernel_rfl))
 f224:=Tryz.func112.trans (congrArg some (by kernel_rfl))
 f225:=Tryz.func111.trans (congrArg some (by kernel_rfl))
 f260:=Tryz.func98.trans (congrArg some (by kernel_rfl))
 f266:=Tryz.func132.trans (congrArg some (by kernel_rfl))
 f267:=Tryz.func113.trans (congrArg some (by kernel_rfl))
 f268:=Tryz.func61.trans (congrArg some (by kernel_rfl))
 f314:=Tryz.func133.trans (congrArg some (by kernel_rfl))
 t0:=Tryz.underlying0
 a0:=Tryz.isAgg0
 z0:=Tryz.sizeOf0
 v0:=Tryz.zeroValue0
 t3:=Tryz.underlying3
 a3:=Tryz.isAgg3
 z3:=Tryz.sizeOf3
 v3:=Tryz.zeroValue3
 t4:=Tryz.underlying4
 a4:=Tryz.isAgg4
 z4:=Tryz.sizeOf4
 v4:=Tryz.zeroValue4
 t5:=Tryz.underlying5
 a5:=Tryz.isAgg5
 z5:=Tryz.sizeOf5
 v5:=Tryz.zeroValue5
 t9:=Tryz.underlying9
 a9:=Tryz.isAgg9
 z9:=Tryz.sizeOf9
 v9:=Tryz.zeroValue9
 t21:=Tryz.underlying21
 a21:=Tryz.isAgg21
 z21:=Tryz.sizeOf21
 v21:=Tryz.zeroValue21
 t31:=Tryz.underlying40
 a31:=Tryz.isAgg40
 z31:=Tryz.sizeOf40
 v31:=Tryz.zeroValue40
 t46:=Tryz.underlying65
 a46:=Tryz.isAgg65
 z46:=Tryz.sizeOf65
 v46:=Tryz.zeroValue65
 t51:=Tryz.underlying36
 a51:=Tryz.isAgg36
 z51:=Tryz.sizeOf36
 v51:=Tryz.zeroValue36
 t105:=Tryz.underlying102
 a105:=Tryz.isAgg102
 z105:=Tryz.sizeOf102
 v105:=Tryz.zeroValue102
 t119:=Tryz.underlying147
 a119:=Tryz.isAgg147
 z119:=Tryz.sizeOf147
 t138:=Tryz.underlying149
 a138:=Tryz.isAgg149
 z138:=Tryz.sizeOf149
 v138:=Tryz.zeroValue149
 t139:=Tryz.underlying150
 a139:=Tryz.isAgg150
 z139:=Tryz.sizeOf150
 v139:=Tryz.zeroValue150
 t146:=Tryz.underlying90
 a146:=Tryz.isAgg90
 z146:=Tryz.sizeOf90
 v146:=Tryz.zeroValue90
 g1:=by kernel_rfl
 g3:=by kernel_rfl
 g4:=by kernel_rfl }
open Go.RowKit Go.Lib in
theorem Tryz.strings_Split (s sep:ByteArray) (m:Int) (w:World) (hs:s.size<4294967281) (hm:w.cell? ⟨1,0,none⟩=some (.int .i64 m)) (h1:1≤sep.size) :
  Calls Tryz.prog 16 #[.string s,.string sep] w fun e w'=>
   e=.returned (.slice (some ⟨w.heap.size,0,none⟩) (Lib.countB s sep+1) (Lib.countB s sep+1))∧w'=w.alloc (.cells ((Lib.splitB sep 0 (Lib.countB s sep) s).map Value.string).toArray 9):=Any.strings_Split Tryz.lays146 (by kernel_rfl) s sep m w hs hm h1
def Tryz.lays155_ren:Go.Shelf.Ren:=⟨fun|155=>22|154=>40|138=>62|165=>31|143=>63|166=>11|197=>70|169=>15|195=>88|218=>89|240=>27|241=>60|219=>90|260=>98|276=>55|277=>87|217=>110|225=>111|224=>112|267=>113|266=>132|314=>133|n=>n,fun|9=>9|3=>3|4=>4|72=>30|0=>0|76=>33|105=>102|21=>21|5=>5|70=>28|20=>20|37=>27|75=>32|127=>69|164=>88|46=>65|119=>147|139=>150|138=>149|146=>90|51=>36|80=>39|n=>n,fun|1=>1|3=>2|4=>3|n=>n⟩
theorem Tryz.lays155:Go.Proofs.Lays.n155 Tryz.prog Tryz.lays155_ren:={
 mixed:=by kernel_rfl
 f138:=Tryz.func62.trans (congrArg some (by kernel_rfl))
 f143:=Tryz.func63.trans (congrArg some (by kernel_rfl))
 f154:=Tryz.func40.trans (congrArg some (by kernel_rfl))
 f155:=Tryz.func22.trans (congrArg some (by kernel_rfl))
 f165:=Tryz.func31.trans (congrArg some (by kernel_rfl))
 f166:=Tryz.func11.trans (congrArg some (by kernel_rfl))
 f169:=Tryz.func15.trans (congrArg some (by kernel_rfl))
 f195:=Tryz.func88.trans (congrArg some (by kernel_rfl))
 f197:=Tryz.func70.trans (congrArg some (by kernel_rfl))
 f217:=Tryz.func110.trans (congrArg some (by kernel_rfl))
 f218:=Tryz.func89.trans (congrArg some (by kernel_rfl))
 f219:=Tryz.func90.trans (congrArg some (by kernel_rfl))
 f224:=Tryz.func112.trans (congrArg some (by kernel_rfl))
 f225:=Tryz.func111.trans (congrArg some (by kernel_rfl))
 f240:=Tryz.func27.trans (congrArg some (by kernel_rfl))
 f241:=Tryz.func60.trans (congrArg some (by kernel_rfl))
 f260:=Tryz.func98.trans (congrArg some (by kernel_rfl))
 f266:=Tryz.func132.trans (congrArg some (by kernel_rfl))
 f267:=Tryz.func113.trans (congrArg some (by kernel_rfl))
 f276:=Tryz.func55.trans (congrArg some (by kernel_rfl))
 f277:=Tryz.func87.trans (congrArg some (by kernel_rfl))
 f314:=Tryz.func133.trans (congrArg some (by kernel_rfl))
 t0:=Tryz.underlying0
 a0:=Tryz.isAgg0
 z0:=Tryz.sizeOf0
 v0:=Tryz.zeroValue0
 t3:=Tryz.underlying3
 a3:=Tryz.isAgg3
 z3:=Tryz.sizeOf3
 v3:=Tryz.zeroValue3
 t4:=Tryz.underlying4
 a4:=Tryz.isAgg4
 z4:=Tryz.sizeOf4
 v4:=Tryz.zeroValue4
 t5:=Tryz.underlying5
 a5:=Tryz.isAgg5
 z5:=Tryz.sizeOf5
 v5:=Tryz.zeroValue5
 t9:=Tryz.underlying9
 a9:=Tryz.isAgg9
 z9:=Tryz.sizeOf9
 v9:=Tryz.zeroValue9
 t20:=Tryz.underlying20
 a20:=Tryz.isAgg20
 z20:=Tryz.sizeOf20
 v20:=Tryz.zeroValue20
 t21:=Tryz.underlying21
 a21:=Tryz.isAgg21
 z21:=Tryz.sizeOf21
 v21:=Tryz.zeroValue21
 t37:=Tryz.underlying27
 a37:=Tryz.isAgg27
 z37:=Tryz.sizeOf27
 v37:=Tryz.zeroValue27
 t46:=Tryz.underlying65
 a46:=Tryz.isAgg65
 z46:=Tryz.sizeOf65
 v46:=Tryz.zeroValue65
 t51:=Tryz.underlying36
 a51:=Tryz.isAgg36
 z51:=Tryz.sizeOf36
 v51:=Tryz.zeroValue36
 t70:=Tryz.underlying28
 a70:=Tryz.isAgg28
 z70:=Tryz.sizeOf28
 v70:=Tryz.zeroValue28
 t72:=Tryz.underlying30
 a72:=Tryz.isAgg30
 z72:=Tryz.sizeOf30
 v72:=Tryz.zeroValue30
 t75:=Tryz.underlying32
 a75:=Tryz.isAgg32
 z75:=Tryz.sizeOf32
 v75:=Tryz.zeroValue32
 t76:=Tryz.underlying33
 a76:=Tryz.isAgg33
 z76:=Tryz.sizeOf33
 v76:=Tryz.zeroValue33
 t105:=Tryz.underlying102
 a105:=Tryz.isAgg102
 z105:=Tryz.sizeOf102
 v105:=Tryz.zeroValue102
 t119:=Tryz.underlying147
 a119:=Tryz.isAgg147
 z119:=Tryz.sizeOf147
 t127:=Tryz.underlying69
 a127:=Tryz.isAgg69
 z127:=Tryz.sizeOf69
 v127:=Tryz.zeroValue69
 t138:=Tryz.underlying149
 a138:=Tryz.isAgg149
 z138:=Tryz.sizeOf149
 v138:=Tryz.zeroValue149
 t139:=Tryz.underlying150
 a139:=Tryz.isAgg150
 z139:=Tryz.sizeOf150
 v139:=Tryz.zeroValue150
 t146:=Tryz.underlying90
 a146:=Tryz.isAgg90
 z146:=Tryz.sizeOf90
 v146:=Tryz.zeroValue90
 t164:=Tryz.underlying88
 a164:=Tryz.isAgg88
 z164:=Tryz.sizeOf88
 v164:=Tryz.zeroValue88
 g1:=by kernel_rfl
 g3:=by kernel_rfl
 g4:=by kernel_rfl }
theorem Tryz.Builder_Extra_155:Builder.Extra Tryz.prog Tryz.lays155_ren:={
 sizeBuilder:=by kernel_rfl
 liesBuilder:=by kernel_rfl
 t5:=Tryz.underlying5
 a5:=Tryz.isAgg5
 z5:=Tryz.sizeOf5
 v5:=Tryz.zeroValue5
 infoByte:=by kernel_rfl
 cellsByte:=by kernel_rfl
 sizeByte:=by kernel_rfl
 neB5:=by decide }
open Go.RowKit Go.Lib in
theorem Tryz.strings_ReplaceAll (s old new:ByteArray) (m:Int) (w:World) (hs:s.size<4294967281) (hm:w.cell? ⟨1,0,none⟩=some (.int .i64 m)) (h1:1≤old.size) (hlen:s.size+Lib.countB s old * new.size≤140737488355328) :
  Calls Tryz.prog 22 #[.string s,.string old,.string new] w fun e w'=>
   e=.returned (.string ⟨(Lib.replaceAll s.data.toList old.data.toList new.data.toList).toArray⟩)∧Below w.heap.size w w':=Any.strings_ReplaceAll Tryz.lays155 Tryz.Builder_Extra_155 s old new m w hs hm h1 hlen
def Tryz.lays153_ren:Go.Shelf.Ren:=⟨fun|153=>102|152=>127|226=>128|227=>117|228=>129|137=>141|119=>142|224=>112|225=>111|217=>110|266=>132|n=>n,fun|9=>9|3=>3|4=>4|5=>5|21=>21|117=>141|116=>140|0=>0|46=>65|124=>144|n=>n,fun|n=>n⟩
theorem Tryz.lays153:Go.Proofs.Lays.n153 Tryz.prog Tryz.lays153_ren:={
 mixed:=by kernel_rfl
 f119:=Tryz.func142.trans (congrArg some (by kernel_rfl))
 f137:=Tryz.func141.trans (congrArg some (by kernel_rfl))
 f152:=Tryz.func127.trans (congrArg some (by kernel_rfl))
 f153:=Tryz.func102.trans (congrArg some (by kernel_rfl))
 f217:=Tryz.func110.trans (congrArg some (by kernel_rfl))
 f224:=Tryz.func112.trans (congrArg some (by kernel_rfl))
 f225:=Tryz.func111.trans (congrArg some (by kernel_rfl))
 f226:=Tryz.func128.trans (congrArg some (by kernel_rfl))
 f227:=Tryz.func117.trans (congrArg some (by kernel_rfl))
 f228:=Tryz.func129.trans (congrArg some (by kernel_rfl))
 f266:=Tryz.func132.trans (congrArg some (by kernel_rfl))
 t0:=Tryz.underlying0
 a0:=Tryz.isAgg0
 z0:=Tryz.sizeOf0
 v0:=Tryz.zeroValue0
 t3:=Tryz.underlying3
 a3:=Tryz.isAgg3
 z3:=Tryz.sizeOf3
 v3:=Tryz.zeroValue3
 t4:=Tryz.underlying4
 a4:=Tryz.isAgg4
 z4:=Tryz.sizeOf4
 v4:=Tryz.zeroValue4
 t5:=Tryz.underlying5
 a5:=Tryz.isAgg5
 z5:=Tryz.sizeOf5
 v5:=Tryz.zeroValue5
 t9:=Tryz.underlying9
 a9:=Tryz.isAgg9
 z9:=Tryz.sizeOf9
 v9:=Tryz.zeroValue9
 t21:=Tryz.underlying21
 a21:=Tryz.isAgg21
 z21:=Tryz.sizeOf21
 v21:=Tryz.zeroValue21
 t46:=Tryz.underlying65
 a46:=Tryz.isAgg65
 z46:=Tryz.sizeOf65
 v46:=Tryz.zeroValue65
 t116:=Tryz.underlying140
 a116:=Tryz.isAgg140
 z116:=Tryz.sizeOf140
 t117:=Tryz.underlying141
 a117:=Tryz.isAgg141
 z117:=Tryz.sizeOf141
 v117:=Tryz.zeroValue141
 t124:=Tryz.underlying144
 a124:=Tryz.isAgg144
 z124:=Tryz.sizeOf144
 v124:=Tryz.zeroValue144 }
open Go.RowKit Go.Lib in
theorem Tryz.strings_IndexAny_laid (s chars:ByteArray) (w:World) (hs:s.size<4294967281) (hcs:chars.size<4294967281) (has:∀ (j:Nat) b,s.data.toList[j]? = some b→b.toNat<128) (hac:∀ (j:Nat) b,chars.data.toList[j]? = some b→b.toNat<128) :
  Calls Tryz.prog 102 #[.string s,.string chars] w fun e w'=>e=.returned (.int .i64 (Lib.indexAny s.data.toList chars.data.toList))∧Below w.heap.size w w':=Any.strings_IndexAny_laid Tryz.lays153 (by kernel_rfl) s chars w hs hcs has hac
def Tryz.lays105_ren:Go.Shelf.Ren:=⟨fun|105=>14|212=>29|99=>30|165=>31|166=>11|170=>24|169=>15|263=>57|264=>58|206=>59|240=>27|241=>60|276=>55|277=>87|n=>n,fun|9=>9|3=>3|4=>4|20=>20|0=>0|46=>65|109=>66|5=>5|72=>30|76=>33|51=>36|146=>90|53=>64|148=>92|70=>28|37=>27|75=>32|127=>69|164=>88|80=>39|n=>n,fun|n=>n⟩
theorem Tryz.lays105:Go.Proofs.Lays.n105 Tryz.prog Tryz.lays105_ren:={
 mixed:=by kernel_rfl
 f99:=Tryz.func30.trans (congrArg some (by kernel_rfl))
 f105:=Tryz.func14.trans (congrArg some (by kernel_rfl))
 f165:=Tryz.func31.trans (congrArg some (by kernel_rfl))
 f166:=Tryz.func11.trans (congrArg some (by kernel_rfl))
 f169:=Tryz.func15.trans (congrArg some (by kernel_rfl))
 f170:=Tryz.func24.trans (congrArg some (by kernel_rfl))
 f206:=Tryz.func59.trans (congrArg some (by kernel_rfl))
 f212:=Tryz.func29.trans (congrArg some (by kernel_rfl))
 f240:=Tryz.func27.trans (congrArg some (by kernel_rfl))
 f241:=Tryz.func60.trans (congrArg some (by kernel_rfl))
 f263:=Tryz.func57.trans (congrArg some (by kernel_rfl))
 f264:=Tryz.func58.trans (congrArg some (by kernel_rfl))
 f276:=Tryz.func55.trans (congrArg some (by kernel_rfl))
 f277:=Tryz.func87.trans (congrArg some (by kernel_rfl))
 t0:=Tryz.underlying0
 a0:=Tryz.isAgg0
 z0:=Tryz.sizeOf0
 v0:=Tryz.zeroValue0
 t3:=Tryz.underlying3
 a3:=Tryz.isAgg3
 z3:=Tryz.sizeOf3
 v3:=Tryz.zeroValue3
 t4:=Tryz.underlying4
 a4:=Tryz.isAgg4
 z4:=Tryz.sizeOf4
 v4:=Tryz.zeroValue4
 t5:=Tryz.underlying5
 a5:=Tryz.isAgg5
 z5:=Tryz.sizeOf5
 v5:=Tryz.zeroValue5
 t9:=Tryz.underlying9
 a9:=Tryz.isAgg9
 z9:=Tryz.sizeOf9
 v9:=Tryz.zeroValue9
 t20:=Tryz.underlying20
 a20:=Tryz.isAgg20
 z20:=Tryz.sizeOf20
 v20:=Tryz.zeroValue20
 t37:=Tryz.underlying27
 a37:=Tryz.isAgg27
 z37:=Tryz.sizeOf27
 v37:=Tryz.zeroValue27
 t46:=Tryz.underlying65
 a46:=Tryz.isAgg65
 z46:=Tryz.sizeOf65
 v46:=Tryz.zeroValue65
 t51:=Tryz.underlying36
 a51:=Tryz.isAgg36
 z51:=Tryz.sizeOf36
 v51:=Tryz.zeroValue36
 t53:=Tryz.underlying64
 a53:=Tryz.isAgg64
 z53:=Tryz.sizeOf64
 v53:=Tryz.zeroValue64
 t70:=Tryz.underlying28
 a70:=Tryz.isAgg28
 z70:=Tryz.sizeOf28
 v70:=Tryz.zeroValue28
 t72:=Tryz.underlying30
 a72:=Tryz.isAgg30
 z72:=Tryz.sizeOf30
 v72:=Tryz.zeroValue30
 t75:=Tryz.underlying32
 a75:=Tryz.isAgg32
 z75:=Tryz.sizeOf32
 v75:=Tryz.zeroValue32
 t76:=Tryz.underlying33
 a76:=Tryz.isAgg33
 z76:=Tryz.sizeOf33
 v76:=Tryz.zeroValue33
 t109:=Tryz.underlying66
 a109:=Tryz.isAgg66
 z109:=Tryz.sizeOf66
 v109:=Tryz.zeroValue66
 t127:=Tryz.underlying69
 a127:=Tryz.isAgg69
 z127:=Tryz.sizeOf69
 v127:=Tryz.zeroValue69
 t146:=Tryz.underlying90
 a146:=Tryz.isAgg90
 z146:=Tryz.sizeOf90
 v146:=Tryz.zeroValue90
 t148:=Tryz.underlying92
 a148:=Tryz.isAgg92
 z148:=Tryz.sizeOf92
 v148:=Tryz.zeroValue92
 t164:=Tryz.underlying88
 a164:=Tryz.isAgg88
 z164:=Tryz.sizeOf88
 v164:=Tryz.zeroValue88 }
theorem Tryz.Builder_Extra_105:Builder.Extra Tryz.prog Tryz.lays105_ren:={
 sizeBuilder:=by kernel_rfl
 liesBuilder:=by kernel_rfl
 t5:=Tryz.underlying5
 a5:=Tryz.isAgg5
 z5:=Tryz.sizeOf5
 v5:=Tryz.zeroValue5
 infoByte:=by kernel_rfl
 cellsByte:=by kernel_rfl
 sizeByte:=by kernel_rfl
 neB5:=by decide }
open Go.RowKit Go.Lib in
theorem Tryz.strings_Repeat (s:ByteArray) (c:Nat) (w:World) (hc:c≤9223372036854775807) (hlen:s.size * c≤140737488355328) :
  Calls Tryz.prog 14 #[.string s,.int .i64 c] w fun e w'=>e=.returned (.string ⟨(Lib.repeatL s.data.toList c).toArray⟩)∧Below w.heap.size w w':=Any.strings_Repeat Tryz.lays105 Tryz.Builder_Extra_105 s c w hc hlen
end Go.Proofs
namespace Go.Proofs.YtocofhbdbgnmbaaGreatDoor
open Go Go.Shelf Go.RowKit Go.Sort Go.Lib
set_option maxHeartbeats 6400000
set_option maxRecDepth 100000
theorem formatUint_main (u : Nat) (hu64 : u < 18446744073709551616) (w : World) (htab : Lib.TabIs Tryz.prog w "internal/strconv.uint64pow10" .u64 Lib.pow10Tab) :
  Calls Tryz.prog 56 #[.int .u64 u,.int .i64 10] w fun e w'=>e=.returned (.string ⟨(Lib.decDigits u).toArray⟩)∧Below w.heap.size w w':=by
 have mixed:Tryz.prog.follows .mixedOrders=true:=by kernel_rfl
 have t3:=Tryz.underlying3;have a3:=Tryz.isAgg3;have z3:=Tryz.sizeOf3;have v3:=Tryz.zeroValue3
 have t9:=Tryz.underlying9;have a9:=Tryz.isAgg9;have z9:=Tryz.sizeOf9;have v9:=Tryz.zeroValue9
 have t4:=Tryz.underlying4;have a4:=Tryz.isAgg4;have z4:=Tryz.sizeOf4;have v4:=Tryz.zeroValue4
 have t142:=Tryz.underlying115;have a142:=Tryz.isAgg115;have z142:=Tryz.sizeOf115;have v142:=Tryz.zeroValue115
 have t0:=Tryz.underlying0;have a0:=Tryz.isAgg0;have z0:=Tryz.sizeOf0;have v0:=Tryz.zeroValue0
 have t119:=Tryz.underlying64;have a119:=Tryz.isAgg64;have z119:=Tryz.sizeOf64;have v119:=Tryz.zeroValue64
 have t85:=Tryz.underlying27;have a85:=Tryz.isAgg27;have z85:=Tryz.sizeOf27;have v85:=Tryz.zeroValue27
 have t5:=Tryz.underlying5;have a5:=Tryz.isAgg5;have z5:=Tryz.sizeOf5;have v5:=Tryz.zeroValue5
 have e137:∀ args w,(callFunc 83 args).run Tryz.prog w=.ok (.enter 83 args) w:=enters_of Tryz.func83 (by kernel_rfl) rfl
 have e138:∀ args w,(callFunc 84 args).run Tryz.prog w=.ok (.enter 84 args) w:=enters_of Tryz.func84 (by kernel_rfl) rfl
 have e139:∀ args w,(callFunc 85 args).run Tryz.prog w=.ok (.enter 85 args) w:=enters_of Tryz.func85 (by kernel_rfl) rfl
 by_cases hs:u<100
 ·go_enter Tryz.func56,Tryz.ntmps56
  go_wp2_with (go_at_fn (83);refine (Tryz.internal_strconv_small u hs _).mono ?_;rintro e w' ⟨rfl,rfl⟩)
  go_ret
  exact ⟨rfl,Below.refl _ _⟩
 ·have hu1:1≤u:=by omega
  have hnd20:Lib.nDigits u≤20:=by have:=Lib.numDigits_eq u hu1 hu64;split at this <;> omega
  have hal:Tryz.prog.arrayLen 115=24:=by simp[Program.arrayLen,Tryz.underlying115]
  have hsl:∀ W,(Instr.sliceAt 115 (.pointer (some ⟨w.heap.size,0,none⟩)) none (some (.int .i64 (Lib.nDigits u:Int))) none).run Tryz.prog W=.ok (.slice (some ⟨w.heap.size,0,none⟩) (Lib.nDigits u) 24) W:=fun W=>by
   rw[run_sliceAt_array_h W 115 ⟨w.heap.size,0,none⟩ (by simp[Program.arrayLen,Program.elem,Tryz.underlying115]) .i64 (Lib.nDigits u:Int) (by omega) (by rw[hal];omega)]
   go_simp
  have hH0:=Lib.holds_zero0 w 115 (Lib.nDigits u) (by omega)
  have hfmt:=Tryz.internal_strconv_formatBase10 w.heap.size 0 24 u (Array.replicate (Lib.nDigits u) 0) (w.alloc (.cells Lib.zeros24 115)) hH0 (by rw[Array.size_replicate];exact Lib.lt_pow_nDigits u) hu64 (by rw[Array.size_replicate];omega)
  rw[Array.size_replicate] at hfmt
  have HH0:=Lib.hid hH0
  clear hH0 hal
  go_enter Tryz.func56,Tryz.ntmps56
  go_wp2_with (first
   |(go_at_fn (84);refine (Tryz.internal_strconv_numDigits u hu1 hu64 _ (Lib.tabIs_alloc htab _)).mono ?_;rintro e w' ⟨rfl,rfl⟩))
  go_at_fn (85)
  refine hfmt.mono ?_
  rintro e w' ⟨rfl,k,v',dk,rfl,hF⟩
  have hcv:(convert 27 9 (.slice (some ⟨w.heap.size,0,none⟩) (Lib.nDigits u) 24)).run Tryz.prog ((putRow (fun (b:UInt8)=>Value.int .u8 (b.toNat:Int)) (w.alloc (.cells Lib.zeros24 115)) w.heap.size 0 dk).drewN k)=.ok (.string ⟨(Lib.decDigits u).toArray⟩) ((putRow (fun (b:UInt8)=>Value.int .u8 (b.toNat:Int)) (w.alloc (.cells Lib.zeros24 115)) w.heap.size 0 dk).drewN k):=by
   have h:=run_convert_bytes_back (P:=Tryz.prog) ((putRow (fun (b:UInt8)=>Value.int .u8 (b.toNat:Int)) (w.alloc (.cells Lib.zeros24 115)) w.heap.size 0 dk).drewN k) 27 9 5 ⟨w.heap.size,0,none⟩ 24 (Lib.decDigits u) Tryz.underlying27 Tryz.underlying5 Tryz.underlying9 (fun j hj=>by
    rw[Lib.row_is_numeral hF j hj,Lib.add_plain,World.cell?_drewN]
    exact cell?_putRow (fun (b:UInt8)=>Value.int .u8 (b.toNat:Int)) _ w.heap.size 0 _ dk HH0.out (by rw[hF.size,Array.size_replicate]) j (by rw[hF.size];rw[Lib.decDigits_length] at hj;exact hj))
   rw[Lib.decDigits_length] at h
   exact h
  go_wp2
  go_ret
  refine ⟨rfl,?_⟩
  obtain ⟨os,eo⟩:=Lib.fin_at w (.cells Lib.zeros24 115) dk k 0
  rw[eo]
  exact Lib.below_grow _ w (Nat.le_refl _) k os
end Go.Proofs.YtocofhbdbgnmbaaGreatDoor
