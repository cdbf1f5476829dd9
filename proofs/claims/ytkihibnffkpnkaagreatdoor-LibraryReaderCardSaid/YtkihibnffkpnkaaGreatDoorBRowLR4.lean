import Derived.Lib.Join
import Derived.Lib.Split
import Derived.Lib.Strings
import Derived.Lib.SlTrimSet
import Derived.Test.YtkihibnffkpnkaaGreatDoorBRowLR3
set_option linter.unusedVariables false
set_option linter.unusedSimpArgs false
set_option maxRecDepth 100000
set_option maxHeartbeats 4000000
open List (takeWhile_cons_of_pos eq_nil_of_length_eq_zero length_drop take_succ_cons count_cons takeWhile_cons_of_neg nil_append cons_append mem_cons_self count_append take_append_drop not_mem_nil take_zero getLast_mem foldl_cons all_reverse)
open Nat (zero_le add_assoc add_zero)
open Option (getD_some)
namespace Go.Stele
theorem qgi{c:UInt8}(hc:qdz c=true)(b:List UInt8):qbp (c::b)=(b.takeWhile qdz).length+1:=by
 have h47:([47,47]:List UInt8).isPrefixOf (c::b)=false:=by
  cases h:([47,47]:List UInt8).isPrefixOf (c::b) with
  |false=>rfl
  |true=>
   simp only[List.isPrefixOf,zBa,beq_iff_eq] at h;rw[<-h.1] at hc;exact absurd hc zDd
 unfold qbp;rw[h47,zn zDd,takeWhile_cons_of_pos hc]
 try rfl
theorem qkl:∀ (f g:Nat) (s:List UInt8) (line:Int),s.length<=f->s.length<=g->lexP f s line=lexP g s line
 |0,g,s,line,hf,_=>by
  have:s=[]:=eq_nil_of_length_eq_zero (by omega);subst this
  cases g with
  |zero=>rfl
  |succ g=>rw[lexP,lexP,zp rfl]
 |f+1,0,s,line,_,hg=>by
  have:s=[]:=eq_nil_of_length_eq_zero (by omega);subst this
  rw[lexP,lexP,zp rfl]
 |f+1,g+1,s,line,hf,hg=>by
  rw[lexP,lexP]
  by_cases h0:s=[]
  rw[zp h0,zp h0];rw[zn h0,zn h0]
  by_cases hk:qbp s=0
  rw[zp hk,zp hk]
  by_cases he:(qaw s).2.2≠0
  rw[zp he,zp he];rw[zn he,zn he];obtain⟨h1,h2⟩:=qfd s (by simpa using he);rw[qkl f g _ _ (by rw[length_drop];omega) (by rw[length_drop];omega)];rw[zn hk,zn hk];exact qkl f g _ _ (by rw[length_drop];omega) (by rw[length_drop];omega)
def qh6(s:List UInt8)(line:Int):Except (Int×Int) (List Tok):=lexP s.length s line
theorem qdh{f:Nat}{s:List UInt8}(h:s.length<=f)(line:Int):lexP f s line=qh6 s line:=qkl _ _ _ _ h (zNr _)
theorem qmW(line:Int):qh6 [] line=.ok []:=rfl
theorem qgF{c:UInt8}(hc:qdz c=true)(b:List UInt8)(line:Int):qh6 (c::b) line=qh6 b (line+(([c]:List UInt8).count 10:Nat)):=by
 rw[<-qdh (f:=b.length+1) (by simp),lexP,zn (by simp),zn (by rw[qgi hc];omega),qgi hc,List.drop_succ_cons,take_succ_cons,qdh (by rw[length_drop];omega)]
 cases b with
 |nil=>simp[qmW]
 |cons d b=>
  by_cases hd:qdz d=true
  rw[<-qdh (f:=b.length+1) (s:=d::b) (by simp),lexP,zn (by simp),zn (by rw[qgi hd];omega),qgi hd,takeWhile_cons_of_pos hd,zLc,List.drop_succ_cons,take_succ_cons,qdh (by rw[length_drop];omega)];congr 1;rw[count_cons,List.count_singleton,count_cons];omega;rw[takeWhile_cons_of_neg hd]
  simp
theorem qpv{p:UInt8->Bool}(hp:p 10=false)(b:List UInt8):∀ s:List UInt8,(s++10::b).takeWhile p=s.takeWhile p
 |[]=>by rw[nil_append,takeWhile_cons_of_neg (by simp[hp])];rfl
 |c::s=>by
  rw[cons_append]
  by_cases h:p c=true
  rw[takeWhile_cons_of_pos h,takeWhile_cons_of_pos h,qpv hp b s];rw[takeWhile_cons_of_neg h,takeWhile_cons_of_neg h]
theorem qnV(b:List UInt8):∀ (x s:List UInt8),(10:UInt8) ∉ x->x.isPrefixOf (s++10::b)=x.isPrefixOf s
 |[],s,_=>by simp
 |c::x,[],h=>by
  have:¬ c=10:=λhc=>h (by rw[hc];exact mem_cons_self ..)
  simp[List.isPrefixOf,this]
 |c::x,d::s,h=>by
  have:=qnV b x s λhx=>h (zMo _ hx);simp only[cons_append,List.isPrefixOf,this]
theorem qo2(b s:List UInt8):∀ L:List (List UInt8),(∀ x∈L,(10:UInt8) ∉ x)->L.find? (λx=>x.isPrefixOf (s++10::b))=L.find? (λx=>x.isPrefixOf s)
 |[],_=>rfl
 |x::L,h=>by
  rw[List.find?_cons,List.find?_cons,qnV b x s (h x zMs),qo2 b s L λy hy=>h y (zMo _ hy)]
theorem qm4(b s:List UInt8){n:Nat}(hn:n<=s.length):qdm (s++10::b) n=qdm s n:=by
 unfold qdm;rcases Nat.lt_or_ge n s.length with h|h;rw[List.getElem?_append_left h];have:n=s.length:=by omega
 subst this;rw[List.getElem?_append_right (zNr _),List.getElem?_eq_none (zNr _)];rw[Nat.sub_self,List.getElem?_cons_zero]
 try rfl
theorem qmf(b s:List UInt8)(h:(qaw s).2.2=0):qaw (s++10::b)=qaw s:=by
 match s with
 |[]=>simp[qaw,qcb] at h
 |c::r=>
  simp only[cons_append,qaw] at h ⊢
  by_cases hc:qao c=true
  rw[zp hc,zp hc];unfold qdq;have e1:(c::(r++10::b)).takeWhile qao=(c::r).takeWhile qao:=qpv zDd b (c::r);have e2:=qm4 b (c::r) (qex qao (c::r));rw[cons_append] at e2;rw[e1,e2];rw[zn hc] at h ⊢;rw[zn hc]
  by_cases hl:qaV c=true
  rw[zp hl,zp hl];unfold qfF;have e1:(c::(r++10::b)).takeWhile qaW=(c::r).takeWhile qaW:=qpv zDd b (c::r);rw[e1];rw[zn hl] at h ⊢;rw[zn hl]
  by_cases hq:decide (cv c=39)=true
  rw[zp hq] at h ⊢;rw[zp hq]
  match r with
  |[]=>simp[qcr,qcb] at h
  |[d]=>simp[qcr,qcb] at h
  |d::e::r=>rfl
  rw[zn hq,zn hq];unfold qgx;have e1:=qo2 b (c::r) qcO zDd;rw[cons_append] at e1;rw[e1]
theorem qhu(b:List UInt8):∀ (n:Nat) (s:List UInt8) (line:Int) (A:List Tok),s.length<=n->qh6 s line=.ok A->qh6 (s++10::b) line=(qh6 b (line+(s.count 10:Nat)+1)).map (A++·)
 |n,[],line,A,_,h=>by
  rw[qmW] at h;cases h;rw[nil_append,qgF zDd]
  simp
  cases qh6 b (line+1) <;> rfl
 |0,c::r,_,_,hn,_=>by simp at hn
 |n+1,c::r,line,A,hn,h=>by
  by_cases hw:qdz c=true
  rw[qgF hw] at h;rw[cons_append,qgF hw,qhu b n r _ A (by simpa using hn) h];rw[count_cons (l:=r),List.count_singleton];congr 2;omega;have hkeep:(c::r).takeWhile qdz=[]:=takeWhile_cons_of_neg hw;have hp:([47,47]:List UInt8).isPrefixOf (c::r++10::b)=([47,47]:List UInt8).isPrefixOf (c::r):=qnV b [47,47] (c::r) zDd
  have hk:qbp (c::r++10::b)=qbp (c::r):=by
   unfold qbp;rw[hp,qpv zDd,hkeep,cons_append,takeWhile_cons_of_neg hw]
  rw[<-qdh (f:=n+1) hn,lexP,zn (by simp)] at h;rw[<-qdh (f:=(r++10::b).length+1) (by simp),lexP,zn (by simp),hk]
  by_cases hz:qbp (c::r)=0
  ·rw[zp hz] at h ⊢
   by_cases he:(qaw (c::r)).2.2≠0
   rw[zp he] at h;cases h;have he':(qaw (c::r)).2.2=0:=by simpa using he
   rw[zn he] at h;obtain⟨h1,h2⟩:=qfd _ he';rw[qmf b _ he',zn he,List.drop_append_of_le_length h2,List.take_append_of_le_length h2];rw[qdh (by rw[length_drop];omega)] at h;rw[qdh (by simp only[zLa,length_drop,zLc] at h2 ⊢;omega)]
   cases hx:qh6 ((c::r).drop (qaw (c::r)).2.1) (line+(((c::r).take (qaw (c::r)).2.1).count 10:Nat)) with
   |error e=>rw[hx] at h;cases h
   |ok A2=>
    rw[hx] at h;cases h;rw[qhu b n _ _ A2 (by rw[length_drop];omega) hx];have hc:(c::r).count 10=((c::r).take (qaw (c::r)).2.1).count 10+((c::r).drop (qaw (c::r)).2.1).count 10:=by rw[<-count_append,take_append_drop]
    rw[show line+(((c::r).take (qaw (c::r)).2.1).count 10:Nat)+(((c::r).drop (qaw (c::r)).2.1).count 10:Nat)+1=line+((c::r).count 10:Nat)+1 by rw[hc];omega]
    try cases qh6 b (line+((c::r).count 10:Nat)+1) <;> rfl
  rw[zn hz] at h ⊢;have h2:=qkF (c::r);rw[List.drop_append_of_le_length h2,List.take_append_of_le_length h2];rw[qdh (by rw[length_drop];omega)] at h;rw[qdh (by simp only[zLa,length_drop,zLc] at h2 ⊢;omega)];rw[qhu b n _ _ A (by rw[length_drop];omega) h];have hc:(c::r).count 10=((c::r).take (qbp (c::r))).count 10+((c::r).drop (qbp (c::r))).count 10:=by rw[<-count_append,take_append_drop]
  congr 2;rw[hc];omega
def kt(t:Tok):Int×List UInt8:=(t.kind,t.text)
theorem qi6:∀ (f:Nat) (s:List UInt8) (l1 l2:Int) (A:List Tok),lexP f s l1=.ok A->∃ B,lexP f s l2=.ok B/\B.map kt=A.map kt
 |0,_,_,_,_,h=>by
  cases h
  exact⟨[],rfl,rfl⟩
 |f+1,s,l1,l2,A,h=>by
  rw[lexP] at h ⊢;split at h
  rename_i h0
  cases h;rw[zp h0];exact⟨[],rfl,rfl⟩
  rename_i h0
  rw[zn h0];split at h
  ·rename_i hk
   rw[zp hk];split at h;cases h
   rename_i he
   rw[zn he]
   cases hx:lexP f (s.drop (qaw s).2.1) (l1+((s.take (qaw s).2.1).count 10:Nat)) with
   |error e=>rw[hx] at h;cases h
   |ok A2=>
    rw[hx] at h;cases h;obtain⟨B,h1,h2⟩:=qi6 f _ _ (l2+((s.take (qaw s).2.1).count 10:Nat)) A2 hx;rw[h1];exact⟨_,rfl,by rw[zMc,zMc,h2];try rfl⟩
  rename_i hk
  rw[zn hk];exact qi6 f _ _ _ A h
open Go.Lib
theorem qoW{d:Nat}(h:d<10):qao (UInt8.ofNat (48+d))=true:=by
 have h1:(UInt8.ofNat (48+d)).toNat=48+d:=qkf h;unfold qao cv;rw[h1]
 simp
 omega
theorem qgf(u:Nat):∀ c∈decDigits u,qao c=true:=by
 induction u using Nat.strongRecOn with
 |ind u ih=>
  intro c hc
  by_cases h:u<10
  rw[decDigits_one h] at hc;rw[List.mem_singleton.1 hc];exact qoW h;rw[decDigits,dif_neg h] at hc;rcases List.mem_append.1 hc with hc|hc;exact ih (u / 10) (by omega) c hc;rw[List.mem_singleton.1 hc];exact qoW (by omega)
theorem qcP(w:Wd)(n:Nat):numW w=some n ↔ n<4294967296/\decDigits n=w:=by
 unfold numW;constructor;intro h;split at h
 rename_i u hu
 split at h
 rename_i he
 cases h;exact⟨qnu hu,he⟩;cases h;cases h;rintro⟨h1,h2⟩;subst h2;rw[qlZ n h1]
 simp
theorem qjh{w:Wd}{n:Nat}(h:numW w=some n):n<4294967296:=((qcP w n).1 h).1
theorem qgb{n:Nat}(h:n<4294967296):numW (decDigits n)=some n:=(qcP _ n).2 ⟨h,rfl⟩
theorem qkg{a b c:Nat}{op:Wd}(ha:a<4294967296)(hb:b<4294967296)(h:qd7 a op b=some c):c<4294967296:=by
 unfold qd7 at h;split at h;cases h;omega;split at h;cases h;omega;split at h;cases h;exact Nat.mod_lt _ zDd;split at h;cases h;exact Nat.xor_lt_two_pow (n:=32) ha hb;split at h;cases h;split <;> decide;split at h;split at h;cases h;cases h;exact Nat.lt_of_le_of_lt (Nat.div_le_self _ _) ha;split at h;split at h;cases h;cases h
 rename_i hb0
 have:=Nat.mod_lt a (Nat.pos_of_ne_zero hb0);omega;cases h
def qbT(v:List Wd):Prop:=wdAt v 0=[48]/\(wdAt v 1=[43]∨wdAt v 1=[45]∨wdAt v 1=[94])∨wdAt v 0=[49]/\(wdAt v 1=[42]∨wdAt v 1=[47])
instance(v:List Wd):Decidable (qbT v):=by unfold qbT;infer_instance
def qa1(v:List Wd):Prop:=(wdAt v 1=[43]∨wdAt v 1=[42]∨wdAt v 1=[94])/\wdAt v 3=wdAt v 1
instance(v:List Wd):Decidable (qa1 v):=by unfold qa1;infer_instance
def qhg(v:List Wd):Prop:=(numW (wdAt v 0)).isSome=true/\wdAt v 1=[64]/\wdAt v 2=wdAt v 0/\wdAt v 3=[33]
instance(v:List Wd):Decidable (qhg v):=by unfold qhg;infer_instance
def qc6(v:List Wd):Prop:=(qdd v 4).isSome=true/\wdAt v 0=[49]/\wdAt v 1=[60]/\wdAt v 2=[49]/\wdAt v 3=[60]
instance(v:List Wd):Decidable (qc6 v):=by unfold qc6;infer_instance
def qen(v:List Wd):Bool:=match numW (wdAt v 0) with
 |some n=>decide (n≠0/\(qdd v 1).isSome=true)
 |none=>false
def qia(v:List Wd):Bool:=match qdd v 1 with
 |some l=>decide (wdAt v 0=[48]/\qf0 l (v.drop 3)=true)
 |none=>false
def qku(v:List Wd):Prop:=0<qcv v/\0<qbV (v.drop (qcv v))
instance(v:List Wd):Decidable (qku v):=by unfold qku;infer_instance
def qdB(v:List Wd):Option Wd:=qa2 (wdAt v 0) (wdAt v 2) (wdAt v 1)
def qbn(v:List Wd):Option Wd:=qa2 (wdAt v 0) (wdAt v 1) (wdAt v 2)
section
variable{v:List Wd}{used:Wd->Bool}
theorem qvW{s:Wd}(h:qdB v=some s):qhE v=(3,[s]):=by unfold qhE;unfold qdB at h;rw[h]
theorem qfX(h:qdB v=none):qhE v=(0,[]):=by unfold qhE;unfold qdB at h;rw[h]
theorem qqM(h:qbT v):qcV v=(2,[]):=zp h
theorem qc8(h:¬ qbT v):qcV v=(0,[]):=zn h
theorem qql{s:Wd}(h:qa1 v)(h2:qbn v=some s):qcy v=(4,[s,wdAt v 1]):=by
 unfold qcy;unfold qbn at h2;unfold qa1 at h;rw[zp h,h2]
theorem qdW(h:¬ qa1 v∨qbn v=none):qcy v=(0,[]):=by
 unfold qcy;unfold qbn at h
 by_cases hc:qa1 v
 rcases h with h|h;exact absurd hc h;unfold qa1 at hc;rw[zp hc,h];unfold qa1 at hc;rw[zn hc]
theorem qvG(h:qhg v):qiE v=(4,[]):=zp h
theorem qj4(h:¬ qhg v):qiE v=(0,[]):=zn h
theorem qtj(h:qc6 v):qdx v=(6,[wdAt v 4,wdAt v 5]):=zp h
theorem qgW(h:¬ qc6 v):qdx v=(0,[]):=zn h
theorem quK(h:qen v=true):qeV v=(3,[]):=by
 unfold qen at h;unfold qeV;split at h
 ·rename_i n hn
  try rw[hn]
  exact zp (of_decide_eq_true h)
 cases h
theorem qlD(h:qen v=false):qeV v=(0,[]):=by
 unfold qen at h;unfold qeV;split at h
 ·rename_i n hn
  try rw[hn]
  exact zn (of_decide_eq_false h)
 rename_i hn
 first|rw[hn]|rfl
theorem qwN(h:qia v=true):qhN v=(3,[]):=by
 unfold qia at h;unfold qhN;split at h
 ·rename_i n hn
  try rw[hn]
  exact zp (of_decide_eq_true h)
 cases h
theorem qsX(h:qia v=false):qhN v=(0,[]):=by
 unfold qia at h;unfold qhN;split at h
 ·rename_i n hn
  try rw[hn]
  exact zn (of_decide_eq_false h)
 rename_i hn
 first|rw[hn]|rfl
theorem qwh(h:qku v):qiB v=(qcv v+qbV (v.drop (qcv v)),v.take (qcv v)):=zp h
theorem qwv(h:¬ qku v):qiB v=(0,[]):=zn h
theorem quq{s:Wd}(h:qdB v=some s):qa3 used v=(3,[s]):=by
 unfold qa3;rw[qvW h]
 try rfl
theorem qtH(h1:qdB v=none)(h:qbT v):qa3 used v=(2,[]):=by
 unfold qa3;rw[qfX h1,qqM h]
 try rfl
theorem que{s:Wd}(h1:qdB v=none)(h2:¬ qbT v)(h:qa1 v)(h':qbn v=some s):qa3 used v=(4,[s,wdAt v 1]):=by
 unfold qa3;rw[qfX h1,qc8 h2,qql h h']
 try rfl
theorem quA(h1:qdB v=none)(h2:¬ qbT v)(h3:¬ qa1 v∨qbn v=none)(h:qhg v):qa3 used v=(4,[]):=by
 unfold qa3;rw[qfX h1,qc8 h2,qdW h3,qvG h]
 try rfl
theorem quW(h1:qdB v=none)(h2:¬ qbT v)(h3:¬ qa1 v∨qbn v=none)(h4:¬ qhg v)(h:qc6 v):qa3 used v=(6,[wdAt v 4,wdAt v 5]):=by
 unfold qa3;rw[qfX h1,qc8 h2,qdW h3,qj4 h4,qtj h]
 try rfl
theorem qt0(h1:qdB v=none)(h2:¬ qbT v)(h3:¬ qa1 v∨qbn v=none)(h4:¬ qhg v)(h5:¬ qc6 v)(h:qen v=true):qa3 used v=(3,[]):=by
 unfold qa3;rw[qfX h1,qc8 h2,qdW h3,qj4 h4,qgW h5,quK h]
 try rfl
theorem quk(h1:qdB v=none)(h2:¬ qbT v)(h3:¬ qa1 v∨qbn v=none)(h4:¬ qhg v)(h5:¬ qc6 v)(h6:qen v=false)(h:qia v=true):qa3 used v=(3,[]):=by
 unfold qa3;rw[qfX h1,qc8 h2,qdW h3,qj4 h4,qgW h5,qlD h6,qwN h]
 try rfl
theorem qt4(h1:qdB v=none)(h2:¬ qbT v)(h3:¬ qa1 v∨qbn v=none)(h4:¬ qhg v)(h5:¬ qc6 v)(h6:qen v=false)(h7:qia v=false)(h:qku v):qa3 used v=(qcv v+qbV (v.drop (qcv v)),v.take (qcv v)):=by
 unfold qa3;have h0:qcv v+qbV (v.drop (qcv v))≠0:=by have:=h.1;omega
 rw[qfX h1,qc8 h2,qdW h3,qj4 h4,qgW h5,qlD h6,qsX h7,qwh h];simp only[ne_eq,not_true_eq_false,if_false,h0,not_false_eq_true,if_true]
theorem qtC(h1:qdB v=none)(h2:¬ qbT v)(h3:¬ qa1 v∨qbn v=none)(h4:¬ qhg v)(h5:¬ qc6 v)(h6:qen v=false)(h7:qia v=false)(h8:¬ qku v):qa3 used v=qcB used v:=by
 unfold qa3;rw[qfX h1,qc8 h2,qdW h3,qj4 h4,qgW h5,qlD h6,qsX h7,qwv h8]
 try rfl
end
def qaO(c:UInt8):List UInt8->List (List UInt8)
 |[]=>[[]]
 |d::r=>if d=c then []::qaO c r else match qaO c r with
  |p::ps=>(d::p)::ps
  |[]=>[[d]]
theorem qhi(c:UInt8):∀ s,∃ p ps,qaO c s=p::ps
 |[]=>⟨_,_,rfl⟩
 |d::r=>by
  obtain⟨p,ps,h⟩:=qhi c r;rw[qaO,h];split;exact⟨_,_,rfl⟩;exact⟨_,_,rfl⟩
theorem qeK(c:UInt8)(r:List UInt8):qaO c (c::r)=[]::qaO c r:=by rw[qaO,zp rfl]
theorem qe1{c d:UInt8}(h:d≠c)(r:List UInt8):∃ p ps,qaO c r=p::ps/\qaO c (d::r)=(d::p)::ps:=by
 obtain⟨p,ps,hp⟩:=qhi c r;exact⟨p,ps,hp,by rw[qaO,zn h,hp]⟩
theorem qdZ{c:UInt8}:∀ {s:List UInt8},c ∉ s->qaO c s=[s]
 |[],_=>rfl
 |d::r,h=>by
  have hd:d≠c:=λe=>h (by rw[e];exact mem_cons_self ..);have hr:c ∉ r:=λe=>h (zMo _ e);rw[qaO,zn hd,qdZ hr]
theorem qh7{c:UInt8}:∀ {a b:List UInt8},c ∉ a->qaO c (a++c::b)=a::qaO c b
 |[],b,_=>qeK c b
 |d::a,b,h=>by
  have hd:d≠c:=λe=>h (by rw[e];exact mem_cons_self ..);have ha:c ∉ a:=λe=>h (zMo _ e);rw[cons_append,qaO,zn hd,qh7 ha]
theorem qgj{c:UInt8}:∀ {s:List UInt8},c ∉ s->index s [c] = -1
 |[],_=>rfl
 |d::r,h=>by
  have hd:¬ c=d:=λe=>h (by rw[e];exact mem_cons_self ..);have hr:c ∉ r:=λe=>h (zMo _ e);have hp:([c]:List UInt8).isPrefixOf (d::r)=false:=by simp[List.isPrefixOf,hd]
  rw[index,hp,qgj hr]
  try rfl
theorem qgP{c:UInt8}:∀ {a b:List UInt8},c ∉ a->index (a++c::b) [c]=(a.length:Int)
 |[],b,_=>by
  have hp:([c]:List UInt8).isPrefixOf (c::b)=true:=by simp[List.isPrefixOf]
  rw[nil_append,index,hp]
  try rfl
 |d::a,b,h=>by
  have hd:¬ c=d:=λe=>h (by rw[e];exact mem_cons_self ..);have ha:c ∉ a:=λe=>h (zMo _ e);have hp:([c]:List UInt8).isPrefixOf (d::(a++c::b))=false:=by simp[List.isPrefixOf,hd]
  rw[cons_append,index,hp,qgP ha,zn zDd,zn (by
   intro h;have:=eq_of_beq h
   omega)]
  simp
theorem qjo{c:UInt8}{s:List UInt8}(h:c∈s):∃ a b,s=a++c::b/\c ∉ a:=List.eq_append_cons_of_mem h
theorem qvL(c:UInt8)(s:List UInt8):(cut s [c]).1=s.takeWhile (λd=>decide (d≠c)):=by
 by_cases h:c∈s
 obtain⟨a,b,rfl,ha⟩:=qjo h
 have h1:∀ x∈a,decide (x≠c)=true:=λx hx=>by
  simp only[zDe];rintro rfl;exact ha hx
 rw[cut,qgP ha,zp (by omega),List.takeWhile_append_of_pos h1,takeWhile_cons_of_neg (by simp)]
 simp
 have h1:∀ x∈s,decide (x≠c)=true:=λx hx=>by
  simp only[zDe];rintro rfl;exact h hx
 rw[cut,qgj h,zn zDd];have:=List.takeWhile_append_of_pos (l₂:=[]) h1;simpa using this.symm
theorem qg6(c:UInt8):∀ (f:Nat) (s:List UInt8),s.length<f->countFrom [c] f s=s.count c
 |0,s,h=>by omega
 |f+1,s,h=>by
  rw[countFrom]
  by_cases hc:c∈s
  ·obtain⟨a,b,rfl,ha⟩:=qjo hc
   rw[qgP ha,zn (by
    intro h;have:=eq_of_beq h
    omega)]
   have hd:(a++c::b).drop ((a.length:Int).toNat+[c].length)=b:=by
    rw[show(a.length:Int).toNat+[c].length=a.length+1 by simp];rw[<-List.drop_drop,List.drop_left]
    try rfl
   rw[hd,qg6 c f b (by simp only[zLa,zLc] at h;omega)];rw[count_append,List.count_cons_self,List.count_eq_zero.2 ha];omega
  rw[qgj hc,zp zDd,List.count_eq_zero.2 hc]
theorem qkK(c:UInt8):∀ (k:Nat) (s:List UInt8),s.count c<=k->splitK [c] 0 k s=qaO c s
 |0,s,h=>by
  have hc:c ∉ s:=List.count_eq_zero.1 (by omega)
  rw[splitK,qdZ hc]
 |k+1,s,h=>by
  rw[splitK]
  by_cases hc:c∈s
  ·obtain⟨a,b,rfl,ha⟩:=qjo hc
   rw[qgP ha,zn (by
    intro h;have:=eq_of_beq h
    omega),qh7 ha]
   have hd:(a++c::b).drop ((a.length:Int).toNat+[c].length)=b:=by
    rw[show(a.length:Int).toNat+[c].length=a.length+1 by simp];rw[<-List.drop_drop,List.drop_left]
    try rfl
   rw[hd,show(a.length:Int).toNat+0=a.length by simp,List.take_left,qkK c k b (by
    rw[count_append,List.count_cons_self] at h
    omega)]
  rw[qgj hc,zp zDd,qdZ hc]
theorem qq3(c:UInt8)(s:List UInt8):split s [c]=qaO c s:=by
 rw[split,count,qkK c _ s (by rw[qg6 c _ s (by omega)];exact zNr _)]
def full(l:List (List UInt8)):List Wd:=l.filter λw=>decide (w≠[])
def qfJ(s:List UInt8):List Wd:=full (qaO 32 (s.takeWhile λd=>decide (d≠35)))
def qbi(s:List UInt8):List Wd:=(qaO 10 s).flatMap qfJ
def qfl(cur:List UInt8):List Wd:=if cur=[] then [] else [cur]
def qiG:List UInt8->Bool->List UInt8->List Wd
 |cur,_,[]=>qfl cur
 |cur,com,c::r=>
  if c=10 then qfl cur++qiG [] false r
  else if com=true then qiG cur true r
  else if c=35 then qfl cur++qiG [] true r
  else if c=32 then qfl cur++qiG [] false r
  else qiG (cur++[c]) false r
def qhA(cur:List UInt8)(com:Bool)(l:List UInt8):List Wd:=if com=true then qfl cur else qfJ (cur++l)
theorem quw(a b:List (List UInt8)):full (a++b)=full a++full b:=List.filter_append ..
theorem qlH(a:List UInt8):full [a]=qfl a:=by
 unfold full qfl
 by_cases h:a=[] <;> simp[h]
def qeN(cur:List UInt8):Prop:=∀ c∈cur,c≠10/\c≠32/\c≠35
theorem qrj{cur:List UInt8}(h:qeN cur)(l:List UInt8):qfJ (cur++35::l)=qfl cur:=by
 have h1:∀ x∈cur,decide (x≠35)=true:=λx hx=>by simp only[zDe];exact(h x hx).2.2
 have h2:(32:UInt8) ∉ cur:=λhx=>(h 32 hx).2.1 rfl;unfold qfJ;rw[List.takeWhile_append_of_pos h1,takeWhile_cons_of_neg (by simp),zLz,qdZ h2,qlH]
theorem qlk{cur:List UInt8}(h:qeN cur):qfJ cur=qfl cur:=by
 have h1:∀ x∈cur,decide (x≠35)=true:=λx hx=>by simp only[zDe];exact(h x hx).2.2
 have h2:(32:UInt8) ∉ cur:=λhx=>(h 32 hx).2.1 rfl;have h3:=List.takeWhile_append_of_pos (l₂:=[]) h1;rw[zLz,List.takeWhile_nil,zLz] at h3;unfold qfJ;rw[h3,qdZ h2,qlH]
theorem qkz{cur:List UInt8}(h:qeN cur)(l:List UInt8):qfJ (cur++32::l)=qfl cur++qfJ l:=by
 have h1:∀ x∈cur,decide (x≠35)=true:=λx hx=>by simp only[zDe];exact(h x hx).2.2
 have h2:(32:UInt8) ∉ cur:=λhx=>(h 32 hx).2.1 rfl;unfold qfJ;rw[List.takeWhile_append_of_pos h1,takeWhile_cons_of_pos zDd,qh7 h2,<-List.singleton_append,quw,qlH]
theorem qhZ:∀ (s cur:List UInt8) (com:Bool) (p:List UInt8) (ps:List (List UInt8)),qeN cur->(com=true->cur=[])->qaO 10 s=p::ps->qiG cur com s=qhA cur com p++ps.flatMap qfJ
 |[],cur,com,p,ps,hc,hcom,hp=>by
  cases hp;rw[qiG,qhA]
  cases com with
  |true=>simp
  |false=>simp[qlk hc]
 |c::r,cur,com,p,ps,hc,hcom,hp=>by
  obtain⟨q,qs,hq⟩:=qhi 10 r;rw[qiG]
  by_cases h10:c=10
  subst h10;rw[qeK,hq] at hp;cases hp;rw[zp rfl,qhZ r [] false q qs (λx hx=>by cases hx) (by simp) hq]
  have:qhA cur com []=qfl cur:=by
   unfold qhA
   cases com with
   |true=>rfl
   |false=>rw[zn zDd,zLz,qlk hc]
  rw[this];simp[qhA];clear hq;obtain⟨q,qs,hq,hp'⟩:=qe1 h10 r;rw[hp'] at hp;cases hp;rw[zn h10]
  cases com with
  |true=>
   obtain rfl:=hcom rfl;rw[zp rfl,qhZ r [] true q ps (λx hx=>by cases hx) (λ_=>rfl) hq]
   simp[qhA]
  |false=>
   rw[zn zDd]
   by_cases h35:c=35
   subst h35;rw[zp rfl,qhZ r [] true q ps (λx hx=>by cases hx) (λ_=>rfl) hq];have:qhA cur false (35::q)=qfl cur:=by unfold qhA;rw[zn zDd,qrj hc]
   rw[this];simp[qhA,qfl];rw[zn h35]
   by_cases h32:c=32
   subst h32;rw[zp rfl,qhZ r [] false q ps (λx hx=>by cases hx) (by simp) hq];have:qhA cur false (32::q)=qfl cur++qfJ q:=by unfold qhA;rw[zn zDd,qkz hc]
   rw[this,zAs];simp[qhA]
   rw[zn h32,qhZ r (cur++[c]) false q ps (λx hx=>by
    rcases List.mem_append.1 hx with h|h;exact hc x h;obtain rfl:=List.mem_singleton.1 h
    exact⟨h10,h32,h35⟩) (by simp) hq]
   simp[qhA]
theorem qpZ(s:List UInt8):qiG [] false s=qbi s:=by
 obtain⟨p,ps,hp⟩:=qhi 10 s;rw[qhZ s [] false p ps (λx hx=>by cases hx) (by simp) hp];unfold qbi;rw[hp];simp[qhA]
theorem qpy(used:Wd->Bool):∀ (f:Nat) (l:List Wd),l.length<=f->qcC used f l=l∨(qcC used f l).length<l.length
 |0,l,h=>by
  have:l=[]:=eq_nil_of_length_eq_zero (by omega);subst this
  exact .inl rfl
 |f+1,[],_=>.inl rfl
 |f+1,w::r,h=>by
  rw[qcC];split;rcases qpy used f r (by simp only[zLc] at h;omega) with h1|h1;rw[h1];exact .inl rfl;right;simp only[zLc];omega
  rename_i h0
  obtain⟨h1,h2⟩:=qft used (w::r) h0;have:=qjF used f ((w::r).drop (qa3 used (w::r)).1);rw[length_drop] at this;right;rw[zLa];omega
theorem qlt(l:List Wd):qei l=l∨(qei l).length<l.length:=qpy _ _ l (zNr _)
def optF:Nat->List Wd->List Wd
 |0,l=>l
 |f+1,l=>if qei l=l then l else optF f (qei l)
def optP(l:List Wd):List Wd:=optF l.length l
theorem qmv:∀ (f g:Nat) (l:List Wd),l.length<=f->l.length<=g->optF f l=optF g l
 |0,0,_,_,_=>rfl
 |0,g+1,l,h,_=>by
  have:l=[]:=eq_nil_of_length_eq_zero (by omega);subst this
  rw[optF,optF,zp (by rfl)]
 |f+1,0,l,_,h=>by
  have:l=[]:=eq_nil_of_length_eq_zero (by omega);subst this
  rw[optF,optF,zp (by rfl)]
 |f+1,g+1,l,h1,h2=>by
  rw[optF,optF];split;rfl
  rename_i h
  rcases qlt l with h3|h3;exact absurd h3 h;exact qmv f g (qei l) (by omega) (by omega)
theorem qvJ{l:List Wd}(h:qei l=l):optP l=l:=by
 unfold optP
 cases l with
 |nil=>rfl
 |cons w r=>rw[zLc,optF,zp h]
theorem qsW{l:List Wd}(h:qei l≠l):optP l=optP (qei l):=by
 rcases qlt l with h3|h3;exact absurd h3 h;have h4:∃ k,l.length=k+1:=⟨l.length-1,by omega⟩;obtain⟨k,hk⟩:=h4;unfold optP;rw[hk,optF,zn h];exact qmv _ _ _ (by omega) (zNr _)
theorem qls{v:List Wd}{i:Nat}(h:i<v.length):wdAt v i∈v:=by
 unfold wdAt;rw[List.getElem?_eq_getElem h];exact List.getElem_mem h
theorem qhH{x op y s:Wd}(h:qa2 x op y=some s):∃ c,c<4294967296/\s=decDigits c:=by
 unfold qa2 at h;split at h
 rename_i a b ha hb
 split at h
 rename_i c hc
 split at h;cases h;exact⟨c,qkg (qjh ha) (qjh hb) hc,rfl⟩;cases h;cases h;cases h
theorem quB{P:Wd->Prop}(hd:∀ n,n<4294967296->P (decDigits n))(used:Wd->Bool)(v:List Wd)(hv:∀ w∈v,P w):∀ w∈(qa3 used v).2,P w:=by
 have none:∀ n:Nat,∀ w∈((n,[]):qeZ).2,P w:=λ_ w hw=>by cases hw
 by_cases h1:∃ s,qdB v=some s
 obtain⟨s,h1⟩:=h1;rw[quq h1];obtain⟨c,hc,rfl⟩:=qhH h1;intro w hw;rcases List.mem_singleton.1 hw with rfl;exact hd c hc
 have h1:qdB v=Option.none:=by
  cases h:qdB v with
  |none=>rfl
  |some s=>exact absurd ⟨s,h⟩ h1
 by_cases h2:qbT v
 rw[qtH h1 h2];exact none _
 by_cases h3:qa1 v/\∃ s,qbn v=some s
 obtain⟨h3,s,h4⟩:=h3;rw[que h1 h2 h3 h4];obtain⟨c,hc,rfl⟩:=qhH h4;have h5:=qbU (qcR h4).2.1;intro w hw;simp only[zMi,not_mem_nil,or_false] at hw;rcases hw with rfl|rfl;exact hd c hc;exact hv _ (qls h5)
 have h3:¬ qa1 v∨qbn v=Option.none:=by
  by_cases hc:qa1 v
  exact zT24;exact .inl hc
 by_cases h4:qhg v
 rw[quA h1 h2 h3 h4];exact none _
 by_cases h5:qc6 v
 rw[quW h1 h2 h3 h4 h5];obtain⟨l,hl⟩:=Option.isSome_iff_exists.1 h5.1;have h6:=qcF hl;intro w hw;simp only[zMi,not_mem_nil,or_false] at hw;rcases hw with rfl|rfl;exact hv _ (qls (by omega));exact hv _ (qls (by omega))
 cases h6:qen v with
 |true=>rw[qt0 h1 h2 h3 h4 h5 h6];exact none _
 |false=>
  cases h7:qia v with
  |true=>rw[quk h1 h2 h3 h4 h5 h6 h7];exact none _
  |false=>
   by_cases h8:qku v
   rw[qt4 h1 h2 h3 h4 h5 h6 h7 h8];exact λw hw=>hv w (List.mem_of_mem_take hw);rw[qtC h1 h2 h3 h4 h5 h6 h7 h8];unfold qcB;split;split <;> exact none _;exact none _
theorem qfW{P:Wd->Prop}(hd:∀ n,n<4294967296->P (decDigits n))(used:Wd->Bool):∀ (f:Nat) (l:List Wd),(∀ w∈l,P w)->∀ w∈qcC used f l,P w
 |0,_,_=>λw hw=>by cases hw
 |f+1,[],_=>λw hw=>by cases hw
 |f+1,a::r,hl=>by
  rw[qcC];split;intro w hw;rcases zMi.1 hw with rfl|hw;exact hl _ zMs;exact qfW hd used f r (λx hx=>hl x (zMo _ hx)) w hw;intro w hw;rcases List.mem_append.1 hw with hw|hw;exact quB hd used (a::r) hl w hw;exact qfW hd used f _ (λx hx=>hl x (List.mem_of_mem_drop hx)) w hw
theorem qo6{P:Wd->Prop}(hd:∀ n,n<4294967296->P (decDigits n)):∀ (f:Nat) (l:List Wd),(∀ w∈l,P w)->∀ w∈optF f l,P w
 |0,l,h=>h
 |f+1,l,h=>by
  rw[optF];split;exact h;exact qo6 hd f _ (qfW hd _ _ l h)
theorem qtM{P:Wd->Prop}(hd:∀ n,n<4294967296->P (decDigits n)){l:List Wd}(h:∀ w∈l,P w):∀ w∈optP l,P w:=qo6 hd _ l h
def qbr(w:Wd):Prop:=w≠[]/\qeN w
theorem qfs(n:Nat):qbr (decDigits n):=⟨qcq n,λc hc=>by
 have:=qgf n c hc
 refine⟨?_,?_,?_⟩ <;> (rintro rfl;exact absurd this zDd)⟩
theorem qin{c:UInt8}{l:List UInt8}:∀ p∈qaO c l,c ∉ p/\∀ x∈p,x∈l:=by
 induction l with
 |nil=>
  intro p hp;obtain rfl:=List.mem_singleton.1 hp
  exact⟨by simp,by simp⟩
 |cons d r ih=>
  intro p hp
  by_cases h:d=c
  subst h;rw[qeK] at hp;rcases zMi.1 hp with rfl|hp;exact⟨by simp,by simp⟩;exact⟨(ih p hp).1,λx hx=>zMo _ ((ih p hp).2 x hx)⟩;obtain⟨q,qs,h1,h2⟩:=qe1 h r;rw[h2] at hp;rw[h1] at ih;rcases zMi.1 hp with rfl|hp;have:=ih q zMs;refine⟨λhm=>?_,λx hx=>?_⟩;rcases zMi.1 hm with e|hm;exact h e.symm;exact this.1 hm;rcases zMi.1 hx with rfl|hx;exact mem_cons_self ..;exact zMo _ (this.2 x hx);have:=ih p (zMo _ hp);exact⟨this.1,λx hx=>zMo _ (this.2 x hx)⟩
theorem qn7{l:List UInt8}(h:(10:UInt8) ∉ l):∀ w∈qfJ l,qbr w:=by
 intro w hw;obtain⟨h1,h2⟩:=List.mem_filter.1 hw;obtain⟨h3,h4⟩:=qin w h1;refine⟨of_decide_eq_true h2,λc hc=>⟨?_,?_,?_⟩⟩;rintro rfl;exact h ((List.takeWhile_prefix _).subset (h4 _ hc));rintro rfl;exact h3 hc;rintro rfl
 have:∀ (l:List UInt8),(35:UInt8) ∉ l.takeWhile λd=>decide (d≠35):=by
  intro l
  induction l with
  |nil=>simp
  |cons d r ih=>
   rw[List.takeWhile_cons];split
   rename_i hd
   intro hm;rcases zMi.1 hm with e|hm;rw[<-e] at hd;simp at hd;exact ih hm
   simp
 exact this _ (h4 _ hc)
theorem qii(s:List UInt8):∀ w∈qbi s,qbr w:=by
 intro w hw;obtain⟨p,hp,hw⟩:=List.mem_flatMap.1 hw;exact qn7 (qin p hp).1 w hw
theorem qjZ(x y:Wd)(r:List Wd):join (x::y::r) [32]=x++32::join (y::r) [32]:=by simp[join]
theorem qnp:∀ (l:List Wd),(∀ w∈l,qbr w)->(10:UInt8) ∉ join l [32]
 |[],_=>by simp[join]
 |[a],h=>by
  rw[join_one]
  exact λhm=>((h a zMs).2 10 hm).1 rfl
 |a::b::r,h=>by
  rw[qjZ];intro hm;rcases List.mem_append.1 hm with hm|hm;exact((h a zMs).2 10 hm).1 rfl;rcases zMi.1 hm with e|hm;exact absurd e zDd;exact qnp (b::r) (λx hx=>h x (zMo _ hx)) hm
theorem qmQ:∀ (l:List Wd),(∀ w∈l,qbr w)->qfJ (join l [32])=l
 |[],_=>rfl
 |[a],h=>by
  obtain⟨h1,h2⟩:=h a zMs;rw[join_one,qlk h2]
  simp[qfl,h1]
 |a::b::r,h=>by
  obtain⟨h1,h2⟩:=h a zMs;rw[qjZ,qkz h2,qmQ (b::r) λx hx=>h x (zMo _ hx)];simp[qfl,h1]
theorem qf2{l:List Wd}(h:∀ w∈l,qbr w):qbi (join l [32])=l:=by
 unfold qbi;rw[qdZ (qnp l h)];simp[qmQ l h]
theorem qtL{a b:List Wd}(ha:∀ w∈a,qbr w)(hb:∀ w∈b,qbr w)(h:join a [32]=join b [32]):a=b:=by
 rw[<-qf2 ha,<-qf2 hb,h]
theorem qqs{l:List Wd}(h:∀ w∈l,qbr w):∀ w∈qei l,qbr w:=qfW (λn _=>qfs n) _ _ l h
theorem qtb{l:List Wd}(h:∀ w∈l,qbr w):∀ w∈optP l,qbr w:=qtM (λn _=>qfs n) h
def qcc(s:List UInt8):List UInt8×Int:=if 400000<s.length then ([],6) else (join (optP (qbi s)) [32],0)
def tot(l:List Wd):Nat:=(l.map λw=>w.length+1).sum
theorem qaM(w:Wd)(l:List Wd):tot (w::l)=w.length+1+tot l:=by simp[tot]
theorem qa9:tot []=0:=rfl
theorem qbc(a b:List Wd):tot (a++b)=tot a+tot b:=by simp[tot]
theorem qmV(l:List Wd)(n:Nat):tot l=tot (l.take n)+tot (l.drop n):=by rw[<-qbc,take_append_drop]
theorem qgh:∀ l:List Wd,(join l [32]).length<=tot l
 |[]=>zero_le _
 |[a]=>by
  rw[join_one,qaM]
  omega
 |a::b::r=>by
  have:=qgh (b::r);rw[qjZ,qaM];simp only[zLa,zLc];omega
theorem qeR{x op y s:Wd}(h:qa2 x op y=some s):s.length<=x.length+y.length+1:=by
 unfold qa2 at h;split at h;split at h;split at h
 rename_i hle
 cases h;exact hle;cases h;cases h;cases h
theorem qtB(used:Wd->Bool)(v:List Wd):tot (qa3 used v).2<=tot (v.take (qa3 used v).1):=by
 by_cases h1:∃ s,qdB v=some s
 obtain⟨s,h1⟩:=h1;rw[quq h1];have hl:=qeR h1;have hlt:=qbU (qcR h1).2.1
 match v,hlt,hl with
 |a::b::c::r,_,hl=>
  simp only[wdAt,List.getElem?_cons_zero,List.getElem?_cons_succ,getD_some] at hl;simp only[take_succ_cons,take_zero,qaM,qa9];omega
 have h1:qdB v=Option.none:=by
  cases h:qdB v with
  |none=>rfl
  |some s=>exact absurd ⟨s,h⟩ h1
 by_cases h2:qbT v
 rw[qtH h1 h2];exact zero_le _
 by_cases h3:qa1 v/\∃ s,qbn v=some s
 obtain⟨h3,s,h4⟩:=h3;rw[que h1 h2 h3 h4];have hl:=qeR h4;have h5:wdAt v 3≠[]:=by rw[h3.2];exact(qcR h4).2.1
 have hlt:=qbU h5
 match v,hlt,hl with
 |a::b::c::d::r,_,hl=>
  simp only[wdAt,List.getElem?_cons_zero,List.getElem?_cons_succ,getD_some] at hl ⊢;simp only[take_succ_cons,take_zero,qaM,qa9];omega
 have h3:¬ qa1 v∨qbn v=Option.none:=by
  by_cases hc:qa1 v
  exact zT24;exact .inl hc
 by_cases h4:qhg v
 rw[quA h1 h2 h3 h4];exact zero_le _
 by_cases h5:qc6 v
 rw[quW h1 h2 h3 h4 h5];obtain⟨l,hl⟩:=Option.isSome_iff_exists.1 h5.1;have h6:=qcF hl
 match v,h6 with
 |a::b::c::d::e::f::r,_=>
  simp only[wdAt,List.getElem?_cons_zero,List.getElem?_cons_succ,getD_some];simp only[take_succ_cons,take_zero,qaM,qa9];omega
 cases h6:qen v with
 |true=>rw[qt0 h1 h2 h3 h4 h5 h6];exact zero_le _
 |false=>
  cases h7:qia v with
  |true=>rw[quk h1 h2 h3 h4 h5 h6 h7];exact zero_le _
  |false=>
   by_cases h8:qku v
   rw[qt4 h1 h2 h3 h4 h5 h6 h7 h8];simp only;have:=qmV (v.take (qcv v+qbV (v.drop (qcv v)))) (qcv v);rw[List.take_take,Nat.min_eq_left (by omega)] at this;omega;rw[qtC h1 h2 h3 h4 h5 h6 h7 h8];unfold qcB;split;split <;> exact zero_le _;exact zero_le _
theorem qha(used:Wd->Bool):∀ (f:Nat) (l:List Wd),tot (qcC used f l)<=tot l
 |0,_=>zero_le _
 |f+1,[]=>zNr _
 |f+1,a::r=>by
  rw[qcC];split;rw[qaM,qaM];have:=qha used f r;omega;have h1:=qtB used (a::r);have h2:=qha used f ((a::r).drop (qa3 used (a::r)).1);have h3:=qmV (a::r) (qa3 used (a::r)).1;rw[qbc];omega
theorem qpO:∀ (f:Nat) (l:List Wd),tot (optF f l)<=tot l
 |0,l=>zNr _
 |f+1,l=>by
  rw[optF];split;exact zNr _;exact zNt (qpO f _) (qha _ _ l)
theorem qge:∀ (s cur:List UInt8) (com:Bool),tot (qiG cur com s)<=cur.length+s.length+1
 |[],cur,com=>by
  rw[qiG];unfold qfl;split;exact zero_le _
  simp[tot]
 |c::r,cur,com=>by
  have hf:tot (qfl cur)<=cur.length+1:=by
   unfold qfl;split;exact zero_le _;simp[tot]
  rw[qiG];simp only[zLc];split;have:=qge r [] false;rw[qbc];simp only[zLn] at this;omega;split;have:=qge r cur true;omega;split;have:=qge r [] true;rw[qbc];simp only[zLn] at this;omega;split;have:=qge r [] false;rw[qbc];simp only[zLn] at this;omega;have:=qge r (cur++[c]) false;rw[zLa,List.length_singleton] at this;omega
theorem qhf(s:List UInt8):tot (qbi s)<=s.length+1:=by
 rw[<-qpZ];have:=qge s [] false;simpa using this
theorem qpI(s:List UInt8):(join (optP (qbi s)) [32]).length<=s.length+1:=
 zNt (qgh _) (zNt (qpO _ _) (qhf s))
theorem qoI(c:UInt8)(r:List UInt8):qkd (c::r)=(decide ((c::r).length<=40) && qaV c && (c::r).all qaW):=rfl
theorem quQ{s:Wd}(h:qkd s=true):s≠[]:=by
 rintro rfl;cases h
def qkv:Nat->List (List UInt8)->List (Wd×Nat)
 |_,[]=>[]
 |n,l::r=>(qfJ l).map (λw=>(w,n+1))++qkv (n+1) r
def qgo(s:List UInt8):List (Wd×Nat):=qkv 0 (qaO 10 s)
theorem qmo:∀ (l:List (List UInt8)) (n:Nat),(qkv n l).map (·.1)=l.flatMap qfJ
 |[],_=>rfl
 |a::r,n=>by
  rw[qkv,zMa,List.map_map,qmo r];simp[Function.comp_def]
theorem qd6(s:List UInt8):(qgo s).map (·.1)=qbi s:=qmo _ 0
theorem qpV{l:List (List UInt8)}{i:Nat}(h:i<l.length)(n:Nat):qkv n (l.drop i)=(qfJ l[i]).map (λw=>(w,n+1))++qkv (n+1) (l.drop (i+1)):=by
 rw[List.drop_eq_getElem_cons h,qkv]
theorem qrl{l:List (List UInt8)}{i:Nat}(h:i<l.length):full (l.drop i)=if l[i]=[] then full (l.drop (i+1)) else l[i]::full (l.drop (i+1)):=by
 rw[List.drop_eq_getElem_cons h];unfold full;rw[List.filter_cons]
 by_cases hc:l[i]=[]
 simp[hc];simp[hc]
theorem qh4(c:UInt8):∀ s,(qaO c s).length<=s.length+1
 |[]=>by simp[qaO]
 |d::r=>by
  have:=qh4 c r
  by_cases h:d=c
  subst h;rw[qeK];simp only[zLc];omega;obtain⟨p,ps,h1,h2⟩:=qe1 h r;rw[h2];rw[h1] at this;simp only[zLc] at this ⊢;omega
theorem qdi{c:UInt8}:∀ {s p:List UInt8},p∈qaO c s->p.length<=s.length
 |[],p,h=>by
  obtain rfl:=List.mem_singleton.1 h
  exact zNr _
 |d::r,p,h=>by
  by_cases hd:d=c
  subst hd;rw[qeK] at h;rcases zMi.1 h with rfl|h;exact zero_le _;have:=qdi h;simp only[zLc];omega;obtain⟨q,qs,h1,h2⟩:=qe1 hd r;rw[h2] at h;rcases zMi.1 h with rfl|h;have:=qdi (c:=c) (s:=r) (p:=q) (by rw[h1];exact mem_cons_self ..);simp only[zLc];omega;have:=qdi (c:=c) (s:=r) (p:=p) (by rw[h1];exact zMo _ h);simp only[zLc];omega
theorem qie(s:List UInt8):(qbi s).length<=s.length+1:=by
 have h1:=qhf s
 have h2:(qbi s).length<=tot (qbi s):=by
  unfold tot;generalize qbi s=l
  induction l with
  |nil=>exact zNr _
  |cons a l ih=>
   simp only[zLc,zMc,List.sum_cons];omega
 omega
theorem qrc{l:List Wd}{w:Wd}(h:w∈l):w.length+1<=tot l:=by
 induction l with
 |nil=>cases h
 |cons a l ih=>
  rw[qaM];rcases zMi.1 h with rfl|h;omega;have:=ih h;omega
theorem qlG(l:List Wd):l.length<=tot l:=by
 induction l with
 |nil=>exact zero_le _
 |cons a l ih=>
  rw[qaM,zLc];omega
theorem qtc(l:List Wd):tot (qei l)<=tot l:=qha _ _ _
def qch:List UInt8:=[43,45,42,47,37,94,60,64,33,63,58,59,44,46,36,48,49,50,51,52,53,54,55,56,57]
def qiJ(w:Wd):Bool:=w.all λc=>qch.contains c
def defs(l:List Wd):List Wd:=l.filterMap defW
def OkW(ds:List Wd)(w:Wd):Prop:=match defW w with
 |some _=>True
 |none=>match refW w with
  |some d=>d∈ds
  |none=>qiJ w=true
def qgn(l:List Wd):Prop:=(defs l).Nodup/\∀ w∈l,OkW (defs l) w
def qbP(w:Wd):Bool:=match w with
 |[]=>false
 |c::_=>qao c
def qbb(w:Wd):Bool:=match w.getLast? with
 |some c=>qao c
 |none=>false
def one(d:Bool):Nat:=if d=true then 1 else 0
def lenW:Bool->List Wd->Nat
 |_,[]=>0
 |d,w::r=>match defW w with
  |some _=>lenW d r
  |none=>match refW w with
   |some _=>one d+6+lenW true r
   |none=>one (d && qbP w)+w.length+lenW (qbb w) r
structure Sign(w:Wd):Prop where
 d:defW w=none
 r:refW w=none
 f:qbP w=false
 l:qbb w=false
 n:w.length=1
structure Num(w:Wd):Prop where
 d:defW w=none
 r:refW w=none
 f:qbP w=true
 l:qbb w=true
 n:1<=w.length
 c:qiJ w=true
theorem qkE{c:UInt8}(h:qao c=true):qch.contains c=true:=by
 have:∀ n:Nat,n<256->qao (UInt8.ofNat n)=true->qch.contains (UInt8.ofNat n)=true:=by decide +kernel
 have h1:=this c.toNat c.toNat_lt;rw[UInt8.ofNat_toNat] at h1;exact h1 h
theorem qjv(n:Nat):Num (decDigits n):=by
 have hd:=qgf n;have hne:=qcq n;generalize decDigits n=w at hd hne
 cases w with
 |nil=>exact absurd rfl hne
 |cons c r=>
  have hc:=hd c zMs;have hl:(c::r).getLast? = some ((c::r).getLast (by simp)):=List.getLast?_eq_some_getLast (by simp);have hlm:=hd _ (getLast_mem (l:=c::r) (by simp));refine⟨?_,?_,hc,?_,by simp,?_⟩;unfold defW;rw[hl,zn];intro h;rw[Option.some.inj h.1] at hlm;exact absurd hlm zDd;unfold refW;simp only;rw[zn];intro h;rw[h.1] at hc;exact absurd hc zDd;unfold qbb;rw[hl];exact hlm;unfold qiJ;rw[List.all_eq_true];exact λx hx=>qkE (hd x hx)
theorem qka{w:Wd}{n:Nat}(h:numW w=some n):Num w:=by
 rw[<-((qcP w n).1 h).2];exact qjv n
theorem qda{w:Wd}(h:w∈([[43],[45],[42],[94],[60],[47],[37],[64],[33],[63],[59],[36]]:List Wd)):Sign w:=by
 have:∀ w∈([[43],[45],[42],[94],[60],[47],[37],[64],[33],[63],[59],[36]]:List Wd),defW w=none/\refW w=none/\qbP w=false/\qbb w=false/\w.length=1:=by decide +kernel
 obtain⟨h1,h2,h3,h4,h5⟩:=this w h;exact⟨h1,h2,h3,h4,h5⟩
theorem qrA{a b c:Nat}{op:Wd}(h:qd7 a op b=some c):Sign op:=by
 apply qda;unfold qd7 at h;simp only[zMi,not_mem_nil,or_false];split at h;exact .inl ‹_›;split at h;exact .inr (.inl ‹_›);split at h;exact .inr (.inr (.inl ‹_›));split at h;exact .inr (.inr (.inr (.inl ‹_›)));split at h;exact .inr (.inr (.inr (.inr (.inl ‹_›))));split at h;exact .inr (.inr (.inr (.inr (.inr (.inl ‹_›)))));split at h;exact .inr (.inr (.inr (.inr (.inr (.inr (.inl ‹_›))))));cases h
theorem qfZ{x op y s:Wd}(h:qa2 x op y=some s):Num x/\Sign op/\Num y/\Num s:=by
 obtain⟨c,_,rfl⟩:=qhH h;unfold qa2 at h;split at h
 rename_i a b ha hb
 split at h
 rename_i c' hc
 exact⟨qka ha,qrA hc,qka hb,qjv c⟩;cases h;cases h
theorem qbe{w d:Wd}(h:refW w=some d):defW w=none:=by
 unfold refW at h;split at h;cases h
 rename_i c r
 split at h
 rename_i hc
 obtain⟨rfl,hn⟩:=hc;unfold defW;rw[zn];rintro⟨_,h2⟩
 cases r with
 |nil=>cases hn
 |cons e r=>
  rw[List.dropLast_cons_of_ne_nil (by simp),qoI] at h2;have:qaV 38=false:=by decide
  rw[this] at h2;simp at h2
 cases h
theorem qhR{v:List Wd}{i:Nat}{l:Wd}(h:qdd v i=some l):refW (wdAt v i)=some l/\wdAt v (i+1)=[63]:=by
 unfold qdd at h;split at h
 rename_i d hd
 split at h;cases h;exact⟨hd,‹_›⟩;cases h;cases h
theorem qt3{w l:Wd}(h:defW w=some l)(d:Bool)(r:List Wd):lenW d (w::r)=lenW d r:=by
 rw[lenW,h]
theorem qoZ{w l:Wd}(h:refW w=some l)(d:Bool)(r:List Wd):lenW d (w::r)=one d+6+lenW true r:=by
 rw[lenW,qbe h,h]
theorem Sign.len{w:Wd}(h:Sign w)(d:Bool)(r:List Wd):lenW d (w::r)=1+lenW false r:=by
 rw[lenW,h.d,h.r,h.f,h.l,h.n,Bool.and_false];simp[one]
theorem Num.len{w:Wd}(h:Num w)(d:Bool)(r:List Wd):lenW d (w::r)=one d+w.length+lenW true r:=by
 rw[lenW,h.d,h.r,h.f,h.l,Bool.and_true]
theorem one_le(d:Bool):one d<=1:=by cases d <;> simp[one]
theorem qol:∀ r:List Wd,lenW true r<=lenW false r+1/\lenW false r<=lenW true r
 |[]=>⟨by simp[lenW],by simp[lenW]⟩
 |w::r=>by
  have ih:=qol r;have e1:one true=1:=rfl;have e0:one false=0:=rfl;have h1:=one_le (qbP w);rw[lenW,lenW]
  cases defW w with
  |some l=>exact ih
  |none=>
   cases refW w with
   |some l=>simp only;omega
   |none=>
    simp only[Bool.true_and,Bool.false_and,e0];omega
theorem ql7(d:Bool)(r:List Wd):lenW d r<=lenW false r+1/\lenW false r<=lenW d r:=by
 cases d with
 |true=>exact qol r
 |false=>exact⟨by omega,zNr _⟩
theorem qeE(r:List Wd):∀ (m:List Wd) (d:Bool),lenW false r<=lenW d (m++r)
 |[],d=>(ql7 d r).2
 |w::m,d=>by
  rw[cons_append,lenW]
  cases defW w with
  |some l=>exact qeE r m d
  |none=>
   cases refW w with
   |some l=>have:=qeE r m true;simp only;omega
   |none=>have:=qeE r m (qbb w);simp only;omega
theorem qjb{w:Wd}(h:Num w∨Sign w)(m r:List Wd)(d:Bool):lenW d r<=lenW d (w::(m++r)):=by
 have h1:=(ql7 d r).1;rcases h with h|h;have h2:=qeE r m true;have h3:=h.n;rw[h.len];omega;have h2:=qeE r m false;rw[h.len];omega
theorem qfM{x y:List Wd}(h:∀ d,lenW d x<=lenW d y):∀ (m:List Wd) (d:Bool),lenW d (m++x)<=lenW d (m++y)
 |[],d=>h d
 |w::m,d=>by
  rw[cons_append,cons_append,lenW,lenW]
  cases defW w with
  |some l=>exact qfM h m d
  |none=>
   cases refW w with
   |some l=>have:=qfM h m true;simp only;omega
   |none=>have:=qfM h m (qbb w);simp only;omega
theorem qcT(w:Wd)(l:List Wd):defs (w::l)=(match defW w with|some d=>[d]|none=>[])++defs l:=by
 unfold defs;rw[List.filterMap_cons]
 try cases defW w <;> rfl
theorem qaB{w:Wd}(h:defW w=none)(l:List Wd):defs (w::l)=defs l:=by rw[qcT,h];try rfl
theorem qgc(a b:List Wd):defs (a++b)=defs a++defs b:=List.filterMap_append
theorem qr7{p:Wd->Bool}:∀ {l:List Wd} {x:Wd},x∈l.takeWhile p->p x=true
 |[],x,h=>by cases h
 |a::l,x,h=>by
  rw[List.takeWhile_cons] at h;split at h;rcases zMi.1 h with rfl|h
  assumption
  exact qr7 h;cases h
structure RuleFine(used:Wd->Bool)(v:List Wd)(r:qeZ):Prop where
 len:∀ d rest,lenW d (r.2++rest)<=lenW d (v.take r.1++rest)
 put:defs r.2=[]
 took:∀ d∈defs (v.take r.1),used d=false
theorem num0:Num [48]:=qjv 0 |> λh=>by rwa [decDigits_one zDd] at h
theorem num1:Num [49]:=qjv 1 |> λh=>by rwa [decDigits_one zDd] at h
theorem qg2(used:Wd->Bool)(v:List Wd)(h:(qa3 used v).1≠0):RuleFine used v (qa3 used v):=by
 by_cases h1:∃ s,qdB v=some s
 ·obtain⟨s,h1⟩:=h1;rw[quq h1];have hl:=qeR h1;have hlt:=qbU (qcR h1).2.1;obtain⟨k1,k2,k3,k4⟩:=qfZ h1
  match v,hlt,hl,k1,k2,k3 with
  |a::b::c::r,_,hl,k1,k2,k3=>
   simp only[wdAt,List.getElem?_cons_zero,List.getElem?_cons_succ,getD_some] at hl k1 k2 k3;refine⟨λd rest=>?_,by rw[qaB k4.d];try rfl,λd hd=>?_⟩;simp only[take_succ_cons,take_zero,cons_append,nil_append];rw[k4.len,k1.len,k3.len,k2.len];have:=(qol rest).1;have e1:one true=1:=rfl;omega;simp only[take_succ_cons,take_zero] at hd;rw[qaB k1.d,qaB k3.d,qaB k2.d] at hd;cases hd
 have h1:qdB v=Option.none:=by
  cases h:qdB v with
  |none=>rfl
  |some s=>exact absurd ⟨s,h⟩ h1
 by_cases h2:qbT v
 rw[qtH h1 h2]
 have hop:Num (wdAt v 0)/\Sign (wdAt v 1):=by
  rcases h2 with⟨e,h|h|h⟩|⟨e,h|h⟩;exact⟨by rw[e];exact num0,by rw[h];exact qda zDd⟩;exact⟨by rw[e];exact num0,by rw[h];exact qda zDd⟩;exact⟨by rw[e];exact num0,by rw[h];exact qda zDd⟩;exact⟨by rw[e];exact num1,by rw[h];exact qda zDd⟩;exact⟨by rw[e];exact num1,by rw[h];exact qda zDd⟩
 have hlt:1<v.length:=qbU (by intro h0;have:=hop.2.n;rw[h0] at this;cases this)
 match v,hlt,hop with
 |a::b::r,_,hop=>
  simp only[wdAt,List.getElem?_cons_zero,List.getElem?_cons_succ,getD_some] at hop;refine⟨λd rest=>qjb (.inl hop.1) [b] rest d,rfl,λd hd=>?_⟩;simp only[take_succ_cons,take_zero] at hd;rw[qaB hop.1.d,qaB hop.2.d] at hd;cases hd
 by_cases h3:qa1 v/\∃ s,qbn v=some s
 ·obtain⟨h3,s,h4⟩:=h3;rw[que h1 h2 h3 h4];have hl:=qeR h4;have h5:wdAt v 3≠[]:=by rw[h3.2];exact(qcR h4).2.1
  have hlt:=qbU h5;have heq:=h3.2;obtain⟨k1,k2,k3,k4⟩:=qfZ h4
  match v,hlt,hl,k1,k2,k3,heq with
  |a::b::c::e::r,_,hl,k1,k2,k3,heq=>
   simp only[wdAt,List.getElem?_cons_zero,List.getElem?_cons_succ,getD_some] at hl k1 k2 k3 heq ⊢;subst heq;refine⟨λd rest=>?_,by rw[qaB k4.d,qaB k2.d];try rfl,λd hd=>?_⟩;simp only[take_succ_cons,take_zero,cons_append,nil_append];rw[k4.len,k1.len,k2.len,k2.len,k3.len,k2.len];omega;simp only[take_succ_cons,take_zero] at hd;rw[qaB k1.d,qaB k2.d,qaB k3.d,qaB k2.d] at hd;cases hd
 have h3:¬ qa1 v∨qbn v=Option.none:=by
  by_cases hc:qa1 v
  exact zT24;exact .inl hc
 by_cases h4:qhg v
 rw[quA h1 h2 h3 h4];obtain⟨g1,g2,g3,g4⟩:=h4;obtain⟨n,hn⟩:=Option.isSome_iff_exists.1 g1;have kn:=qka hn;have hlt:=qbU (v:=v) (i:=3) (by rw[g4];decide)
 match v,hlt,g2,g3,g4,kn with
 |a::b::c::e::r,_,g2,g3,g4,kn=>
  simp only[wdAt,List.getElem?_cons_zero,List.getElem?_cons_succ,getD_some] at g2 g3 g4 kn;subst g2 g3 g4;refine⟨λd rest=>qjb (.inl kn) [[64],c,[33]] rest d,rfl,λd hd=>?_⟩;simp only[take_succ_cons,take_zero] at hd;rw[qaB kn.d,qaB (qda zDd).d,qaB kn.d,qaB (qda zDd).d] at hd;cases hd
 by_cases h5:qc6 v
 ·rw[quW h1 h2 h3 h4 h5];obtain⟨g0,g1,g2,g3,g4⟩:=h5;obtain⟨l,hl⟩:=Option.isSome_iff_exists.1 g0;have h6:=qcF hl;obtain⟨j1,j2⟩:=qhR hl
  match v,h6,g1,g2,g3,g4,j1,j2 with
  |a::b::c::e::p::q::r,_,g1,g2,g3,g4,j1,j2=>
   simp only[wdAt,List.getElem?_cons_zero,List.getElem?_cons_succ,getD_some] at g1 g2 g3 g4 j1 j2 ⊢;subst g1 g2 g3 g4 j2;have s60:Sign [60]:=qda zDd;have s63:Sign [63]:=qda zDd;refine⟨λd rest=>?_,by rw[qaB (qbe j1),qaB s63.d];try rfl,λd hd=>?_⟩;simp only[take_succ_cons,take_zero,cons_append,nil_append];rw[num1.len,s60.len,num1.len,s60.len];have:=(ql7 d (p::[63]::rest)).1;have e1:([49]:Wd).length=1:=rfl;omega;simp only[take_succ_cons,take_zero] at hd;rw[qaB num1.d,qaB s60.d,qaB num1.d,qaB s60.d,qaB (qbe j1),qaB s63.d] at hd;cases hd
 have three:∀ (x:Wd),Num x->wdAt v 0=x->(qdd v 1).isSome=true->RuleFine used v (3,[]):=λx hx h0 hj=>by
  obtain⟨l,hl⟩:=Option.isSome_iff_exists.1 hj;have h6:=qcF hl;obtain⟨j1,j2⟩:=qhR hl;clear h hj
  match v,h6,h0,j1,j2 with
  |a::p::q::r,_,h0,j1,j2=>
   simp only[wdAt,List.getElem?_cons_zero,List.getElem?_cons_succ,getD_some] at h0 j1 j2;subst h0 j2;refine⟨λd rest=>qjb (.inl hx) [p,[63]] rest d,rfl,λd hd=>?_⟩;simp only[take_succ_cons,take_zero] at hd;rw[qaB hx.d,qaB (qbe j1),qaB (qda zDd).d] at hd;cases hd
 cases h6:qen v with
 |true=>
  rw[qt0 h1 h2 h3 h4 h5 h6];unfold qen at h6;split at h6
  rename_i n hn
  exact three _ (qka hn) rfl (of_decide_eq_true h6).2
  cases h6
 |false=>
  cases h7:qia v with
  |true=>
   rw[quk h1 h2 h3 h4 h5 h6 h7];unfold qia at h7;split at h7
   ·rename_i l hl
    exact three _ num0 (of_decide_eq_true h7).1 (by rw[hl];try rfl)
   cases h7
  |false=>
   by_cases h8:qku v
   ·rw[qt4 h1 h2 h3 h4 h5 h6 h7 h8]
    have hst:defs (v.take (qcv v))=[]/\∀ (d:Bool) (x y:List Wd),lenW false x<=lenW false y->lenW d (v.take (qcv v)++x)<=lenW d (v.take (qcv v)++y):=by
     have hp:=h8.1;revert hp;unfold qcv;split
     ·rename_i hj
      intro _;obtain⟨l,hl⟩:=Option.isSome_iff_exists.1 hj.1;have h6:=qcF hl;obtain⟨j1,j2⟩:=qhR hl;have h0:=hj.2;clear hj h8 hl h h1 h2 h3 h4 h5 h7 three
      match v,h6,h0,j1,j2 with
      |a::p::q::r,_,h0,j1,j2=>
       simp only[wdAt,List.getElem?_cons_zero,List.getElem?_cons_succ,getD_some] at h0 j1 j2;subst h0 j2;have s63:Sign [63]:=qda zDd;refine⟨?_,λd x y hxy=>?_⟩
       ·simp only[take_succ_cons,take_zero];rw[qaB num0.d,qaB (qbe j1),qaB s63.d]
        try rfl
       simp only[take_succ_cons,take_zero,cons_append,nil_append];rw[num0.len,num0.len,qoZ j1,qoZ j1,s63.len,s63.len];omega
     split
     ·rename_i hs
      intro _
      have hsg:Sign (wdAt v 0):=by
       rcases hs with h|h <;> rw[h] <;> exact qda zDd
      have hlt:0<v.length:=qbU (by intro h0;have:=hsg.n;rw[h0] at this;cases this);clear hs h8 h h1 h2 h3 h4 h5 h6 h7 three
      match v,hlt,hsg with
      |a::r,_,hsg=>
       simp only[wdAt,List.getElem?_cons_zero,getD_some] at hsg;refine⟨?_,λd x y hxy=>?_⟩
       ·simp only[take_succ_cons,take_zero];rw[qaB hsg.d]
        try rfl
       simp only[take_succ_cons,take_zero,cons_append,nil_append];rw[hsg.len,hsg.len];omega
     intro hp;omega
    have htk:v.take (qcv v+qbV (v.drop (qcv v)))=v.take (qcv v)++(v.drop (qcv v)).takeWhile λw=>(defW w).isNone:=by
     rw[List.take_add];congr 1;unfold qbV;exact(List.prefix_iff_eq_take.1 (List.takeWhile_prefix _)).symm
    refine⟨λd rest=>?_,hst.1,λd hd=>?_⟩;simp only;rw[htk,zAs];exact hst.2 d _ _ (qeE rest _ false);simp only at hd;rw[htk,qgc,hst.1,nil_append] at hd;exfalso;obtain⟨w,hw,hwd⟩:=List.mem_filterMap.1 hd;have:=qr7 hw;rw[hwd] at this;cases this
   rw[qtC h1 h2 h3 h4 h5 h6 h7 h8] at h ⊢
   have hU:qcB used v=match defW (wdAt v 0) with
    |some l=>if used l=true then (0,[]) else (1,[])
    |none=>(0,[]):=rfl
   cases hd:defW (wdAt v 0) with
   |none=>rw[hd] at hU;rw[hU] at h;exact absurd rfl h
   |some l=>
    rw[hd] at hU;simp only at hU
    by_cases hu:used l=true
    rw[zp hu] at hU;rw[hU] at h;exact absurd rfl h;rw[zn hu] at hU;rw[hU];have hlt:0<v.length:=qbU (by intro h0;rw[h0] at hd;cases hd);clear hU h h1 h2 h3 h4 h5 h6 h7 h8 three
    match v,hlt,hd with
    |a::r,_,hd=>
     simp only[wdAt,List.getElem?_cons_zero,getD_some] at hd;refine⟨λd rest=>?_,rfl,λd hdd=>?_⟩;simp only[take_succ_cons,take_zero,cons_append,nil_append];rw[qt3 hd];exact zNr _;simp only[take_succ_cons,take_zero] at hdd;rw[qcT,hd] at hdd;have:d=l:=by simpa [defs] using hdd
     rw[this];exact Bool.eq_false_iff.2 hu
theorem qh1(used:Wd->Bool):∀ (f:Nat) (l:List Wd) (d:Bool),l.length<=f->lenW d (qcC used f l)<=lenW d l
 |0,l,d,h=>by
  have:l=[]:=eq_nil_of_length_eq_zero (by omega);subst this
  exact zNr _
 |f+1,[],d,_=>zNr _
 |f+1,w::r,d,h=>by
  rw[qcC];split;exact qfM (x:=qcC used f r) (y:=r) (λd=>qh1 used f r d (by simp only[zLc] at h;omega)) [w] d
  rename_i h0
  have hR:=qg2 used (w::r) h0;have hk:=qft used (w::r) h0;have ih:=λd=>qh1 used f ((w::r).drop (qa3 used (w::r)).1) d (by rw[length_drop];omega);have h1:=qfM ih (qa3 used (w::r)).2 d;have h2:=hR.len d ((w::r).drop (qa3 used (w::r)).1);rw[take_append_drop] at h2;exact zNt h1 h2
theorem qhP(used:Wd->Bool):∀ (f:Nat) (l:List Wd),l.length<=f->(defs (qcC used f l)).Sublist (defs l)/\∀ d∈defs l,used d=true->d∈defs (qcC used f l)
 |0,l,h=>by
  have:l=[]:=eq_nil_of_length_eq_zero (by omega);subst this
  exact⟨List.Sublist.refl _,λd hd=>by cases hd⟩
 |f+1,[],_=>⟨List.Sublist.refl _,λd hd=>by cases hd⟩
 |f+1,w::r,h=>by
  rw[qcC];split;obtain⟨i1,i2⟩:=qhP used f r (by simp only[zLc] at h;omega);rw[qcT w r,qcT w (qcC used f r)];refine⟨List.Sublist.append (List.Sublist.refl _) i1,λd hd hu=>?_⟩;rcases List.mem_append.1 hd with hd|hd;exact List.mem_append_left _ hd;exact List.mem_append_right _ (i2 d hd hu)
  rename_i h0
  have hR:=qg2 used (w::r) h0;obtain⟨i1,i2⟩:=qhP used f ((w::r).drop (qa3 used (w::r)).1) (by have:=qft used (w::r) h0;rw[length_drop];omega);have hs:defs (w::r)=defs ((w::r).take (qa3 used (w::r)).1)++defs ((w::r).drop (qa3 used (w::r)).1):=by rw[<-qgc,take_append_drop]
  rw[qgc,hR.put,nil_append];refine⟨i1.trans (by rw[hs];exact List.sublist_append_right _ _),λd hd hu=>?_⟩;rw[hs] at hd;rcases List.mem_append.1 hd with hd|hd;rw[hR.took d hd] at hu;cases hu;exact i2 d hd hu
theorem qo5{l:List Wd}(h:qgn l):qgn (qei l):=by
 obtain⟨h1,h2⟩:=h;obtain⟨i1,i2⟩:=qhP (qaN l) l.length l (zNr _);refine⟨h1.sublist i1,λw hw=>?_⟩;have hm:=qfW (P:=λw=>w∈l∨∃ n,w=decDigits n) (λn _=>.inr ⟨n,rfl⟩) (qaN l) l.length l (λw hw=>.inl hw) w hw;rcases hm with hm|⟨n,rfl⟩;have hk:=h2 w hm;unfold OkW at hk ⊢
 cases hd:defW w with
 |some d=>trivial
 |none=>
  rw[hd] at hk;simp only at hk ⊢
  cases hr:refW w with
  |none=>rw[hr] at hk;exact hk
  |some d=>
   rw[hr] at hk;simp only at hk ⊢;refine i2 d hk ?_;unfold qaN;rw[List.any_eq_true];exact⟨w,hm,decide_eq_true hr⟩
 have hk:=qjv n;unfold OkW;rw[hk.d,hk.r];exact hk.c
theorem qoB:∀ (f:Nat) (l:List Wd),qgn l->qgn (optF f l)/\lenW false (optF f l)<=lenW false l
 |0,l,h=>⟨h,zNr _⟩
 |f+1,l,h=>by
  rw[optF];split;exact⟨h,zNr _⟩;obtain⟨i1,i2⟩:=qoB f _ (qo5 h);exact⟨i1,zNt i2 (qh1 _ _ l false (zNr _))⟩
theorem qv3{l:List Wd}(h:qgn l):qgn (optP l)/\lenW false (optP l)<=lenW false l:=qoB _ _ h
def qeg(n:Nat):Wd:=([48,48,48,48,48]++decDigits n).drop (([48,48,48,48,48]++decDigits n).length-6)
def qaG(known:Wd->Nat)(w:Wd):Wd:=match refW w with
 |some x=>qeg (known x)
 |none=>w
def addT(known:Wd->Nat)(t w:Wd):Wd:=match defW w with
 |some _=>t
 |none=>t++(if qbb t && qbP (qaG known w) then [32] else [])++qaG known w
def qcZ(known:Wd->Nat)(l:List Wd):Wd:=l.foldl (addT known) []
def qbv(known:Wd->Nat)(og:Nat)(s:Wd×List (Wd×Nat))(w:Wd):Wd×List (Wd×Nat):=match defW w with
 |some x=>(s.1,s.2++[(x,og+s.1.length)])
 |none=>(addT known s.1 w,s.2)
def qek(known:Wd->Nat)(og:Nat)(l:List Wd):List (Wd×Nat):=(l.foldl (qbv known og) ([],[])).2
def qdL(labs:List (Wd×Nat))(x:Wd):Nat:=match labs.find? λp=>decide (p.1=x) with
 |some p=>p.2
 |none=>0
def errT(all:List Wd):List Wd->List (Wd×Nat)->Nat×Nat
 |_,[]=>(0,0)
 |met,(w,ln)::r=>match defW w with
  |some x=>if x∈met then (ln,8) else errT all (met++[x]) r
  |none=>match refW w with
   |some x=>if x∈all then errT all met r else (ln,7)
   |none=>if qiJ w=true then errT all met r else (ln,3)
def asmP(src:Wd)(og:Int):Except (Nat×Nat) (Wd×List (Wd×Nat)):=
 if og<0∨262144<=og then .error (0,2)
 else if (errT (defs (qbi src)) [] (qgo src)).2≠0 then .error (errT (defs (qbi src)) [] (qgo src))
 else if 40000<(qcZ (qdL (qek (λ_=>0) og.toNat (qbi src))) (qbi src)).length then .error (0,6)
 else .ok (qcZ (qdL (qek (λ_=>0) og.toNat (qbi src))) (qbi src),qek (λ_=>0) og.toNat (qbi src))
theorem qfY(n:Nat):(qeg n).length=6/\∀ c∈qeg n,qao c=true:=by
 have h1:1<=(decDigits n).length:=List.length_pos_iff.2 (qcq n);constructor;unfold qeg;rw[length_drop,zLa];simp only[zLc,zLn];omega;intro c hc;have h2:=List.mem_of_mem_drop hc;rcases List.mem_append.1 h2 with h|h;simp only[zMi,not_mem_nil,or_false,or_self] at h;rw[h];decide;exact qgf n c h
theorem qod{known:Wd->Nat}{w:Wd}(known':Wd->Nat):qbP (qaG known w)=qbP (qaG known' w)/\qbb (qaG known w)=qbb (qaG known' w)/\(qaG known w).length=(qaG known' w).length:=by
 unfold qaG
 cases refW w with
 |none=>exact⟨rfl,rfl,rfl⟩
 |some x=>
  have key:∀ n,qbP (qeg n)=true/\qbb (qeg n)=true/\(qeg n).length=6:=λn=>by
   obtain⟨h1,h2⟩:=qfY n;have hne:qeg n≠[]:=λh=>by rw[h] at h1;cases h1
   refine⟨?_,?_,h1⟩
   cases h:qeg n with
   |nil=>exact absurd h hne
   |cons c r=>exact h2 c (by rw[h];simp)
   unfold qbb;rw[List.getLast?_eq_some_getLast hne];exact h2 _ (getLast_mem hne)
  obtain⟨a1,a2,a3⟩:=key (known x);obtain⟨b1,b2,b3⟩:=key (known' x);exact⟨a1.trans b1.symm,a2.trans b2.symm,a3.trans b3.symm⟩
theorem qjQ{a b:Wd}(h:b≠[]):qbb (a++b)=qbb b:=by
 unfold qbb;rw[List.getLast?_append,List.getLast?_eq_some_getLast h];try rfl
theorem qhy(known:Wd->Nat)(t w:Wd)(hd:defW w=none)(hw:w≠[]):qaG known w≠[]/\qbb (addT known t w)=qbb (qaG known w)/\(addT known t w).length=t.length+one (qbb t && qbP (qaG known w))+(qaG known w).length:=by
 have hp:qaG known w≠[]:=by
  unfold qaG
  cases refW w with
  |none=>exact hw
  |some x=>intro h;have:=(qfY (known x)).1;rw[show qeg (known x)=[] from h] at this;cases this
 refine⟨hp,?_,?_⟩;unfold addT;rw[hd];exact qjQ hp;unfold addT;rw[hd];simp only[zLa,one];split <;> rfl
theorem qjY(known:Wd->Nat):∀ (l:List Wd) (t:Wd),(∀ w∈l,w≠[])->(l.foldl (addT known) t).length=t.length+lenW (qbb t) l
 |[],t,_=>rfl
 |w::r,t,h=>by
  have hr:=λx hx=>h x (zMo w hx);rw[foldl_cons,qjY known r _ hr,lenW]
  cases hd:defW w with
  |some x=>
   have:addT known t w=t:=by unfold addT;rw[hd]
   rw[this]
  |none=>
   obtain⟨h1,h2,h3⟩:=qhy known t w hd (h w (by simp));rw[h2,h3]
   cases hr:refW w with
   |some x=>
    have hp:qaG known w=qeg (known x):=by unfold qaG;rw[hr]
    obtain⟨a1,a2⟩:=qfY (known x)
    have hf:qbP (qeg (known x))=true:=by
     cases h:qeg (known x) with
     |nil=>rw[h] at a1;cases a1
     |cons c q=>exact a2 c (by rw[h];simp)
    have hl:qbb (qeg (known x))=true:=by
     have hne:qeg (known x)≠[]:=λh=>by rw[h] at a1;cases a1
     unfold qbb;rw[List.getLast?_eq_some_getLast hne];exact a2 _ (getLast_mem hne)
    rw[hp,hf,hl,a1,Bool.and_true];simp only
    omega
   |none=>
    have hp:qaG known w=w:=by unfold qaG;rw[hr]
    rw[hp];simp only;omega
theorem qjN(known:Wd->Nat)(l:List Wd)(h:∀ w∈l,w≠[]):(qcZ known l).length=lenW false l:=by
 have:=qjY known l [] h;rw[qcZ,this];simp[qbb]
theorem qhn(known:Wd->Nat)(og:Nat):∀ (l:List Wd) (s:Wd×List (Wd×Nat)),(l.foldl (qbv known og) s).1=l.foldl (addT known) s.1
 |[],s=>rfl
 |w::r,s=>by
  rw[foldl_cons,foldl_cons,qhn known og r];congr 1;unfold qbv
  cases hd:defW w with
  |some x=>simp only;unfold addT;rw[hd]
  |none=>rfl
theorem qlJ(known known':Wd->Nat)(og:Nat):∀ (l:List Wd) (s s':Wd×List (Wd×Nat)),(∀ w∈l,w≠[])->s.1.length=s'.1.length->qbb s.1=qbb s'.1->s.2=s'.2->(l.foldl (qbv known og) s).2=(l.foldl (qbv known' og) s').2
 |[],s,s',_,_,_,h=>h
 |w::r,s,s',hw,h1,h2,h3=>by
  rw[foldl_cons,foldl_cons];have hr:=λx hx=>hw x (zMo w hx)
  cases hd:defW w with
  |some x=>
   have e1:qbv known og s w=(s.1,s.2++[(x,og+s.1.length)]):=by unfold qbv;rw[hd]
   have e2:qbv known' og s' w=(s'.1,s'.2++[(x,og+s'.1.length)]):=by unfold qbv;rw[hd]
   rw[e1,e2]
   exact qlJ known known' og r _ _ hr h1 h2 (by simp only[h3,h1])
  |none=>
   have e1:qbv known og s w=(addT known s.1 w,s.2):=by unfold qbv;rw[hd]
   have e2:qbv known' og s' w=(addT known' s'.1 w,s'.2):=by unfold qbv;rw[hd]
   rw[e1,e2];obtain⟨a1,a2,a3⟩:=qhy known s.1 w hd (hw w (by simp));obtain⟨b1,b2,b3⟩:=qhy known' s'.1 w hd (hw w (by simp));obtain⟨c1,c2,c3⟩:=qod (known:=known) (w:=w) known';exact qlJ known known' og r _ _ hr (by rw[a3,b3,c1,c3,h1,h2]) (by rw[a2,b2,c2]) h3
theorem qm8(known known':Wd->Nat)(og:Nat)(l:List Wd)(h:∀ w∈l,w≠[]):qek known og l=qek known' og l:=qlJ known known' og l _ _ h rfl rfl rfl
theorem qgw(known:Wd->Nat)(og:Nat):∀ (l:List Wd) (s:Wd×List (Wd×Nat)),((l.foldl (qbv known og) s).2).map (·.1)=s.2.map (·.1)++defs l
 |[],s=>by simp[defs]
 |w::r,s=>by
  rw[foldl_cons,qgw known og r];unfold qbv defs
  cases hd:defW w with
  |some x=>simp[hd]
  |none=>simp[hd]
def qfL:List UInt8:=[97,98,99,100,101,102,103,104,105,106,107,108,109,110,111,112,113,114,115,116,117,118,119,120,121,122,48,49,50,51,52,53,54,55,56,57,95]
theorem qlN:∀ n:Nat,n<256->qfL.contains (UInt8.ofNat n)=qaW (UInt8.ofNat n):=by decide +kernel
theorem qrV(c:UInt8):qfL.contains c=qaW c:=by
 have h:=qlN c.toNat c.toNat_lt
 rwa [UInt8.ofNat_toNat] at h
theorem qb7{p:UInt8->Bool}:∀ {l:List UInt8},l.dropWhile p=[] ↔ l.all p=true
 |[]=>by simp
 |c::l=>by
  rw[List.dropWhile_cons,List.all_cons]
  cases h:p c with
  |true=>simpa using qb7
  |false=>simp
theorem qul(s:List UInt8):(trimS s qfL=[]) ↔ s.all qaW=true:=by
 have he:(λc=>qfL.contains c)=qaW:=funext qrV;unfold trimS trimLeftS trimRightS;rw[he,qb7];constructor;intro h
 by_cases h2:s.reverse.dropWhile qaW=[]
 rw[qb7] at h2;rw[all_reverse] at h2;exact h2;exfalso;obtain⟨c,r,hcr⟩:=List.exists_cons_of_ne_nil h2
 have h3:qaW c=false:=by
  have:=List.head?_dropWhile_not qaW s.reverse;rw[hcr] at this;simpa using this
 rw[hcr,all_reverse,List.all_cons,h3] at h;cases h;intro h;have h2:s.reverse.dropWhile qaW=[]:=by rw[qb7,all_reverse];exact h
 rw[h2]
 try rfl
theorem qrY(r:List UInt8):hasPrefix (38::r) [38]=true/\trimPrefix (38::r) [38]=r:=by
 simp[trimPrefix,hasPrefix,List.isPrefixOf]
theorem qug{c:UInt8}(h:c≠38)(r:List UInt8):hasPrefix (c::r) [38]=false:=by
 have:¬ (38:UInt8)=c:=λe=>h e.symm;simp[hasPrefix,List.isPrefixOf,this]
theorem qvx(w:Wd):refW w=if hasPrefix w [38]=true/\qkd (trimPrefix w [38])=true then some (trimPrefix w [38]) else none:=by
 cases w with
 |nil=>rfl
 |cons c r=>
  by_cases h:c=38
  subst h;rw[(qrY r).1,(qrY r).2];simp[refW];rw[qug h];simp[refW,h]
theorem qk8(w:Wd):hasSuffix w [58]=decide (w.getLast? = some 58):=by
 unfold hasSuffix;rw[Bool.eq_iff_iff,List.isSuffixOf_iff_suffix,decide_eq_true_iff];constructor;rintro⟨t,rfl⟩
 simp
 intro h;rw[List.getLast?_eq_some_iff] at h;obtain⟨t,rfl⟩:=h;exact⟨t,rfl⟩
theorem qvd(w:Wd):defW w=if hasSuffix w [58]=true/\qkd (trimSuffix w [58])=true then some (trimSuffix w [58]) else none:=by
 rw[qk8];unfold defW
 by_cases h:w.getLast? = some 58
 ·have h2:trimSuffix w [58]=w.dropLast:=by
   unfold trimSuffix;rw[qk8,decide_eq_true h,zp rfl,List.dropLast_eq_take]
   try rfl
  rw[h2];simp[h]
 simp[h]
structure MS where
 mem:Nat->Nat
 pc:Nat
 data:List Nat
 calls:List Nat
 inp:List Nat
 out:Wd
 digit:Bool
inductive MR where
 |run (s:MS)
 |stop (e:Nat) (out:Wd)
def MR.trap(s:MS):MR:=.stop 12 s.out
def qdI(v:Nat)(s:MS):MR:=if s.data.length<256 then .run { s with data:=v::s.data } else .trap s
def binM(c a b:Nat):Option Nat:=
 if c=43 then some ((a+b) % 4294967296)
 else if c=45 then some ((a+4294967296-b) % 4294967296)
 else if c=42 then some (a * b % 4294967296)
 else if c=47 then (if b=0 then none else some (a / b))
 else if c=37 then (if b=0 then none else some (a % b))
 else if c=94 then some (a ^^^ b)
 else some (if a<b then 1 else 0)
def qcd(c:Nat):Bool:=decide (48<=c) && decide (c<=57)
def qlK(c:Nat)(s:MS):MR:=if s.digit=true then (match s.data with
 |d::r=>.run { s with data:=(d * 10+c-48) % 4294967296::r }
 |[]=>.trap s) else qdI (c-48) s
def ldM(s:MS):MR:=match s.data with
 |a::r=>if a<262144 then qdI (s.mem a) { s with data:=r } else .trap s
 |[]=>.trap s
def stoM(s:MS):MR:=match s.data with
 |a::v::r=>if a<262144 then .run { s with data:=r,mem:=λi=>if i=a then v else s.mem i } else .trap s
 |_=>.trap s
def jmpM(s:MS):MR:=match s.data with
 |t::v::r=>.run { s with data:=r,pc:=if v=0 then t else s.pc }
 |_=>.trap s
def qmR(s:MS):MR:=match s.data with
 |t::r=>if s.calls.length<64 then .run { s with data:=r,calls:=s.pc::s.calls,pc:=t } else .trap s
 |[]=>.trap s
def bakM(s:MS):MR:=match s.calls with
 |t::r=>.run { s with calls:=r,pc:=t }
 |[]=>.trap s
def rdM(s:MS):MR:=match s.inp with
 |v::r=>qdI v { s with inp:=r }
 |[]=>qdI 4294967295 s
def wrM(s:MS):MR:=match s.data with
 |v::r=>.run { s with data:=r,out:=s.out++[UInt8.ofNat v] }
 |[]=>.trap s
def opM(c:Nat)(s:MS):MR:=match s.data with
 |b::a::r=>(match binM c a b with
  |some v=>qdI v { s with data:=r }
  |none=>.trap s)
 |_=>.trap s
def exeM(c:Nat)(s:MS):MR:=
 if qcd c=true then qlK c s
 else if c=32∨c=10 then .run s
 else if c=64 then ldM s
 else if c=33 then stoM s
 else if c=63 then jmpM s
 else if c=58 then qmR s
 else if c=59 then bakM s
 else if c=44 then rdM s
 else if c=46 then wrM s
 else if c=36 then .stop 0 s.out
 else if c=43∨c=45∨c=42∨c=47∨c=37∨c=94∨c=60 then opM c s
 else .trap s
def stepM(s:MS):MR:=
 if s.pc<262144 then (match exeM (s.mem s.pc) { s with pc:=s.pc+1 } with
  |.run s'=>.run { s' with digit:=qcd (s.mem s.pc) }
  |.stop e o=>.stop e o)
 else .trap s
def runM:Nat->MS->Nat×Wd×Nat
 |0,s=>(13,s.out,0)
 |n+1,s=>match stepM s with
  |.run s'=>((runM n s').1,(runM n s').2.1,(runM n s').2.2+1)
  |.stop e o=>(e,o,1)
def qfq(code:Wd)(og:Nat):Nat->Nat:=λi=>if og<=i then (match code[i-og]? with
 |some c=>c.toNat
 |none=>0) else 0
def qdD(code:Wd)(og:Nat)(inp:List Nat):MS:=⟨qfq code og,og,[],[],inp,[],false⟩
inductive Stp:Nat->MS->MS->Prop
 |zero (s:MS):Stp 0 s s
 |step {k:Nat} {s s' s2:MS}:stepM s=.run s'->Stp k s' s2->Stp (k+1) s s2
theorem Stp.one{s s':MS}(h:stepM s=.run s'):Stp 1 s s':=.step h (.zero _)
theorem Stp.trans{a b:Nat}{s s' s2:MS}(h:Stp a s s')(k:Stp b s' s2):Stp (a+b) s s2:=by
 induction h with
 |zero s=>rw[Nat.zero_add];exact k
 |step h1 _ ih=>rw[Nat.add_right_comm];exact .step h1 (ih k)
theorem qws{k:Nat}{s s':MS}(h:Stp k s s'):∀ n,runM (k+n) s=((runM n s').1,(runM n s').2.1,(runM n s').2.2+k):=by
 induction h with
 |zero s=>intro n;rw[Nat.zero_add];try rfl
 |step h1 _ ih=>
  intro n;rw[Nat.add_right_comm,runM,h1];simp only;rw[ih n];simp only[add_assoc]
def Stx(m:Nat)(s s':MS):Prop:=∃ k,k<=m/\Stp k s s'
theorem Stx.one{s s':MS}(h:stepM s=.run s'):Stx 1 s s':=⟨1,zNr _,.one h⟩
def qhs(mem:Nat->Nat)(p:Nat)(t:Wd):Prop:=∀ i (h:i<t.length),mem (p+i)=(t[i]).toNat
theorem qhs.app{mem:Nat->Nat}{p:Nat}{a b:Wd}(h:qhs mem p (a++b)):qhs mem p a/\qhs mem (p+a.length) b:=by
 constructor;intro i hi;have:=h i (by rw[zLa];omega);rw[List.getElem_append_left hi] at this;exact this;intro i hi;have:=h (a.length+i) (by rw[zLa];omega);rw[List.getElem_append_right (by omega)] at this;rw[add_assoc];simpa using this
theorem qhs.pre{mem:Nat->Nat}{p:Nat}{a t:Wd}(h:qhs mem p t)(hp:a <+: t):qhs mem p a:=by
 obtain⟨b,rfl⟩:=hp;exact h.app.1
theorem qv6(code:Wd)(og:Nat):qhs (qfq code og) og code:=λi hi=>by
 unfold qfq;rw[zp (Nat.le_add_right _ _),Nat.add_sub_cancel_left,List.getElem?_eq_getElem hi]
def valD(a:Nat)(l:Wd):Nat:=l.foldl (λa c=>10 * a+(c.toNat-48)) a
theorem qpF(a:Nat)(l m:Wd):valD a (l++m)=valD (valD a l) m:=List.foldl_append ..
theorem qlF{c:UInt8}:qao c=true ↔ 48<=c.toNat/\c.toNat<=57:=by
 have h:∀ n:Nat,n<256->(qao (UInt8.ofNat n)=true ↔ 48<=n/\n<=57):=by decide +kernel
 have:=h c.toNat c.toNat_lt
 rwa [UInt8.ofNat_toNat] at this
theorem ql1(u:Nat):valD 0 (decDigits u)=u:=by
 rw[decDigits];split
 rename_i h
 unfold valD;simp only[foldl_cons,List.foldl_nil]
 have:(UInt8.ofNat (48+u)).toNat=48+u:=by
  rw[UInt8.toNat_ofNat'];omega
 rw[this];omega
 rename_i h
 have ih:=ql1 (u / 10);rw[qpF,ih];unfold valD;simp only[foldl_cons,List.foldl_nil]
 have:(UInt8.ofNat (48+u % 10)).toNat=48+u % 10:=by
  rw[UInt8.toNat_ofNat'];omega
 rw[this];omega
termination_by u
theorem qkZ:∀ k:Nat,valD 0 (List.replicate k 48)=0
 |0=>rfl
 |k+1=>by
  have:=qkZ k;rw[List.replicate_succ];exact this
theorem qdk:∀ (k n:Nat),n<10 ^ (k+1)->(decDigits n).length<=k+1
 |0,n,h=>by rw[decDigits,dif_pos (by simpa using h)];simp
 |k+1,n,h=>by
  rw[decDigits];split
  simp
  have:=qdk k (n / 10) (by rw[Nat.pow_succ] at h;omega);rw[zLa,List.length_singleton];omega
theorem qnl{n:Nat}(h:n<1000000):valD 0 (qeg n)=n:=by
 have h1:=qdk 5 n h;have h2:1<=(decDigits n).length:=List.length_pos_iff.2 (qcq n)
 have h3:qeg n=List.replicate (6-(decDigits n).length) 48++decDigits n:=by
  unfold qeg;rw[zLa,List.drop_append_of_le_length (by simp only[zLc,zLn];omega)];congr 1
  have:∀ k:Nat,k<=6->1<=k->([48,48,48,48,48]:Wd).drop (([48,48,48,48,48]:Wd).length+k-6)=List.replicate (6-k) 48:=by
   intro k hk h1;have:k=1∨k=2∨k=3∨k=4∨k=5∨k=6:=by omega
   rcases this with rfl|rfl|rfl|rfl|rfl|rfl <;> rfl
  exact this _ h1 h2
 rw[h3,qpF,qkZ,ql1]
theorem qtS(l:Wd):∀ a:Nat,(∀ c∈l,qao c=true)->l.foldl (λa c=>(a * 10+c.toNat-48) % 4294967296) (a % 4294967296)=valD a l % 4294967296:=by
 induction l with
 |nil=>intro a _;rfl
 |cons c l ih=>
  intro a h;have hc:=qlF.1 (h c (by simp));have h1:=ih (a * 10+c.toNat-48) λx hx=>h x (zMo _ hx)
  have h2:valD a (c::l)=valD (a * 10+c.toNat-48) l:=by
   unfold valD;rw[foldl_cons];congr 1;omega
  rw[h2,<-h1,foldl_cons];congr 1;omega
theorem qmr:∀ (l:Wd) (s:MS) (d:Nat) (r:List Nat),(∀ c∈l,qao c=true)->s.digit=true->s.data=d::r->qhs s.mem s.pc l->s.pc+l.length<=262144 ->
  Stp l.length s { s with pc:=s.pc+l.length,data:=l.foldl (λa c=>(a * 10+c.toNat-48) % 4294967296) d::r }
 |[],s,d,r,_,_,hd,_,_=>by
  have:({ s with pc:=s.pc+([]:Wd).length,data:=([]:Wd).foldl (λa c=>(a * 10+c.toNat-48) % 4294967296) d::r }:MS)=s:=by
   cases s;simp only at hd;subst hd;rfl
  rw[this];exact .zero s
 |c::l,s,d,r,h,hg,hd,hm,hp=>by
  have hc:=h c (by simp);have hcn:=qlF.1 hc;have hm0:=hm 0 (by simp);simp only[add_zero,List.getElem_cons_zero] at hm0;have hdn:qcd c.toNat=true:=by unfold qcd;simp[hcn.1,hcn.2]
  rw[zLc] at hp
  have hst:stepM s=.run { s with pc:=s.pc+1,data:=(d * 10+c.toNat-48) % 4294967296::r }:=by
   unfold stepM;rw[zp (by omega),hm0];unfold exeM qlK;rw[zp hdn];simp only[hg,if_true,hd,hdn]
  have hm1:qhs s.mem (s.pc+1) l:=λi hi=>by
   have:=hm (i+1) (by rw[zLc];omega);rw[show s.pc+1+i=s.pc+(i+1) by omega];simpa using this
  have ih:=qmr l { s with pc:=s.pc+1,data:=(d * 10+c.toNat-48) % 4294967296::r } _ r (λx hx=>h x (zMo _ hx)) hg rfl hm1 (by simp only;omega)
  have e:({ s with pc:=s.pc+(c::l).length,data:=(c::l).foldl (λa c=>(a * 10+c.toNat-48) % 4294967296) d::r }:MS)={ s with pc:=s.pc+1+l.length,data:=l.foldl (λa c=>(a * 10+c.toNat-48) % 4294967296) ((d * 10+c.toNat-48) % 4294967296)::r }:=by
   rw[zLc,foldl_cons,add_assoc,Nat.add_comm 1]
  rw[e];exact .step hst ih
theorem qpB{l:Wd}{s:MS}(hne:l≠[])(h:∀ c∈l,qao c=true)(hg:s.digit=false)(hroom:s.data.length<256)(hm:qhs s.mem s.pc l)(hp:s.pc+l.length<=262144)(hv:valD 0 l<4294967296) :
  Stp l.length s { s with pc:=s.pc+l.length,data:=valD 0 l::s.data,digit:=true }:=by
 cases l with
 |nil=>exact absurd rfl hne
 |cons c l=>
  have hc:=h c (by simp);have hcn:=qlF.1 hc;have hm0:=hm 0 (by simp);simp only[add_zero,List.getElem_cons_zero] at hm0;have hdn:qcd c.toNat=true:=by unfold qcd;simp[hcn.1,hcn.2]
  rw[zLc] at hp
  have hst:stepM s=.run { s with pc:=s.pc+1,data:=(c.toNat-48)::s.data,digit:=true }:=by
   unfold stepM;rw[zp (by omega),hm0];unfold exeM qlK qdI;rw[zp hdn];simp[hg,hroom,hdn]
  have hm1:qhs s.mem (s.pc+1) l:=λi hi=>by
   have:=hm (i+1) (by rw[zLc];omega);rw[show s.pc+1+i=s.pc+(i+1) by omega];simpa using this
  have hl:=λx hx=>h x (zMo c hx);have ih:=qmr l { s with pc:=s.pc+1,data:=(c.toNat-48)::s.data,digit:=true } _ s.data hl rfl rfl hm1 (by simp only;omega);have h3:=qtS l (c.toNat-48) hl;have h4:valD 0 (c::l)=valD (c.toNat-48) l:=by unfold valD;rw[foldl_cons];congr 1;omega
  rw[Nat.mod_eq_of_lt (show c.toNat-48<4294967296 by omega),<-h4,Nat.mod_eq_of_lt hv] at h3;rw[h3] at ih
  have e:({ s with pc:=s.pc+(c::l).length,data:=valD 0 (c::l)::s.data,digit:=true }:MS)={ s with pc:=s.pc+1+l.length,data:=valD 0 (c::l)::s.data,digit:=true }:=by
   rw[zLc,add_assoc,Nat.add_comm 1]
  rw[e];exact .step hst ih
structure PW where
 W:List Wd
 og:Nat
 known:Wd->Nat
def PW.pre(C:PW)(i:Nat):Wd:=qcZ C.known (C.W.take i)
def PW.plc(C:PW)(i:Nat):Nat:=C.og+(C.pre i).length
def PW.At(C:PW)(s:MS)(i:Nat):Prop:=s.pc=C.plc i/\(s.digit=true->qbb (C.pre i)=true)
structure PW.Ok(C:PW)(mem:Nat->Nat):Prop where
 here:qhs mem C.og (qcZ C.known C.W)
 fits:C.og+(qcZ C.known C.W).length<=262144
theorem qu0(known:Wd->Nat)(t w:Wd):t <+: addT known t w:=by
 unfold addT;split;exact zPf _;rw[zAs];exact List.prefix_append _ _
theorem qnn(known:Wd->Nat):∀ (l:List Wd) (t:Wd),t <+: l.foldl (addT known) t
 |[],t=>zPf _
 |w::l,t=>List.IsPrefix.trans (qu0 known t w) (qnn known l _)
theorem PW.pre_all(C:PW)(i:Nat):C.pre i <+: qcZ C.known C.W:=by
 have h:qcZ C.known C.W=(C.W.drop i).foldl (addT C.known) (C.pre i):=by
  unfold PW.pre qcZ;rw[<-List.foldl_append,take_append_drop]
 rw[h];exact qnn _ _ _
theorem PW.pre_succ(C:PW){i:Nat}{w:Wd}(h:C.W[i]? = some w):C.pre (i+1)=addT C.known (C.pre i) w:=by
 obtain⟨hi,rfl⟩:=List.getElem?_eq_some_iff.1 h;unfold PW.pre qcZ;rw[List.take_succ_eq_append_getElem hi,List.foldl_append]
 try rfl
theorem PW.pre_le(C:PW)(i:Nat):C.plc i<=C.og+(qcZ C.known C.W).length:=by
 have:=(C.pre_all i).length_le;unfold PW.plc;omega
theorem PW.piece{C:PW}{mem:Nat->Nat}{i:Nat}{w:Wd}(hk:C.Ok mem)(hw:C.W[i]? = some w)(hd:defW w=none) :
  C.pre (i+1)=C.pre i++(if qbb (C.pre i) && qbP (qaG C.known w) then [32] else [])++qaG C.known w /\
  qhs mem (C.plc i) ((if qbb (C.pre i) && qbP (qaG C.known w) then [32] else [])++qaG C.known w)/\C.plc (i+1)<=262144:=by
 have h1:=C.pre_succ hw;have h2:addT C.known (C.pre i) w=C.pre i++(if qbb (C.pre i) && qbP (qaG C.known w) then [32] else [])++qaG C.known w:=by unfold addT;rw[hd]
 rw[h2] at h1;refine⟨h1,?_,zNt (C.pre_le _) hk.fits⟩;have h3:=hk.here.pre (C.pre_all (i+1));rw[h1,zAs] at h3;exact h3.app.2
theorem PW.sign{C:PW}{s:MS}{i:Nat}{c:UInt8}(hk:C.Ok s.mem)(h:C.At s i)(hw:C.W[i]? = some [c])(hd:defW [c]=none)(hr:refW [c]=none)(hc:qao c=false) :
  stepM s=(match exeM c.toNat { s with pc:=C.plc (i+1) } with
   |.run s'=>.run { s' with digit:=false }
   |.stop e o=>.stop e o)/\qbb (C.pre (i+1))=false:=by
 obtain⟨h1,h2,h3⟩:=C.piece hk hw hd;have hp:qaG C.known [c]=[c]:=by unfold qaG;rw[hr]
 have hf:qbP [c]=false:=hc;rw[hp,hf,Bool.and_false,zn zDd] at h1 h2;rw[zLz] at h1;rw[nil_append] at h2;have m0:=h2 0 (by simp);simp only[add_zero,List.getElem_cons_zero] at m0
 have hplc:C.plc (i+1)=C.plc i+1:=by
  unfold PW.plc;rw[h1,zLa]
  try rfl
 have hn:qcd c.toNat=false:=by
  cases hx:qcd c.toNat with
  |false=>rfl
  |true=>
   unfold qcd at hx;simp only[zBa,zDe] at hx;rw[qlF.2 hx] at hc;cases hc
 constructor
 ·unfold stepM;rw[zp (by rw[h.1];omega),h.1,m0,<-hplc,hn]
  try cases exeM c.toNat { s with pc:=C.plc (i+1) } <;> rfl
 rw[h1];unfold qbb;simp[hc]
def PW.Code(C:PW)(i:Nat)(ws:List Wd):Prop:=∀ k (h:k<ws.length),C.W[i+k]? = some ws[k]
theorem PW.Code.app{C:PW}{i:Nat}{a b:List Wd}(h:C.Code i (a++b)):C.Code i a/\C.Code (i+a.length) b:=by
 constructor;intro k hk;have:=h k (by rw[zLa];omega)
 rwa [List.getElem_append_left hk] at this
 intro k hk;have:=h (a.length+k) (by rw[zLa];omega);rw[List.getElem_append_right (by omega)] at this;rw[add_assoc];simpa using this
theorem PW.Code.cons{C:PW}{i:Nat}{w:Wd}{b:List Wd}(h:C.Code i (w::b)):C.W[i]? = some w/\C.Code (i+1) b:=by
 have h1:=PW.Code.app (a:=[w]) (b:=b) h;have h2:=h1.1 0 (by simp);exact⟨by simpa using h2,h1.2⟩
def PW.put(C:PW)(s:MS)(i:Nat)(d:List Nat):MS:={ s with pc:=C.plc i,data:=d,digit:=false }
theorem qbo{c:UInt8}(h:c∈([43,45,42,47,37,94,60,64,33,63,58,59,44,46,36]:Wd)):defW [c]=none/\refW [c]=none/\qao c=false:=by
 have:∀ c∈([43,45,42,47,37,94,60,64,33,63,58,59,44,46,36]:Wd),defW [c]=none/\refW [c]=none/\qao c=false:=by decide +kernel
 exact this c h
section
variable{C:PW}{s:MS}{i:Nat}
theorem PW.load(hk:C.Ok s.mem)(h:C.At s i)(hw:C.W[i]? = some [64]){a:Nat}{r:List Nat}(hd:s.data=a::r)(ha:a<262144)(hroom:r.length<256):Stx 1 s (C.put s (i+1) (s.mem a::r)):=by
 obtain⟨e1,e2,e3⟩:=qbo (c:=64) zDd;obtain⟨h1,_⟩:=C.sign hk h hw e1 e2 e3;refine Stx.one (h1.trans ?_)
 have:exeM (64:UInt8).toNat { s with pc:=C.plc (i+1) }=.run { s with pc:=C.plc (i+1),data:=s.mem a::r }:=by
  unfold exeM;rw[zn zDd,zn zDd,zp zDd];unfold ldM qdI;simp[hd,ha,hroom]
 rw[this]
 try rfl
theorem PW.store(hk:C.Ok s.mem)(h:C.At s i)(hw:C.W[i]? = some [33]){a v:Nat}{r:List Nat}(hd:s.data=a::v::r)(ha:a<262144):Stx 1 s { C.put s (i+1) r with mem:=λi=>if i=a then v else s.mem i }:=by
 obtain⟨e1,e2,e3⟩:=qbo (c:=33) zDd;obtain⟨h1,_⟩:=C.sign hk h hw e1 e2 e3;refine Stx.one (h1.trans ?_)
 have:exeM (33:UInt8).toNat { s with pc:=C.plc (i+1) }=.run { s with pc:=C.plc (i+1),data:=r,mem:=λi=>if i=a then v else s.mem i }:=by
  unfold exeM;rw[zn zDd,zn zDd,zn zDd,zp zDd];unfold stoM;simp[hd,ha]
 rw[this]
 try rfl
theorem PW.jump(hk:C.Ok s.mem)(h:C.At s i)(hw:C.W[i]? = some [63]){t v:Nat}{r:List Nat}(hd:s.data=t::v::r):Stx 1 s { C.put s (i+1) r with pc:=if v=0 then t else C.plc (i+1) }:=by
 obtain⟨e1,e2,e3⟩:=qbo (c:=63) zDd;obtain⟨h1,_⟩:=C.sign hk h hw e1 e2 e3;refine Stx.one (h1.trans ?_)
 have:exeM (63:UInt8).toNat { s with pc:=C.plc (i+1) }=.run { s with pc:=if v=0 then t else C.plc (i+1),data:=r }:=by
  unfold exeM;rw[zn zDd,zn zDd,zn zDd,zn zDd,zp zDd];unfold jmpM;simp[hd]
 rw[this]
 try rfl
theorem PW.call(hk:C.Ok s.mem)(h:C.At s i)(hw:C.W[i]? = some [58]){t:Nat}{r:List Nat}(hd:s.data=t::r)(hc:s.calls.length<64):Stx 1 s { C.put s (i+1) r with pc:=t,calls:=C.plc (i+1)::s.calls }:=by
 obtain⟨e1,e2,e3⟩:=qbo (c:=58) zDd;obtain⟨h1,_⟩:=C.sign hk h hw e1 e2 e3;refine Stx.one (h1.trans ?_)
 have:exeM (58:UInt8).toNat { s with pc:=C.plc (i+1) }=.run { s with pc:=t,data:=r,calls:=C.plc (i+1)::s.calls }:=by
  unfold exeM;rw[zn zDd,zn zDd,zn zDd,zn zDd,zn zDd,zp zDd];unfold qmR;simp[hd,hc]
 rw[this]
 try rfl
theorem PW.back(hk:C.Ok s.mem)(h:C.At s i)(hw:C.W[i]? = some [59]){t:Nat}{r:List Nat}(hd:s.calls=t::r):Stx 1 s { s with pc:=t,calls:=r,digit:=false }:=by
 obtain⟨e1,e2,e3⟩:=qbo (c:=59) zDd;obtain⟨h1,_⟩:=C.sign hk h hw e1 e2 e3;refine Stx.one (h1.trans ?_)
 have:exeM (59:UInt8).toNat { s with pc:=C.plc (i+1) }=.run { s with pc:=t,calls:=r }:=by
  unfold exeM;rw[zn zDd,zn zDd,zn zDd,zn zDd,zn zDd,zn zDd,zp zDd];unfold bakM;simp[hd]
 rw[this]
theorem PW.read(hk:C.Ok s.mem)(h:C.At s i)(hw:C.W[i]? = some [44])(hroom:s.data.length<256):Stx 1 s { C.put s (i+1) ((s.inp.headD 4294967295)::s.data) with inp:=s.inp.tail }:=by
 obtain⟨e1,e2,e3⟩:=qbo (c:=44) zDd;obtain⟨h1,_⟩:=C.sign hk h hw e1 e2 e3;refine Stx.one (h1.trans ?_)
 have:exeM (44:UInt8).toNat { s with pc:=C.plc (i+1) }=.run { s with pc:=C.plc (i+1),data:=(s.inp.headD 4294967295)::s.data,inp:=s.inp.tail }:=by
  unfold exeM;rw[zn zDd,zn zDd,zn zDd,zn zDd,zn zDd,zn zDd,zn zDd,zp zDd];unfold rdM qdI
  cases hi:s.inp with
  |nil=>simp[hi,hroom]
  |cons v r=>simp[hi,hroom]
 rw[this]
 try rfl
theorem PW.write(hk:C.Ok s.mem)(h:C.At s i)(hw:C.W[i]? = some [46]){v:Nat}{r:List Nat}(hd:s.data=v::r):Stx 1 s { C.put s (i+1) r with out:=s.out++[UInt8.ofNat v] }:=by
 obtain⟨e1,e2,e3⟩:=qbo (c:=46) zDd;obtain⟨h1,_⟩:=C.sign hk h hw e1 e2 e3;refine Stx.one (h1.trans ?_)
 have:exeM (46:UInt8).toNat { s with pc:=C.plc (i+1) }=.run { s with pc:=C.plc (i+1),data:=r,out:=s.out++[UInt8.ofNat v] }:=by
  unfold exeM;rw[zn zDd,zn zDd,zn zDd,zn zDd,zn zDd,zn zDd,zn zDd,zn zDd,zp zDd];unfold wrM;simp[hd]
 rw[this]
 try rfl
theorem PW.halt(hk:C.Ok s.mem)(h:C.At s i)(hw:C.W[i]? = some [36]):stepM s=.stop 0 s.out:=by
 obtain⟨e1,e2,e3⟩:=qbo (c:=36) zDd;obtain⟨h1,_⟩:=C.sign hk h hw e1 e2 e3;rw[h1]
 have:exeM (36:UInt8).toNat { s with pc:=C.plc (i+1) }=.stop 0 s.out:=by
  unfold exeM;rw[zn zDd,zn zDd,zn zDd,zn zDd,zn zDd,zn zDd,zn zDd,zn zDd,zn zDd,zp zDd]
 rw[this]
def isOp(c:UInt8):Prop:=c=43∨c=45∨c=42∨c=47∨c=37∨c=94∨c=60
theorem qu7{c:UInt8}(hc:isOp c)(s:MS):exeM c.toNat s=opM c.toNat s:=by
 have h:qcd c.toNat=false/\¬ (c.toNat=32∨c.toNat=10)/\c.toNat≠64/\c.toNat≠33/\c.toNat≠63/\c.toNat≠58/\c.toNat≠59/\c.toNat≠44/\c.toNat≠46/\c.toNat≠36/\(c.toNat=43∨c.toNat=45∨c.toNat=42∨c.toNat=47∨c.toNat=37∨c.toNat=94∨c.toNat=60):=by
  rcases hc with rfl|rfl|rfl|rfl|rfl|rfl|rfl <;> decide
 obtain⟨a1,a2,a3,a4,a5,a6,a7,a8,a9,a10,a11⟩:=h;unfold exeM;rw[zn (by rw[a1];decide),zn a2,zn a3,zn a4,zn a5,zn a6,zn a7,zn a8,zn a9,zn a10,zp a11]
theorem qpD{c:UInt8}(hc:isOp c):defW [c]=none/\refW [c]=none/\qao c=false:=
 qbo (by unfold isOp at hc;rcases hc with rfl|rfl|rfl|rfl|rfl|rfl|rfl <;> decide)
theorem PW.op(hk:C.Ok s.mem)(h:C.At s i){c:UInt8}(hc:isOp c)(hw:C.W[i]? = some [c]){a b v:Nat}{r:List Nat}(hd:s.data=b::a::r)(hv:binM c.toNat a b=some v)(hroom:r.length<256):Stx 1 s (C.put s (i+1) (v::r)):=by
 obtain⟨e1,e2,e3⟩:=qpD hc;obtain⟨h1,_⟩:=C.sign hk h hw e1 e2 e3;refine Stx.one (h1.trans ?_)
 have:exeM c.toNat { s with pc:=C.plc (i+1) }=.run { s with pc:=C.plc (i+1),data:=v::r }:=by
  rw[qu7 hc];unfold opM qdI;simp[hd,hv,hroom]
 rw[this]
 try rfl
theorem PW.opTrap(hk:C.Ok s.mem)(h:C.At s i){c:UInt8}(hc:isOp c)(hw:C.W[i]? = some [c]){a b:Nat}{r:List Nat}(hd:s.data=b::a::r)(hv:binM c.toNat a b=none):stepM s=.stop 12 s.out:=by
 obtain⟨e1,e2,e3⟩:=qpD hc;obtain⟨h1,_⟩:=C.sign hk h hw e1 e2 e3;rw[h1]
 have:exeM c.toNat { s with pc:=C.plc (i+1) }=.stop 12 s.out:=by
  rw[qu7 hc];unfold opM MR.trap;simp[hd,hv]
 rw[this]
end
structure IS where
 sc:List UInt8->Nat
 ar:List UInt8->List Nat
 inp:List Nat
 out:List UInt8
 left:Nat
inductive IR (A:Type) where
 |ok (v:A) (s:IS)
 |stop (e:Int) (s:IS)
def IR.bind{A B:Type}(r:IR A)(f:A->IS->IR B):IR B:=match r with
 |.ok v s=>f v s
 |.stop e s=>.stop e s
def b2n(b:Bool):Nat:=if b=true then 1 else 0
def binI(op:List UInt8)(a b:Nat):Option Nat:=
 if op=[43] then some ((a+b) % 4294967296)
 else if op=[45] then some ((a+4294967296-b) % 4294967296)
 else if op=[42] then some (a * b % 4294967296)
 else if op=[94] then some (a ^^^ b)
 else if op=[61,61] then some (b2n (decide (a=b)))
 else if op=[33,61] then some (b2n (decide (a≠b)))
 else if op=[60] then some (b2n (decide (a<b)))
 else if op=[62] then some (b2n (decide (b<a)))
 else if op=[60,61] then some (b2n (decide (a<=b)))
 else if op=[62,61] then some (b2n (decide (b<=a)))
 else if op=[38,38] then some (b2n (decide (a≠0/\b≠0)))
 else if op=[124,124] then some (b2n (decide (a≠0∨b≠0)))
 else if b=0 then none
 else if op=[47] then some (a / b) else some (a % b)
def keyI(f:FnD)(name:List UInt8):List UInt8:=if name∈f.params∨name∈f.locals then f.name++[46]++name else name
def fnI(P:Pr)(name:List UInt8):FnD:=(P.funcs.find? λf=>decide (f.name=name)).getD ⟨[],[],[],[]⟩
def qaJ(s:IS)(k:List UInt8)(v:Nat):IS:={ s with sc:=λx=>if x=k then v else s.sc x }
def qe8(f:FnD):List (List UInt8)->List Nat->IS->IS
 |p::ps,v::vs,s=>qe8 f ps vs (qaJ s (keyI f p) v)
 |_,_,s=>s
def mapR{A:Type}(g:A->IS->IR Nat):List A->IS->IR (List Nat)
 |[],s=>.ok [] s
 |a::l,s=>(g a s).bind λv s=>(mapR g l s).bind λvs s=>.ok (v::vs) s
def blkR(g:Sm->IS->IR (Option Nat)):List Sm->IS->IR (Option Nat)
 |[],s=>.ok none s
 |a::l,s=>(g a s).bind λr s=>match r with
  |some v=>.ok (some v) s
  |none=>blkR g l s
def qid(P:Pr)(g:FnD->Sm->IS->IR (Option Nat))(name:List UInt8)(vs:List Nat)(s:IS):IR Nat:=
 if name=[105,110] then (match s.inp with
  |[]=>.ok 4294967295 s
  |v::r=>.ok v { s with inp:=r })
 else if name=[111,117,116] then .ok 0 { s with out:=s.out++[UInt8.ofNat (vs.headD 0)] }
 else (blkR (g (fnI P name)) (fnI P name).body (qe8 (fnI P name) (fnI P name).params vs s)).bind λr s=>.ok (r.getD 0) s
def opI(P:Pr)(g:FnD->Sm->IS->IR (Option Nat))(f:FnD)(op:List UInt8)(num:Nat)(name:List UInt8)(vs:List Nat)(s:IS):IR Nat:=
 if op=[110,117,109] then .ok num s
 else if op=[118,97,114] then .ok (s.sc (keyI f name)) s
 else if op=[101,108,101,109] then (match (s.ar name)[vs.headD 0]? with
  |some v=>.ok v s
  |none=>.stop 2 s)
 else if op=[110,101,103] then .ok ((4294967296-vs.headD 0) % 4294967296) s
 else if op=[110,111,116] then .ok (b2n (decide (vs.headD 0=0))) s
 else if op=[99,97,108,108] then qid P g name vs s
 else match binI op (vs.headD 0) (vs.tail.headD 0) with
  |some v=>.ok v s
  |none=>.stop 12 s
def qdE(P:Pr)(inp:List Nat)(limit:Nat):IS:=⟨λ_=>0,λx=>match P.arrays.find? λa=>decide (a.name=x) with
 |some a=>List.replicate a.size 0
 |none=>[],inp,[],limit⟩
def qbS(P:Pr):FnD:=P.funcs.getLast?.getD ⟨[],[],[],[]⟩
abbrev Nm:=List UInt8
def qmX:List Nm:=qdn++[[105,110],[111,117,116]]
def isNm(s:Nm):Bool:=decide (s.length<=24) && !qmX.contains s && (match s with
 |[]=>false
 |c::r=>qaV c && r.all qaW)
structure FSum where
 name:Nm
 params:Nat
 need:Nat
 depth:Nat
structure CEnv where
 vars:List Nm
 arrays:List Nm
 later:List Nm
 own:List Nm
 funcs:List FSum
def CEnv.globals(c:CEnv):List Nm:=c.vars++c.arrays++c.later
def CEnv.fn(c:CEnv)(name:Nm):Option FSum:=c.funcs.find? λf=>decide (f.name=name)
def orE(a b:Int):Int:=if a≠0 then a else b
def qeQ:List Nm:=[[124,124],[38,38],[61,61],[33,61],[60],[62],[60,61],[62,61],[94],[43],[45],[42],[47],[37]]
def qbw(op:Nm):Int:=if op=nNum∨op=nVar then 0 else if op=qeh∨op=nNeg∨op=nNot then 1 else if op=qbB then -1 else if op∈qeQ then 2 else -2
def qcg(c:CEnv)(name:Nm):Int:=if name∈c.vars∨name∈c.own then 0 else if name∈c.globals then 10 else 7
def qeU(c:CEnv)(name:Nm):Int:=if name∈c.arrays then 0 else if name∈c.globals∨name∈c.own then 10 else 7
def callE(c:CEnv)(name:Nm)(n:Nat):Int:=
 if name=[105,110] then (if n=0 then 0 else 1)
 else if name=[111,117,116] then (if n=1 then 0 else 1)
 else match c.fn name with
  |some f=>if n=f.params then 0 else 1
  |none=>if name∈c.vars∨name∈c.arrays∨name∈c.own then 10 else 7
def useE(c:CEnv)(op name:Nm)(n:Nat):Int:=if op=nVar then qcg c name else if op=qeh then qeU c name else if op=qbB then callE c name n else 0
mutual
def errE(c:CEnv):Ex->Int
 |.mk op num name args=>if qbw op = -1∨qbw op=args.length then orE (qbs c args) (useE c op name args.length) else 3
def qbs(c:CEnv):List Ex->Int
 |[]=>0
 |x::l=>orE (errE c x) (qbs c l)
end
def qhK:Nat->List Nat->Nat->Nat
 |i,[],m=>m
 |i,n::l,m=>qhK (i+1) l (max m (i+n))
def qiI(c:CEnv)(name:Nm)(ns:List Nat):Nat:=
 if name=[105,110] then 1
 else if name=[111,117,116] then ns.headD 0
 else match c.fn name with
  |some f=>qhK 0 ns (max (f.params+1) f.need)
  |none=>0
def opN(c:CEnv)(op name:Nm)(ns:List Nat):Nat:=
 if op=nNum∨op=nVar then 1
 else if op=qeh∨op=nNeg then 1+ns.headD 0
 else if op=qbB then qiI c name ns
 else if op=nNot then max 2 (ns.headD 0)
 else if op=[62]∨op=[60,61] then max (max 3 (ns.headD 0)) (1+ns.tail.headD 0)
 else if op=[33,61] then max (max 3 (1+ns.headD 0)) (2+ns.tail.headD 0)
 else if op=[38,38] then max (1+ns.headD 0) (2+ns.tail.headD 0)
 else if op=[124,124] then max (2+ns.headD 0) (3+ns.tail.headD 0)
 else max (max 2 (ns.headD 0)) (1+ns.tail.headD 0)
mutual
def qba(c:CEnv):Ex->Nat
 |.mk op num name args=>opN c op name (qaZ c args)
def qaZ(c:CEnv):List Ex->List Nat
 |[]=>[]
 |x::l=>qba c x::qaZ c l
end
def qgl(c:CEnv)(op name:Nm):Nat:=if op=qbB/\name≠[105,110]/\name≠[111,117,116] then (match c.fn name with
 |some f=>f.depth+1
 |none=>0) else 0
mutual
def depE(c:CEnv):Ex->Nat
 |.mk op num name args=>max (qb0 c args) (qgl c op name)
def qb0(c:CEnv):List Ex->Nat
 |[]=>0
 |x::l=>max (depE c x) (qb0 c l)
end
def exOp1:Ex->Nm
 |.mk op _ _ _=>op
def qbR:Sm->Bool
 |.mk kind name index value thn els=>
  if kind=1 then decide (name≠[]/\index.length=0/\value.length=1/\thn.length=0/\els.length=0)
  else if kind=2 then decide (name≠[]/\index.length=1/\value.length=1/\thn.length=0/\els.length=0)
  else if kind=3 then decide (name=[]/\index.length=0/\value.length=1)
  else if kind=4 then decide (name=[]/\index.length=0/\value.length=1/\els.length=0)
  else if kind=5 then decide (name=[]/\index.length=0/\value.length=1/\thn.length=0/\els.length=0)
  else if kind=6 then decide (name=[]/\index.length=0/\value.length=1/\thn.length=0/\els.length=0/\exOp1 (value.headD default)=qbB)
  else if kind=7 then decide (name=[]/\index.length=0/\value.length=0/\thn.length=0/\els.length=0)
  else false
mutual
def errS(c:CEnv):Sm->Int
 |.mk kind name index value thn els=>if qbR (.mk kind name index value thn els)=false then 3
  else orE (qbs c value) (orE (qbs c index) (orE (if kind=1 then qcg c name else if kind=2 then qeU c name else 0) (orE (qb1 c thn) (qb1 c els))))
def qb1(c:CEnv):List Sm->Int
 |[]=>0
 |s::l=>orE (errS c s) (qb1 c l)
end
mutual
def qks(c:CEnv):Sm->Nat
 |.mk kind name index value thn els=>
  if kind=7 then 0
  else if kind=2 then max (qba c (value.headD default)) (2+qba c (index.headD default))
  else if kind=5 then qba c (value.headD default)
  else max 2 (max (max (qba c (value.headD default)) (qbN c thn)) (qbN c els))
def qbN(c:CEnv):List Sm->Nat
 |[]=>0
 |s::l=>max (qks c s) (qbN c l)
end
mutual
def depS(c:CEnv):Sm->Nat
 |.mk kind name index value thn els=>max (max (qb0 c value) (qb0 c index)) (max (qcm c thn) (qcm c els))
def qcm(c:CEnv):List Sm->Nat
 |[]=>0
 |s::l=>max (depS c s) (qcm c l)
end
def qcj:List Nm->List Nm->Int
 |known,[]=>0
 |known,s::l=>if isNm s=false then 7 else if s∈known then 8 else qcj (s::known) l
def qg3:Int->List Int->Int
 |total,[]=>0
 |total,n::l=>if n<=0 then 2 else if 150000-total<n then 6 else qg3 (total+n) l
def envF(vars arrays later:List Nm)(known:List FSum)(f:FnD):CEnv:=⟨vars,arrays,later,f.params++f.locals,known⟩
def errF(vars arrays later:List Nm)(known:List FSum)(f:FnD):Int:=orE (qcj (vars++arrays++later) (f.params++f.locals)) (qb1 (envF vars arrays later known f) f.body)
def sumF(vars arrays later:List Nm)(known:List FSum)(f:FnD):FSum:=⟨f.name,f.params.length,max (max 2 (f.params.length+1)) (qbN (envF vars arrays later known f) f.body),max 1 (qcm (envF vars arrays later known f) f.body)⟩
def qfO(vars arrays later:List Nm):List FSum->List FnD->Int
 |known,[]=>0
 |known,f::l=>orE (errF vars arrays later known f) (qfO vars arrays later (known++[sumF vars arrays later known f]) l)
def qjL(vars arrays later:List Nm):List FSum->List FnD->List FSum
 |known,[]=>known
 |known,f::l=>qjL vars arrays later (known++[sumF vars arrays later known f]) l
def qai(vars:List Nm)(fs:List FnD):List Nm:=vars++(fs.map λf=>(f.params++f.locals).map λx=>f.name++[46]++x).flatten
def qtr(vars:List Nm)(fs:List FnD)(sums:List FSum):Int:=match fs.getLast?,sums.getLast? with
 |some f,some m=>if f.name=[109,97,105,110]/\f.params=[] then (if (qai vars fs).length<=8000/\m.need<=200/\m.depth<=60 then 0 else 6) else 9
 |_,_=>9
def qc3(vars:List Nm)(arrays:List (Nm×Int))(fs:List FnD):Int:=
 orE (qcj [] (vars++arrays.map (·.1)++fs.map (·.name))) (orE (qg3 0 (arrays.map (·.2)))
  (orE (qfO vars (arrays.map (·.1)) (fs.map (·.name)) [] fs) (qtr vars fs (qjL vars (arrays.map (·.1)) (fs.map (·.name)) [] fs))))
def qb9(p:Pr):Int:=qc3 p.vars (p.arrays.map λa=>(a.name,(a.size:Int))) p.funcs
theorem qah{a b:Int}:orE a b=0 ↔ a=0/\b=0:=by
 unfold orE;split;constructor;intro h;contradiction;rintro⟨h,_⟩;contradiction;constructor;intro h;exact⟨by omega,h⟩;rintro⟨_,h⟩;exact h
end Go.Stele
