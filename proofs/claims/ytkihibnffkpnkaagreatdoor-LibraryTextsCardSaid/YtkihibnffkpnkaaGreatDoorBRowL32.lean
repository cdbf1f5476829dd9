import Derived.Test.YtkihibnffkpnkaaGreatDoorBRowL31
set_option linter.unusedVariables false
set_option linter.unusedSimpArgs false
set_option maxRecDepth 100000
set_option maxHeartbeats 4000000
open List (mem_of_find?_eq_some not_mem_nil nodup_cons sum_cons map_map cons_append nil_append flatten_cons length_reverse foldl_cons eq_nil_of_length_eq_zero length_singleton drop_drop length_drop take_succ_cons)
open Nat (zero_le mod_lt zero_add add_assoc add_zero add_comm mod_eq_of_lt)
open Option (getD_some)
namespace Go.Stele
mutual
def ndE:Ex->Nat
 |.mk op num name args=>1+ndEs args
def ndEs:List Ex->Nat
 |[]=>0
 |x::l=>ndE x+ndEs l
end
mutual
def ndS:Sm->Nat
 |.mk kind name index value thn els=>1+(ndEs index+ndEs value+ndSs thn+ndSs els)
def ndSs:List Sm->Nat
 |[]=>0
 |x::l=>ndS x+ndSs l
end
def ndF(f:FnD):Nat:=1+f.params.length+f.locals.length+ndSs f.body
def ndFs:List FnD->Nat
 |[]=>0
 |f::l=>ndF f+ndFs l
theorem qlP(x:Ex):1<=ndE x:=by
 obtain⟨op,num,name,args⟩:=x;rw[ndE];omega
theorem qon(x:Sm):1<=ndS x:=by
 obtain⟨k,n,i,v,t,e⟩:=x;rw[ndS];omega
theorem qf9:∀ l:List Ex,l.length<=ndEs l
 |[]=>zNr _
 |x::l=>by
  have h1:=qlP x;have h2:=qf9 l;rw[ndEs,zLc];omega
theorem qfb:∀ l:List Sm,l.length<=ndSs l
 |[]=>zNr _
 |x::l=>by
  have h1:=qon x;have h2:=qfb l;rw[ndSs,zLc];omega
theorem qjb:∀ l:List FnD,l.length<=ndFs l
 |[]=>zNr _
 |x::l=>by
  have h2:=qjb l;rw[ndFs,zLc];unfold ndF;omega
theorem qiX:∀ {l:List FnD} {f:FnD},f∈l->ndF f<=ndFs l
 |g::l,f,h=>by
  rw[ndFs];rcases zMi.1 h with rfl|h;omega;have:=qiX h;omega
theorem qlG:∀ {l:List Ex} {f:Ex},f∈l->ndE f<=ndEs l
 |g::l,f,h=>by
  rw[ndEs];rcases zMi.1 h with rfl|h;omega;have:=qlG h;omega
mutual
theorem qx4:∀ x:Ex,ndE x<=2000000->smE x
 |.mk op num name args,h=>by
  rw[ndE] at h;have:=qf9 args;exact⟨show args.length<=2000000 by omega,ql7 args (by omega)⟩
theorem ql7:∀ l:List Ex,ndEs l<=2000000->smEs l
 |[],_=>trivial
 |x::l,h=>by
  rw[ndEs] at h;exact⟨qx4 x (by omega),ql7 l (by omega)⟩
end
mutual
theorem qx9:∀ x:Sm,ndS x<=2000000->smS x
 |.mk k n i v t e,h=>by
  rw[ndS] at h;have h1:=qf9 i;have h2:=qf9 v;have h3:=qfb t;have h4:=qfb e;exact⟨show i.length<=2000000 by omega,show v.length<=2000000 by omega,show t.length<=2000000 by omega,show e.length<=2000000 by omega,ql7 i (by omega),ql7 v (by omega),qlA t (by omega),qlA e (by omega)⟩
theorem qlA:∀ l:List Sm,ndSs l<=2000000->smSs l
 |[],_=>trivial
 |x::l,h=>by
  rw[ndSs] at h;exact⟨qx9 x (by omega),qlA l (by omega)⟩
end
theorem qs0{f:FnD}(h:ndF f<=2000000):SmF f:=by
 unfold ndF at h;have:=qfb f.body;exact⟨show f.params.length<=2000000 by omega,show f.locals.length<=2000000 by omega,show f.body.length<=2000000 by omega,qlA _ (by omega)⟩
def KnB(B D:Nat)(known:List FSum):Prop:=∀ k∈known,k.need<=B/\k.params+1<=B/\k.depth<=D
theorem qpf(B:Nat)(c:CEnv):∀ (l:List Ex) (i m:Nat),(∀ x∈l,qbb c x<=4 * ndE x+B)->qhQ i (qaY c l) m<=max m (4 * ndEs l+i+B)
 |[],i,m,_=>by rw[qaY,qhQ];exact Nat.le_max_left _ _
 |x::l,i,m,h=>by
  rw[qaY,qhQ,ndEs];have h1:=h x zMs;have h2:=qpf B c l (i+1) (max m (i+qbb c x)) (λy hy=>h y (zMo _ hy));have h3:=qlP x;omega
mutual
theorem qf8(B D:Nat)(c:CEnv)(hB:KnB B D c.funcs):∀ x:Ex,qbb c x<=4 * ndE x+B
 |.mk op num name args=>by
  rw[qbb,ndE];have ha:=qnz B D c hB args
  have h0:(qaY c args).headD 0<=4 * ndEs args+B:=by
   cases args with
   |nil=>rw[qaY];exact zero_le _
   |cons x l=>
    have:=ha x zMs;rw[qaY,ndEs];show qbb c x<=_;omega
  have h1:(qaY c args).tail.headD 0<=4 * ndEs args+B:=by
   cases args with
   |nil=>rw[qaY];exact zero_le _
   |cons x l=>
    cases l with
    |nil=>rw[qaY,qaY];exact zero_le _
    |cons y l=>
     have:=ha y (zMo _ zMs);rw[qaY,qaY,ndEs,ndEs];show qbb c y<=_;omega
  have hc:qiW c name (qaY c args)<=4 * (1+ndEs args)+B:=by
   unfold qiW;split;omega;split;omega;unfold CEnv.fn;split
   rename_i k hk
   have hkb:=hB k (mem_of_find?_eq_some hk);have:=qpf B c args 0 (max (k.params+1) k.need) ha;omega;omega
  unfold opN;split;omega;split;omega;split;exact hc;split;omega;split;omega;split;omega;split;omega;split;omega;omega
theorem qnz(B D:Nat)(c:CEnv)(hB:KnB B D c.funcs):∀ (l:List Ex),∀ x∈l,qbb c x<=4 * ndE x+B
 |[],x,h=>(not_mem_nil h).elim
 |a::l,x,h=>by
  rcases zMi.1 h with h1|h1;rw[h1];exact qf8 B D c hB a;exact qnz B D c hB l x h1
end
theorem qvz{B D:Nat}{c:CEnv}(hB:KnB B D c.funcs)(op name:Nm):qgp c op name<=D+1:=by
 unfold qgp;split;unfold CEnv.fn;split
 rename_i k hk
 have:=hB k (mem_of_find?_eq_some hk);omega;omega;omega
mutual
theorem qov(B D:Nat)(c:CEnv)(hB:KnB B D c.funcs):∀ x:Ex,depE c x<=D+1
 |.mk op num name args=>by
  rw[depE];have h1:=qgV B D c hB args;have h2:=qvz hB op name;omega
theorem qgV(B D:Nat)(c:CEnv)(hB:KnB B D c.funcs):∀ l:List Ex,qbZ c l<=D+1
 |[]=>zero_le _
 |x::l=>by
  rw[qbZ];have h1:=qov B D c hB x;have h2:=qgV B D c hB l;omega
end
theorem qj0{B D:Nat}{c:CEnv}(hB:KnB B D c.funcs)(l:List Ex):qbb c (l.headD default)<=4 * (ndEs l+1)+B:=by
 cases l with
 |nil=>
  have:=qf8 B D c hB (default:Ex)
  have h1:ndE (default:Ex)=1:=by
   show ndE (.mk [] 0 [] [])=1;rw[ndE,ndEs]
  show qbb c default<=_;rw[ndEs]
  omega
 |cons x l=>
  have:=qf8 B D c hB x;show qbb c x<=_;rw[ndEs];omega
mutual
theorem qt8(B D:Nat)(c:CEnv)(hB:KnB B D c.funcs):∀ x:Sm,qkH c x<=8 * ndS x+B
 |.mk k n i v t e=>by
  rw[qkH,ndS];have h1:=qj0 hB v;have h2:=qj0 hB i;have h3:=qfw B D c hB t;have h4:=qfw B D c hB e;split;omega;split;omega;split;omega;omega
theorem qfw(B D:Nat)(c:CEnv)(hB:KnB B D c.funcs):∀ l:List Sm,qbM c l<=8 * ndSs l+B
 |[]=>by rw[qbM];exact zero_le _
 |x::l=>by
  rw[qbM,ndSs];have h1:=qt8 B D c hB x;have h2:=qfw B D c hB l;omega
end
mutual
theorem qrM(B D:Nat)(c:CEnv)(hB:KnB B D c.funcs):∀ x:Sm,depS c x<=D+1
 |.mk k n i v t e=>by
  rw[depS];have h1:=qgV B D c hB v;have h2:=qgV B D c hB i;have h3:=qfc B D c hB t;have h4:=qfc B D c hB e;omega
theorem qfc(B D:Nat)(c:CEnv)(hB:KnB B D c.funcs):∀ l:List Sm,qck c l<=D+1
 |[]=>by rw[qck];exact zero_le _
 |x::l=>by
  rw[qck];have h1:=qrM B D c hB x;have h2:=qfc B D c hB l;omega
end
theorem qwq{B D:Nat}{vars arrays later:List Nm}{known:List FSum}{f:FnD}(hB:KnB B D known):(sumF vars arrays later known f).need<=8 * ndF f+B/\(sumF vars arrays later known f).params+1<=8 * ndF f+B/\(sumF vars arrays later known f).depth<=D+1:=by
 have h1:=qfw B D (envF vars arrays later known f) hB f.body;have h2:=qfc B D (envF vars arrays later known f) hB f.body;unfold sumF ndF;simp only;omega
structure SzP(p:Pr)(n:Nat):Prop where
 vars:p.vars.length<=n
 arrays:p.arrays.length<=n
 size:∀ a∈p.arrays,a.size<4294967296
 funcs:ndFs p.funcs<=n
 nums:∀ f∈p.funcs,qcI f.body
structure MsOk(s:MS):Prop where
 mem:∀ i,s.mem i<4294967296
 pc:s.pc<4294967296
 data:∀ v∈s.data,v<4294967296
 calls:∀ v∈s.calls,v<4294967296
 inp:∀ v∈s.inp,v<4294967296
 few:s.data.length<=256
 deep:s.calls.length<=64
theorem MsOk.push{s s':MS}{v:Nat}(h:MsOk s)(hv:v<4294967296)(hs:qdG v s=.run s'):MsOk s':=by
 unfold qdG at hs;split at hs
 rename_i hl
 injection hs with hs;subst hs;exact⟨h.mem,h.pc,λx hx=>(zMi.1 hx).elim (λe=>e▸hv) (h.data x),h.calls,h.inp,by simp only[zLc];omega,h.deep⟩;cases hs
theorem MsOk.pop{s:MS}{a:Nat}{r:List Nat}(h:MsOk s)(hd:s.data=a::r):a<4294967296/\MsOk { s with data:=r }:=by
 have h1:=h.data;have h2:=h.few;rw[hd] at h1 h2;exact⟨h1 a zMs,h.mem,h.pc,λx hx=>h1 x (zMo _ hx),h.calls,h.inp,by simp only[zLc] at h2;show r.length<=256;omega,h.deep⟩
theorem qxO{a b:Nat}(ha:a<4294967296)(hb:b<4294967296):a ^^^ b<4294967296:=Nat.xor_lt_two_pow (n:=32) ha hb
theorem qpB{c a b v:Nat}(ha:a<4294967296)(hb:b<4294967296)(h:binM c a b=some v):v<4294967296:=by
 unfold binM at h;split at h;injection h with h;rw[<-h];exact mod_lt _ zDd;split at h;injection h with h;rw[<-h];exact mod_lt _ zDd;split at h;injection h with h;rw[<-h];exact mod_lt _ zDd;split at h;split at h;cases h;injection h with h;rw[<-h];exact Nat.lt_of_le_of_lt (Nat.div_le_self _ _) ha;split at h;split at h;cases h
 rename_i hb0
 injection h with h;rw[<-h];exact Nat.lt_trans (mod_lt _ (by omega)) hb;split at h;injection h with h;rw[<-h];exact qxO ha hb;injection h with h;rw[<-h];split <;> decide
theorem qxQ{c:Nat}{s s':MS}(h:MsOk s)(hc:c<4294967296)(hs:exeM c s=.run s'):MsOk s':=by
 unfold exeM at hs;split at hs
 rename_i hd
 unfold qca at hd;rw[zBa,zDe,zDe] at hd;unfold ql6 at hs;split at hs;split at hs
 rename_i d r hdr
 injection hs with hs;subst hs;obtain⟨_,h2⟩:=h.pop hdr;exact⟨h2.mem,h2.pc,λx hx=>(zMi.1 hx).elim (λe=>by rw[e];exact mod_lt _ zDd) (h2.data x),h2.calls,h2.inp,by have:=h.few;rw[hdr] at this;exact this,h2.deep⟩;cases hs;exact h.push (by omega) hs;split at hs;injection hs with hs;subst hs;exact h;split at hs;unfold ldM at hs;split at hs
 rename_i a r hd
 split at hs;exact(h.pop hd).2.push (h.mem a) hs;cases hs;cases hs;split at hs;unfold stoM at hs;split at hs
 rename_i a v r hd
 split at hs;injection hs with hs;subst hs;obtain⟨h1,h2⟩:=h.pop hd;obtain⟨h3,h4⟩:=h2.pop (a:=v) (r:=r) rfl;refine⟨λi=>?_,h4.pc,h4.data,h4.calls,h4.inp,h4.few,h4.deep⟩;simp only;split;exact h3;exact h.mem i;cases hs;cases hs;split at hs;unfold jmpM at hs;split at hs
 rename_i t v r hd
 injection hs with hs;subst hs;obtain⟨h1,h2⟩:=h.pop hd;obtain⟨h3,h4⟩:=h2.pop (a:=v) (r:=r) rfl;refine⟨h4.mem,?_,h4.data,h4.calls,h4.inp,h4.few,h4.deep⟩;simp only;split;exact h1;exact h.pc;cases hs;split at hs;unfold qne at hs;split at hs
 rename_i t r hd
 split at hs
 rename_i hl
 injection hs with hs;subst hs;obtain⟨h1,h2⟩:=h.pop hd;exact⟨h2.mem,h1,h2.data,λx hx=>(zMi.1 hx).elim (λe=>e▸h.pc) (h.calls x),h2.inp,h2.few,by simp only[zLc];omega⟩;cases hs;cases hs;split at hs;unfold bakM at hs;split at hs
 rename_i t r hd
 injection hs with hs;subst hs;have h1:=h.calls;have h2:=h.deep;rw[hd] at h1 h2;exact⟨h.mem,h1 t zMs,h.data,λx hx=>h1 x (zMo _ hx),h.inp,h.few,by simp only[zLc] at h2;show r.length<=64;omega⟩;cases hs;split at hs;unfold rdM at hs;split at hs
 rename_i v r hi
 have h1:=h.inp;rw[hi] at h1;have h2:MsOk { s with inp:=r }:=⟨h.mem,h.pc,h.data,h.calls,λx hx=>h1 x (zMo _ hx),h.few,h.deep⟩;exact h2.push (h1 v zMs) hs;exact h.push zDd hs;split at hs;unfold wrM at hs;split at hs
 rename_i v r hd
 injection hs with hs;subst hs;obtain⟨h1,h2⟩:=h.pop hd;exact⟨h2.mem,h2.pc,h2.data,h2.calls,h2.inp,h2.few,h2.deep⟩;cases hs;split at hs;cases hs;split at hs;unfold opM at hs;split at hs
 rename_i b a r hd
 obtain⟨h1,h2⟩:=h.pop hd;obtain⟨h3,h4⟩:=h2.pop (a:=a) (r:=r) rfl;split at hs
 rename_i v hv
 exact h4.push (qpB h3 h1 hv) hs;cases hs;cases hs;cases hs
theorem qxi(code:Wd)(og i:Nat):qfp code og i<4294967296:=by
 unfold qfp;split;split
 rename_i c _
 have:=c.toNat_lt;omega;decide;decide
open Go.Lib
section
variable(vars arrays later:List Nm)
def knF:List FSum->List FnD->FnD->List FSum
 |known,[],f=>known
 |known,g::l,f=>if g.name=f.name then known else knF (known++[sumF vars arrays later known g]) l f
end
section
variable{vars arrays later:List Nm}
theorem qvP:∀ (fs:List FnD) (known:List FSum),qfM vars arrays later known fs=0->(fs.map (·.name)).Nodup->∀ f∈fs,qb0 (envF vars arrays later (knF vars arrays later known fs f) f) f.body=0
 |[],known,_,_,f,hf=>(not_mem_nil hf).elim
 |g::l,known,h,hn,f,hf=>by
  rw[qfM] at h;obtain⟨h1,h2⟩:=qah.1 h;rw[zMc,nodup_cons] at hn;rw[knF];rcases zMi.1 hf with rfl|hf;rw[if_pos rfl];exact(qah.1 h1).2;rw[if_neg (λe=>hn.1 (List.mem_map.2 ⟨f,hf,e.symm⟩))];exact qvP l _ h2 hn.2 f hf
theorem qv2:∀ (fs:List FnD) (known:List FSum),(fs.map (·.name)).Nodup->∀ f∈fs,∀ k∈knF vars arrays later known fs f,k∈known∨∃ g∈fs,k=sumF vars arrays later (knF vars arrays later known fs g) g
 |[],known,_,f,hf,k,hk=>(not_mem_nil hf).elim
 |g::l,known,hn,f,hf,k,hk=>by
  rw[zMc,nodup_cons] at hn;rw[knF] at hk;rcases zMi.1 hf with rfl|hf;rw[if_pos rfl] at hk;exact .inl hk;rw[if_neg (λe=>hn.1 (List.mem_map.2 ⟨f,hf,e.symm⟩))] at hk;rcases qv2 l _ hn.2 f hf k hk with h|⟨x,h1,h2⟩;rcases List.mem_append.1 h with h|h;exact .inl h;refine .inr ⟨g,List.mem_cons_self ..,?_⟩;rw[knF,if_pos rfl];exact List.mem_singleton.1 h;refine .inr ⟨x,zMo _ h1,?_⟩;rw[knF,if_neg (λe=>hn.1 (List.mem_map.2 ⟨x,h1,e.symm⟩))];exact h2
theorem qnV:∀ (fs:List FnD) (known:List FSum),(fs.map (·.name)).Nodup->qjY vars arrays later known fs=known++fs.map λg=>sumF vars arrays later (knF vars arrays later known fs g) g
 |[],known,_=>by simp[qjY]
 |g::l,known,hn=>by
  rw[zMc,nodup_cons] at hn;rw[qjY,qnV l _ hn.2,zMc,zAs];congr 1;rw[List.singleton_append];congr 1;rw[knF,if_pos rfl];refine List.map_congr_left λx hx=>?_;rw[knF,if_neg (λe=>hn.1 (List.mem_map.2 ⟨x,hx,e.symm⟩))]
theorem qlI(known:List FSum)(f:FnD):qbM (envF vars arrays later known f) f.body<=(sumF vars arrays later known f).need/\qck (envF vars arrays later known f) f.body<=(sumF vars arrays later known f).depth:=⟨Nat.le_max_right _ _,Nat.le_max_right _ _⟩
end
def fstF(cc:Nm->CC):Nat->Nat->List FnD->FnD->Nat
 |_,i,[],_=>i
 |n,i,g::l,f=>if g.name=f.name then i else fstF cc (fnW (cc g.name) n g).2 (i+(fnW (cc g.name) n g).1.length) l f
theorem qtx{C:PW}{cc:Nm->CC}:∀ (fs:List FnD) (n i:Nat),C.Code i (fnWs cc n fs).1->(fs.map (·.name)).Nodup->∀ f∈fs,∃ nl,C.Code (fstF cc n i fs f) (fnW (cc f.name) nl f).1
 |[],n,i,_,_,f,hf=>(not_mem_nil hf).elim
 |g::l,n,i,h,hn,f,hf=>by
  rw[zMc,nodup_cons] at hn;rw[fnWs] at h;obtain⟨h1,h2⟩:=h.app;rw[fstF];rcases zMi.1 hf with rfl|hf;rw[if_pos rfl];exact⟨n,h1⟩;rw[if_neg (λe=>hn.1 (List.mem_map.2 ⟨f,hf,e.symm⟩))];exact qtx l _ _ h2 hn.2 f hf
theorem qpc(W:List Wd)(og:Nat)(known:Wd->Nat):PW.Code ⟨W,og,known⟩ 0 W:=λk hk=>by
 rw[zero_add];exact List.getElem?_eq_getElem hk
def offA:List Ar->Nm->Nat
 |[],_=>0
 |a::l,x=>if a.name=x then 0 else a.size+offA l x
def totA(l:List Ar):Nat:=(l.map (·.size)).sum
theorem qhf(l:List Ar):((l.map λa=>(a.name,(a.size:Int))).map (·.2)).sum=((totA l:Nat):Int):=by
 unfold totA
 induction l with
 |nil=>rfl
 |cons a l ih=>
  simp only[zMc,sum_cons] at ih ⊢;rw[ih];omega
theorem qql:∀ (l:List Ar) (at':Int) (a:Ar),a∈l->arrA at' (l.map λa=>(a.name,(a.size:Int))) a.name=at'+(offA l a.name:Nat)
 |[],at',a,h=>(not_mem_nil h).elim
 |b::l,at',a,h=>by
  rw[zMc,arrA,offA]
  by_cases he:b.name=a.name
  rw[if_pos he,if_pos he];simp;rw[if_neg he,if_neg he];rcases zMi.1 h with rfl|h;exact absurd rfl he;rw[qql l _ a h];omega
theorem qle:∀ (l:List Ar),(l.map (·.name)).Nodup->∀ a∈l,offA l a.name+a.size<=totA l
 |[],_,a,h=>(not_mem_nil h).elim
 |b::l,hn,a,h=>by
  rw[zMc,nodup_cons] at hn;have ht:totA (b::l)=b.size+totA l:=by simp[totA]
  rw[offA,ht];rcases zMi.1 h with rfl|h;rw[if_pos rfl];omega;rw[if_neg (λe=>hn.1 (List.mem_map.2 ⟨a,h,e.symm⟩))];have:=qle l hn.2 a h;omega
theorem qnN:∀ (l:List Ar),(l.map (·.name)).Nodup->∀ a∈l,∀ b∈l,a.name≠b.name->offA l a.name+a.size<=offA l b.name∨offA l b.name+b.size<=offA l a.name
 |[],_,a,h,_,_,_=>(not_mem_nil h).elim
 |x::l,hn,a,ha,b,hb,hne=>by
  rw[zMc,nodup_cons] at hn;rw[offA,offA];rcases zMi.1 ha with rfl|ha;rw[if_pos rfl,if_neg hne];left;omega;rw[if_neg (λe=>hn.1 (List.mem_map.2 ⟨a,ha,e.symm⟩))];rcases zMi.1 hb with rfl|hb;rw[if_pos rfl];right;omega;rw[if_neg (λe=>hn.1 (List.mem_map.2 ⟨b,hb,e.symm⟩))];rcases qnN l hn.2 a ha b hb hne with h|h;left;omega;right;omega
theorem qvj{l:List Ar}(h:(l.map (·.name)).Nodup){a b:Ar}(ha:a∈l)(hb:b∈l)(he:a.name=b.name):a=b:=by
 induction l with
 |nil=>cases ha
 |cons x l ih=>
  rw[zMc,nodup_cons] at h;rcases zMi.1 ha with rfl|ha';rcases zMi.1 hb with rfl|hb';rfl;exact absurd (List.mem_map.2 ⟨b,hb',he.symm⟩) h.1;rcases zMi.1 hb with rfl|hb';exact absurd (List.mem_map.2 ⟨a,ha',he⟩) h.1;exact ih h.2 ha' hb'
def qbo(P:Pr):List (Nm×Int):=P.arrays.map λa=>(a.name,(a.size:Int))
def qa6(P:Pr)(o:Org):List Wd:=prW P.vars (qbo P) P.funcs o
def qiF(P:Pr)(o:Org):Wd->Nat:=qdJ (qef (λ_=>0) o.code.toNat (qa6 P o))
def trnP(P:Pr)(o:Org):Trn where
 C:=⟨qa6 P o,o.code.toNat,qiF P o⟩
 P:=P
 cc:=λf=>ccF P.vars (qbo P) P.funcs o f.name
 cenv:=λf=>envF P.vars (P.arrays.map (·.name)) (P.funcs.map (·.name)) (knF P.vars (P.arrays.map (·.name)) (P.funcs.map (·.name)) [] P.funcs f) f
 sa:=λk=>o.scalars.toNat+3+(qaj P.vars P.funcs).idxOf k
 aa:=λn=>o.arrays.toNat+offA P.arrays n
 S:=o.scalars.toNat
 fst:=fstF (ccF P.vars (qbo P) P.funcs o) 0 5 P.funcs
theorem qb8{z:Int}(h:0<=z):itoa z=decDigits z.toNat:=by
 unfold itoa;rw[if_neg (by omega)]
structure FitN(P:Pr)(o:Org):Prop where
 s0:0<=o.scalars
 c0:0<=o.code
 a0:0<=o.arrays
 s1:o.scalars.toNat+3+(qaj P.vars P.funcs).length<=262144
 c1:o.code.toNat+40000<=262144
 a1:o.arrays.toNat+totA P.arrays<=262144
 cs:o.scalars.toNat+3+(qaj P.vars P.funcs).length<=o.code.toNat∨o.code.toNat+40000<=o.scalars.toNat
 asA:0<totA P.arrays->o.scalars.toNat+3+(qaj P.vars P.funcs).length<=o.arrays.toNat∨o.arrays.toNat+totA P.arrays<=o.scalars.toNat
 ac:0<totA P.arrays->o.code.toNat+40000<=o.arrays.toNat∨o.arrays.toNat+totA P.arrays<=o.code.toNat
theorem qhk{P:Pr}{o:Org}(h:qfZ P.vars (qbo P) P.funcs o=true):FitN P o:=by
 unfold qfZ qfP qiG at h;simp only[zBa,Bool.not_eq_true',zDe,decide_eq_false_iff_not] at h;have ht:((qbo P).map (·.2)).sum=((totA P.arrays:Nat):Int):=qhf P.arrays;rw[ht] at h;obtain⟨⟨⟨⟨⟨h1,h2⟩,h3⟩,h4⟩,h5⟩,h6⟩:=h;constructor <;> omega
section
variable{P:Pr}{o:Org}
theorem qxG(hv:Valid P)(hf:FitN P o){f:FnD}(hm:f∈P.funcs)(name:Nm)(hk:keyI f name∈qaj P.vars P.funcs):((trnP P o).cc f).sc name=decDigits ((trnP P o).sa (keyI f name)):=by
 show itoa (qeo (qaj P.vars P.funcs) o.scalars (keyC (qaj P.vars P.funcs) f.name name))=_;have h1:keyC (qaj P.vars P.funcs) f.name name=keyI f name:=qyD hv.names hm name;have h2:=hf.s0;rw[h1];unfold qeo;rw[if_pos hk,qb8 (by omega)];show _=decDigits (o.scalars.toNat+3+_);congr 1;omega
theorem qjh{l:List Nm}{k:Nm}(h:k∈l):l.idxOf k<l.length:=List.idxOf_lt_length_of_mem h
theorem qw3{l:List Nm}{k k':Nm}(h:k∈l)(h':k'∈l)(he:l.idxOf k=l.idxOf k'):k=k':=by
 have h1:l[l.idxOf k]? = some k:=by rw[List.getElem?_eq_getElem (qjh h),List.getElem_idxOf]
 have h2:l[l.idxOf k']? = some k':=by rw[List.getElem?_eq_getElem (qjh h'),List.getElem_idxOf]
 rw[he,h2] at h1;injection h1 with h1;exact h1.symm
theorem qxI(hc:qcf P=0)(hnum:∀ f∈P.funcs,qcI f.body)(hfit:qfZ P.vars (qbo P) P.funcs o=true)(hasm:qgN (qa6 P o))(hne:∀ w∈qa6 P o,w≠[])(hlen:(qcX (qiF P o) (qa6 P o)).length<=40000):TrnOk (trnP P o):=by
 have hv:=qfi hc;have hF:=qhk hfit;have hnames:=(qbA _ _ hv.names).1;have hfn:(P.funcs.map (·.name)).Nodup:=(List.nodup_append.1 hnames).2.1;have han:(P.arrays.map (·.name)).Nodup:=(List.nodup_append.1 (List.nodup_append.1 hnames).1).2.1
 have herr:qfM P.vars (P.arrays.map (·.name)) (P.funcs.map (·.name)) [] P.funcs=0:=by
  unfold qcf qdn at hc;have e1:(P.arrays.map λa=>(a.name,(a.size:Int))).map (·.1)=P.arrays.map (·.name):=by rw[map_map];try rfl
  rw[e1] at hc;exact(qah.1 (qah.1 (qah.1 hc).2).2).1
 obtain⟨s0,c0,a0,s1,c1,a1,cs,as',ac⟩:=hF;have hF:FitN P o:=⟨s0,c0,a0,s1,c1,a1,cs,as',ac⟩
 have hcode:∀ f∈P.funcs,∃ nl,(trnP P o).C.Code ((trnP P o).fst f) (fnW ((trnP P o).cc f) nl f).1:=λf hf=>by
  have h1:PW.Code (trnP P o).C 0 ([[38,102,95,109,97,105,110],[58],itoa o.scalars,[33],[36]]++(fnWs (ccF P.vars (qbo P) P.funcs o) 0 P.funcs).1):=qpc _ _ _;exact qtx P.funcs 0 5 h1.app.2 hfn f hf
 have hmem:∀ {j:Nat} {w:Wd},(qa6 P o)[j]? = some w->OkW (defs (qa6 P o)) w:=λh=>hasm.2 _ (List.mem_of_getElem? h)
 have hfd:∀ f∈P.funcs,defW ([102,95]++f.name++[58])=some ([102,95]++f.name):=λf hf=>by
  obtain⟨nl,h⟩:=hcode f hf;unfold fnW at h;simp only[List.singleton_append,cons_append,zAs] at h
  have h1:(qa6 P o)[(trnP P o).fst f]? = some (102::(95::f.name)++[58]):=by
   have h0:=h.cons.1;simp only[zAs,cons_append,nil_append] at h0 ⊢;exact h0
  have h2:=qrR (hmem h1) zDd zDd;simpa using h2
 refine⟨λf hf name h=>?_,λf hf name h=>?_,λf hf=>?_,λx hx=>?_,λx hx=>?_,λk hk=>?_,λk hk k' hk' h=>?_,λa ha i hi=>?_,λa ha b hb i j hi hj h=>?_,λa ha=>?_,λa ha b hb h=>?_,λf hf=>⟨qvP _ _ herr hfn f hf,hnum f hf⟩,λf hf name g h=>?_,λf hf=>?_,hcode,λj n h=>?_,λj n h=>?_,hfd,λf hf=>qww (hfd f hf),λj w x hw hd=>?_⟩;have hk:keyI f name∈qaj P.vars P.funcs:=qrg hf h;exact⟨qxG hv hF hf name hk,hk⟩;unfold qeS at h;split at h
 rename_i hm
 obtain⟨a,h1,h2⟩:=List.mem_map.1 (show name∈P.arrays.map (·.name) from hm);refine⟨?_,a,h1,h2⟩;show itoa (arrA o.arrays (qbo P) name)=decDigits (o.arrays.toNat+offA P.arrays name);rw[<-h2];unfold qbo;rw[qql _ _ _ h1,qb8 (by omega)];congr 1;omega;split at h <;> cases h;show itoa o.scalars=decDigits o.scalars.toNat/\itoa (o.scalars+1)=decDigits (o.scalars.toNat+1)/\itoa (o.scalars+2)=decDigits (o.scalars.toNat+2);rw[qb8 s0,qb8 (by omega),qb8 (by omega)];exact⟨rfl,by congr 1;omega,by congr 1;omega⟩;rcases hx with⟨k,hk,rfl⟩|hx|⟨a,ha,i,hi,rfl⟩;have h1:(qaj P.vars P.funcs).idxOf k<_:=qjh hk;show o.scalars.toNat+3+(qaj P.vars P.funcs).idxOf k<262144;omega;have h1:o.scalars.toNat<=x/\x<=o.scalars.toNat+2:=hx;omega;have h1:=qle _ han a ha;show o.arrays.toNat+offA P.arrays a.name+i<262144;omega;show x<o.code.toNat∨o.code.toNat+(qcX (qiF P o) (qa6 P o)).length<=x;rcases hx with⟨k,hk,rfl⟩|hx|⟨a,ha,i,hi,rfl⟩;have h1:(qaj P.vars P.funcs).idxOf k<_:=qjh hk;show o.scalars.toNat+3+(qaj P.vars P.funcs).idxOf k<_∨_<=o.scalars.toNat+3+(qaj P.vars P.funcs).idxOf k;omega;have h1:o.scalars.toNat<=x/\x<=o.scalars.toNat+2:=hx;omega;have h1:=qle _ han a ha;have h2:=ac (by have:i<a.size:=hi;omega);have h3:i<a.size:=hi;show o.arrays.toNat+offA P.arrays a.name+i<_∨_<=o.arrays.toNat+offA P.arrays a.name+i;omega;exact Nat.le_add_right _ _;have h1:o.scalars.toNat+3+(qaj P.vars P.funcs).idxOf k=o.scalars.toNat+3+(qaj P.vars P.funcs).idxOf k':=h;have h2:(qaj P.vars P.funcs).idxOf k=(qaj P.vars P.funcs).idxOf k':=by omega
 exact qw3 hk hk' h2;have h1:=qle _ han a ha;have h2:=as' (by omega);refine⟨λk hk=>?_,?_⟩;have h3:(qaj P.vars P.funcs).idxOf k<_:=qjh hk;show o.scalars.toNat+3+(qaj P.vars P.funcs).idxOf k≠o.arrays.toNat+offA P.arrays a.name+i;omega;show ¬ (o.scalars.toNat<=o.arrays.toNat+offA P.arrays a.name+i/\o.arrays.toNat+offA P.arrays a.name+i<=o.scalars.toNat+2);omega;have h:o.arrays.toNat+offA P.arrays a.name+i=o.arrays.toNat+offA P.arrays b.name+j:=h
 by_cases he:a.name=b.name
 rw[he] at h;exact⟨he,by omega⟩;rcases qnN _ han a ha b hb he with h1|h1;omega;omega;have h1:=qle _ han a ha;show o.arrays.toNat+offA P.arrays a.name<1000000;omega;rw[qvj han ha hb h]
 ·have h1:g∈knF P.vars (P.arrays.map (·.name)) (P.funcs.map (·.name)) [] P.funcs f:=mem_of_find?_eq_some h;have h2:g.name=name:=of_decide_eq_true (List.find?_some (p:=λg:FSum=>decide (g.name=name)) h);rcases qv2 P.funcs [] hfn f hf g h1 with h3|⟨x,h3,h4⟩;exact(not_mem_nil h3).elim;have h5:x.name=name:=by rw[<-h2,h4];try rfl
  have h6:=qoi (P:=P) hfn h3;rw[h5] at h6;show fnI P name∈P.funcs/\_;rw[show(trnP P o).P=P from rfl,h6,h4];exact⟨h3,h5,rfl,(qlI _ x).1,(qlI _ x).2⟩
 have ho:=hv.own f hf;have hkey:∀ p∈f.params,keyI f p=f.name++[46]++p:=λp hp=>by unfold keyI;rw[if_pos (.inl hp)]
 refine⟨λp hp=>?_,?_⟩
 have hk:keyI f p∈qaj P.vars P.funcs:=by
  rw[hkey p hp];exact(qrT hv.names hf p).2 (List.mem_append.2 (.inl hp))
 exact⟨hk,qxG hv hF hf p hk⟩;have hn:f.params.Nodup:=(List.nodup_append.1 ho.1).1;refine List.pairwise_map.2 (hn.imp_of_mem λ{a b} ha hb hab he=>hab ?_);rw[hkey a ha,hkey b hb] at he;exact List.append_cancel_left he;exact qrR (c:=106) (x:=decDigits n) (hmem h) zDd zDd;exact qv5 (hmem h);exact qnO o.code.toNat hasm.1 hne hw hd
end
def AllC(l:List Wd):Prop:=∀ w∈l,qbx w
theorem qa9:AllC []:=λw hw=>(not_mem_nil hw).elim
theorem qaB{w:Wd}{l:List Wd}:AllC (w::l) ↔ qbx w/\AllC l:=List.forall_mem_cons
theorem qaL{a b:List Wd}:AllC (a++b) ↔ AllC a/\AllC b:=List.forall_mem_append
def qr1(w:Wd):Bool:=decide (w≠[]) && w.all λc=>decide (c≠10/\c≠32/\c≠35)
theorem qoQ{w:Wd}(h:qr1 w=true):qbx w:=by
 unfold qr1 at h;rw[zBa,zDe,List.all_eq_true] at h;refine⟨h.1,λc hc=>?_⟩;have:=of_decide_eq_true (h.2 c hc);exact this
theorem qdD{l:List Wd}(h:l.all qr1=true):AllC l:=λw hw=>qoQ (List.all_eq_true.1 h w hw)
theorem qdQ{z:Int}(h:0<=z):qbx (itoa z):=by rw[qb8 h];exact qfq _
theorem qkp{a b:Wd}(h:qeK a)(h2:qeK b)(hne:a≠[]):qbx (a++b):=⟨λh=>hne (List.append_eq_nil_iff.1 h).1,λc hc=>(List.mem_append.1 hc).elim (h c) (h2 c)⟩
theorem qgE{p:Prop} [Decidable p]{a b:List Wd}(h1:p->AllC a)(h2:¬ p->AllC b):AllC (if p then a else b):=by
 by_cases h:p
 rw[if_pos h];exact h1 h;rw[if_neg h];exact h2 h
structure ClC(c:CC):Prop where
 sc:∀ n,qbx (c.sc n)
 ar:∀ n,qbx (c.ar n)
 t0:qbx c.t0
 t1:qbx c.t1
 t2:qbx c.t2
theorem qvw{s:Nm}(h:isNm s=true):qeK s:=by
 unfold isNm at h;rw[zBa] at h;have h2:=h.2
 have hi:∀ c:UInt8,qaV c=true∨qaW c=true->c≠10/\c≠32/\c≠35:=λc hc=>by
  refine⟨?_,?_,?_⟩ <;> (rintro rfl;exact absurd hc zDd)
 cases s with
 |nil=>exact λc hc=>(not_mem_nil hc).elim
 |cons c r=>
  simp only[zBa] at h2;intro d hd;rcases zMi.1 hd with rfl|hd;exact hi _ (.inl h2.1);exact hi _ (.inr (List.all_eq_true.1 h2.2 d hd))
theorem qmm{c:CC}(hc:ClC c):AllC (qaZ c):=by
 have hs:∀ {k:UInt8},(k≠10/\k≠32/\k≠35)->qbx [k]:=λh=>⟨by simp,λx hx=>by rw[List.mem_singleton.1 hx];exact h⟩;unfold qaZ
 repeat' first|exact hc.t1|exact hc.t2|exact hs zDd|exact qa9|refine qaB.2 ⟨?_,?_⟩
theorem qse{c:CC}(hc:ClC c){op name:Nm}{num:Nat}{l:List (List Wd)}(hl:∀ ws∈l,AllC ws)(hop:qbv op ≠ -2)(hcall:op=qbN->qeK name):AllC (opW c op num name l):=by
 have hh:AllC (l.headD []):=by
  cases l with
  |nil=>exact qa9
  |cons a r=>exact hl a zMs
 have h2:AllC ((l.drop 1).headD []):=by
  cases l with
  |nil=>exact qa9
  |cons a r=>
   cases r with
   |nil=>exact qa9
   |cons b r=>exact hl b (zMo _ zMs)
 have hf:AllC l.flatten:=λw hw=>by
  obtain⟨ws,h1,h3⟩:=List.mem_flatten.1 hw;exact hl ws h1 w h3
 have hg:=qmm hc;have hs:∀ {k:UInt8},(k≠10/\k≠32/\k≠35)->qbx [k]:=λh=>⟨by simp,λx hx=>by rw[List.mem_singleton.1 hx];exact h⟩
 have hbin:¬ (op=nNum)->¬ (op=nVar)->¬ (op=qec)->¬ (op=qbN)->¬ (op=nNeg)->¬ (op=nNot)->qbx op:=by
  intro a1 a2 a3 a4 a5 a6;unfold qbv at hop;rw[if_neg (by simp[a1,a2]),if_neg (by simp[a3,a5,a6]),if_neg a4] at hop;split at hop
  rename_i h
  exact qdD (l:=qeO) zDd op h;exact absurd rfl hop
 unfold opW;refine qgE (λn1=>?_) λn1=>qgE (λn2=>?_) λn2=>qgE (λn3=>?_) λn3=>qgE (λn4=>?_) λn4=>qgE (λn5=>?_) λn5=>qgE (λn6=>?_) λn6=>qgE (λn7=>?_) λn7=>qgE (λn8=>?_) λn8=>qgE (λn9=>?_) λn9=>?_;exact qaB.2 ⟨qfq _,qa9⟩
 ·repeat' first|exact hh|exact h2|exact qa9|exact hc.sc _|exact hc.ar _|exact hs zDd|refine qaB.2 ⟨?_,?_⟩|refine qaL.2 ⟨?_,?_⟩
 ·repeat' first|exact hh|exact h2|exact qa9|exact hc.sc _|exact hc.ar _|exact hs zDd|refine qaB.2 ⟨?_,?_⟩|refine qaL.2 ⟨?_,?_⟩
 refine qaL.2 ⟨hf,qgE (λ_=>qdD zDd) λ_=>qgE (λ_=>qdD zDd) λ_=>?_⟩;refine qaB.2 ⟨qkp (λx hx=>?_) (hcall n4) (by simp),qdD zDd⟩;have:=List.all_eq_true.1 (show([38,102,95]:Wd).all (λc=>decide (c≠10/\c≠32/\c≠35))=true by decide) x hx;exact of_decide_eq_true this
 ·repeat' first|exact hh|exact h2|exact qa9|exact hc.sc _|exact hc.ar _|exact hs zDd|refine qaB.2 ⟨?_,?_⟩|refine qaL.2 ⟨?_,?_⟩
 ·repeat' first|exact hh|exact h2|exact qa9|exact hc.sc _|exact hc.ar _|exact hs zDd|refine qaB.2 ⟨?_,?_⟩|refine qaL.2 ⟨?_,?_⟩
 ·repeat' first|exact hh|exact h2|exact qa9|exact hc.sc _|exact hc.ar _|exact hs zDd|refine qaB.2 ⟨?_,?_⟩|refine qaL.2 ⟨?_,?_⟩
 ·repeat' first|exact hh|exact h2|exact qa9|exact hc.sc _|exact hc.ar _|exact hs zDd|refine qaB.2 ⟨?_,?_⟩|refine qaL.2 ⟨?_,?_⟩
 ·repeat' first|exact hh|exact h2|exact qa9|exact hc.sc _|exact hc.ar _|exact hs zDd|refine qaB.2 ⟨?_,?_⟩|refine qaL.2 ⟨?_,?_⟩
 refine qaL.2 ⟨qaL.2 ⟨hh,h2⟩,?_⟩;refine qgE (λ_=>hg) λ_=>qgE (λ_=>qaL.2 ⟨hg,qdD zDd⟩) λ_=>qgE (λ_=>qdD zDd) λ_=>qgE (λ_=>qdD zDd) λ_=>?_;exact qaB.2 ⟨hbin n1 n2 n3 n4 n5 n6,qa9⟩
mutual
theorem qnf{c:CC}(hc:ClC c){env:CEnv}(hfn:∀ k∈env.funcs,qeK k.name):∀ e,errE env e=0->AllC (exW c e)
 |.mk op num name args,h=>by
  rw[errE] at h;split at h
  rename_i ho
  obtain⟨h1,h3⟩:=qah.1 h;rw[exW];refine qse hc (qli hc hfn args h1) (by omega) (λhcl=>?_);subst hcl;unfold useE at h3;rw[if_neg zDd,if_neg zDd,if_pos rfl] at h3;unfold callE at h3;split at h3
  rename_i e;rw[e]
  exact λx hx=>of_decide_eq_true (List.all_eq_true.1 (show([105,110]:Wd).all (λc=>decide (c≠10/\c≠32/\c≠35))=true by decide) x hx);split at h3
  rename_i e;rw[e]
  exact λx hx=>of_decide_eq_true (List.all_eq_true.1 (show([111,117,116]:Wd).all (λc=>decide (c≠10/\c≠32/\c≠35))=true by decide) x hx);unfold CEnv.fn at h3
  cases hf:env.funcs.find? λf=>decide (f.name=name) with
  |none=>
   rw[hf] at h3;simp only at h3
   split at h3 <;> cases h3
  |some k=>
   have e:k.name=name:=of_decide_eq_true (List.find?_some (p:=λg:FSum=>decide (g.name=name)) hf);rw[<-e];exact hfn k (mem_of_find?_eq_some hf)
  cases h
theorem qli{c:CC}(hc:ClC c){env:CEnv}(hfn:∀ k∈env.funcs,qeK k.name):∀ l,qbr env l=0->∀ ws∈exWl c l,AllC ws
 |[],h,ws,hw=>by rw[exWl] at hw;exact(not_mem_nil hw).elim
 |x::l,h,ws,hw=>by
  rw[qbr] at h;obtain⟨h1,h2⟩:=qah.1 h;rw[exWl] at hw;rcases zMi.1 hw with rfl|hw;exact qnf hc hfn x h1;exact qli hc hfn l h2 ws hw
end
theorem qcE(n:Nat):qbx (labW n)/\qbx (38::labW n)/\qbx (labW n++[58]):=by
 have h:=(qfq n).2
 have h1:∀ {c:UInt8} {w:Wd},(c≠10/\c≠32/\c≠35)->qeK w->qeK (c::w):=λhc hw x hx=>by
  rcases zMi.1 hx with rfl|hx;exact hc;exact hw x hx
 have h2:qeK (labW n):=h1 zDd h;exact⟨⟨by simp[labW],h2⟩,⟨by simp,h1 zDd h2⟩,qkp h2 (h1 zDd λx hx=>(not_mem_nil hx).elim) (by simp[labW])⟩
section
variable{c:CC}{env:CEnv}
theorem qe4{k:UInt8}(h:k≠10/\k≠32/\k≠35):qbx [k]:=⟨by simp,λx hx=>by rw[List.mem_singleton.1 hx];exact h⟩
theorem qk7(hc:ClC c)(hfn:∀ k∈env.funcs,qeK k.name){l:List Ex}(h1:l.length=1)(h:qbr env l=0):AllC (exW c (l.headD default)):=by
 obtain⟨x,rfl⟩:=List.length_eq_one_iff.1 h1;rw[qbr] at h;exact qnf hc hfn x (qah.1 h).1
mutual
theorem qsH(hc:ClC c)(hfn:∀ k∈env.funcs,qeK k.name):∀ (s:Sm) (n:Nat),errS env s=0->AllC (stW c n s).1
 |.mk kind name index value thn els,n,h=>by
  rw[errS] at h
  by_cases hf:qbR (.mk kind name index value thn els)=false
  rw[if_pos hf] at h;cases h;rw[if_neg hf] at h;obtain⟨h1,h⟩:=qah.1 h;obtain⟨h2,h⟩:=qah.1 h;obtain⟨h3,h⟩:=qah.1 h;obtain⟨h4,h5⟩:=qah.1 h;rw[Bool.not_eq_false] at hf;unfold qbR at hf
  have hv:kind=1∨kind=2∨kind=3∨kind=4∨kind=5∨kind=6->AllC (exW c (value.headD default)):=λhk=>qk7 hc hfn (by
   rcases hk with rfl|rfl|rfl|rfl|rfl|rfl <;> simp at hf <;> simp[hf]) h1
  have ht:=λn=>qf7 hc hfn thn n h4;have he:=λn=>qf7 hc hfn els n h5;unfold stW
  by_cases k1:kind=1
  rw[if_pos k1];exact qaL.2 ⟨hv (by simp[k1]),qaB.2 ⟨hc.sc _,qdD zDd⟩⟩;rw[if_neg k1]
  by_cases k2:kind=2
  rw[if_pos k2];refine qaL.2 ⟨hv (by simp[k2]),qaB.2 ⟨hc.ar _,qaL.2 ⟨qk7 hc hfn ?_ h2,qdD zDd⟩⟩⟩;subst k2;simp at hf;simp[hf];rw[if_neg k2]
  by_cases k3:kind=3
  rw[if_pos k3];have h8:=hv (by simp[k3])
  cases els with
  |nil=>
   simp only
   exact qaL.2 ⟨qaL.2 ⟨qaL.2 ⟨h8,qaB.2 ⟨(qcE n).2.1,qdD zDd⟩⟩,ht _⟩,qaB.2 ⟨(qcE n).2.2,qa9⟩⟩
  |cons a r=>
   simp only;exact qaL.2 ⟨qaL.2 ⟨qaL.2 ⟨qaL.2 ⟨qaL.2 ⟨h8,qaB.2 ⟨(qcE n).2.1,qdD zDd⟩⟩,ht _⟩,qaB.2 ⟨qe4 zDd,qaB.2 ⟨(qcE (n+1)).2.1,qaB.2 ⟨qe4 zDd,qaB.2 ⟨(qcE n).2.2,qa9⟩⟩⟩⟩⟩,he _⟩,qaB.2 ⟨(qcE (n+1)).2.2,qa9⟩⟩
  rw[if_neg k3]
  by_cases k4:kind=4
  rw[if_pos k4];have h8:=hv (by simp[k4]);exact qaL.2 ⟨qaL.2 ⟨qaL.2 ⟨qaL.2 ⟨qaB.2 ⟨(qcE n).2.2,qa9⟩,h8⟩,qaB.2 ⟨(qcE (n+1)).2.1,qdD zDd⟩⟩,ht _⟩,qaB.2 ⟨qe4 zDd,qaB.2 ⟨(qcE n).2.1,qaB.2 ⟨qe4 zDd,qaB.2 ⟨(qcE (n+1)).2.2,qa9⟩⟩⟩⟩⟩;rw[if_neg k4]
  by_cases k5:kind=5
  rw[if_pos k5];exact qaL.2 ⟨hv (by simp[k5]),qdD zDd⟩;rw[if_neg k5]
  by_cases k6:kind=6
  rw[if_pos k6];exact qaL.2 ⟨hv (by simp[k6]),qaB.2 ⟨hc.t0,qdD zDd⟩⟩;rw[if_neg k6]
  by_cases k7:kind=7
  rw[if_pos k7];exact qaB.2 ⟨qe4 zDd,qa9⟩;rw[if_neg k7];exact qa9
theorem qf7(hc:ClC c)(hfn:∀ k∈env.funcs,qeK k.name):∀ (l:List Sm) (n:Nat),qb0 env l=0->AllC (stWs c n l).1
 |[],n,h=>by rw[stWs];exact qa9
 |s::l,n,h=>by
  rw[qb0] at h;obtain⟨h1,h2⟩:=qah.1 h;rw[stWs];exact qaL.2 ⟨qsH hc hfn s n h1,qf7 hc hfn l _ h2⟩
end
theorem qs3(hc:ClC c)(hfn:∀ k∈env.funcs,qeK k.name)(f:FnD)(n:Nat)(hname:qeK f.name)(h:qb0 env f.body=0):AllC (fnW c n f).1:=by
 unfold fnW;simp only;refine qaL.2 ⟨qaL.2 ⟨qaL.2 ⟨qaB.2 ⟨?_,qa9⟩,λw hw=>?_⟩,qf7 hc hfn _ _ h⟩,qdD zDd⟩;rw[zAs];refine qkp (λx hx=>?_) (λx hx=>?_) (by simp);exact of_decide_eq_true (List.all_eq_true.1 (show([102,95]:Wd).all (λc=>decide (c≠10/\c≠32/\c≠35))=true by decide) x hx);rcases List.mem_append.1 hx with h|h;exact hname x h;exact(qe4 (k:=58) zDd).2 x h;obtain⟨p,h1,h2⟩:=List.mem_flatMap.1 hw;rcases zMi.1 h2 with rfl|h2;exact hc.sc _;rw[List.mem_singleton.1 h2];exact qe4 zDd
end
theorem qkN{cc:Nm->CC}(hc:∀ n,ClC (cc n)):∀ (fs:List FnD) (n:Nat),(∀ f∈fs,∀ m,AllC (fnW (cc f.name) m f).1)->AllC (fnWs cc n fs).1
 |[],n,_=>by rw[fnWs];exact qa9
 |f::l,n,h=>by
  rw[fnWs];exact qaL.2 ⟨h f zMs n,qkN hc l _ λg hg=>h g (zMo _ hg)⟩
section
variable{P:Pr}{o:Org}
theorem qgX:∀ (l:List (Nm×Int)) (a:Int),0<=a->(∀ p∈l,0<=p.2)->∀ n,0<=arrA a l n
 |[],a,_,_,n=>by simp[arrA]
 |(x,k)::l,a,h,hl,n=>by
  rw[arrA];split;exact h;have:0<=k:=hl (x,k) zMs;exact qgX l _ (by omega) (λp hp=>hl p (zMo _ hp)) n
theorem qpi(hF:FitN P o)(own:Nm):ClC (ccF P.vars (qbo P) P.funcs o own):=by
 have s0:=hF.s0;refine⟨λn=>?_,λn=>?_,?_,?_,?_⟩;refine qdQ ?_;unfold qeo;split <;> omega;refine qdQ (qgX _ _ hF.a0 (λp hp=>?_) n);obtain⟨a,_,rfl⟩:=List.mem_map.1 hp;exact Int.natCast_nonneg _;exact qdQ s0;exact qdQ (z:=o.scalars+1) (by omega);exact qdQ (z:=o.scalars+2) (by omega)
theorem qnw(hc:qcf P=0)(hfit:qfZ P.vars (qbo P) P.funcs o=true):AllC (qa6 P o):=by
 have hv:=qfi hc;have hF:=qhk hfit;have hfr:=qbA _ _ hv.names;have hpl:∀ f∈P.funcs,qeK f.name:=λf hf=>qvw (hfr.2 _ (List.mem_append.2 (.inr (List.mem_map.2 ⟨f,hf,rfl⟩)))).2;have h1:AllC ([[38,102,95,109,97,105,110],[58],itoa o.scalars,[33],[36]]:List Wd):=qaB.2 ⟨qoQ zDd,qaB.2 ⟨qoQ zDd,qaB.2 ⟨qdQ hF.s0,qdD zDd⟩⟩⟩;refine qaL.2 ⟨h1,qkN (λn=>qpi hF n) P.funcs 0 λf hf m=>?_⟩;obtain⟨kn,k1,k2⟩:=hv.bodies f hf;refine qs3 (qpi hF f.name) (λk hk=>?_) f m (hpl f hf) k1;obtain⟨g,g1,g2,_⟩:=k2 k hk;rw[<-g2];exact hpl g g1
theorem qmI{t:Wd}(hnum:∀ f∈P.funcs,qcI f.body)(h:cmpP P.vars (qbo P) P.funcs o=.ok t) :
  qcf P=0/\qfZ P.vars (qbo P) P.funcs o=true/\t=join (qa6 P o) [32]/\qbl t=qa6 P o/\asmP t o.code=.ok (qcX (qiF P o) (qa6 P o),qef (λ_=>0) o.code.toNat (qa6 P o))/\TrnOk (trnP P o)/\o.code.toNat+(qcX (qiF P o) (qa6 P o)).length<=262144:=by
 unfold cmpP at h;split at h;cases h
 rename_i h1
 split at h;cases h
 rename_i h2
 have hc:qcf P=0:=by
  have:=Classical.not_not.1 h1;exact this
 have hfit:qfZ P.vars (qbo P) P.funcs o=true:=by simpa using h2
 have hcl:=qnw hc hfit;have hw:qbl (join (qa6 P o) [32])=qa6 P o:=qf2 hcl;split at h;cases h
 rename_i x hx
 injection h with h;have hx:asmP (join (qa6 P o) [32]) o.code=.ok x:=hx;have ht:t=join (qa6 P o) [32]:=h.symm;rw[ht];have hx0:=hx;unfold asmP at hx;rw[hw] at hx;split at hx;cases hx;split at hx;cases hx
 rename_i h4
 split at hx;cases hx
 rename_i h5
 injection hx with hx
 have hA:qgN (qa6 P o):=by
  have:=qpK (src:=join (qa6 P o) [32]) (by rw[hw];exact Classical.not_not.1 h4)
  rwa [hw] at this
 have hlen:(qcX (qiF P o) (qa6 P o)).length<=40000:=Nat.le_of_not_lt h5;have hF:=qhk hfit;refine⟨hc,hfit,rfl,hw,by rw[hx0,<-hx];try rfl,qxI hc hnum hfit hA (λw hw=>(hcl w hw).1) hlen,?_⟩;have:=hF.c1;omega
end
structure ShC(c:CC):Prop where
 sc:∀ n,(c.sc n).length<=10
 ar:∀ n,(c.ar n).length<=10
 t0:c.t0.length<=10
 t1:c.t1.length<=10
 t2:c.t2.length<=10
def sumW(l:List (List Wd)):Nat:=(l.map tot).sum
theorem qg5(a:List Wd)(l:List (List Wd)):sumW (a::l)=tot a+sumW l:=by simp[sumW]
theorem qvc(l:List (List Wd)):tot (l.headD [])+tot ((l.drop 1).headD [])<=sumW l:=by
 cases l with
 |nil=>simp[tot,sumW]
 |cons a r=>
  rw[qg5]
  cases r with
  |nil=>simp[tot,sumW]
  |cons b r=>rw[qg5];simp only[List.headD_cons,List.drop_one,List.tail_cons];omega
theorem qpP:∀ l:List (List Wd),tot l.flatten=sumW l
 |[]=>rfl
 |a::l=>by rw[flatten_cons,qbd,qpP l,qg5]
theorem qd3{p:Prop} [Decidable p]{a b:List Wd}{n:Nat}(h1:p->tot a<=n)(h2:¬ p->tot b<=n):tot (if p then a else b)<=n:=by
 by_cases h:p
 rw[if_pos h];exact h1 h;rw[if_neg h];exact h2 h
theorem qxP{op:Nm}(h:op∈qeO):op.length<=2:=by
 have:∀ o∈qeO,o.length<=2:=by decide
 exact this op h
theorem qxA{c:CC}(hc:ShC c){op name:Nm}{num:Nat}{l:List (List Wd)}(hn:num<4294967296)(hop:qbv op ≠ -2)(hcall:op=qbN->name.length<=24):tot (opW c op num name l)<=60+sumW l:=by
 have hh:=qvc l;have hf:=qpP l;have hd:=qh6 hn;have h0:=hc.t0;have h1:=hc.t1;have h2:=hc.t2;have hs:=hc.sc name;have ha:=hc.ar name
 have hbin:¬ (op=nNum)->¬ (op=nVar)->¬ (op=qec)->¬ (op=qbN)->¬ (op=nNeg)->¬ (op=nNot)->op.length<=2:=by
  intro a1 a2 a3 a4 a5 a6;unfold qbv at hop;rw[if_neg (by simp[a1,a2]),if_neg (by simp[a3,a5,a6]),if_neg a4] at hop;split at hop
  rename_i h
  exact qxP h;exact absurd rfl hop
 have hg:tot (qaZ c)<=54:=by
  unfold qaZ;simp only[qaN,qba,zLc,zLn];omega
 unfold opW;refine qd3 (λn1=>?_) λn1=>qd3 (λn2=>?_) λn2=>qd3 (λn3=>?_) λn3=>qd3 (λn4=>?_) λn4=>qd3 (λn5=>?_) λn5=>qd3 (λn6=>?_) λn6=>qd3 (λn7=>?_) λn7=>qd3 (λn8=>?_) λn8=>qd3 (λn9=>?_) λn9=>?_;simp only[qaN,qba];omega;simp only[qaN,qba,zLc,zLn];omega;simp only[qaN,qbd,qba,zLc,zLn];omega;have hnl:=hcall n4;rw[qbd,hf]
 have:tot (if name=[105,110] then ([[44]]:List Wd) else if name=[111,117,116] then [[46],[48]] else [[38,102,95]++name,[58]])<=60:=qd3 (λ_=>by decide) λ_=>qd3 (λ_=>by decide) λ_=>by
  simp only[qaN,qba,zLa,zLc,zLn];omega
 omega;simp only[qaN,qbd,qba,zLc,zLn];omega;simp only[qaN,qbd,qba,zLc,zLn];omega;simp only[qaN,qbd,qba,zLc,zLn];omega;simp only[qaN,qbd,qba,zLc,zLn];omega;simp only[qaN,qbd,qba,zLc,zLn];omega;have hb:=hbin n1 n2 n3 n4 n5 n6;rw[qbd,qbd]
 have:tot (if op=[62] then qaZ c else if op=[60,61] then qaZ c++[[49],[94]] else if op=[62,61] then ([[60],[49],[94]]:List Wd) else if op=[61,61] then [[94],[49],[60]] else [op])<=60:=qd3 (λ_=>by omega) λ_=>qd3 (λ_=>by
  simp only[qaN,qbd,qba,zLc,zLn];omega) λ_=>qd3 (λ_=>by decide) λ_=>qd3 (λ_=>by decide) λ_=>by
  simp only[qaN,qba];omega
 omega
mutual
theorem qsr{c:CC}(hc:ShC c){env:CEnv}(hfn:∀ k∈env.funcs,k.name.length<=24):∀ e,numE e->errE env e=0->tot (exW c e)<=60 * ndE e
 |.mk op num name args,hn,h=>by
  rw[errE] at h;rw[numE] at hn;rw[ndE];split at h
  rename_i ho
  obtain⟨h1,h3⟩:=qah.1 h;rw[exW];have:=qqb hc hfn args hn.2 h1;have h5:=qxA hc (op:=op) (name:=name) (num:=num) (l:=exWl c args) hn.1 (by omega) (λhcl=>?_);omega;subst hcl;unfold useE at h3;rw[if_neg zDd,if_neg zDd,if_pos rfl] at h3;unfold callE at h3;split at h3
  rename_i e;rw[e];decide
  split at h3
  rename_i e;rw[e];decide
  unfold CEnv.fn at h3
  cases hf:env.funcs.find? λf=>decide (f.name=name) with
  |none=>
   rw[hf] at h3;simp only at h3
   split at h3 <;> cases h3
  |some k=>
   have e:k.name=name:=of_decide_eq_true (List.find?_some (p:=λg:FSum=>decide (g.name=name)) hf);rw[<-e];exact hfn k (mem_of_find?_eq_some hf)
  cases h
theorem qqb{c:CC}(hc:ShC c){env:CEnv}(hfn:∀ k∈env.funcs,k.name.length<=24):∀ l,qdt l->qbr env l=0->sumW (exWl c l)<=60 * ndEs l
 |[],_,h=>by rw[exWl];exact zero_le _
 |x::l,hn,h=>by
  rw[qbr] at h;rw[qdt] at hn;obtain⟨h1,h2⟩:=qah.1 h;have a1:=qsr hc hfn x hn.1 h1;have a2:=qqb hc hfn l hn.2 h2;rw[exWl,qg5,ndEs];omega
end
theorem qpW{c:CC}(hc:ShC c){env:CEnv}(hfn:∀ k∈env.funcs,k.name.length<=24){l:List Ex}(h1:l.length=1)(hn:qdt l)(h:qbr env l=0):tot (exW c (l.headD default))<=60 * ndEs l:=by
 obtain⟨x,rfl⟩:=List.length_eq_one_iff.1 h1;rw[qbr] at h;rw[qdt] at hn;have:=qsr hc hfn x hn.1 (qah.1 h).1;rw[ndEs];simp only[List.headD_cons];omega
theorem qju{n:Nat}(h:n<=4000000000):(labW n).length<=11:=by
 have:=qh6 (u:=n) (by omega);simp only[labW,zLc];omega
mutual
theorem qwF{c:CC}(hc:ShC c){env:CEnv}(hfn:∀ k∈env.funcs,k.name.length<=24):∀ (s:Sm) (n:Nat),numS s->errS env s=0->n+2 * ndS s<=4000000000->tot (stW c n s).1<=60 * ndS s/\(stW c n s).2<=n+2 * ndS s
 |.mk kind name index value thn els,n,hnm,h,hN=>by
  rw[errS] at h;rw[numS] at hnm;rw[ndS] at hN ⊢;obtain⟨m1,m2,m3,m4⟩:=hnm
  by_cases hf:qbR (.mk kind name index value thn els)=false
  rw[if_pos hf] at h;cases h;rw[if_neg hf] at h;obtain⟨h1,h⟩:=qah.1 h;obtain⟨h2,h⟩:=qah.1 h;obtain⟨h3,h⟩:=qah.1 h;obtain⟨h4,h5⟩:=qah.1 h;rw[Bool.not_eq_false] at hf;unfold qbR at hf
  have hv:kind=1∨kind=2∨kind=3∨kind=4∨kind=5∨kind=6->tot (exW c (value.headD default))<=60 * ndEs value:=λhk=>qpW hc hfn (by
   rcases hk with rfl|rfl|rfl|rfl|rfl|rfl <;> simp at hf <;> simp[hf]) m2 h1
  have ht:=λn hn=>qi1 hc hfn thn n m3 h4 hn;have he:=λn hn=>qi1 hc hfn els n m4 h5 hn;have l0:=qju (n:=n) (by omega);have l1:=qju (n:=n+1) (by omega);have t0:=hc.t0;have ts:=hc.sc name;have ta:=hc.ar name;unfold stW
  by_cases k1:kind=1
  have:=hv (by simp[k1]);rw[if_pos k1];simp only[qaN,qbd,qba,zLc,zLn];omega;rw[if_neg k1]
  by_cases k2:kind=2
  have:=hv (by simp[k2])
  have hi:tot (exW c (index.headD default))<=60 * ndEs index:=by
   refine qpW hc hfn ?_ m1 h2;subst k2;simp at hf;simp[hf]
  rw[if_pos k2];simp only[qaN,qbd,qba,zLc,zLn];omega;rw[if_neg k2]
  by_cases k3:kind=3
  rw[if_pos k3];have h8:=hv (by simp[k3])
  cases els with
  |nil=>
   have h9:=ht (n+1) (by omega);simp only[qaN,qbd,qba,zLc,zLn,zLa]
   omega
  |cons a r=>
   have h9:=ht (n+2) (by omega);have h10:=he (stWs c (n+2) thn).2 (by omega);simp only[qaN,qbd,qba,zLc,zLn,zLa];omega
  rw[if_neg k3]
  by_cases k4:kind=4
  rw[if_pos k4];have h8:=hv (by simp[k4]);have h9:=ht (n+2) (by omega);simp only[qaN,qbd,qba,zLc,zLn,zLa];omega;rw[if_neg k4]
  by_cases k5:kind=5
  have:=hv (by simp[k5]);rw[if_pos k5];simp only[qaN,qbd,qba,zLc,zLn];omega;rw[if_neg k5]
  by_cases k6:kind=6
  have:=hv (by simp[k6]);rw[if_pos k6];simp only[qaN,qbd,qba,zLc,zLn];omega;rw[if_neg k6]
  by_cases k7:kind=7
  rw[if_pos k7];simp only[qaN,qba,zLc,zLn];omega;rw[if_neg k7];simp only[qba];omega
theorem qi1{c:CC}(hc:ShC c){env:CEnv}(hfn:∀ k∈env.funcs,k.name.length<=24):∀ (l:List Sm) (n:Nat),qcI l->qb0 env l=0->n+2 * ndSs l<=4000000000->tot (stWs c n l).1<=60 * ndSs l/\(stWs c n l).2<=n+2 * ndSs l
 |[],n,_,h,_=>by rw[stWs];simp[qba]
 |s::l,n,hnm,h,hN=>by
  rw[qb0] at h;rw[qcI] at hnm;rw[ndSs] at hN ⊢;obtain⟨h1,h2⟩:=qah.1 h;have a1:=qwF hc hfn s n hnm.1 h1 (by omega);have a2:=qi1 hc hfn l (stW c n s).2 hnm.2 h2 (by omega);rw[stWs];simp only[qbd];omega
end
theorem qnh{c:CC}(hc:ShC c):∀ l:List Nm,tot (l.flatMap λp=>[c.sc p,[33]])<=20 * l.length
 |[]=>zNr _
 |p::l=>by
  have:=qnh hc l;have:=hc.sc p;rw[List.flatMap_cons,qbd];simp only[qaN,qba,zLc,zLn];omega
theorem qwl{c:CC}(hc:ShC c){env:CEnv}(hfn:∀ k∈env.funcs,k.name.length<=24)(f:FnD)(n:Nat)(hname:f.name.length<=24)(hnm:qcI f.body)(h:qb0 env f.body=0)(hN:n+2 * ndF f<=4000000000):tot (fnW c n f).1<=60 * ndF f/\(fnW c n f).2<=n+2 * ndF f:=by
 unfold ndF at hN ⊢;have h1:=qi1 hc hfn f.body n hnm h (by omega);have h2:=qnh hc f.params.reverse;rw[length_reverse] at h2;unfold fnW;simp only[qaN,qbd,qba,zLc,zLn,zLa];omega
theorem qpj{cc:Nm->CC}:∀ (fs:List FnD) (n:Nat),(∀ f∈fs,∀ m,m+2 * ndF f<=4000000000->tot (fnW (cc f.name) m f).1<=60 * ndF f/\(fnW (cc f.name) m f).2<=m+2 * ndF f)->n+2 * ndFs fs<=4000000000->tot (fnWs cc n fs).1<=60 * ndFs fs/\(fnWs cc n fs).2<=n+2 * ndFs fs
 |[],n,_,_=>by rw[fnWs];simp[qba]
 |f::l,n,h,hN=>by
  rw[ndFs] at hN ⊢;have a1:=h f zMs n (by omega);have a2:=qpj l (fnW (cc f.name) n f).2 (λg hg=>h g (zMo _ hg)) (by omega);rw[fnWs];simp only[qbd];omega
section
variable{P:Pr}{o:Org}
theorem qf5{z:Int}(h:0<=z)(h2:z<4294967296):(itoa z).length<=10:=by
 rw[qb8 h];exact qh6 (by omega)
theorem qh1:∀ (l:List (Nm×Int)) (a:Int),0<=a->(∀ p∈l,0<=p.2)->∀ n,arrA a l n<=a+(l.map (·.2)).sum
 |[],a,h,_,n=>by simp[arrA];exact h
 |(x,k)::l,a,h,hl,n=>by
  have hk:0<=k:=hl (x,k) zMs;have hl':=λp hp=>hl p (zMo (x,k) hp)
  have hs:∀ m:List (Nm×Int),(∀ p∈m,0<=p.2)->0<=(m.map (·.2)).sum:=by
   intro m
   induction m with
   |nil=>intro _;simp
   |cons q m ih=>
    intro hm;have h1:=hm q zMs;have h2:=ih λp hp=>hm p (zMo _ hp);rw[zMc,sum_cons];omega
  have hsl:=hs l hl';rw[arrA,zMc,sum_cons];split;show a<=a+(k+_);omega;have:=qh1 l (a+k) (by omega) hl' n;show _<=a+(k+_);omega
theorem qvu(hF:FitN P o)(own:Nm):ShC (ccF P.vars (qbo P) P.funcs o own):=by
 have s0:=hF.s0;have s1:=hF.s1;have a0:=hF.a0;have a1:=hF.a1
 have hp:∀ p∈qbo P,0<=p.2:=λp hp=>by
  obtain⟨a,_,rfl⟩:=List.mem_map.1 hp;exact Int.natCast_nonneg _
 refine⟨λn=>?_,λn=>?_,?_,?_,?_⟩;refine qf5 ?_ ?_;unfold qeo;split <;> omega;unfold qeo;split
 rename_i h
 have:=List.idxOf_lt_length_of_mem h;omega;omega;refine qf5 (qgX _ _ a0 hp n) ?_;have h1:=qh1 (qbo P) o.arrays a0 hp n;have h2:((qbo P).map (·.2)).sum=((totA P.arrays:Nat):Int):=qhf P.arrays;rw[h2] at h1;omega;exact qf5 s0 (by omega);exact qf5 (z:=o.scalars+1) (by omega) (by omega);exact qf5 (z:=o.scalars+2) (by omega) (by omega)
theorem qsg(hc:qcf P=0)(hnum:∀ f∈P.funcs,qcI f.body)(hfit:qfZ P.vars (qbo P) P.funcs o=true)(hnd:ndFs P.funcs<=2000000):tot (qa6 P o)<=60+60 * ndFs P.funcs/\(fnWs (ccF P.vars (qbo P) P.funcs o) 0 P.funcs).2<=2 * ndFs P.funcs:=by
 have hv:=qfi hc;have hF:=qhk hfit;have hfr:=qbA _ _ hv.names
 have hpl:∀ f∈P.funcs,f.name.length<=24:=λf hf=>by
  have h:=(hfr.2 _ (List.mem_append.2 (.inr (List.mem_map.2 ⟨f,hf,rfl⟩)))).2;unfold isNm at h;rw[zBa,zBa,zDe] at h;exact h.1.1
 have hb:=qpj (cc:=ccF P.vars (qbo P) P.funcs o) P.funcs 0 (λf hf m hm=>by
  obtain⟨kn,k1,k2⟩:=hv.bodies f hf;refine qwl (qvu hF f.name) (λk hk=>?_) f m (hpl f hf) (hnum f hf) k1 hm;obtain⟨g,g1,g2,_⟩:=k2 k hk;rw[<-g2]
  exact hpl g g1) (by omega)
 have ht:=qf5 (z:=o.scalars) hF.s0 (by have:=hF.s1;omega);refine⟨?_,by omega⟩;unfold qa6 prW;rw[qbd];simp only[qaN,qba,zLc,zLn];omega
end
def prOf(vars:List Nm)(arrays:List (Nm×Int))(fs:List FnD):Pr:=⟨vars,arrays.map λa=>⟨a.1,a.2.toNat⟩,fs⟩
theorem qtr{vars:List Nm}{arrays:List (Nm×Int)}{fs:List FnD}(h:∀ a∈arrays,0<=a.2):qbo (prOf vars arrays fs)=arrays:=by
 unfold qbo prOf;simp only[map_map]
 conv=>rhs;rw[<-List.map_id arrays]
 refine List.map_congr_left λa ha=>?_;have:=h a ha;simp only[Function.comp,id];rw[Int.toNat_of_nonneg this]
theorem qnI:∀ (l:List Int) (t:Int),0<=t->t<=150000->qha t l=0->t+l.sum<=150000/\∀ n∈l,0<n
 |[],t,h0,h1,_=>by
  rw[List.sum_nil]
  exact⟨by omega,λn hn=>(not_mem_nil hn).elim⟩
 |a::l,t,h0,h1,h=>by
  rw[qha] at h;split at h;cases h;split at h;cases h;obtain⟨g1,g2⟩:=qnI l (t+a) (by omega) (by omega) h;rw[sum_cons];refine⟨by omega,λn hn=>?_⟩;rcases zMi.1 hn with rfl|hn;omega;exact g2 n hn
theorem qoj{vars:List Nm}{arrays:List (Nm×Int)}{fs:List FnD}(h:qdn vars arrays fs=0):(arrays.map (·.2)).sum<=150000/\(∀ a∈arrays,0<a.2)/\qbo (prOf vars arrays fs)=arrays/\qcf (prOf vars arrays fs)=0/\Valid (prOf vars arrays fs):=by
 have h0:=h;unfold qdn at h;obtain⟨h1,h⟩:=qah.1 h;obtain⟨h2,h⟩:=qah.1 h;obtain⟨s1,s2⟩:=qnI _ 0 zDd zDd h2;have hp:∀ a∈arrays,0<a.2:=λa ha=>s2 a.2 (List.mem_map_of_mem ha);have ha:=qtr (vars:=vars) (fs:=fs) λa ha=>Int.le_of_lt (hp a ha)
 have hc:qcf (prOf vars arrays fs)=0:=by
  have:(prOf vars arrays fs).arrays.map (λa=>(a.name,(a.size:Int)))=arrays:=ha;unfold qcf;rw[this];exact h0
 exact⟨by omega,hp,ha,hc,qfi hc⟩
def symA:Int->List (Nm×Int)->List (Nm×Int)
 |_,[]=>[]
 |a,(x,n)::r=>(x,a)::symA (a+n) r
theorem qlo:∀ (l:List (Nm×Int)) (a:Int),(symA a l).map (·.1)=l.map (·.1)
 |[],_=>rfl
 |(x,n)::r,a=>by rw[symA,zMc,zMc,qlo r]
theorem qlS:∀ (l:List (Nm×Int)) (a:Int),(symA a l).length=l.length
 |[],_=>rfl
 |(x,n)::r,a=>by rw[symA,zLc,zLc,qlS r]
theorem qpO:∀ (l m:List (Nm×Int)) (a:Int),symA a (l++m)=symA a l++symA (a+(l.map (·.2)).sum) m
 |[],m,a=>by simp[symA]
 |(x,n)::r,m,a=>by
  rw[cons_append,symA,qpO r m,symA,cons_append,zMc,sum_cons,Int.add_assoc]
def qfv(r:Int×Int):Bool:=qfP r.1 r.2
def qjq(r s:Int×Int):Bool:=qiG r.1 r.2 s.1 s.2
def goR:List (Int×Int)->List (Int×Int)->Bool
 |_,[]=>true
 |prev,r::rest=>qfv r && (prev.all λs=>!qjq r s) && goR (prev++[r]) rest
theorem qwT(vars:List Nm)(arrays:List (Nm×Int))(fs:List FnD)(o:Org):qfZ vars arrays fs o=goR [] [(o.scalars,3+((qaj vars fs).length:Nat)),(o.code,40000),(o.arrays,(arrays.map (·.2)).sum)]:=by
 unfold qfZ goR goR goR goR qfv qjq;simp only[List.all_nil,nil_append,List.all_cons,List.singleton_append,cons_append,Bool.and_true];generalize qfP o.scalars _=a;generalize qfP o.code 40000=b;generalize qfP o.arrays _=c;generalize qiG o.code 40000 o.scalars _=d;generalize qiG o.arrays _ o.scalars _=e;generalize qiG o.arrays _ o.code 40000=f;revert a b c d e f;decide
section
variable{P:Pr}{o o':Org}{t t' x x':Wd}{labs labs':List (Wd×Nat)}
end
theorem qn3{ds:List Wd}{known:Wd->Nat}{w:Wd}(h:OkW ds w)(hd:defW w=none):∀ c∈qaI known w,qdA.contains c=true:=by
 unfold OkW at h;rw[hd] at h;unfold qaI
 cases hr:refW w with
 |some x=>
  intro c hc
  exact qkY ((qfX (known x)).2 c hc)
 |none=>
  rw[hr] at h;simp only at h;exact λc hc=>List.all_eq_true.1 h c hc
theorem qj8{ds:List Wd}{known:Wd->Nat}:∀ (l:List Wd) (t:Wd),(∀ w∈l,OkW ds w)->(∀ c∈t,qdA.contains c=true∨c=32)->∀ c∈l.foldl (addT known) t,qdA.contains c=true∨c=32
 |[],t,_,h=>h
 |w::l,t,hw,h=>by
  rw[foldl_cons];refine qj8 l _ (λx hx=>hw x (zMo _ hx)) λc hc=>?_;unfold addT at hc
  cases hd:defW w with
  |some y=>
   rw[hd] at hc
   exact h c hc
  |none=>
   rw[hd] at hc;simp only at hc;rcases List.mem_append.1 hc with hc|hc;rcases List.mem_append.1 hc with hc|hc;exact h c hc;split at hc;exact .inr (List.mem_singleton.1 hc);exact(not_mem_nil hc).elim;exact .inl (qn3 (hw w zMs) hd c hc)
theorem qmC{src x:Wd}{og:Int}{labs:List (Wd×Nat)}(h:asmP src og=.ok (x,labs)):x.length<=40000/\(defs (qbl src)).Nodup/\∀ c∈x,qdA.contains c=true∨c=32:=by
 unfold asmP at h;split at h;cases h;split at h;cases h
 rename_i h1
 split at h;cases h
 rename_i h2
 injection h with h;injection h with h _;have hA:=qpK (Classical.not_not.1 h1);refine⟨by rw[<-h];exact Nat.le_of_not_lt h2,hA.1,?_⟩;rw[<-h];exact qj8 _ _ hA.2 λc hc=>(not_mem_nil hc).elim
theorem qhg(all:List Wd):∀ (l:List (Wd×Nat)) (met:List Wd),(errT all met l).2=0∨(errT all met l).2=8∨(errT all met l).2=7∨(errT all met l).2=3
 |[],met=>.inl rfl
 |(w,ln)::r,met=>by
  rw[errT]
  cases hd:defW w with
  |some x=>
   simp only;split;exact .inr (.inl rfl)
   exact qhg all r _
  |none=>
   simp only
   cases hr:refW w with
   |some x=>
    simp only;split;exact qhg all r _
    exact .inr (.inr (.inl rfl))
   |none=>
    simp only;split;exact qhg all r _;exact .inr (.inr (.inr rfl))
theorem quB{src:Wd}{og:Int}(h:0<=og/\og<262144){e:Nat×Nat}(he:asmP src og=.error e):e.2=8∨e.2=7∨e.2=3∨e.2=6:=by
 unfold asmP at he;split at he;omega;split at he
 rename_i h1
 injection he with he;rw[<-he];rcases qhg (defs (qbl src)) (qgr src) [] with h2|h2|h2|h2;exact absurd h2 h1;exact .inl h2;exact .inr (.inl h2);exact .inr (.inr (.inl h2));split at he;injection he with he;rw[<-he];exact .inr (.inr (.inr rfl));cases he
section
variable{vars:List Nm}{arrays:List (Nm×Int)}{fs:List FnD}{o:Org}
end
section
variable{W:List Wd}{ok:Nat->Bool}{w x:Wd}{r:List Wd}
end
theorem qt9{a b n:Nat}{op:Wd}(h:qd1 a op b=some n):∃ c:UInt8,op=[c]/\isOp c/\binM c.toNat a b=some n:=by
 unfold qd1 at h;unfold isOp;split at h
 rename_i e;exact⟨43,e,by decide,h⟩
 split at h
 rename_i e;exact⟨45,e,by decide,h⟩
 split at h
 rename_i e;exact⟨42,e,by decide,h⟩
 split at h
 rename_i e;exact⟨94,e,by decide,h⟩
 split at h
 rename_i e;refine⟨60,e,by decide,?_⟩;rw[<-h];unfold binM;simp
 split at h
 rename_i e;exact⟨47,e,by decide,h⟩
 split at h
 rename_i e;exact⟨37,e,by decide,h⟩
 cases h
section
variable{W W':List Wd}{ok ok':Nat->Bool}{r q:List Wd}
theorem qok{c:UInt8}(hc:c=43∨c=42∨c=94)(a x y:Nat):∃ u z,binM c.toNat a x=some u/\binM c.toNat x y=some z/\binM c.toNat u y=binM c.toNat a z:=by
 rcases hc with rfl|rfl|rfl;refine⟨_,_,rfl,rfl,?_⟩;unfold binM;simp[add_assoc];refine⟨_,_,rfl,rfl,?_⟩;unfold binM;simp[Nat.mul_assoc];refine⟨_,_,rfl,rfl,?_⟩;unfold binM;simp[Nat.xor_assoc]
end
open Go.Lib (decDigits)
theorem PW.digsX{C:PW}{s:MS}{i:Nat}{w:Wd}(hk:C.Ok s.mem)(h:C.At s i)(hw:C.W[i]? = some w)(hd:defW w=none)(hne:qaI C.known w≠[])(hg:∀ c∈qaI C.known w,qap c=true)(hv:valD 0 (qaI C.known w)<4294967296)(hroom:s.data.length<256) :
  (C.plc i<=C.plc (i+1)/\Stp (C.plc (i+1)-C.plc i) s { s with pc:=C.plc (i+1),data:=valD 0 (qaI C.known w)::s.data,digit:=true })/\qbc (C.pre (i+1))=true:=by
 obtain⟨h1,h2,h3⟩:=C.piece hk hw hd
 have hf:qbP (qaI C.known w)=true:=by
  cases hp:qaI C.known w with
  |nil=>exact absurd hp hne
  |cons c r=>exact hg c (by rw[hp];simp)
 have hl:qbc (C.pre (i+1))=true:=by
  rw[h1,qj2 hne];unfold qbc;rw[List.getLast?_eq_some_getLast hne];exact hg _ (List.getLast_mem hne)
 refine⟨?_,hl⟩;obtain⟨hpc,hdg⟩:=h
 have hplc:C.plc (i+1)=C.plc i+(if qbc (C.pre i) && qbP (qaI C.known w) then [32] else []:Wd).length+(qaI C.known w).length:=by
  unfold PW.plc;rw[h1,zLa,zLa];omega
 rw[hf,Bool.and_true] at h2 hplc;refine⟨by omega,?_⟩
 by_cases hsp:qbc (C.pre i)=true
 ·rw[if_pos hsp] at h2 hplc;obtain⟨m1,m2⟩:=h2.app;have m0:=m1 0 (by simp);simp only[add_zero,List.getElem_cons_zero] at m0;simp only[zLc,zLn] at hplc m2
  have hst:stepM s=.run { s with pc:=s.pc+1,digit:=false }:=by
   unfold stepM;rw[if_pos (by rw[hpc];omega),hpc,m0];unfold exeM;rw[if_neg zDd,if_pos zDd]
   try rfl
  have hd1:=qqc (s:={ s with pc:=s.pc+1,digit:=false }) hne hg rfl hroom (by simp only;rw[hpc];exact m2) (by simp only;rw[hpc];omega) hv;have:=(Stp.one hst).trans hd1;simp only at this;rw[show C.plc (i+1)-C.plc i=1+(qaI C.known w).length by omega,hplc,<-hpc];exact this
 rw[if_neg hsp] at h2 hplc;rw[nil_append] at h2
 have hdf:s.digit=false:=by
  cases hx:s.digit with
  |false=>rfl
  |true=>exact absurd (hdg hx) hsp
 have hd1:=qqc (s:=s) hne hg hdf hroom (by rw[hpc];exact h2) (by rw[hpc];simp only[zLn] at hplc;omega) hv;simp only[zLn,add_zero] at hplc;rw[show C.plc (i+1)-C.plc i=(qaI C.known w).length by omega,hplc,<-hpc];exact hd1
theorem PW.sign_plc{C:PW}{mem:Nat->Nat}{i:Nat}{c:UInt8}(hk:C.Ok mem)(hw:C.W[i]? = some [c])(hd:defW [c]=none)(hr:refW [c]=none)(hc:qap c=false):C.plc (i+1)=C.plc i+1:=by
 obtain⟨h1,h2,h3⟩:=C.piece hk hw hd;have hp:qaI C.known [c]=[c]:=by unfold qaI;rw[hr]
 have hf:qbP [c]=false:=hc;rw[hp,hf,Bool.and_false,if_neg zDd,zLz] at h1;unfold PW.plc;rw[h1,zLa]
 try rfl
end Go.Stele
namespace Go.Stele.Wi
open Go.Lib
structure PW where
 W:List Wd
 D:Nat->Bool
structure MS where
 mem:Nat->Nat
 pc:List Wd
 data:List Nat
 calls:List (List Wd)
 inp:List Nat
 out:Wd
 digit:Bool
inductive MR where
 |run (s:MS)
 |stop (e:Nat) (out:Wd)
def qby(x:Wd):List Wd->Option (List Wd)
 |[]=>none
 |w::r=>if defW w=some x then some r else qby x r
def lost(s:MS):MR:=.stop 99 s.out
def qde(s:MS)(r:List Wd)(d:List Nat)(n:Nat)(f:Bool):MR:=if d.length<256 then .run { s with pc:=r,data:=n::d,digit:=f } else lost s
def qo0(D:Nat->Bool)(s:MS)(r:List Wd):MR:=match s.data with
 |a::d=>if D a=true then qde s r d (s.mem a) false else lost s
 |[]=>lost s
def qjj(D:Nat->Bool)(s:MS)(r:List Wd):MR:=match s.data with
 |a::x::d=>if D a=true then .run { s with pc:=r,data:=d,mem:=λi=>if i=a then x else s.mem i,digit:=false } else lost s
 |_=>lost s
def qm4(s:MS):MR:=match s.calls with
 |k::l=>.run { s with pc:=k,calls:=l,digit:=false }
 |[]=>lost s
def qmS(s:MS)(r:List Wd):MR:=match s.data with
 |x::d=>.run { s with pc:=r,data:=d,out:=s.out++[UInt8.ofNat x],digit:=false }
 |[]=>lost s
def binW(s:MS)(c:UInt8)(r:List Wd):MR:=match s.data with
 |b::a::d=>(match binM c.toNat a b with
  |some x=>qde s r d x false
  |none=>.stop 12 s.out)
 |_=>lost s
def qgn(D:Nat->Bool)(s:MS)(c:UInt8)(r:List Wd):MR:=
 if c=64 then qo0 D s r
 else if c=33 then qjj D s r
 else if c=59 then qm4 s
 else if c=44 then qde { s with inp:=s.inp.tail } r s.data (s.inp.headD 4294967295) false
 else if c=46 then qmS s r
 else if c=36 then .stop 0 s.out
 else if c=43∨c=45∨c=42∨c=47∨c=37∨c=94∨c=60 then binW s c r
 else lost s
def qnP(s:MS)(k r:List Wd):MR:=match s.data with
 |a::d=>.run { s with pc:=if a=0 then k else r,data:=d,digit:=false }
 |[]=>lost s
def qhY(C:PW)(s:MS)(x:Wd)(r:List Wd):MR:=match qby x C.W,r with
 |some k,o::r=>if s.data.length<256 then (if o=[63] then qnP s k r else if o=[58] then (if s.calls.length<64 then .run { s with pc:=k,calls:=r::s.calls,digit:=false } else lost s) else lost s) else lost s
 |_,_=>lost s
def qhL(C:PW)(s:MS)(w:Wd)(r:List Wd):MR:=match defW w with
 |some _=>.run { s with pc:=r }
 |none=>match numW w with
  |some n=>qde s r s.data n true
  |none=>match refW w with
   |some x=>qhY C s x r
   |none=>match w with
    |[c]=>qgn C.D s c r
    |_=>lost s
def stepM(C:PW)(s:MS):MR:=match s.pc with
 |[]=>lost s
 |w::r=>qhL C s w r
def qjV(f:Bool)(w:Wd):Nat:=if (defW w).isSome=true then 0 else if (numW w).isSome=true then w.length+one f else if (refW w).isSome=true then 7+one f else 1
def qbY(s:MS):Nat:=qjV s.digit (s.pc.headD [])
inductive Stp (C:PW):Nat->MS->MS->Prop
 |zero (s:MS):Stp C 0 s s
 |step {k:Nat} {s s' s2:MS}:stepM C s=.run s'->Stp C k s' s2->Stp C (qbY s+k) s s2
section
variable{C:PW}
theorem Stp.one{s s':MS}(h:stepM C s=.run s'):Stp C (qbY s) s s':=.step h (.zero _)
theorem Stp.trans{a b:Nat}{s s' s2:MS}(h:Stp C a s s')(k:Stp C b s' s2):Stp C (a+b) s s2:=by
 induction h with
 |zero s=>rw[zero_add];exact k
 |step h1 _ ih=>rw[add_assoc];exact .step h1 (ih k)
def Stx(C:PW)(m:Nat)(s s':MS):Prop:=∃ k,k<=m/\Stp C k s s'
theorem Stx.refl(s:MS):Stx C 0 s s:=⟨0,zNr _,.zero _⟩
theorem Stx.trans{a b:Nat}{s s' s2:MS}(h:Stx C a s s')(k:Stx C b s' s2):Stx C (a+b) s s2:=by
 obtain⟨i,h1,h2⟩:=h;obtain⟨j,k1,k2⟩:=k;exact⟨i+j,by omega,h2.trans k2⟩
theorem Stx.mono{a b:Nat}{s s':MS}(h:Stx C a s s')(hab:a<=b):Stx C b s s':=by
 obtain⟨i,h1,h2⟩:=h;exact⟨i,by omega,h2⟩
def PW.plc(C:PW)(i:Nat):List Wd:=C.W.drop i
def PW.At(C:PW)(s:MS)(i:Nat):Prop:=∃ ds,s.pc=ds++C.plc i/\∀ w∈ds,(defW w).isSome=true
def PW.Ok(C:PW)(mem:Nat->Nat):Prop:=True
def PW.Code(C:PW)(i:Nat)(ws:List Wd):Prop:=∀ k (h:k<ws.length),C.W[i+k]? = some ws[k]
theorem PW.Code.app{i:Nat}{a b:List Wd}(h:C.Code i (a++b)):C.Code i a/\C.Code (i+a.length) b:=by
 constructor;intro k hk;have:=h k (by rw[zLa];omega)
 rwa [List.getElem_append_left hk] at this
 intro k hk;have:=h (a.length+k) (by rw[zLa];omega);rw[List.getElem_append_right (by omega)] at this;rw[add_assoc];simpa using this
theorem PW.Code.cons{i:Nat}{w:Wd}{b:List Wd}(h:C.Code i (w::b)):C.W[i]? = some w/\C.Code (i+1) b:=by
 have h1:=PW.Code.app (a:=[w]) (b:=b) h;have h2:=h1.1 0 (by simp);exact⟨by simpa using h2,h1.2⟩
def PW.put(C:PW)(s:MS)(i:Nat)(d:List Nat):MS:={ s with pc:=C.plc i,data:=d,digit:=false }
theorem PW.put_at(C:PW)(s:MS)(i:Nat)(d:List Nat):C.At (C.put s i d) i:=⟨[],rfl,λw hw=>by cases hw⟩
theorem PW.at_mk{s:MS}{i:Nat}(h:s.pc=C.plc i):C.At s i:=⟨[],h,λw hw=>by cases hw⟩
theorem qi0{i:Nat}{w:Wd}(hw:C.W[i]? = some w):C.plc i=w::C.plc (i+1):=by
 obtain⟨hi,rfl⟩:=List.getElem?_eq_some_iff.1 hw;exact List.drop_eq_getElem_cons hi
theorem qa4{s:MS}{w:Wd}{r:List Wd}(hv:s.pc=w::r):stepM C s=qhL C s w r:=by
 unfold stepM;rw[hv]
theorem qi9{s:MS}{w x:Wd}{r:List Wd}(hv:s.pc=w::r)(h:defW w=some x):stepM C s=.run { s with pc:=r }:=by
 unfold stepM qhL;rw[hv];simp only;rw[h]
theorem qg0{s:MS}{w x:Wd}{r:List Wd}(hv:s.pc=w::r)(h:defW w=some x):qbY s=0:=by
 unfold qbY qjV;rw[hv];simp[h]
theorem qkl:∀ (ds:List Wd) (s:MS) (r:List Wd),s.pc=ds++r->(∀ w∈ds,(defW w).isSome=true)->Stp C 0 s { s with pc:=r }
 |[],s,r,h,_=>by
  have:s={ s with pc:=r }:=by rw[<-show s.pc=r from h]
  rw[<-this]
  exact .zero s
 |w::ds,s,r,h,hd=>by
  obtain⟨x,hx⟩:=Option.isSome_iff_exists.1 (hd w zMs);have h1:=Stp.step (qi9 (C:=C) h hx) (qkl ds { s with pc:=ds++r } r rfl λy hy=>hd y (zMo _ hy));rw[qg0 h hx] at h1;exact h1
theorem PW.atDef{s:MS}{i:Nat}{w x:Wd}(h:C.At s i)(hw:C.W[i]? = some w)(hd:defW w=some x):C.At s (i+1):=by
 obtain⟨ds,h1,h2⟩:=h;refine⟨ds++[w],by rw[h1,qi0 hw,zAs];try rfl,λy hy=>?_⟩;rcases List.mem_append.1 hy with hy|hy;exact h2 y hy;rw[List.mem_singleton.1 hy,hd];try rfl
theorem PW.ahead{s:MS}{i:Nat}{w:Wd}(h:C.At s i)(hw:C.W[i]? = some w):Stp C 0 s { s with pc:=w::C.plc (i+1) }:=by
 obtain⟨ds,h1,h2⟩:=h;rw[qi0 hw] at h1;exact qkl ds s _ h1 h2
theorem PW.once{s s':MS}{i m:Nat}{w:Wd}(h:C.At s i)(hw:C.W[i]? = some w)(hs:stepM C { s with pc:=w::C.plc (i+1) }=.run s')(hc:qjV s.digit w<=m):Stx C m s s':=by
 have h1:=(PW.ahead h hw).trans (.one hs);rw[zero_add] at h1;exact⟨_,hc,h1⟩
theorem qjB{w:Wd}{n:Nat}(h:numW w=some n):w≠[]/\∀ c∈w,qap c=true:=by
 obtain⟨h1,h2⟩:=(qcP w n).1 h;rw[<-h2];exact⟨qcq n,qgf n⟩
theorem qil{c:UInt8}(h:qap c=false):numW [c]=none:=by
 cases hn:numW [c] with
 |none=>rfl
 |some n=>
  have h1:=(qjB hn).2 c (List.mem_singleton.2 rfl);rw[h] at h1;cases h1
theorem qbt{w:Wd}{n:Nat}(h:numW w=some n):defW w=none/\refW w=none:=by
 have:=qkn h;exact⟨this.1,this.2⟩
theorem qhi{w x:Wd}(h:refW w=some x):numW w=none:=by
 cases hn:numW w with
 |none=>rfl
 |some n=>rw[(qbt hn).2] at h;cases h
theorem qff{s:MS}{w:Wd}{r:List Wd}{n:Nat}(h:numW w=some n):qhL C s w r=qde s r s.data n true:=by
 unfold qhL;rw[(qbt h).1];simp only;rw[h]
theorem qfg{f:Bool}{w:Wd}{n:Nat}(h:numW w=some n):qjV f w=w.length+one f:=by
 unfold qjV;rw[(qbt h).1,h]
 try rfl
theorem qdL{s:MS}{w x:Wd}{r:List Wd}(h:refW w=some x):qhL C s w r=qhY C s x r:=by
 unfold qhL;rw[qbe h];simp only;rw[qhi h];simp only;rw[h]
theorem qek{f:Bool}{w x:Wd}(h:refW w=some x):qjV f w=7+one f:=by
 unfold qjV;rw[qbe h,qhi h,h]
 try rfl
abbrev qcO:Wd:=[43,45,42,47,37,94,60,64,33,63,58,59,44,46,36]
theorem qbD{s:MS}{c:UInt8}{r:List Wd}(h:c∈qcO):qhL C s [c] r=qgn C.D s c r:=by
 obtain⟨e1,e2,e3⟩:=qbn h;unfold qhL;rw[e1];simp only;rw[qil e3];simp only;rw[e2]
theorem qjI{f:Bool}{c:UInt8}(h:c∈qcO):qjV f [c]=1:=by
 obtain⟨e1,e2,e3⟩:=qbn h;unfold qjV;rw[e1,qil e3,e2]
 try rfl
theorem qcS{c:UInt8}(h:isOp c):c∈qcO:=by
 unfold isOp at h;rcases h with rfl|rfl|rfl|rfl|rfl|rfl|rfl <;> decide
theorem qjW{D:Nat->Bool}{s:MS}{c:UInt8}{r:List Wd}(h:isOp c):qgn D s c r=binW s c r:=by
 unfold isOp at h;unfold qgn;rcases h with rfl|rfl|rfl|rfl|rfl|rfl|rfl <;> rfl
theorem qoH(f:Bool):Go.Stele.one f<=1:=Go.Stele.one_le f
section
variable{s:MS}{i:Nat}
theorem PW.num(h:C.At s i){n m:Nat}(hw:C.W[i]? = some (decDigits n))(hn:n<4294967296)(hroom:s.data.length<256)(hm:(decDigits n).length+1<=m):Stx C m s { s with pc:=C.plc (i+1),data:=n::s.data,digit:=true }:=by
 have hN:=qgb hn;refine PW.once h hw ?_ (by rw[qfg hN];have:=qoH s.digit;omega);rw[qa4 rfl,qff hN];unfold qde;rw[if_pos hroom]
theorem PW.load(h:C.At s i)(hw:C.W[i]? = some [64]){a:Nat}{r:List Nat}(hd:s.data=a::r)(ha:C.D a=true)(hroom:r.length<256):Stx C 1 s (C.put s (i+1) (s.mem a::r)):=by
 refine zQ40 ?_;rw[qa4 rfl,qbD zDd];show qo0 C.D _ _=_;unfold qo0 qde;simp[hd,ha,hroom,PW.put]
theorem PW.store(h:C.At s i)(hw:C.W[i]? = some [33]){a v:Nat}{r:List Nat}(hd:s.data=a::v::r)(ha:C.D a=true):Stx C 1 s { C.put s (i+1) r with mem:=λi=>if i=a then v else s.mem i }:=by
 refine zQ40 ?_;rw[qa4 rfl,qbD zDd];show qjj C.D _ _=_;unfold qjj;simp[hd,ha,PW.put]
theorem PW.back(h:C.At s i)(hw:C.W[i]? = some [59]){t:List Wd}{r:List (List Wd)}(hd:s.calls=t::r):Stx C 1 s { s with pc:=t,calls:=r,digit:=false }:=by
 refine zQ40 ?_;rw[qa4 rfl,qbD zDd];show qm4 _=_;unfold qm4;simp[hd]
theorem PW.read(h:C.At s i)(hw:C.W[i]? = some [44])(hroom:s.data.length<256):Stx C 1 s { C.put s (i+1) ((s.inp.headD 4294967295)::s.data) with inp:=s.inp.tail }:=by
 refine zQ40 ?_;rw[qa4 rfl,qbD zDd];show qde _ _ _ _ _=_;unfold qde;simp[hroom,PW.put]
theorem PW.write(h:C.At s i)(hw:C.W[i]? = some [46]){v:Nat}{r:List Nat}(hd:s.data=v::r):Stx C 1 s { C.put s (i+1) r with out:=s.out++[UInt8.ofNat v] }:=by
 refine zQ40 ?_;rw[qa4 rfl,qbD zDd];show qmS _ _=_;unfold qmS;simp[hd,PW.put]
theorem PW.halt(h:C.At s i)(hw:C.W[i]? = some [36]):∃ m,Stp C 0 s m/\stepM C m=.stop 0 s.out:=by
 refine⟨_,PW.ahead h hw,?_⟩;rw[qa4 rfl,qbD zDd]
 try rfl
theorem PW.op(h:C.At s i){c:UInt8}(hc:isOp c)(hw:C.W[i]? = some [c]){a b v:Nat}{r:List Nat}(hd:s.data=b::a::r)(hv:binM c.toNat a b=some v)(hroom:r.length<256):Stx C 1 s (C.put s (i+1) (v::r)):=by
 refine PW.once h hw ?_ (by rw[qjI (qcS hc)];exact zNr 1);rw[qa4 rfl,qbD (qcS hc),qjW hc];unfold binW qde;simp[hd,hv,hroom,PW.put]
theorem PW.opTrap(h:C.At s i){c:UInt8}(hc:isOp c)(hw:C.W[i]? = some [c]){a b:Nat}{r:List Nat}(hd:s.data=b::a::r)(hv:binM c.toNat a b=none):∃ m,Stp C 0 s m/\stepM C m=.stop 12 s.out:=by
 refine⟨_,PW.ahead h hw,?_⟩;rw[qa4 rfl,qbD (qcS hc),qjW hc];unfold binW;simp[hd,hv]
theorem PW.jump(h:C.At s i){w x:Wd}{k:List Wd}(hw:C.W[i]? = some w)(hw2:C.W[i+1]? = some [63])(hr:refW w=some x)(hk:qby x C.W=some k){v:Nat}{r:List Nat}(hd:s.data=v::r)(hroom:r.length+1<256):Stx C 8 s { C.put s (i+2) r with pc:=if v=0 then k else C.plc (i+2) }:=by
 refine PW.once h hw ?_ (by rw[qek hr];have:=qoH s.digit;omega);rw[qa4 rfl,qdL hr,qi0 hw2];unfold qhY qnP;simp[hk,hd,hroom,PW.put]
theorem PW.call(h:C.At s i){w x:Wd}{k:List Wd}(hw:C.W[i]? = some w)(hw2:C.W[i+1]? = some [58])(hr:refW w=some x)(hk:qby x C.W=some k)(hroom:s.data.length<256)(hc:s.calls.length<64):Stx C 8 s { s with pc:=k,calls:=C.plc (i+2)::s.calls,digit:=false }:=by
 refine PW.once h hw ?_ (by rw[qek hr];have:=qoH s.digit;omega);rw[qa4 rfl,qdL hr,qi0 hw2];unfold qhY;simp[hk,hroom,hc]
end
end
def qiS(C:PW)(B:Int)(m:MS)(e:Int)(s:IS):Prop:=
 (e=0∨e=12->∃ k:Nat,∃ m',(k:Int)<=B/\Stp C k m m'/\stepM C m'=.stop e.toNat s.out)/\(e=13->∃ k m',Stp C k m m'/\m'.out=s.out)
variable{C:PW}
theorem qiS.pre{k:Nat}{B:Int}{m m1:MS}{e:Int}{s:IS}(h:Stp C k m m1)(g:qiS C B m1 e s):qiS C (k+B) m e s:=by
 refine⟨λhe=>?_,λhe=>?_⟩;obtain⟨y,m',k1,k2,k3⟩:=g.1 he;exact⟨k+y,m',by omega,h.trans k2,k3⟩;obtain⟨y,m',k2,k3⟩:=g.2 he;exact⟨k+y,m',h.trans k2,k3⟩
theorem qiS.mono{B B':Int}{m:MS}{e:Int}{s:IS}(h:qiS C B m e s)(hb:B<=B'):qiS C B' m e s:=
 ⟨λhe=>by
  obtain⟨y,m',k1,k2,k3⟩:=h.1 he
  exact⟨y,m',by omega,k2,k3⟩,h.2⟩
section
variable{A B:Type}{Q:A->IS->MS->Prop}{R:B->IS->MS->Prop}{c d c1 d1 c2 d2:Int}{m m1:MS}{s:IS}
end
theorem qez{A B D:Type}(r:IR A)(f:A->IS->IR B)(g:B->IS->IR D):(r.bind f).bind g=r.bind λv s=>(f v s).bind g:=by cases r <;> rfl
structure Trn where
 C:PW
 P:Pr
 cc:FnD->CC
 cenv:FnD->CEnv
 sa:Nm->Nat
 aa:Nm->Nat
 S:Nat
 fst:FnD->Nat
def Trn.keys(X:Trn):List Nm:=qaj X.P.vars X.P.funcs
def Trn.Data(X:Trn)(x:Nat):Prop:=(∃ k∈X.keys,x=X.sa k)∨(X.S<=x/\x<=X.S+2)∨∃ a∈X.P.arrays,∃ i,i<a.size/\x=X.aa a.name+i
structure TrnOk(X:Trn):Prop where
 sc:∀ f∈X.P.funcs,∀ name,qcd (X.cenv f) name=0->(X.cc f).sc name=decDigits (X.sa (keyI f name))/\keyI f name∈X.keys
 ar:∀ f∈X.P.funcs,∀ name,qeS (X.cenv f) name=0->(X.cc f).ar name=decDigits (X.aa name)/\∃ a∈X.P.arrays,a.name=name
 temps:∀ f∈X.P.funcs,(X.cc f).t0=decDigits X.S/\(X.cc f).t1=decDigits (X.S+1)/\(X.cc f).t2=decDigits (X.S+2)
 low:∀ x,X.Data x->x<262144
 dat:∀ x,X.Data x->X.C.D x=true
 keyLow:∀ k∈X.keys,X.S+3<=X.sa k
 inj:∀ k∈X.keys,∀ k'∈X.keys,X.sa k=X.sa k'->k=k'
 apart:∀ a∈X.P.arrays,∀ i,i<a.size->(∀ k∈X.keys,X.sa k≠X.aa a.name+i)/\¬ (X.S<=X.aa a.name+i/\X.aa a.name+i<=X.S+2)
 arInj:∀ a∈X.P.arrays,∀ b∈X.P.arrays,∀ i j,i<a.size->j<b.size->X.aa a.name+i=X.aa b.name+j->a.name=b.name/\i=j
 arLow:∀ a∈X.P.arrays,X.aa a.name<1000000
 arName:∀ a∈X.P.arrays,∀ b∈X.P.arrays,a.name=b.name->a.size=b.size
 body:∀ f∈X.P.funcs,qb0 (X.cenv f) f.body=0/\qcI f.body
 fn:∀ f∈X.P.funcs,∀ name g,(X.cenv f).fn name=some g->fnI X.P name∈X.P.funcs/\(fnI X.P name).name=name/\g.params=(fnI X.P name).params.length/\qbM (X.cenv (fnI X.P name)) (fnI X.P name).body<=g.need/\qck (X.cenv (fnI X.P name)) (fnI X.P name).body<=g.depth
 par:∀ f∈X.P.funcs,(∀ p∈f.params,keyI f p∈X.keys/\(X.cc f).sc p=decDigits (X.sa (keyI f p)))/\(f.params.map (keyI f)).Nodup
 code:∀ f∈X.P.funcs,∃ nl,X.C.Code (X.fst f) (fnW (X.cc f) nl f).1
 ldef:∀ (j n:Nat),X.C.W[j]? = some (labW n++[58])->defW (labW n++[58])=some (labW n)
 lref:∀ (j n:Nat),X.C.W[j]? = some (38::labW n)->refW (38::labW n)=some (labW n)
 fdef:∀ f∈X.P.funcs,defW ([102,95]++f.name++[58])=some ([102,95]++f.name)
 fref:∀ f∈X.P.funcs,refW ([38,102,95]++f.name)=some ([102,95]++f.name)
 label:∀ (j:Nat) (w x:Wd),X.C.W[j]? = some w->defW w=some x->qby x X.C.W=some (X.C.plc (j+1))
structure Trn.Rel(X:Trn)(s:IS)(m:MS):Prop where
 ok:X.C.Ok m.mem
 sc:∀ k∈X.keys,m.mem (X.sa k)=s.sc k
 ar:∀ a∈X.P.arrays,(s.ar a.name).length=a.size/\∀ i (h:i<(s.ar a.name).length),m.mem (X.aa a.name+i)=(s.ar a.name)[i]
 inp:m.inp=s.inp
 out:m.out=s.out
theorem Trn.Rel.same{X:Trn}{s s':IS}{m m':MS}(h:X.Rel s m)(h1:m'.mem=m.mem)(h2:m'.inp=m.inp)(h3:m'.out=m.out)(k1:s'.sc=s.sc)(k2:s'.ar=s.ar)(k3:s'.inp=s.inp)(k4:s'.out=s.out):X.Rel s' m':=
 ⟨by rw[h1];exact h.ok,by rw[h1,k1];exact h.sc,by rw[h1,k2];exact h.ar,by rw[h2,k3];exact h.inp,by rw[h3,k4];exact h.out⟩
theorem Trn.ok_store{X:Trn}(hX:TrnOk X){mem:Nat->Nat}(h:X.C.Ok mem){x v:Nat}(hx:X.Data x):X.C.Ok (λi=>if i=x then v else mem i):=trivial
theorem Trn.Rel.temp{X:Trn}(hX:TrnOk X){s:IS}{m:MS}(h:X.Rel s m){x v:Nat}(hx:X.S<=x/\x<=X.S+2){m':MS}(h1:m'.mem=λi=>if i=x then v else m.mem i)(h2:m'.inp=m.inp)(h3:m'.out=m.out):X.Rel s m':=by
 refine⟨by rw[h1];exact X.ok_store hX h.ok (.inr (.inl hx)),λk hk=>?_,λa ha=>?_,by rw[h2];exact h.inp,by rw[h3];exact h.out⟩;rw[h1];simp only;have:=hX.keyLow k hk;rw[if_neg (by omega)];exact h.sc k hk;obtain⟨e1,e2⟩:=h.ar a ha;refine⟨e1,λi hi=>?_⟩;rw[h1];simp only;have:=(hX.apart a ha i (by omega)).2;rw[if_neg (λh=>this (by rw[h];exact hx))];exact e2 i hi
theorem Trn.Rel.scal{X:Trn}(hX:TrnOk X){s:IS}{m:MS}(h:X.Rel s m){k:Nm}(hk:k∈X.keys){v:Nat}{m':MS}(h1:m'.mem=λi=>if i=X.sa k then v else m.mem i)(h2:m'.inp=m.inp)(h3:m'.out=m.out):X.Rel (qbj s k v) m':=by
 refine⟨by rw[h1];exact X.ok_store hX h.ok (.inl ⟨k,hk,rfl⟩),λk' hk'=>?_,λa ha=>?_,by rw[h2];exact h.inp,by rw[h3];exact h.out⟩;rw[h1];unfold qbj;simp only
 by_cases he:k'=k
 subst he;rw[if_pos rfl,if_pos rfl];rw[if_neg (λh=>he (hX.inj _ hk' _ hk h)),if_neg he];exact h.sc k' hk';obtain⟨e1,e2⟩:=h.ar a ha;refine⟨e1,λi hi=>?_⟩;rw[h1];simp only;have hi2:i<(s.ar a.name).length:=hi;have:=(hX.apart a ha i (by omega)).1 k hk;rw[if_neg (λh=>this h.symm)];exact e2 i hi2
theorem Trn.Rel.elem{X:Trn}(hX:TrnOk X){s:IS}{m:MS}(h:X.Rel s m){a:Ar}(ha:a∈X.P.arrays){i v:Nat}(hi:i<(s.ar a.name).length){m':MS}(h1:m'.mem=λx=>if x=X.aa a.name+i then v else m.mem x)(h2:m'.inp=m.inp)(h3:m'.out=m.out) :
  X.Rel { s with ar:=λx=>if x=a.name then (s.ar a.name).set i v else s.ar x } m':=by
 have hs:=(h.ar a ha).1;refine⟨by rw[h1];exact X.ok_store hX h.ok (.inr (.inr ⟨a,ha,i,by omega,rfl⟩)),λk' hk'=>?_,λb hb=>?_,by rw[h2];exact h.inp,by rw[h3];exact h.out⟩;rw[h1];simp only;rw[if_neg ((hX.apart a ha i (by omega)).1 k' hk')];exact h.sc k' hk';obtain⟨e1,e2⟩:=h.ar b hb
 by_cases he:b.name=a.name
 have hab:=hX.arName b hb a ha he;simp only[he,if_true,List.length_set];refine⟨by omega,λj hj=>?_⟩;rw[h1];simp only
 by_cases hj2:j=i
 subst hj2;rw[if_pos rfl,List.getElem_set_self];rw[if_neg (by omega),List.getElem_set_ne (λh=>hj2 h.symm)];exact(h.ar a ha).2 j hj;simp only[he,if_false];refine⟨e1,λj hj=>?_⟩;rw[h1];simp only;rw[if_neg (λh=>he (hX.arInj b hb a ha j i (by omega) (by omega) h).1)];exact e2 j hj
structure Trn.Vw(X:Trn)(s:IS)(i:Nat)(d:List Nat)(c:List (List Wd))(m:MS):Prop where
 here:X.C.At m i
 rel:X.Rel s m
 data:m.data=d
 calls:m.calls=c
theorem Trn.Vw.cast{X:Trn}{s:IS}{i j:Nat}{d:List Nat}{c:List (List Wd)}{m:MS}(v:X.Vw s i d c m)(h:i=j):X.Vw s j d c m:=h▸v
section
variable{X:Trn}{s:IS}{i:Nat}{d:List Nat}{c:List (List Wd)}{m:MS}
theorem Trn.Vw.steps(v:X.Vw s i d c m)(l:Nat):X.Vw { s with left:=l } i d c m:=⟨v.here,v.rel.same rfl rfl rfl rfl rfl rfl rfl,v.data,v.calls⟩
theorem Trn.Vw.num(v:X.Vw s i d c m){n k:Nat}(hw:X.C.W[i]? = some (decDigits n))(hn:n<4294967296)(hl:(decDigits n).length+1<=k)(hd:d.length<256):∃ m',Stx X.C k m m'/\X.Vw s (i+1) (n::d) c m'/\m'.mem=m.mem:=
 ⟨_,PW.num v.here hw hn (by rw[v.data];exact hd) hl,⟨PW.at_mk rfl,v.rel.same rfl rfl rfl rfl rfl rfl rfl,by simp only;rw[v.data],v.calls⟩,rfl⟩
theorem len6{n:Nat}(h:n<1000000):(decDigits n).length+1<=7:=by have:=qdi 5 n h;omega
theorem Trn.Vw.addr(v:X.Vw s i d c m){n:Nat}(hw:X.C.W[i]? = some (decDigits n))(hn:n<1000000)(hd:d.length<256):∃ m',Stx X.C 7 m m'/\X.Vw s (i+1) (n::d) c m'/\m'.mem=m.mem:=v.num hw (by omega) (len6 hn) hd
theorem qnA{n:Nat}(h:n<10):decDigits n=[UInt8.ofNat (48+n)]:=by rw[decDigits,dif_pos h]
theorem Trn.Vw.dig(v:X.Vw s i d c m){n:Nat}{w:Wd}(hw:X.C.W[i]? = some w)(hn:n<10)(he:w=[UInt8.ofNat (48+n)])(hd:d.length<256):∃ m',Stx X.C 2 m m'/\X.Vw s (i+1) (n::d) c m'/\m'.mem=m.mem:=by
 rw[he,<-qnA hn] at hw;exact v.num hw (by omega) (by rw[qnA hn];exact zNr 2) hd
theorem Trn.Vw.load{a:Nat}(v:X.Vw s i (a::d) c m)(hw:X.C.W[i]? = some [64])(ha:X.C.D a=true)(hd:d.length<256):∃ m',Stx X.C 1 m m'/\X.Vw s (i+1) (m.mem a::d) c m'/\m'.mem=m.mem:=
 ⟨_,PW.load v.here hw v.data ha hd,⟨X.C.put_at _ _ _,v.rel.same rfl rfl rfl rfl rfl rfl rfl,rfl,v.calls⟩,rfl⟩
theorem Trn.Vw.op{a b x:Nat}{ch:UInt8}(v:X.Vw s i (b::a::d) c m)(hw:X.C.W[i]? = some [ch])(ho:isOp ch)(hv:binM ch.toNat a b=some x)(hd:d.length<256):∃ m',Stx X.C 1 m m'/\X.Vw s (i+1) (x::d) c m'/\m'.mem=m.mem:=
 ⟨_,PW.op v.here ho hw v.data hv hd,⟨X.C.put_at _ _ _,v.rel.same rfl rfl rfl rfl rfl rfl rfl,rfl,v.calls⟩,rfl⟩
theorem Trn.Vw.temp(hX:TrnOk X){a x:Nat}(v:X.Vw s i (a::x::d) c m)(hw:X.C.W[i]? = some [33])(ha:X.S<=a/\a<=X.S+2):∃ m',Stx X.C 1 m m'/\X.Vw s (i+1) d c m'/\m'.mem=λy=>if y=a then x else m.mem y:=
 ⟨_,PW.store v.here hw v.data (hX.dat a (.inr (.inl ha))),⟨PW.at_mk rfl,v.rel.temp hX ha rfl rfl rfl,rfl,v.calls⟩,rfl⟩
theorem Trn.Vw.scal(hX:TrnOk X){k:Nm}{x:Nat}(hk:k∈X.keys)(v:X.Vw s i (X.sa k::x::d) c m)(hw:X.C.W[i]? = some [33]):∃ m',Stx X.C 1 m m'/\X.Vw (qbj s k x) (i+1) d c m':=
 ⟨_,PW.store v.here hw v.data (hX.dat _ (.inl ⟨k,hk,rfl⟩)),⟨PW.at_mk rfl,v.rel.scal hX hk rfl rfl rfl,rfl,v.calls⟩⟩
theorem Trn.Vw.read(v:X.Vw s i d c m)(hw:X.C.W[i]? = some [44])(hd:d.length<256):∃ m',Stx X.C 1 m m'/\X.Vw { s with inp:=s.inp.tail } (i+1) (s.inp.headD 4294967295::d) c m':=by
 refine⟨_,PW.read v.here hw (by rw[v.data];exact hd),⟨PW.at_mk rfl,⟨v.rel.ok,v.rel.sc,v.rel.ar,?_,v.rel.out⟩,?_,v.calls⟩⟩;simp only;rw[v.rel.inp];simp only[PW.put];rw[v.rel.inp,v.data]
theorem Trn.Vw.write{x:Nat}(v:X.Vw s i (x::d) c m)(hw:X.C.W[i]? = some [46]):∃ m',Stx X.C 1 m m'/\X.Vw { s with out:=s.out++[UInt8.ofNat x] } (i+1) d c m':=by
 refine⟨_,PW.write v.here hw v.data,⟨PW.at_mk rfl,⟨v.rel.ok,v.rel.sc,v.rel.ar,v.rel.inp,?_⟩,rfl,v.calls⟩⟩;simp only;rw[v.rel.out]
theorem Trn.Vw.greater(hX:TrnOk X){f:FnD}(hf:f∈X.P.funcs){a b:Nat}(v:X.Vw s i (b::a::d) c m)(hc:X.C.Code i (qaZ (X.cc f)))(hd:d.length+3<=256):∃ m',Stx X.C 33 m m'/\X.Vw s (i+9) (b2n (decide (b<a))::d) c m':=by
 obtain⟨_,t1,t2⟩:=hX.temps f hf;unfold qaZ at hc;rw[t1,t2] at hc;have hS:X.S+2<262144:=hX.low _ (.inr (.inl ⟨by omega,by omega⟩));obtain⟨w0,hc⟩:=hc.cons;obtain⟨w1,hc⟩:=hc.cons;obtain⟨w2,hc⟩:=hc.cons;obtain⟨w3,hc⟩:=hc.cons;obtain⟨w4,hc⟩:=hc.cons;obtain⟨w5,hc⟩:=hc.cons;obtain⟨w6,hc⟩:=hc.cons;obtain⟨w7,hc⟩:=hc.cons;obtain⟨w8,hc⟩:=hc.cons;obtain⟨m1,s1,v1,e1⟩:=v.addr w0 (by omega) (by simp only[zLc];omega);obtain⟨m2,s2,v2,e2⟩:=v1.temp hX w1 ⟨by omega,by omega⟩;obtain⟨m3,s3,v3,e3⟩:=v2.addr w2 (by omega) (by simp only[zLc];omega);obtain⟨m4,s4,v4,e4⟩:=v3.temp hX w3 ⟨by omega,by omega⟩;obtain⟨m5,s5,v5,e5⟩:=v4.addr w4 (by omega) (by omega);obtain⟨m6,s6,v6,e6⟩:=v5.load w5 (hX.dat _ (.inr (.inl ⟨by omega,by omega⟩))) (by omega);obtain⟨m7,s7,v7,e7⟩:=v6.addr w6 (by omega) (by simp only[zLc];omega);obtain⟨m8,s8,v8,e8⟩:=v7.load w7 (hX.dat _ (.inr (.inl ⟨by omega,by omega⟩))) (by simp only[zLc];omega)
 have q1:m5.mem (X.S+2)=b:=by
  rw[e5,e4];simp only;rw[if_neg (by omega),e3,e2]
  simp
 have q2:m7.mem (X.S+1)=a:=by
  rw[e7,e6,e5,e4]
  simp
 rw[q1] at v6 v7 v8;rw[q2] at v8
 obtain⟨m9,s9,v9,_⟩:=v8.op (x:=b2n (decide (b<a))) w8 (by unfold isOp;simp) (by
  unfold binM b2n
  simp) (by omega)
 exact⟨m9,(s1.trans (s2.trans (s3.trans (s4.trans (s5.trans (s6.trans (s7.trans (s8.trans s9)))))))).mono (by omega),v9⟩
end
theorem qhI{A:Type}(g:A->IS->IR Nat)(x:A)(s:IS):mapR g [x] s=(g x s).bind λv s=>.ok [v] s:=by
 unfold mapR;cases g x s <;> rfl
theorem qu7{A:Type}(g:A->IS->IR Nat)(x y:A)(s:IS):mapR g [x,y] s=(g x s).bind λa s=>(g y s).bind λb s=>.ok [a,b] s:=by
 unfold mapR
 cases g x s with
 |stop e s=>rfl
 |ok a s=>
  show(mapR g [y] s).bind _=(g y s).bind _;rw[qhI]
  try cases g y s <;> rfl
section
variable{X:Trn}{n:Nat}
theorem qem(a b:Nat):(if a<b then 1 else 0)=b2n (decide (a<b)):=by unfold b2n;simp
theorem xor_zero{a b:Nat}:a ^^^ b<1 ↔ a=b:=by
 constructor;intro h;have h0:a ^^^ b=0:=by omega
 exact Nat.eq_of_testBit_eq λj=>by
  have h2:=congrArg (λx=>x.testBit j) h0;simp only[Nat.testBit_xor,Nat.zero_testBit] at h2;revert h2;cases a.testBit j <;> cases b.testBit j <;> simp
 rintro rfl;rw[Nat.xor_self];decide
theorem qmz:∀ (ns:List Nat) (i m B:Nat),qhQ i ns m<=B->m<=B/\∀ k (h:k<ns.length),i+k+ns[k]<=B
 |[],i,m,B,h=>⟨h,λk hk=>by cases hk⟩
 |a::ns,i,m,B,h=>by
  rw[qhQ] at h;obtain⟨h1,h2⟩:=qmz ns (i+1) _ B h;refine⟨by omega,λk hk=>?_⟩
  cases k with
  |zero=>simp only[List.getElem_cons_zero];omega
  |succ k=>
   have:=h2 k (by simpa using hk);simp only[List.getElem_cons_succ];omega
theorem qlc(c:CEnv):∀ (l:List Ex),(qaY c l).length=l.length/\∀ k (h:k<l.length) (h2:k<(qaY c l).length),(qaY c l)[k]=qbb c l[k]
 |[]=>⟨by simp[qaY],λk h=>by cases h⟩
 |x::l=>by
  obtain⟨h1,h2⟩:=qlc c l;refine⟨by simp[qaY,h1],λk hk hk2=>?_⟩
  cases k with
  |zero=>simp[qaY]
  |succ k=>
   simp only[qaY,List.getElem_cons_succ];exact h2 k (by simpa using hk) _
end
theorem qvK(b:Bool):b2n b<=1:=by unfold b2n;split <;> omega
theorem qpM{op:Nm}(h:qbv op=2):op∈qeO/\op≠nNum/\op≠nVar/\op≠qec/\op≠nNeg/\op≠nNot/\op≠qbN:=by
 unfold qbv at h;split at h;cases h
 rename_i h1
 split at h;cases h
 rename_i h2
 split at h;cases h
 rename_i h3
 split at h
 rename_i h4
 exact⟨h4,λe=>h1 (.inl e),λe=>h1 (.inr e),λe=>h2 (.inl e),λe=>h2 (.inr (.inl e)),λe=>h2 (.inr (.inr e)),h3⟩;cases h
theorem qwQ(P:Pr)(g:FnD->Sm->IS->IR (Option Nat))(f:FnD){op:Nm}(h:op∈qeO)(num:Nat)(name:Nm)(a b:Nat)(s:IS):opI P g f op num name [a,b] s=match binI op a b with
  |some r=>.ok r s
  |none=>.stop 12 s:=by
 simp only[qeO,zMi,not_mem_nil,or_false] at h;rcases h with rfl|rfl|rfl|rfl|rfl|rfl|rfl|rfl|rfl|rfl|rfl|rfl|rfl|rfl <;> rfl
theorem qpY:∀ (ns:List Nat) (i m:Nat),m<=qhQ i ns m
 |[],i,m=>zNr _
 |a::ns,i,m=>by
  rw[qhQ];have:=qpY ns (i+1) (max m (i+a));omega
theorem qga(c:CEnv):∀ e:Ex,errE c e=0->1<=qbb c e
 |.mk op num name args,h=>by
  rw[errE] at h;split at h
  case isFalse=>cases h
  rename_i hop
  obtain⟨h1,h2⟩:=qah.1 h;rw[qbb];unfold opN;split;omega;split;omega;split
  rename_i hc
  subst hc;have he3:callE c name args.length=0:=h2;unfold qiW;split;omega
  rename_i k1
  split
  rename_i k2
  unfold callE at he3;rw[if_neg k1,if_pos k2] at he3;split at he3
  rename_i hl
  obtain⟨x,rfl⟩:=List.length_eq_one_iff.1 hl;rw[qbr] at h1;have:=qga c x (qah.1 h1).1;rw[qaY];exact this;cases he3
  rename_i k2
  unfold callE at he3;rw[if_neg k1,if_neg k2] at he3;split
  rename_i g hg
  have:=qpY (qaY c args) 0 (max (g.params+1) g.need);omega
  rename_i hg
  rw[hg] at he3;simp only at he3;split at he3 <;> cases he3
  repeat' split
  all_goals omega
section
variable{X:Trn}{n:Nat}
end
def StQ(X:Trn)(j:Nat)(d:List Nat)(t:List Wd)(rest:List (List Wd)):Option Nat->IS->MS->Prop
 |none,s',m'=>X.Vw s' j d (t::rest) m'
 |some v,s',m'=>m'.pc=t/\m'.digit=false/\X.Rel s' m'/\m'.data=v::d/\m'.calls=rest
section
variable{X:Trn}{n:Nat}
section
variable{s:IS}{i j:Nat}{d:List Nat}{c:List (List Wd)}{m:MS}
theorem Trn.Vw.branch(hX:TrnOk X){a k:Nat}(v:X.Vw s i (a::d) c m)(hc:X.C.Code i [38::labW k,[63]])(hj:X.C.W[j]? = some (labW k++[58]))(hd:d.length+2<=256):∃ m',Stx X.C 8 m m'/\X.Vw s (if a=0 then j+1 else i+2) d c m':=by
 obtain⟨w0,hc⟩:=hc.cons;obtain⟨w1,_⟩:=hc.cons;have h1:=hX.ldef j k hj;have t2:=PW.jump v.here w0 w1 (hX.lref _ _ w0) (hX.label j _ _ hj h1) v.data (by omega)
 by_cases ha:a=0
 subst ha;rw[if_pos rfl] at t2 ⊢;exact⟨_,t2,⟨PW.at_mk rfl,v.rel.same rfl rfl rfl rfl rfl rfl rfl,rfl,v.calls⟩⟩;rw[if_neg ha] at t2 ⊢;exact⟨_,t2,⟨PW.at_mk rfl,v.rel.same rfl rfl rfl rfl rfl rfl rfl,rfl,v.calls⟩⟩
theorem Trn.Vw.goto(hX:TrnOk X){k:Nat}(v:X.Vw s i d c m)(hc:X.C.Code i [[48],38::labW k,[63]])(hj:X.C.W[j]? = some (labW k++[58]))(hd:d.length+2<=256):∃ m',Stx X.C 10 m m'/\X.Vw s (j+1) d c m':=by
 obtain⟨w0,hc⟩:=hc.cons;obtain⟨m1,t1,v1,_⟩:=v.dig (n:=0) w0 zDd rfl (by omega);obtain⟨m2,t2,v2⟩:=v1.branch hX hc hj hd;rw[if_pos rfl] at v2;exact⟨m2,(t1.trans t2).mono (by omega),v2⟩
theorem Trn.Vw.pass(v:X.Vw s i d c m){w x:Wd}(hw:X.C.W[i]? = some w)(hd:defW w=some x):X.Vw s (i+1) d c m:=⟨PW.atDef v.here hw hd,v.rel,v.data,v.calls⟩
end
theorem qqJ(s:IS){k k':Nm}(h:k≠k')(v v':Nat):qbj (qbj s k v) k' v'=qbj (qbj s k' v') k v:=by
 unfold qbj;congr 1;funext x
 by_cases h1:x=k
 subst h1;simp[h];simp[h1]
theorem qlp(g:FnD):∀ (ps:List Nm) (vs:List Nat) (s:IS) (k:Nm) (v:Nat),k ∉ ps.map (keyI g)->qe9 g ps vs (qbj s k v)=qbj (qe9 g ps vs s) k v
 |[],vs,s,k,v,_=>by cases vs <;> rfl
 |p::ps,[],s,k,v,_=>rfl
 |p::ps,w::vs,s,k,v,h=>by
  rw[zMc,zMi,not_or] at h;rw[qe9,qe9,qqJ s h.1,qlp g ps vs _ k v h.2]
theorem qkS(g:FnD):∀ (ps:List Nm) (vs:List Nat) (s:IS) (p:Nm) (v:Nat),ps.length=vs.length->qe9 g (ps++[p]) (vs++[v]) s=qbj (qe9 g ps vs s) (keyI g p) v
 |[],[],s,p,v,_=>rfl
 |q::ps,w::vs,s,p,v,h=>by
  rw[cons_append,cons_append,qe9,qe9,qkS g ps vs _ p v (by simpa using h)]
theorem qk2(g:FnD):∀ (ps:List Nm) (vs:List Nat) (s:IS),(qe9 g ps vs s).left=s.left
 |[],vs,s=>by cases vs <;> rfl
 |p::ps,[],s=>rfl
 |p::ps,w::vs,s=>by rw[qe9,qk2 g ps vs];try rfl
theorem qsV(hX:TrnOk X){g:FnD}:∀ (k:Nat) (ps:List Nm) (vs:List Nat) (i:Nat) (s:IS) (d:List Nat) (c:List (List Wd)) (m:MS),ps.length=k->ps.length=vs.length->(∀ p∈ps,keyI g p∈X.keys/\(X.cc g).sc p=decDigits (X.sa (keyI g p)))->(ps.map (keyI g)).Nodup->X.C.Code i (ps.reverse.flatMap λp=>[(X.cc g).sc p,[33]])->X.Vw s i (vs.reverse++d) c m->d.length+ps.length+1<=256 ->
  ∃ m',Stx X.C (8 * ps.length) m m'/\X.Vw (qe9 g ps vs s) (i+(ps.reverse.flatMap λp=>[(X.cc g).sc p,[33]]).length) d c m'
 |0,ps,vs,i,s,d,c,m,hk,hl,_,_,_,v,_=>by
  obtain rfl:=eq_nil_of_length_eq_zero hk;obtain rfl:vs=[]:=eq_nil_of_length_eq_zero (by rw[<-hl];try rfl)
  exact⟨m,.refl _,v⟩
 |k+1,ps,vs,i,s,d,c,m,hk,hl,hp,hnd,hc,v,hd=>by
  have hne:ps≠[]:=λh=>by rw[h] at hk;cases hk
  have hnv:vs≠[]:=λh=>by rw[h] at hl;rw[hk] at hl;cases hl
  have e1:=(List.dropLast_concat_getLast hne).symm;have e2:=(List.dropLast_concat_getLast hnv).symm;generalize ps.dropLast=ps' at e1;generalize ps.getLast hne=p at e1;generalize vs.dropLast=vs' at e2;generalize vs.getLast hnv=w at e2;subst e1 e2;rw[zLa,length_singleton] at hk hd;rw[zLa,zLa,length_singleton,length_singleton] at hl;rw[List.reverse_append] at hc v ⊢;simp only[List.reverse_cons,List.reverse_nil,nil_append,cons_append,List.flatMap_cons] at hc v ⊢;rw[zMa,List.map_singleton] at hnd;obtain⟨n1,n2,n3⟩:=List.nodup_append.1 hnd;obtain⟨q1,q2⟩:=hp p (by simp);rw[q2] at hc;obtain⟨w0,hc⟩:=hc.cons;obtain⟨w1,hc⟩:=hc.cons;have hlow:=hX.low _ (.inl ⟨_,q1,rfl⟩);obtain⟨m1,t1,v1,_⟩:=v.addr w0 (by omega) (by simp only[zLc,zLa,length_reverse];omega);obtain⟨m2,t2,v2⟩:=v1.scal hX q1 w1;obtain⟨m3,t3,v3⟩:=qsV hX k ps' vs' (i+1+1) (qbj s (keyI g p) w) d c m2 (by omega) (by omega) (λx hx=>hp x (by simp[hx])) n1 hc v2 (by omega);refine⟨m3,(t1.trans (t2.trans t3)).mono (by rw[zLa,length_singleton];omega),?_⟩;rw[qkS g ps' vs' s p w (by omega),<-qlp g ps' vs' s (keyI g p) w (λh=>n3 _ h _ (List.mem_singleton.2 rfl) rfl)];exact v3.cast (by simp only[zLc];omega)
end
section
variable{X:Trn}{n:Nat}
theorem Trn.Vw.elem(hX:TrnOk X){s:IS}{i:Nat}{d:List Nat}{c:List (List Wd)}{m:MS}{A:Ar}(hA:A∈X.P.arrays){j x:Nat}(v:X.Vw s i ((X.aa A.name+j)::x::d) c m)(hj:j<(s.ar A.name).length)(hw:X.C.W[i]? = some [33]):∃ m',Stx X.C 1 m m'/\X.Vw { s with ar:=λy=>if y=A.name then (s.ar A.name).set j x else s.ar y } (i+1) d c m':=
 ⟨_,PW.store v.here hw v.data (hX.dat _ (.inr (.inr ⟨A,hA,j,by have:=(v.rel.ar A hA).1;omega,rfl⟩))),⟨PW.at_mk rfl,v.rel.elem hX hA hj rfl rfl rfl,rfl,v.calls⟩⟩
theorem qtY(c:CC)(n:Nat)(kind:Int)(name:Nm)(index value:List Ex)(thn els:List Sm):stW c n (.mk kind name index value thn els) =
  if kind=1 then (exW c (value.headD default)++[c.sc name,[33]],n)
  else if kind=2 then (exW c (value.headD default)++c.ar name::(exW c (index.headD default)++[[43],[33]]),n)
  else if kind=3 then
   (match els with
   |[]=>(exW c (value.headD default)++[38::labW n,[63]]++(stWs c (n+1) thn).1++[labW n++[58]],(stWs c (n+1) thn).2)
   |_::_=>(exW c (value.headD default)++[38::labW n,[63]]++(stWs c (n+2) thn).1++[[48],38::labW (n+1),[63],labW n++[58]]++(stWs c (stWs c (n+2) thn).2 els).1++[labW (n+1)++[58]],(stWs c (stWs c (n+2) thn).2 els).2))
  else if kind=4 then ([labW n++[58]]++exW c (value.headD default)++[38::labW (n+1),[63]]++(stWs c (n+2) thn).1++[[48],38::labW n,[63],labW (n+1)++[58]],(stWs c (n+2) thn).2)
  else if kind=5 then (exW c (value.headD default)++[[59]],n)
  else if kind=6 then (exW c (value.headD default)++[c.t0,[33]],n)
  else if kind=7 then ([[36]],n)
  else ([],n):=by
 rw[stW.eq_def];try rfl
theorem qv6{A:Type}{l:List A}(h:l.length=1):∃ x,l=[x]:=List.length_eq_one_iff.1 h
end
def qlJ(n:Nat)(c:UInt8):Prop:=n=0/\(c=43∨c=45∨c=94)∨n=1/\(c=42∨c=47)
inductive Kind (used:Wd->Bool):List Wd->List Wd->List Wd->Prop
 |fold {x y op z:Wd} {rest:List Wd}:qa1 x op y=some z->Kind used (x::y::op::rest) [z] rest
 |neutral {x:Wd} {n:Nat} {c:UInt8} {rest:List Wd}:numW x=some n->qlJ n c->Kind used (x::[c]::rest) [] rest
 |regroup {x y z:Wd} {c:UInt8} {rest:List Wd}:(c=43∨c=42∨c=94)->qa1 x [c] y=some z->Kind used (x::[c]::y::[c]::rest) [z,[c]] rest
 |same {x:Wd} {n:Nat} {rest:List Wd}:numW x=some n->Kind used (x::[64]::x::[33]::rest) [] rest
 |double {w l:Wd} {rest:List Wd}:refW w=some l->Kind used ([49]::[60]::[49]::[60]::w::[63]::rest) [w,[63]] rest
 |never {x w l:Wd} {n:Nat} {rest:List Wd}:numW x=some n->n≠0->refW w=some l->Kind used (x::w::[63]::rest) [] rest
 |next {w l:Wd} {rest:List Wd}:refW w=some l->qf0 l rest=true->Kind used ([48]::w::[63]::rest) [] rest
 |deadJ {w l:Wd} {dead rest:List Wd}:refW w=some l->(∀ y∈dead,defW y=none)->(∀ y r,rest=y::r->(defW y).isSome=true)->Kind used ([48]::w::[63]::(dead++rest)) [[48],w,[63]] rest
 |deadS {c:UInt8} {dead rest:List Wd}:(c=59∨c=36)->(∀ y∈dead,defW y=none)->(∀ y r,rest=y::r->(defW y).isSome=true)->Kind used ([c]::(dead++rest)) [[c]] rest
 |unused {w l:Wd} {rest:List Wd}:defW w=some l->used l=false->Kind used (w::rest) [] rest
theorem qeE:numW [48]=some 0:=by decide +kernel
theorem qlu:numW [49]=some 1:=by decide +kernel
theorem qld(l:List Wd):∃ dead rest,l=dead++rest/\dead.length=qbU l/\(∀ y∈dead,defW y=none)/\(∀ y r,rest=y::r->(defW y).isSome=true):=by
 refine⟨l.takeWhile λw=>(defW w).isNone,l.dropWhile λw=>(defW w).isNone,(List.takeWhile_append_dropWhile).symm,rfl,λy hy=>?_,λy r h=>?_⟩
 have:(defW y).isNone=true:=by
  have key:∀ {p:Wd->Bool} {l:List Wd} {x:Wd},x∈l.takeWhile p->p x=true:=by
   intro p l
   induction l with
   |nil=>intro x hx;simp at hx
   |cons a r ih=>
    intro x hx;rw[List.takeWhile_cons] at hx;split at hx
    rename_i hp
    rcases zMi.1 hx with rfl|hx;exact hp;exact ih hx;simp at hx
  exact key (p:=λw=>(defW w).isNone) hy
 cases h:defW y with
 |none=>rfl
 |some x=>rw[h] at this;cases this
 have h2:=List.head?_dropWhile_not (λw=>(defW w).isNone) l;rw[h] at h2;simp only[List.head?_cons] at h2
 cases hd:defW y with
 |none=>rw[hd] at h2;simp at h2
 |some x=>rfl
theorem qtd(used:Wd->Bool)(v:List Wd)(h:(qa2 used v).1≠0):Kind used v (qa2 used v).2 (v.drop (qa2 used v).1):=by
 by_cases h1:∃ s,qdB v=some s
 obtain⟨s,h1⟩:=h1;rw[qu2 h1];have hlt:=qbT (qcR h1).2.1
 match v,hlt,h1 with
 |a::b::c::r,_,h1=>exact .fold h1
 have h1:qdB v=Option.none:=by
  cases h:qdB v with
  |none=>rfl
  |some s=>exact absurd ⟨s,h⟩ h1
 by_cases h2:qbS v
 rw[qui h1 h2]
 have hlt:1<v.length:=qbT (by
  rcases h2 with⟨_,h|h|h⟩|⟨_,h|h⟩ <;> (rw[h];decide))
 match v,hlt,h2 with
 |a::b::r,_,h2=>
  have h2:a=[48]/\(b=[43]∨b=[45]∨b=[94])∨a=[49]/\(b=[42]∨b=[47]):=h2;rcases h2 with⟨rfl,rfl|rfl|rfl⟩|⟨rfl,rfl|rfl⟩;exact .neutral qeE (.inl ⟨rfl,.inl rfl⟩);exact .neutral qeE (.inl ⟨rfl,.inr (.inl rfl)⟩);exact .neutral qeE (.inl ⟨rfl,.inr (.inr rfl)⟩);exact .neutral qlu (.inr ⟨rfl,.inl rfl⟩);exact .neutral qlu (.inr ⟨rfl,.inr rfl⟩)
 by_cases h3:qa0 v/\∃ s,qbm v=some s
 obtain⟨h3,s,h4⟩:=h3;rw[quQ h1 h2 h3 h4];have h5:wdAt v 3≠[]:=by rw[h3.2];exact(qcR h4).2.1
 have hlt:=qbT h5
 match v,hlt,h3,h4 with
 |a::b::c::e::r,_,h3,h4=>
  obtain⟨k1,k2⟩:=h3;have k1:b=[43]∨b=[42]∨b=[94]:=k1;have k2:e=b:=k2;subst k2;have h4:qa1 a e c=some s:=h4;rcases k1 with rfl|rfl|rfl;exact .regroup (.inl rfl) h4;exact .regroup (.inr (.inl rfl)) h4;exact .regroup (.inr (.inr rfl)) h4
 have h3:¬ qa0 v∨qbm v=Option.none:=by
  by_cases hc:qa0 v
  exact zT24;exact .inl hc
 by_cases h4:qhn v
 rw[qvf h1 h2 h3 h4];have hlt:3<v.length:=qbT (by rw[h4.2.2.2];decide)
 match v,hlt,h4 with
 |a::b::c::e::r,_,h4=>
  obtain⟨k1,k2,k3,k4⟩:=h4;have k1:(numW a).isSome=true:=k1;have k2:b=[64]:=k2;have k3:c=a:=k3;have k4:e=[33]:=k4;obtain⟨n,hn⟩:=Option.isSome_iff_exists.1 k1;rw[k2,k3,k4];exact .same hn
 by_cases h5:qc3 v
 rw[qvB h1 h2 h3 h4 h5];obtain⟨l,hl⟩:=Option.isSome_iff_exists.1 h5.1;have h6:=qcF hl
 match v,h6,h5,hl with
 |a::b::c::e::f::g::r,_,h5,hl=>
  obtain⟨_,k2,k3,k4,k5⟩:=h5;have k2:a=[49]:=k2;have k3:b=[60]:=k3;have k4:c=[49]:=k4;have k5:e=[60]:=k5;subst k2 k3 k4 k5;unfold qdb at hl;split at hl
  rename_i x hx
  split at hl
  rename_i hy
  have hx:refW f=some x:=hx;have hy:g=[63]:=hy;subst hy;exact .double hx;cases hl;cases hl
 have jk:∀ {v:List Wd} {l:Wd},qdb v 1=some l->∃ a w r,v=a::w::[63]::r/\refW w=some l:=by
  intro v l hl;have h6:=qcF hl
  match v,h6,hl with
  |a::b::c::r,_,hl=>
   unfold qdb at hl;split at hl
   rename_i x hx
   split at hl
   rename_i hy
   have hx:refW b=some x:=hx;have hy:c=[63]:=hy;subst hy;injection hl with hl;subst hl;exact⟨_,_,_,rfl,hx⟩;cases hl;cases hl
 cases h6:qei v with
 |true=>
  rw[quF h1 h2 h3 h4 h5 h6];unfold qei at h6;split at h6
  rename_i n hn
  have h7:n≠0/\(qdb v 1).isSome=true:=by simpa using h6
  obtain⟨l,hl⟩:=Option.isSome_iff_exists.1 h7.2;obtain⟨a,w,r,rfl,hw⟩:=jk hl;exact .never hn h7.1 hw
  cases h6
 |false=>
  cases h7:qij v with
  |true=>
   rw[quV h1 h2 h3 h4 h5 h6 h7];unfold qij at h7;split at h7
   ·rename_i l hl
    obtain⟨a,w,r,rfl,hw⟩:=jk hl;have h8:a=[48]/\qf0 l r=true:=by simpa [wdAt] using h7
    obtain⟨rfl,h8⟩:=h8;exact .next hw h8
   cases h7
  |false=>
   by_cases h8:qkJ v
   rw[quI h1 h2 h3 h4 h5 h6 h7 h8];obtain⟨k1,k2⟩:=h8;simp only;unfold qcu at k1 k2 ⊢;split at k1
   rename_i hj
   rw[if_pos hj] at k2 ⊢;obtain⟨l,hl⟩:=Option.isSome_iff_exists.1 hj.1;obtain⟨a,w,r,rfl,hw⟩:=jk hl;have ha:a=[48]:=hj.2;subst ha;obtain⟨dead,rest,e1,e2,e3,e4⟩:=qld r;have hd:([48]::w::[63]::r).drop 3=r:=rfl;rw[hd,<-e2,e1]
   have h9:([48]::w::[63]::(dead++rest)).drop (3+dead.length)=rest:=by
    rw[add_comm,<-drop_drop]
    simp
   rw[h9];exact .deadJ hw e3 e4
   rename_i hj
   rw[if_neg hj] at k2 ⊢;split at k1
   rename_i hs
   rw[if_pos hs] at k2 ⊢
   match v,hs,k2 with
   |[],hs,_=>rcases hs with h|h <;> (exact absurd h zDd)
   |a::r,hs,k2=>
    have hs:a=[59]∨a=[36]:=hs;obtain⟨dead,rest,e1,e2,e3,e4⟩:=qld r;have hd:(a::r).drop 1=r:=rfl;rw[hd,<-e2,e1]
    have h9:(a::(dead++rest)).drop (1+dead.length)=rest:=by
     rw[add_comm,<-drop_drop]
     simp
    rw[h9];rcases hs with rfl|rfl;exact .deadS (.inl rfl) e3 e4;exact .deadS (.inr rfl) e3 e4
   exact absurd k1 zDd;rw[quc h1 h2 h3 h4 h5 h6 h7 h8] at h ⊢;unfold qcA at h ⊢;split at h
   rename_i l hl
   split at h;exact absurd rfl h
   rename_i hu
   rw[if_neg hu]
   match v,hl with
   |[],hl=>
    have h0:defW (wdAt [] 0)=none:=by decide
    rw[h0] at hl
    cases hl
   |a::r,hl=>
    have hl:defW a=some l:=hl;exact .unused hl (by simpa using hu)
   exact absurd rfl h
theorem qeJ(used:Wd->Bool):∀ (f:Nat) (v:List Wd),v.length<=f->qcB used f v=qcB used v.length v
 |0,v,h=>by
  obtain rfl:=eq_nil_of_length_eq_zero (Nat.le_zero.1 h)
  rfl
 |f+1,[],_=>rfl
 |f+1,w::r,h=>by
  simp only[zLc] at h ⊢;rw[qcB,qcB];split;rw[qeJ used f r (by omega)]
  rename_i h0
  have:=qfr used (w::r) h0
  have hl:((w::r).drop (qa2 used (w::r)).1).length<=r.length:=by
   rw[length_drop,zLc];omega
  rw[qeJ used f _ (by omega),qeJ used r.length _ hl]
def O(used:Wd->Bool)(v:List Wd):List Wd:=qcB used v.length v
theorem qkR(used:Wd->Bool)(w:Wd)(r:List Wd):(O used (w::r)=w::O used r/\(qa2 used (w::r)).1=0)∨∃ p rest,Kind used (w::r) p rest/\O used (w::r)=p++O used rest/\rest.length<=r.length:=by
 unfold O;rw[zLc,qcB];split
 rename_i h
 exact .inl ⟨rfl,h⟩
 rename_i h
 have hok:=qfr used (w::r) h
 have hl:((w::r).drop (qa2 used (w::r)).1).length<=r.length:=by
  rw[length_drop,zLc];omega
 exact .inr ⟨_,_,qtd used _ h,by rw[qeJ used r.length _ hl],hl⟩
theorem qiB{n:Nat}{c:UInt8}(h:qlJ n c):isOp c:=by
 unfold isOp;rcases h with⟨_,rfl|rfl|rfl⟩|⟨_,rfl|rfl⟩ <;> decide
theorem qrH{used:Wd->Bool}{c:UInt8}{r p rest:List Wd}(hc:c=63∨c=58)(h:Kind used ([c]::r) p rest):False:=by
 have hn:numW [c]=none/\defW [c]=none:=by rcases hc with rfl|rfl <;> decide +kernel
 generalize hv:[c]::r=v at h
 have hj:∀ {x op y z:Wd},qa1 x op y=some z->numW x≠none:=λhj e=>by
  unfold qa1 at hj;rw[e] at hj;cases hj
 cases h with
 |fold h1=>injection hv with e _;exact hj h1 (by rw[<-e];exact hn.1)
 |neutral h1 _=>injection hv with e _;rw[<-e,hn.1] at h1;cases h1
 |regroup _ h1=>injection hv with e _;exact hj h1 (by rw[<-e];exact hn.1)
 |same h1=>injection hv with e _;rw[<-e,hn.1] at h1;cases h1
 |double _=>injection hv with e _;injection e with e _;rcases hc with rfl|rfl <;> exact absurd e zDd
 |never h1 _ _=>injection hv with e _;rw[<-e,hn.1] at h1;cases h1
 |next _ _=>injection hv with e _;injection e with e _;rcases hc with rfl|rfl <;> exact absurd e zDd
 |deadJ _ _ _=>injection hv with e _;injection e with e _;rcases hc with rfl|rfl <;> exact absurd e zDd
 |deadS h1 _ _=>injection hv with e _;injection e with e _;rw[<-e] at h1;rcases hc with rfl|rfl <;> exact absurd h1 zDd
 |unused h1 _=>injection hv with e _;rw[<-e,hn.2] at h1;cases h1
theorem qm6(used:Wd->Bool){c:UInt8}(hc:c=63∨c=58)(r:List Wd):O used ([c]::r)=[c]::O used r:=by
 rcases qkR used [c] r with⟨h,_⟩|⟨p,rest,h,_⟩;exact h;exact(qrH hc h).elim
theorem quy{used:Wd->Bool}{w x:Wd}{r p rest:List Wd}(hw:refW w=some x)(h:Kind used (w::r) p rest):False:=by
 have hn:numW w=none/\defW w=none:=⟨qhi hw,qbe hw⟩
 have hc:∀ c:UInt8,c≠38->w≠[c]:=λc h38 e=>by
  rw[e] at hw;unfold refW at hw;simp only[h38,false_and,if_false] at hw;cases hw
 generalize hv:w::r=v at h
 have hj:∀ {x op y z:Wd},qa1 x op y=some z->numW x≠none:=λhj e=>by
  unfold qa1 at hj;rw[e] at hj;cases hj
 cases h with
 |fold h1=>injection hv with e _;exact hj h1 (by rw[<-e];exact hn.1)
 |neutral h1 _=>injection hv with e _;rw[<-e,hn.1] at h1;cases h1
 |regroup _ h1=>injection hv with e _;exact hj h1 (by rw[<-e];exact hn.1)
 |same h1=>injection hv with e _;rw[<-e,hn.1] at h1;cases h1
 |double _=>injection hv with e _;exact hc 49 zDd e
 |never h1 _ _=>injection hv with e _;rw[<-e,hn.1] at h1;cases h1
 |next _ _=>injection hv with e _;exact hc 48 zDd e
 |deadJ _ _ _=>injection hv with e _;exact hc 48 zDd e
 |deadS h1 _ _=>
  injection hv with e _;rcases h1 with rfl|rfl;exact hc 59 zDd e
  exact hc 36 zDd e
 |unused h1 _=>injection hv with e _;rw[<-e,hn.2] at h1;cases h1
theorem O_ref(used:Wd->Bool){w x:Wd}(hw:refW w=some x)(r:List Wd):O used (w::r)=w::O used r:=by
 rcases qkR used w r with⟨h,_⟩|⟨p,rest,h,_⟩;exact h;exact(quy hw h).elim
inductive Ends (C:PW):Nat->MS->Nat->Wd->Nat->Prop
 |stop {s:MS} {e:Nat} {o:Wd}:stepM C s=.stop e o->e≠99->Ends C 0 s e o 1
 |step {n k e:Nat} {o:Wd} {s s':MS}:stepM C s=.run s'->Ends C n s' e o k->Ends C (n+1) s e o (qbY s+k)
theorem qvI{C:PW}{k:Nat}{s s':MS}{e:Nat}{o:Wd}(h:Stp C k s s')(hs:stepM C s'=.stop e o)(he:e≠99):∃ n,Ends C n s e o (k+1):=by
 induction h with
 |zero s=>exact⟨0,.stop hs he⟩
 |@step k s s' s2 h1 _ ih=>
  obtain⟨n,h2⟩:=ih hs;refine⟨n+1,?_⟩;rw[add_assoc];exact .step h1 h2
section
variable{C:PW}{n k e:Nat}{o:Wd}{s s':MS}{r:List Wd}
theorem qdM(h:Ends C n s e o k)(hs:stepM C s=.run s'):∃ m j,n=m+1/\k=qbY s+j/\Ends C m s' e o j:=by
 cases h with
 |stop h1 _=>rw[h1] at hs;cases hs
 |step h1 h2=>
  rw[h1] at hs;injection hs with hs;subst hs;exact⟨_,_,rfl,rfl,h2⟩
theorem qbi(h:Ends C n s e o k){o':Wd}(hs:stepM C s=.stop 99 o'):False:=by
 cases h with
 |stop h1 h2=>rw[h1] at hs;injection hs with hs;exact h2 hs
 |step h1 _=>rw[h1] at hs;cases hs
theorem qjw{t:MS}{d:List Nat}{v:Nat}{f:Bool}(h:Ends C n s e o k)(hs:stepM C s=qde t r d v f)(ht:t.out=s.out):d.length<256/\∃ m j,n=m+1/\k=qbY s+j/\Ends C m { t with pc:=r,data:=v::d,digit:=f } e o j:=by
 unfold qde at hs;split at hs
 rename_i hl
 exact⟨hl,qdM h hs⟩;exact(qbi h hs).elim
theorem qcw{w:Wd}{v:Nat}(hw:numW w=some v)(hv:s.pc=w::r)(h:Ends C n s e o k):s.data.length<256/\∃ m j,n=m+1/\k=w.length+Go.Stele.one s.digit+j/\Ends C m { s with pc:=r,data:=v::s.data,digit:=true } e o j:=by
 have h1:=qjw (t:=s) h (by rw[qa4 hv,qff hw]) rfl;have hc:qbY s=w.length+Go.Stele.one s.digit:=by unfold qbY;rw[hv];exact qfg hw
 rw[hc] at h1;exact h1
theorem qll{c:UInt8}(hc:c∈qcO)(hv:s.pc=[c]::r):qbY s=1:=by unfold qbY;rw[hv];exact qjI hc
theorem qic{c:UInt8}{a b v:Nat}{d:List Nat}(hc:isOp c)(hv:s.pc=[c]::r)(hd:s.data=b::a::d)(hb:binM c.toNat a b=some v)(h:Ends C n s e o k):∃ m j,n=m+1/\k=1+j/\Ends C m { s with pc:=r,data:=v::d,digit:=false } e o j:=by
 have h1:=qjw (t:=s) h (by
  rw[qa4 hv,qbD (qcS hc),qjW hc];unfold binW;rw[hd];simp only
  rw[hb]) rfl
 rw[qll (qcS hc) hv] at h1;exact h1.2
theorem qhw{w l:Wd}{a:Nat}{d:List Nat}(hr:refW w=some l)(hv:s.pc=w::[63]::r)(hd:s.data=a::d)(h:Ends C n s e o k):∃ t,qby l C.W=some t/\s.data.length<256/\∃ m j,n=m+1/\k=7+Go.Stele.one s.digit+j/\Ends C m { s with pc:=if a=0 then t else r,data:=d,digit:=false } e o j:=by
 have hs:stepM C s=qhY C s l ([63]::r):=by rw[qa4 hv,qdL hr]
 have hc:qbY s=7+Go.Stele.one s.digit:=by unfold qbY;rw[hv];exact qek hr
 unfold qhY at hs
 cases ht:qby l C.W with
 |none=>rw[ht] at hs;exact(qbi h hs).elim
 |some t=>
  rw[ht] at hs;simp only at hs;split at hs
  rename_i hl
  unfold qnP at hs;rw[hd] at hs;simp only[if_true] at hs;have h1:=qdM h hs;rw[hc] at h1;exact⟨t,rfl,hl,h1⟩;exact(qbi h hs).elim
end
theorem qgZ{x:Wd}:∀ (a b:List Wd),x ∉ defs a->qby x (a++b)=qby x b
 |[],b,_=>rfl
 |w::a,b,h=>by
  rw[qcT] at h;have hne:¬ defW w=some x:=λe=>h (by rw[e];simp);rw[cons_append,qby,if_neg hne];exact qgZ a b λhx=>h (List.mem_append.2 (.inr hx))
theorem qqW{used:Wd->Bool}{w:Wd}{r:List Wd}(h:(qa2 used (w::r)).1≠0):(∀ d∈defs ((w::r).take (qa2 used (w::r)).1),used d=false)/\defs (qa2 used (w::r)).2=[]:=⟨(qg9 used _ h).took,(qg9 used _ h).put⟩
theorem qxc(used:Wd->Bool){x:Wd}(hx:used x=true):∀ (n:Nat) (v k:List Wd),v.length<=n->qby x v=some k->qby x (O used v)=some (O used k):=by
 intro n
 induction n with
 |zero=>
  intro v k hn h;obtain rfl:=eq_nil_of_length_eq_zero (Nat.le_zero.1 hn)
  cases h
 |succ n ih=>
  intro v k hn h
  cases v with
  |nil=>cases h
  |cons w r=>
   rw[zLc] at hn
   by_cases h0:(qa2 used (w::r)).1=0
   have e:O used (w::r)=w::O used r:=by
    unfold O;rw[zLc,qcB,if_pos h0]
   rw[e,qby];rw[qby] at h;split at h
   rename_i hd
   rw[if_pos hd];injection h with h;rw[h]
   rename_i hd
   rw[if_neg hd];exact ih r k (by omega) h;have hok:=qfr used (w::r) h0;obtain⟨f1,f2⟩:=qqW h0
   have e:O used (w::r)=(qa2 used (w::r)).2++O used ((w::r).drop (qa2 used (w::r)).1):=by
    unfold O;rw[zLc,qcB,if_neg h0,qeJ used r.length _ (by rw[length_drop,zLc];omega)]
   rw[e,qgZ _ _ (by rw[f2];simp)]
   have h2:qby x (w::r)=qby x ((w::r).drop (qa2 used (w::r)).1):=by
    conv=>lhs;rw[<-List.take_append_drop (qa2 used (w::r)).1 (w::r)]
    exact qgZ _ _ λhm=>by rw[f1 x hm] at hx;cases hx
   rw[h2] at h;exact ih _ k (by rw[length_drop,zLc];omega) h
theorem qen{x:Wd}:∀ {W k:List Wd},qby x W=some k->∃ p w,W=p++w::k/\defW w=some x
 |[],k,h=>by cases h
 |w::r,k,h=>by
  rw[qby] at h;split at h
  rename_i hd
  injection h with h;subst h;exact⟨[],w,rfl,hd⟩;obtain⟨p,w',h1,h2⟩:=qen h;exact⟨w::p,w',by rw[h1];try rfl,h2⟩
theorem quG{w x:Wd}{l:List Wd}(h:w∈l)(hd:defW w=some x):x∈defs l:=List.mem_filterMap.2 ⟨w,h,hd⟩
theorem qkP{l:Wd}:∀ {rest:List Wd},qf0 l rest=true->∃ ds k,rest=ds++k/\qby l rest=some k/\(∀ w∈ds,(defW w).isSome=true)
 |[],h=>by cases h
 |w::r,h=>by
  rw[qf0] at h
  cases hd:defW w with
  |none=>rw[hd] at h;cases h
  |some d=>
   rw[hd] at h;simp only[Bool.or_eq_true,zDe] at h
   by_cases he:d=l
   ·subst he;exact⟨[w],r,rfl,by rw[qby,if_pos hd],λy hy=>by rw[List.mem_singleton.1 hy,hd];try rfl⟩
   obtain⟨ds,k,h1,h2,h3⟩:=qkP (rest:=r) (by rcases h with h|h;exact absurd h he;exact h);refine⟨w::ds,k,by rw[h1];try rfl,?_,λy hy=>?_⟩;rw[qby,if_neg (by rw[hd];intro e;injection e with e;exact he e)];exact h2;rcases zMi.1 hy with rfl|hy
   ·rw[hd];try rfl
   exact h3 y hy
theorem qq3{W p rest k:List Wd}{l:Wd}(hn:(defs W).Nodup)(hW:W=p++rest)(h:qby l rest=some k):qby l W=some k:=by
 obtain⟨q,w,h1,h2⟩:=qen h;rw[hW,qgc] at hn;have h3:=(List.nodup_append.1 hn).2.2;rw[hW,qgZ _ _ λhm=>h3 l hm l (quG (by rw[h1];simp) h2) rfl];exact h
theorem qv4(used:Wd->Bool):∀ (ds k:List Wd),(∀ w∈ds,(defW w).isSome=true)->∃ es,O used (ds++k)=es++O used k/\∀ w∈es,(defW w).isSome=true
 |[],k,_=>⟨[],rfl,λw hw=>by cases hw⟩
 |w::ds,k,h=>by
  obtain⟨es,h1,h2⟩:=qv4 used ds k λy hy=>h y (zMo _ hy);obtain⟨x,hx⟩:=Option.isSome_iff_exists.1 (h w zMs);rw[cons_append];rcases qkR used w (ds++k) with⟨e,_⟩|⟨p,rest,q,e,_⟩
  ·refine⟨w::es,by rw[e,h1];try rfl,λy hy=>?_⟩;rcases zMi.1 hy with rfl|hy
   ·rw[hx];try rfl
   exact h2 y hy
  rw[e];generalize hv:w::(ds++k)=v at q
  have hnum:numW w=none:=by
   cases hq:numW w with
   |none=>rfl
   |some n=>rw[(qbt hq).1] at hx;cases hx
  have hne:∀ c:UInt8,defW [c]=none->w≠[c]:=λc hc e=>by rw[e,hc] at hx;cases hx
  have hj:∀ {x op y z:Wd},qa1 x op y=some z->numW x≠none:=λhj e=>by
   unfold qa1 at hj;rw[e] at hj;cases hj
  cases q with
  |fold q=>injection hv with e _;exact absurd (by rw[<-e];exact hnum) (hj q)
  |neutral q _=>injection hv with e _;rw[<-e,hnum] at q;cases q
  |regroup _ q=>injection hv with e _;exact absurd (by rw[<-e];exact hnum) (hj q)
  |same q=>injection hv with e _;rw[<-e,hnum] at q;cases q
  |double _=>injection hv with e _;exact absurd e (hne 49 (qbt qlu).1)
  |never q _ _=>injection hv with e _;rw[<-e,hnum] at q;cases q
  |next _ _=>injection hv with e _;exact absurd e (hne 48 (qbt qeE).1)
  |deadJ _ _ _=>injection hv with e _;exact absurd e (hne 48 (qbt qeE).1)
  |@deadS c _ _ q _ _=>injection hv with e _;exact absurd e (hne c (by rcases q with rfl|rfl <;> decide +kernel))
  |unused q _=>
   injection hv with e1 e2;subst e2;exact⟨es,h1,h2⟩
structure Sim(used:Wd->Bool)(s t:MS):Prop where
 pc:t.pc=O used s.pc
 data:t.data=s.data
 calls:t.calls=s.calls.map (O used)
 mem:t.mem=s.mem
 inp:t.inp=s.inp
 out:t.out=s.out
structure Fine(W:List Wd)(s:MS):Prop where
 data:∀ v∈s.data,v<4294967296
 mem:∀ a,s.mem a<4294967296
 inp:∀ v∈s.inp,v<4294967296
 here:∃ p,W=p++s.pc
 calls:∀ c∈s.calls,∃ p,W=p++c
def pen(g f:Bool):Nat:=if g=true/\f=false then 1 else 0
theorem qwA(g f:Bool):Go.Stele.one g<=Go.Stele.one f+pen g f:=by cases g <;> cases f <;> decide
theorem qlb(g f:Bool):pen g f<=1:=by cases g <;> cases f <;> decide
theorem qel(f:Bool):pen f f=0:=by cases f <;> decide
theorem qpB{c a b v:Nat}(ha:a<4294967296)(hb:b<4294967296)(h:binM c a b=some v):v<4294967296:=by
 unfold binM at h;split at h;injection h with h;omega;split at h;injection h with h;omega;split at h;injection h with h;rw[<-h];exact mod_lt _ zDd;split at h;split at h;cases h;injection h with h;rw[<-h];exact Nat.lt_of_le_of_lt (Nat.div_le_self a b) ha;split at h;split at h;cases h;injection h with h;rw[<-h];exact Nat.lt_of_le_of_lt (Nat.mod_le a b) ha;split at h;injection h with h;rw[<-h];exact Nat.xor_lt_two_pow (n:=32) ha hb;injection h with h;rw[<-h];split <;> decide
theorem qn5{a n:Nat}{c:UInt8}(ha:a<4294967296)(h:qlJ n c):binM c.toNat a n=some a:=by
 rcases h with⟨rfl,rfl|rfl|rfl⟩|⟨rfl,rfl|rfl⟩;show some ((a+0) % 4294967296)=_;rw[add_zero,mod_eq_of_lt ha];show some ((a+4294967296-0) % 4294967296)=_;rw[Nat.sub_zero,Nat.add_mod_right,mod_eq_of_lt ha];show some (a ^^^ 0)=_;rw[Nat.xor_zero];show some (a * 1 % 4294967296)=_;rw[Nat.mul_one,mod_eq_of_lt ha];show some (a / 1)=_;rw[Nat.div_one]
section
variable{W:List Wd}{D:Nat->Bool}{n k e:Nat}{o:Wd}{s s' t:MS}{r:List Wd}
theorem quz{C:PW}{c:Nat}(h:Stp C c s s')(g:Ends C n s' e o k):∃ m,Ends C m s e o (c+k):=by
 induction h with
 |zero s=>exact⟨n,by rw[zero_add];exact g⟩
 |@step c s s' s2 h1 _ ih=>
  obtain⟨m,h2⟩:=ih g;exact⟨m+1,by rw[add_assoc];exact .step h1 h2⟩
theorem qlF{C:PW}{c:UInt8}(hc:isOp c)(hv:s.pc=[c]::r)(h:Ends C n s e o k):∃ b a d,s.data=b::a::d:=by
 have hs:stepM C s=binW s c r:=by rw[qa4 hv,qbD (qcS hc),qjW hc]
 unfold binW at hs
 match hd:s.data with
 |b::a::d=>exact⟨b,a,d,rfl⟩
 |[]=>rw[hd] at hs;exact(qbi h hs).elim
 |[_]=>rw[hd] at hs;exact(qbi h hs).elim
theorem qtL{C:PW}{a:Nat}{d:List Nat}(hv:s.pc=[64]::r)(hd:s.data=a::d)(h:Ends C n s e o k):C.D a=true/\∃ m j,n=m+1/\k=1+j/\Ends C m { s with pc:=r,data:=s.mem a::d,digit:=false } e o j:=by
 have hs:stepM C s=qo0 C.D s r:=by rw[qa4 hv,qbD zDd];try rfl
 unfold qo0 at hs;rw[hd] at hs;simp only at hs;split at hs
 rename_i hD
 have h1:=qjw (t:=s) h hs rfl;rw[qll zDd hv] at h1;exact⟨hD,h1.2⟩;exact(qbi h hs).elim
theorem qqI{C:PW}{a x:Nat}{d:List Nat}(hv:s.pc=[33]::r)(hd:s.data=a::x::d)(h:Ends C n s e o k):∃ m j,n=m+1/\k=1+j/\Ends C m { s with pc:=r,data:=d,mem:=λi=>if i=a then x else s.mem i,digit:=false } e o j:=by
 have hs:stepM C s=qjj C.D s r:=by rw[qa4 hv,qbD zDd];try rfl
 unfold qjj at hs;rw[hd] at hs;simp only at hs;split at hs;have h1:=qdM h hs;rw[qll zDd hv] at h1;exact h1;exact(qbi h hs).elim
theorem Fine.to(h:Fine W s)(hpc:∃ p,W=p++s'.pc)(hd:∀ v∈s'.data,v<4294967296)(hm:s'.mem=s.mem)(hi:s'.inp=s.inp)(hc:s'.calls=s.calls):Fine W s':=
 ⟨hd,by rw[hm];exact h.mem,by rw[hi];exact h.inp,hpc,by rw[hc];exact h.calls⟩
theorem qaX{w:Wd}(h:∃ p,W=p++w::r):∃ p,W=p++r:=by
 obtain⟨p,hp⟩:=h;exact⟨p++[w],by rw[hp,zAs];try rfl⟩
theorem qeU{x:Wd}{q:List Wd}(h:qby x W=some q):∃ p,W=p++q:=by
 obtain⟨p,w,h1,_⟩:=qen h;exact qaX ⟨p,h1⟩
theorem qoT{w x:Wd}(h:∃ p,W=p++w::r)(hx:refW w=some x):qaO W x=true:=by
 obtain⟨p,hp⟩:=h;exact List.any_eq_true.2 ⟨w,by rw[hp];simp,by simp[hx]⟩
theorem qie{x:Wd}{q:List Wd}(hu:qaO W x=true)(h:qby x W=some q):qby x (O (qaO W) W)=some (O (qaO W) q):=qxc _ hu _ _ _ (zNr _) h
theorem qvk{c:UInt8}(hS:Sim (qaO W) s t)(hF:Fine W s)(hr:∃ p,W=p++r):match qgn D s c r with
  |.run s1=>∃ t1,qgn D t c (O (qaO W) r)=.run t1/\Sim (qaO W) s1 t1/\t1.digit=false/\s1.digit=false/\Fine W s1
  |.stop e o=>qgn D t c (O (qaO W) r)=.stop e o:=by
 obtain⟨mem,pc,data,calls,inp,out,digit⟩:=s;obtain⟨mem',pc',data',calls',inp',out',digit'⟩:=t;obtain⟨h1,h2,h3,h4,h5,h6⟩:=hS;simp only at h1 h2 h3 h4 h5 h6;subst h1 h2 h3 h4 h5 h6;obtain⟨f1,f2,f3,f4,f5⟩:=hF;simp only at f1 f2 f3 f4 f5
 have hpush:∀ (i:List Nat) (d:List Nat) (v:Nat),(∀ x∈i,x<4294967296)->(∀ x∈d,x<4294967296)->v<4294967296->∀ (q q':List Wd) (b b':Bool),match qde ⟨mem',q,data',calls,i,out',b⟩ r d v false with
   |.run s1=>∃ t1,qde ⟨mem',q',data',calls.map (O (qaO W)),i,out',b'⟩ (O (qaO W) r) d v false=.run t1/\Sim (qaO W) s1 t1/\t1.digit=false/\s1.digit=false/\Fine W s1
   |.stop e o=>qde ⟨mem',q',data',calls.map (O (qaO W)),i,out',b'⟩ (O (qaO W) r) d v false=.stop e o:=by
  intro i d v hi hd hv q q' b b';unfold qde
  by_cases hl:d.length<256
  rw[if_pos hl,if_pos hl];refine⟨_,rfl,⟨rfl,rfl,rfl,rfl,rfl,rfl⟩,rfl,rfl,⟨λx hx=>?_,f2,hi,hr,f5⟩⟩;rcases zMi.1 hx with rfl|hx;exact hv;exact hd x hx;rw[if_neg hl,if_neg hl]
  try rfl
 unfold qgn
 by_cases c1:c=64
 ·rw[if_pos c1,if_pos c1];unfold qo0
  cases data' with
  |nil=>rfl
  |cons a d=>
   simp only
   by_cases hD:D a=true
   ·rw[if_pos hD,if_pos hD];have hd:=λx hx=>f1 x (zMo a hx);unfold qde
    by_cases hl:d.length<256
    rw[if_pos hl,if_pos hl];refine⟨_,rfl,⟨rfl,rfl,rfl,rfl,rfl,rfl⟩,rfl,rfl,⟨λx hx=>?_,f2,f3,hr,f5⟩⟩;rcases zMi.1 hx with rfl|hx;exact f2 a;exact hd x hx;rw[if_neg hl,if_neg hl]
    try rfl
   rw[if_neg hD,if_neg hD]
   try rfl
 rw[if_neg c1,if_neg c1]
 by_cases c2:c=33
 ·rw[if_pos c2,if_pos c2];unfold qjj
  match data',f1 with
  |[],_=>rfl
  |[_],_=>rfl
  |a::x::d,f1=>
   simp only
   by_cases hD:D a=true
   rw[if_pos hD,if_pos hD];refine⟨_,rfl,⟨rfl,rfl,rfl,rfl,rfl,rfl⟩,rfl,rfl,⟨λy hy=>f1 y (zMo _ (zMo _ hy)),λi=>?_,f3,hr,f5⟩⟩;simp only;split;exact f1 x (by simp);exact f2 i;rw[if_neg hD,if_neg hD]
   try rfl
 rw[if_neg c2,if_neg c2]
 by_cases c3:c=59
 rw[if_pos c3,if_pos c3];unfold qm4
 cases calls with
 |nil=>rfl
 |cons q l=>exact⟨_,rfl,⟨rfl,rfl,rfl,rfl,rfl,rfl⟩,rfl,rfl,⟨f1,f2,f3,f5 q zMs,λc hc=>f5 c (zMo _ hc)⟩⟩
 rw[if_neg c3,if_neg c3]
 by_cases c4:c=44
 rw[if_pos c4,if_pos c4];refine hpush inp'.tail data' _ (λx hx=>f3 x (List.mem_of_mem_tail hx)) f1 ?_ _ _ _ _
 cases inp' with
 |nil=>show(4294967295:Nat)<_;decide
 |cons v l=>exact f3 v zMs
 rw[if_neg c4,if_neg c4]
 by_cases c5:c=46
 rw[if_pos c5,if_pos c5];unfold qmS
 cases data' with
 |nil=>rfl
 |cons a d=>exact⟨_,rfl,⟨rfl,rfl,rfl,rfl,rfl,rfl⟩,rfl,rfl,⟨λx hx=>f1 x (zMo _ hx),f2,f3,hr,f5⟩⟩
 rw[if_neg c5,if_neg c5]
 by_cases c6:c=36
 rw[if_pos c6,if_pos c6];rw[if_neg c6,if_neg c6]
 by_cases c7:c=43∨c=45∨c=42∨c=47∨c=37∨c=94∨c=60
 ·rw[if_pos c7,if_pos c7];unfold binW
  match data',f1 with
  |[],_=>rfl
  |[_],_=>rfl
  |b::a::d,f1=>
   simp only
   cases hb:binM c.toNat a b with
   |none=>rfl
   |some v=>
    simp only;have hv:=qpB (f1 a (by simp)) (f1 b (by simp)) hb;unfold qde
    by_cases hl:d.length<256
    rw[if_pos hl,if_pos hl];refine⟨_,rfl,⟨rfl,rfl,rfl,rfl,rfl,rfl⟩,rfl,rfl,⟨λx hx=>?_,f2,f3,hr,f5⟩⟩;rcases zMi.1 hx with rfl|hx;exact hv;exact f1 x (zMo _ (zMo _ hx));rw[if_neg hl,if_neg hl]
    try rfl
 rw[if_neg c7,if_neg c7]
 try rfl
def oneW(C:PW)(u:MS)(w:Wd)(v:List Wd):MR:=match w with
 |[c]=>qgn C.D u c v
 |_=>lost u
theorem qh2{C:PW}{u:MS}{w:Wd}{v:List Wd}(hd:defW w=none)(hn:numW w=none)(hr:refW w=none):qhL C u w v=oneW C u w v:=by
 unfold qhL oneW;rw[hd];simp only;rw[hn];simp only;rw[hr]
 try rfl
theorem qiK{x op y z:Wd}(h:qa1 x op y=some z):∃ a b c ch,numW x=some a/\numW y=some b/\op=[ch]/\isOp ch/\binM ch.toNat a b=some c/\numW z=some c/\z.length<=x.length+y.length+1/\c<4294967296:=by
 have hl:=qeP h;unfold qa1 at h;split at h
 rename_i a b ha hb
 split at h
 rename_i c hc
 split at h;injection h with h;have hlt:=qku ((qcP _ _).1 ha).1 ((qcP _ _).1 hb).1 hc;obtain⟨ch,h1,h2,h3⟩:=qt9 hc;exact⟨a,b,c,ch,ha,hb,h1,h2,h3,by rw[<-h];exact qgb hlt,hl,hlt⟩;cases h;cases h;cases h
end
theorem qrU{W:List Wd}{D:Nat->Bool}(hn:(defs W).Nodup):∀ (n:Nat) (s t:MS) (e:Nat) (o:Wd) (k:Nat),Ends ⟨W,D⟩ n s e o k->Sim (qaO W) s t->Fine W s->∃ n' k',Ends ⟨O (qaO W) W,D⟩ n' t e o k'/\k'<=k+pen t.digit s.digit:=by
 intro n
 induction n using Nat.strongRecOn with
 |ind n ih=>
 intro s t e o k h hS hF;have hT:=hF.here
 cases hv:s.pc with
 |nil=>
  exact(qbi h (o':=s.out) (by unfold stepM;rw[hv];try rfl)).elim
 |cons w r=>
  rw[hv] at hT;have hp:=hS.pc;rw[hv] at hp;have hpo:=qwA t.digit s.digit;have hple:=qlb t.digit s.digit;rcases qkR (qaO W) w r with⟨eO,_⟩|⟨p,rest,q,eO,_⟩
  ·rw[eO] at hp
   cases hd:defW w with
   |some x=>
    obtain⟨m,j,rfl,rfl,h1⟩:=qdM h (qi9 hv hd);obtain⟨n',k',g1,g2⟩:=ih m (by omega) _ { t with pc:=O (qaO W) r } e o j h1 ⟨rfl,hS.data,hS.calls,hS.mem,hS.inp,hS.out⟩ (hF.to (qaX hT) hF.data rfl rfl rfl);refine⟨_,_,.step (qi9 hp hd) g1,?_⟩;rw[qg0 hp hd,qg0 hv hd];simp only at g2
    omega
   |none=>
    cases hnum:numW w with
    |some v=>
     obtain⟨hl,m,j,rfl,rfl,h1⟩:=qcw hnum hv h
     obtain⟨n',k',g1,g2⟩:=ih m (by omega) _ { t with pc:=O (qaO W) r,data:=v::s.data,digit:=true } e o j h1 ⟨rfl,rfl,hS.calls,hS.mem,hS.inp,hS.out⟩ (hF.to (qaX hT) (λx hx=>by
      rcases zMi.1 hx with rfl|hx;exact qjr hnum
      exact hF.data x hx) rfl rfl rfl)
     refine⟨_,_,.step (s':={ t with pc:=O (qaO W) r,data:=v::s.data,digit:=true }) ?_ g1,?_⟩;rw[qa4 hp,qff hnum];unfold qde;rw[hS.data,if_pos hl];have hc:qbY t=w.length+Go.Stele.one t.digit:=by unfold qbY;rw[hp];exact qfg hnum
     rw[hc];simp only[qel] at g2
     omega
    |none=>
     cases hr:refW w with
     |some x=>
      have hu:=qoT hT hr;have hs:stepM ⟨W,D⟩ s=qhY ⟨W,D⟩ s x r:=by rw[qa4 hv,qdL hr]
      have hc:qbY s=7+Go.Stele.one s.digit:=by unfold qbY;rw[hv];exact qek hr
      have hct:qbY t=7+Go.Stele.one t.digit:=by unfold qbY;rw[hp];exact qek hr
      unfold qhY at hs
      cases hk:qby x W with
      |none=>simp only[hk] at hs;exact(qbi h hs).elim
      |some kk=>
       have hk2:=qie hu hk
       cases r with
       |nil=>simp only[hk] at hs;exact(qbi h hs).elim
       |cons y r=>
        simp only[hk] at hs
        by_cases hl:s.data.length<256
        rotate_left;rw[if_neg hl] at hs;exact(qbi h hs).elim;rw[if_pos hl] at hs
        by_cases hy:y=[63]
        subst hy;rw[if_pos rfl] at hs;rw[qm6 _ (.inl rfl)] at hp;unfold qnP at hs
        cases hdat:s.data with
        |nil=>rw[hdat] at hs;exact(qbi h hs).elim
        |cons a d=>
         rw[hdat] at hs;simp only at hs;obtain⟨m,j,rfl,rfl,h1⟩:=qdM h hs;have hf:=hF.data;rw[hdat] at hf
         obtain⟨n',k',g1,g2⟩:=ih m (by omega) _ { t with pc:=if a=0 then O (qaO W) kk else O (qaO W) r,data:=d,digit:=false } e o j h1 ⟨by simp only;split <;> rfl,rfl,hS.calls,hS.mem,hS.inp,hS.out⟩ (hF.to (by
          simp only;split;exact qeU hk
          exact qaX (qaX hT)) (λx hx=>hf x (zMo _ hx)) rfl rfl rfl)
         refine⟨_,_,.step (s':={ t with pc:=if a=0 then O (qaO W) kk else O (qaO W) r,data:=d,digit:=false }) ?_ g1,?_⟩;rw[qa4 hp,qdL hr];unfold qhY qnP;have hl':(a::d).length<256:=by rw[<-hdat];exact hl
         simp only[hk2,hS.data,hdat,if_true];rw[if_pos hl'];rw[hct,hc];simp only[qel] at g2;omega
        rw[if_neg hy] at hs
        by_cases hy2:y=[58]
        rotate_left;rw[if_neg hy2] at hs;exact(qbi h hs).elim;subst hy2;rw[if_pos rfl] at hs;rw[qm6 _ (.inr rfl)] at hp
        by_cases hcl:s.calls.length<64
        rotate_left;rw[if_neg hcl] at hs;exact(qbi h hs).elim;rw[if_pos hcl] at hs;obtain⟨m,j,rfl,rfl,h1⟩:=qdM h hs
        obtain⟨n',k',g1,g2⟩:=ih m (by omega) _ { t with pc:=O (qaO W) kk,calls:=O (qaO W) r::t.calls,digit:=false } e o j h1 ⟨rfl,hS.data,by simp only[zMc];rw[hS.calls],hS.mem,hS.inp,hS.out⟩ ⟨hF.data,hF.mem,hF.inp,qeU hk,λc hc=>by
         rcases zMi.1 hc with rfl|hc;exact qaX (qaX hT)
         exact hF.calls c hc⟩
        refine⟨_,_,.step (s':={ t with pc:=O (qaO W) kk,calls:=O (qaO W) r::t.calls,digit:=false }) ?_ g1,?_⟩;rw[qa4 hp,qdL hr];unfold qhY;have hcl2:t.calls.length<64:=by rw[hS.calls,zLm];exact hcl
        simp[hk2,hS.data,hl,hcl2];rw[hct,hc];simp only[qel] at g2
        omega
     |none=>
      have hcost:∀ (u:MS) (v:List Wd),u.pc=w::v->qbY u=1:=λu v hu=>by
       unfold qbY qjV;rw[hu];simp[hd,hnum,hr]
      have hs:stepM ⟨W,D⟩ s=_:=(qa4 hv).trans (qh2 hd hnum hr);have hs2:stepM ⟨O (qaO W) W,D⟩ t=_:=(qa4 hp).trans (qh2 hd hnum hr);rcases w with _|⟨c,_|⟨c2,w2⟩⟩;exact(qbi h hs).elim;rotate_left;exact(qbi h hs).elim;have hs:stepM ⟨W,D⟩ s=qgn D s c r:=hs;have hs2:stepM ⟨O (qaO W) W,D⟩ t=qgn D t c (O (qaO W) r):=hs2;have key:=qvk (D:=D) (c:=c) hS hF (qaX hT)
      cases hsg:qgn D s c r with
      |stop e2 o2=>
       rw[hsg] at key hs;simp only at key;rw[key] at hs2
       cases h with
       |stop h1 h2=>
        rw[hs] at h1;injection h1 with h1 h3;subst h1 h3
        exact⟨_,_,.stop hs2 h2,by omega⟩
       |step h1 _=>rw[hs] at h1;cases h1
      |run s1=>
       rw[hsg] at key hs;obtain⟨t1,k1,k2,k3,k4,k5⟩:=key;rw[k1] at hs2;obtain⟨m,j,rfl,rfl,h1⟩:=qdM h hs;obtain⟨n',k',g1,g2⟩:=ih m (by omega) _ t1 e o j h1 k2 k5;refine⟨_,_,.step hs2 g1,?_⟩;rw[hcost t _ hp,hcost s _ hv];rw[k3,k4,qel] at g2;omega
  rw[eO] at hp;generalize hvv:w::r=v at q;rw[hvv] at hv hT;clear hvv eO
  cases q with
  |@fold x y op z rest h1=>
   obtain⟨a,b,c,ch,p1,p2,rfl,p4,p5,p6,p7,p8⟩:=qiK h1;obtain⟨hl,m1,j1,rfl,rfl,h2⟩:=qcw p1 hv h;obtain⟨hl2,m2,j2,rfl,rfl,h3⟩:=qcw p2 rfl h2;obtain⟨m3,j3,rfl,rfl,h4⟩:=qic p4 rfl rfl p5 h3
   obtain⟨n',k',g1,g2⟩:=ih m3 (by omega) _ { t with pc:=O (qaO W) rest,data:=c::s.data,digit:=true } e o j3 h4 ⟨rfl,rfl,hS.calls,hS.mem,hS.inp,hS.out⟩ (hF.to (qaX (qaX (qaX hT))) (λx hx=>by
     rcases zMi.1 hx with rfl|hx;exact p8
     exact hF.data x hx) rfl rfl rfl)
   have hp:t.pc=z::O (qaO W) rest:=hp;refine⟨_,_,.step (s':={ t with pc:=O (qaO W) rest,data:=c::s.data,digit:=true }) ?_ g1,?_⟩;rw[qa4 hp,qff p6];unfold qde;rw[hS.data,if_pos hl];have hc:qbY t=z.length+Go.Stele.one t.digit:=by unfold qbY;rw[hp];exact qfg p6
   rw[hc];simp only at g2 ⊢;have:=qlb true false;have e1:Go.Stele.one true=1:=rfl
   omega
  |@neutral x nn c rest h1 h2=>
   have hop:=qiB h2;obtain⟨hl,m1,j1,rfl,rfl,h3⟩:=qcw h1 hv h;obtain⟨b,a,d,hd⟩:=qlF hop rfl h3;simp only at hd;injection hd with hd1 hd;subst hd1;obtain⟨m2,j2,rfl,rfl,h4⟩:=qic hop rfl (by simp only;rw[hd]) (qn5 (hF.data a (by rw[hd];simp)) h2) h3;obtain⟨n',k',g1,g2⟩:=ih m2 (by omega) _ t e o j2 h4 ⟨hp,by simp only;rw[hS.data,hd],hS.calls,hS.mem,hS.inp,hS.out⟩ (hF.to (qaX (qaX hT)) (by simp only;rw[<-hd];exact hF.data) rfl rfl rfl);refine⟨n',k',g1,?_⟩;have:=qlb t.digit false;simp only at g2
   omega
  |@regroup x y z c rest hc h1=>
   obtain⟨a,b,cc,ch,p1,p2,p3,p4,p5,p6,p7,p8⟩:=qiK h1;injection p3 with p3 _;subst p3;obtain⟨hl,m1,j1,rfl,rfl,h3⟩:=qcw p1 hv h;obtain⟨b',a',d,hd⟩:=qlF p4 rfl h3;simp only at hd;injection hd with hd1 hd;subst hd1;obtain⟨u,z',b1,b2,b3⟩:=qok hc a' a b;rw[p5] at b2;injection b2 with b2;subst b2;obtain⟨m2,j2,rfl,rfl,h4⟩:=qic p4 rfl (by simp only;rw[hd]) b1 h3;obtain⟨hl2,m3,j3,rfl,rfl,h5⟩:=qcw p2 rfl h4
   have hv3:∃ v,binM c.toNat u b=some v:=by
    rcases hc with rfl|rfl|rfl <;> exact⟨_,rfl⟩
   obtain⟨v,hv3⟩:=hv3;obtain⟨m4,j4,rfl,rfl,h6⟩:=qic p4 rfl rfl hv3 h5;have ha:=hF.data a' (by rw[hd];simp);have hvlt:=qpB ha p8 (by rw[<-b3];exact hv3)
   obtain⟨n',k',g1,g2⟩:=ih m4 (by omega) _ { t with pc:=O (qaO W) rest,data:=v::d,digit:=false } e o j4 h6 ⟨rfl,rfl,hS.calls,hS.mem,hS.inp,hS.out⟩ (hF.to (qaX (qaX (qaX (qaX hT)))) (λx hx=>by
     rcases zMi.1 hx with rfl|hx;exact hvlt
     exact hF.data x (by rw[hd];exact zMo _ hx)) rfl rfl rfl)
   have hp:t.pc=z::[c]::O (qaO W) rest:=hp;rw[hd] at hl;simp only[zLc] at hl;refine⟨_,_,.step (s':={ t with pc:=[c]::O (qaO W) rest,data:=cc::s.data,digit:=true }) ?_ (.step (s':={ t with pc:=O (qaO W) rest,data:=v::d,digit:=false }) ?_ g1),?_⟩;rw[qa4 hp,qff p6];unfold qde;rw[hS.data,hd,if_pos (by simp only[zLc];omega)];rw[qa4 rfl,qbD (qcS p4),qjW p4];unfold binW;simp only[hd];rw[<-b3,hv3];simp only;unfold qde;rw[if_pos (by omega)];have hc:qbY t=z.length+Go.Stele.one t.digit:=by unfold qbY;rw[hp];exact qfg p6
   rw[hc,qll (qcS p4) rfl];simp only[qel] at g2 ⊢;have e1:Go.Stele.one false=0:=rfl
   omega
  |@same x nn rest h1=>
   obtain⟨hl,m1,j1,rfl,rfl,h3⟩:=qcw h1 hv h;obtain⟨hD,m2,j2,rfl,rfl,h4⟩:=qtL rfl rfl h3;obtain⟨hl2,m3,j3,rfl,rfl,h5⟩:=qcw h1 rfl h4;obtain⟨m4,j4,rfl,rfl,h6⟩:=qqI rfl rfl h5
   have hm:(λi=>if i=nn then s.mem nn else s.mem i)=s.mem:=by
    funext i;split
    rename_i e;rw[e]
    rfl
   obtain⟨n',k',g1,g2⟩:=ih m4 (by omega) _ t e o j4 h6 ⟨hp,hS.data,hS.calls,hS.mem.trans hm.symm,hS.inp,hS.out⟩ (hF.to (qaX (qaX (qaX (qaX hT)))) hF.data hm rfl rfl);refine⟨n',k',g1,?_⟩;have:=qlb t.digit false;simp only at g2
   omega
  |@double w l rest h1=>
   have ho:isOp 60:=by unfold isOp;decide
   obtain⟨hl,m1,j1,rfl,rfl,h3⟩:=qcw qlu hv h;obtain⟨b',a,d,hd⟩:=qlF ho rfl h3;simp only at hd;injection hd with hd1 hd;subst hd1;obtain⟨m2,j2,rfl,rfl,h4⟩:=qic ho rfl (v:=if a<1 then 1 else 0) (by simp only;rw[hd]) (by unfold binM;simp) h3;obtain⟨hl2,m3,j3,rfl,rfl,h5⟩:=qcw qlu rfl h4;obtain⟨m4,j4,rfl,rfl,h6⟩:=qic ho rfl (v:=if (if a<1 then 1 else 0)<1 then 1 else 0) rfl (by unfold binM;simp) h5;obtain⟨kk,hk,_,m5,j5,rfl,rfl,h7⟩:=qhw h1 rfl rfl h6;have hT5:=qaX (qaX (qaX (qaX hT)));have hk2:=qie (qoT hT5 h1) hk
   have hz:((if (if a<1 then 1 else 0)<1 then 1 else 0)=0)=(a=0):=by
    by_cases ha:a=0
    subst ha;simp;rw[if_neg (show ¬ a<1 by omega)];simp[ha]
   simp only[hz] at h7
   obtain⟨n',k',g1,g2⟩:=ih m5 (by omega) _ { t with pc:=if a=0 then O (qaO W) kk else O (qaO W) rest,data:=d,digit:=false } e o j5 h7 ⟨by simp only;split <;> rfl,rfl,hS.calls,hS.mem,hS.inp,hS.out⟩ (hF.to (by
     simp only;split;exact qeU hk
     exact qaX (qaX hT5)) (λx hx=>hF.data x (by rw[hd];exact zMo _ hx)) rfl rfl rfl)
   have hp:t.pc=w::[63]::O (qaO W) rest:=hp;have hct:qbY t=7+Go.Stele.one t.digit:=by unfold qbY;rw[hp];exact qek h1
   refine⟨_,_,.step (s':={ t with pc:=if a=0 then O (qaO W) kk else O (qaO W) rest,data:=d,digit:=false }) ?_ g1,?_⟩;rw[qa4 hp,qdL h1];unfold qhY qnP;have hl':(a::d).length<256:=by rw[<-hd];exact hl
   simp only[hk2,hS.data,hd,if_true];rw[if_pos hl'];rw[hct];simp only[qel] at g2 ⊢;have e1:Go.Stele.one false=0:=rfl;have e2:([49]:Wd).length=1:=rfl
   omega
  |@never x w l nn rest h1 h2 h3=>
   obtain⟨hl,m1,j1,rfl,rfl,h4⟩:=qcw h1 hv h;obtain⟨kk,hk,_,m2,j2,rfl,rfl,h5⟩:=qhw h3 rfl rfl h4;rw[if_neg h2] at h5;obtain⟨n',k',g1,g2⟩:=ih m2 (by omega) _ t e o j2 h5 ⟨hp,hS.data,hS.calls,hS.mem,hS.inp,hS.out⟩ (hF.to (qaX (qaX (qaX hT))) hF.data rfl rfl rfl);refine⟨n',k',g1,?_⟩;have:=qlb t.digit false;simp only at g2
   omega
  |@next w l rest h1 h2=>
   obtain⟨hl,m1,j1,rfl,rfl,h4⟩:=qcw qeE hv h;obtain⟨kk,hk,_,m2,j2,rfl,rfl,h5⟩:=qhw h1 rfl rfl h4;rw[if_pos rfl] at h5;obtain⟨ds,k2,e1,e2,e3⟩:=qkP h2;have hT3:=qaX (qaX (qaX hT));obtain⟨p0,hp0⟩:=hT3;have hk':=qq3 hn hp0 e2;rw[hk] at hk';injection hk' with hk';subst hk';obtain⟨es,q1,q2⟩:=qv4 (qaO W) ds kk e3;have hp:t.pc=es++O (qaO W) kk:=by rw[<-q1,<-e1];exact hp
   obtain⟨n',k',g1,g2⟩:=ih m2 (by omega) _ { t with pc:=O (qaO W) kk } e o j2 h5 ⟨rfl,hS.data,hS.calls,hS.mem,hS.inp,hS.out⟩ (hF.to (qeU hk) hF.data rfl rfl rfl);obtain⟨n2,g3⟩:=quz (qkl es t _ hp q2) g1;refine⟨n2,_,g3,?_⟩;have:=qlb t.digit false;simp only at g2
   omega
  |@deadJ w l dead rest h1 h2 h3=>
   obtain⟨hl,m1,j1,rfl,rfl,h4⟩:=qcw qeE hv h;obtain⟨kk,hk,hl2,m2,j2,rfl,rfl,h5⟩:=qhw h1 rfl rfl h4;rw[if_pos rfl] at h5;have hk2:=qie (qoT (qaX hT) h1) hk;have hp:t.pc=[48]::w::[63]::O (qaO W) rest:=hp;obtain⟨n',k',g1,g2⟩:=ih m2 (by omega) _ { t with pc:=O (qaO W) kk,digit:=false } e o j2 h5 ⟨rfl,hS.data,hS.calls,hS.mem,hS.inp,hS.out⟩ (hF.to (qeU hk) hF.data rfl rfl rfl);refine⟨_,_,.step (s':={ t with pc:=w::[63]::O (qaO W) rest,data:=0::s.data,digit:=true }) ?_ (.step (s':={ t with pc:=O (qaO W) kk,digit:=false }) ?_ g1),?_⟩;rw[qa4 hp,qff qeE];unfold qde;rw[hS.data,if_pos hl];rw[qa4 rfl,qdL h1];unfold qhY qnP;have hl3:(0::s.data).length<256:=hl2;simp only[hk2,if_true];rw[if_pos hl3,<-hS.data];have hc:qbY t=([48]:Wd).length+Go.Stele.one t.digit:=by unfold qbY;rw[hp];exact qfg qeE
   have hc2:qbY { t with pc:=w::[63]::O (qaO W) rest,data:=0::s.data,digit:=true }=7+Go.Stele.one true:=qek h1;rw[hc,hc2];simp only[qel] at g2 ⊢
   omega
  |@deadS c dead rest h1 h2 h3=>
   have hp:t.pc=[c]::O (qaO W) rest:=hp;have hsig:c∈qcO:=by rcases h1 with rfl|rfl <;> decide
   have hs:stepM ⟨W,D⟩ s=qgn D s c (dead++rest):=by rw[qa4 hv,qbD hsig]
   have hs2:stepM ⟨O (qaO W) W,D⟩ t=qgn D t c (O (qaO W) rest):=by rw[qa4 hp,qbD hsig]
   have hc:=qll hsig hv;have hct:=qll hsig hp;rcases h1 with rfl|rfl;have hs:stepM ⟨W,D⟩ s=qm4 s:=hs;have hs2:stepM ⟨O (qaO W) W,D⟩ t=qm4 t:=hs2;unfold qm4 at hs hs2
   cases hcl:s.calls with
   |nil=>rw[hcl] at hs;exact(qbi h hs).elim
   |cons kk l=>
    rw[hcl] at hs;rw[hS.calls,hcl,zMc] at hs2;simp only at hs hs2;obtain⟨m1,j1,rfl,rfl,h4⟩:=qdM h hs;obtain⟨n',k',g1,g2⟩:=ih m1 (by omega) _ { t with pc:=O (qaO W) kk,calls:=l.map (O (qaO W)),digit:=false } e o j1 h4 ⟨rfl,hS.data,rfl,hS.mem,hS.inp,hS.out⟩ ⟨hF.data,hF.mem,hF.inp,hF.calls kk (by rw[hcl];simp),λc hc=>hF.calls c (by rw[hcl];exact zMo _ hc)⟩;refine⟨_,_,.step hs2 g1,?_⟩;rw[hct,hc];simp only[qel] at g2;omega
   have hs:stepM ⟨W,D⟩ s=.stop 0 s.out:=hs;have hs2:stepM ⟨O (qaO W) W,D⟩ t=.stop 0 t.out:=hs2
   cases h with
   |stop h4 h5=>
    rw[hs] at h4;injection h4 with h4 h6;subst h4 h6;rw[hS.out] at hs2
    exact⟨_,_,.stop hs2 h5,by omega⟩
   |step h4 _=>rw[hs] at h4;cases h4
  |@unused w l rest h1 h2=>
   obtain⟨m1,j1,rfl,rfl,h4⟩:=qdM h (qi9 hv h1);obtain⟨n',k',g1,g2⟩:=ih m1 (by omega) _ t e o j1 h4 ⟨hp,hS.data,hS.calls,hS.mem,hS.inp,hS.out⟩ (hF.to (qaX hT) hF.data rfl rfl rfl);refine⟨n',k',g1,?_⟩;rw[qg0 hv h1];simp only at g2;omega
theorem qrv{W:List Wd}{D:Nat->Bool}{inp:List Nat}(hn:(defs W).Nodup)(hi:∀ v∈inp,v<4294967296){n e k:Nat}{o:Wd}(h:Ends ⟨W,D⟩ n ⟨λ_=>0,W,[],[],inp,[],false⟩ e o k):∃ n' k',Ends ⟨qed W,D⟩ n' ⟨λ_=>0,qed W,[],[],inp,[],false⟩ e o k'/\k'<=k:=
 qrU hn n _ ⟨λ_=>0,qed W,[],[],inp,[],false⟩ e o k h ⟨rfl,rfl,rfl,rfl,rfl,rfl⟩ ⟨λv hv=>(not_mem_nil hv).elim,λ_=>(by show(0:Nat)<_;decide),hi,⟨[],rfl⟩,λc hc=>(not_mem_nil hc).elim⟩
theorem qk3{D:Nat->Bool}{inp:List Nat}(hi:∀ v∈inp,v<4294967296){e:Nat}{o:Wd}:∀ (f:Nat) {W:List Wd} {n k:Nat},qgN W->Ends ⟨W,D⟩ n ⟨λ_=>0,W,[],[],inp,[],false⟩ e o k->∃ n' k',Ends ⟨optF f W,D⟩ n' ⟨λ_=>0,optF f W,[],[],inp,[],false⟩ e o k'/\k'<=k
 |0,W,n,k,_,h=>⟨n,k,h,zNr _⟩
 |f+1,W,n,k,hA,h=>by
  rw[optF];split;exact⟨n,k,h,zNr _⟩;obtain⟨n1,k1,h1,h2⟩:=qrv hA.1 hi h;obtain⟨n2,k2,h3,h4⟩:=qk3 hi f (qpG hA) h1;exact⟨n2,k2,h3,zNt h4 h2⟩
theorem qt7{D:Nat->Bool}{inp:List Nat}(hi:∀ v∈inp,v<4294967296){e:Nat}{o:Wd}{W:List Wd}{n k:Nat}(hA:qgN W)(h:Ends ⟨W,D⟩ n ⟨λ_=>0,W,[],[],inp,[],false⟩ e o k):∃ n' k',Ends ⟨optP W,D⟩ n' ⟨λ_=>0,optP W,[],[],inp,[],false⟩ e o k'/\k'<=k:=qk3 hi _ hA h
def effW(c:UInt8):Option (Nat×Nat):=
 if c=64 then some (1,1) else if c=33 then some (2,0) else if c=44 then some (0,1) else if c=46 then some (1,0)
 else if c=43∨c=45∨c=42∨c=47∨c=37∨c=94∨c=60 then some (2,1) else none
inductive Ty (L:Wd->Nat):Option Nat->List Wd->Prop
 |nil {o:Option Nat}:Ty L o []
 |free {d:Nat} {v:List Wd}:Ty L (some d) v->Ty L none v
 |defn {w x:Wd} {r:List Wd}:defW w=some x->L x=0->Ty L (some 0) r->Ty L (some 0) (w::r)
 |fdef {w x:Wd} {r:List Wd}:defW w=some x->Ty L (some (L x)) r->Ty L none (w::r)
 |num {d n:Nat} {w:Wd} {r:List Wd}:numW w=some n->Ty L (some (d+1)) r->Ty L (some d) (w::r)
 |jump {w x:Wd} {r:List Wd}:refW w=some x->L x=0->Ty L (some 0) r->Ty L (some 1) (w::[63]::r)
 |goto {w x:Wd} {r:List Wd}:refW w=some x->L x=0->Ty L none r->Ty L (some 0) ([48]::w::[63]::r)
 |call {d:Nat} {w x:Wd} {r:List Wd}:refW w=some x->Ty L (some (d+1)) r->Ty L (some (d+L x)) (w::[58]::r)
 |sign {d a b:Nat} {c:UInt8} {r:List Wd}:effW c=some (a,b)->Ty L (some (d+b)) r->Ty L (some (d+a)) ([c]::r)
 |stop {d:Nat} {c:UInt8} {r:List Wd}:(c=59∨c=36)->Ty L none r->Ty L (some d) ([c]::r)
theorem qdH{c:UInt8}{p:Nat×Nat}(h:effW c=some p):c∈qcO/\c≠59/\c≠36:=by
 have key:∀ n:Nat,n<256->(effW (UInt8.ofNat n)).isSome=true->UInt8.ofNat n∈qcO/\UInt8.ofNat n≠59/\UInt8.ofNat n≠36:=by decide +kernel
 have:=key c.toNat c.toNat_lt;rw[UInt8.ofNat_toNat] at this;exact this (by rw[h];try rfl)
theorem qbk{c:UInt8}(h:c∈qcO):defW [c]=none/\numW [c]=none/\refW [c]=none:=by
 obtain⟨e1,e2,e3⟩:=qbn h;exact⟨e1,qil e3,e2⟩
theorem qdv{c:UInt8}(h:c=59∨c=36):c∈qcO:=by rcases h with rfl|rfl <;> decide
section
variable{L:Wd->Nat}{d:Nat}{o:Option Nat}{w x:Wd}{r:List Wd}
theorem qhJ{n:Nat}(hn:numW w=some n)(hr:∀ y q,r=y::q->refW y=none)(h:Ty L (some d) (w::r)):Ty L (some (d+1)) r:=by
 obtain⟨k1,k2⟩:=qbt hn;generalize hv:w::r=v at h;generalize ho:some d=o at h
 cases h with
 |nil=>cases hv
 |free _=>cases ho
 |defn h1 _ _=>injection hv with e _;rw[<-e,k1] at h1;cases h1
 |fdef _ _=>cases ho
 |num _ h2=>injection hv with _ e;injection ho with ho;subst e ho;exact h2
 |jump h1 _ _=>injection hv with e _;rw[<-e,k2] at h1;cases h1
 |goto h1 _ _=>injection hv with _ e;rw[hr _ _ e] at h1;cases h1
 |call h1 _=>injection hv with e _;rw[<-e,k2] at h1;cases h1
 |sign h1 _=>injection hv with e _;rw[e,(qbk (qdH h1).1).2.1] at hn;cases hn
 |stop h1 _=>injection hv with e _;rw[e,(qbk (qdv h1)).2.1] at hn;cases hn
theorem qfU{c:UInt8}{a b:Nat}(hc:effW c=some (a,b))(h:Ty L (some d) ([c]::r)):∃ e,d=e+a/\Ty L (some (e+b)) r:=by
 obtain⟨k0,k4,k5⟩:=qdH hc;obtain⟨k1,k2,k3⟩:=qbk k0;generalize hv:[c]::r=v at h;generalize ho:some d=o at h
 cases h with
 |nil=>cases hv
 |free _=>cases ho
 |defn h1 _ _=>injection hv with e _;rw[<-e,k1] at h1;cases h1
 |fdef _ _=>cases ho
 |num h1 h2=>injection hv with e _;rw[<-e,k2] at h1;cases h1
 |jump h1 _ _=>injection hv with e _;rw[<-e,k3] at h1;cases h1
 |goto h1 _ _=>injection hv with e _;rw[e,qeE] at k2;cases k2
 |call h1 _=>injection hv with e _;rw[<-e,k3] at h1;cases h1
 |sign h1 h2=>
  injection hv with e e2;injection e with e _;subst e e2;rw[hc] at h1;injection h1 with h1;injection h1 with e1 e2;subst e1 e2;injection ho with ho
  exact⟨_,ho,h2⟩
 |stop h1 _=>
  injection hv with e _;injection e with e _;rw[<-e] at h1;rcases h1 with h1|h1;exact absurd h1 k4;exact absurd h1 k5
theorem qrX(hr:refW w=some x)(h:Ty L (some d) (w::[63]::r)):d=1/\L x=0/\Ty L (some 0) r:=by
 have k1:=qbe hr;have k2:=qhi hr;generalize hv:w::[63]::r=v at h;generalize ho:some d=o at h
 cases h with
 |nil=>cases hv
 |free _=>cases ho
 |defn h1 _ _=>injection hv with e _;rw[<-e,k1] at h1;cases h1
 |fdef _ _=>cases ho
 |num h1 h2=>injection hv with e _;rw[<-e,k2] at h1;cases h1
 |jump h1 h2 h3=>
  injection hv with e e2;injection e2 with _ e2;subst e e2;rw[hr] at h1;injection h1 with h1;subst h1;injection ho with ho
  exact⟨ho,h2,h3⟩
 |goto h1 _ _=>injection hv with e _;rw[e,qeE] at k2;cases k2
 |call h1 _=>injection hv with _ e;injection e with e _;exact absurd e zDd
 |sign h1 _=>injection hv with e _;rw[e,(qbk (qdH h1).1).2.2] at hr;cases hr
 |stop h1 _=>injection hv with e _;rw[e,(qbk (qdv h1)).2.2] at hr;cases hr
theorem qoR{z:Wd}{n:Nat}(hz:numW z=some n)(hr:refW w=some x)(h:Ty L (some d) (z::w::[63]::r)):d=0/\L x=0/\Ty L none r/\(n≠0->Ty L (some 0) r):=by
 obtain⟨k1,k2⟩:=qbt hz;generalize hv:z::w::[63]::r=v at h;generalize ho:some d=o at h
 cases h with
 |nil=>cases hv
 |free _=>cases ho
 |defn h1 _ _=>injection hv with e _;rw[<-e,k1] at h1;cases h1
 |fdef _ _=>cases ho
 |num h1 h2=>
  injection hv with _ e;injection ho with ho;subst e ho;obtain⟨e1,e2,e3⟩:=qrX hr h2
  exact⟨by omega,e2,.free e3,λ_=>e3⟩
 |jump h1 _ _=>injection hv with e _;rw[<-e,k2] at h1;cases h1
 |goto h1 h2 h3=>
  injection hv with e0 e;injection e with e e2;injection e2 with _ e2;subst e e2;rw[hr] at h1;injection h1 with h1;subst h1;injection ho with ho;refine⟨ho,h2,h3,λhn=>?_⟩;rw[e0,qeE] at hz;injection hz with hz
  exact absurd hz.symm hn
 |call h1 _=>injection hv with e _;rw[<-e,k2] at h1;cases h1
 |sign h1 _=>injection hv with e _;rw[e,(qbk (qdH h1).1).2.1] at hz;cases hz
 |stop h1 _=>injection hv with e _;rw[e,(qbk (qdv h1)).2.1] at hz;cases hz
theorem qwH{c:UInt8}(hc:c=59∨c=36)(h:Ty L (some d) ([c]::r)):Ty L none r:=by
 obtain⟨k1,k2,k3⟩:=qbk (qdv hc);generalize hv:[c]::r=v at h;generalize ho:some d=o at h
 cases h with
 |nil=>cases hv
 |free _=>cases ho
 |defn h1 _ _=>injection hv with e _;rw[<-e,k1] at h1;cases h1
 |fdef _ _=>cases ho
 |num h1 h2=>injection hv with e _;rw[<-e,k2] at h1;cases h1
 |jump h1 _ _=>injection hv with e _;rw[<-e,k3] at h1;cases h1
 |goto h1 _ _=>injection hv with e _;rw[e,qeE] at k2;cases k2
 |call h1 _=>injection hv with e _;rw[<-e,k3] at h1;cases h1
 |sign h1 h2=>
  injection hv with e e2;injection e with e _;subst e;rcases hc with rfl|rfl;exact absurd rfl (qdH h1).2.1
  exact absurd rfl (qdH h1).2.2
 |stop h1 h2=>injection hv with _ e;subst e;exact h2
theorem qsb(hd:defW w=some x)(h:Ty L (some d) (w::r)):d=0/\L x=0/\Ty L (some 0) r:=by
 generalize hv:w::r=v at h;generalize ho:some d=o at h
 cases h with
 |nil=>cases hv
 |free _=>cases ho
 |defn h1 h2 h3=>
  injection hv with e e2;subst e e2;rw[hd] at h1;injection h1 with h1;subst h1;injection ho with ho
  exact⟨ho,h2,h3⟩
 |fdef _ _=>cases ho
 |num h1 h2=>injection hv with e _;rw[e,(qbt h1).1] at hd;cases hd
 |jump h1 _ _=>injection hv with e _;rw[e,qbe h1] at hd;cases hd
 |goto h1 _ _=>injection hv with e _;rw[e,(qbt qeE).1] at hd;cases hd
 |call h1 _=>injection hv with e _;rw[e,qbe h1] at hd;cases hd
 |sign h1 h2=>injection hv with e _;rw[e,(qbk (qdH h1).1).1] at hd;cases hd
 |stop h1 h2=>injection hv with e _;rw[e,(qbk (qdv h1)).1] at hd;cases hd
theorem qop(h:Ty L none (w::r)):(∃ d,Ty L (some d) (w::r))∨∃ x,defW w=some x/\Ty L (some (L x)) r:=by
 cases h with
 |free h=>exact .inl ⟨_,h⟩
 |fdef h1 h2=>exact .inr ⟨_,h1,h2⟩
end
section
variable{L:Wd->Nat}
theorem qsJ{rest:List Wd}(hrest:∀ y r,rest=y::r->(defW y).isSome=true):∀ (n:Nat) (dead:List Wd) (o:Option Nat),dead.length<=n->(∀ y∈dead,defW y=none)->Ty L o (dead++rest)->Ty L none rest:=by
 have weak:∀ {o:Option Nat} {v:List Wd},Ty L o v->Ty L none v:=λ{o v} h=>by
  cases o with
  |none=>exact h
  |some d=>exact .free h
 have cut:∀ {dead r:List Wd} {z:Wd},dead++rest=z::r->defW z=none->∃ dead',dead=z::dead'/\r=dead'++rest:=by
  intro dead r z e hz
  cases dead with
  |nil=>
   have:=hrest z r e;rw[hz] at this
   cases this
  |cons y dead=>
   rw[cons_append] at e;injection e with e1 e2;subst e1 e2;exact⟨dead,rfl,rfl⟩
 intro n
 induction n with
 |zero=>
  intro dead o hn hd h;obtain rfl:=eq_nil_of_length_eq_zero (Nat.le_zero.1 hn)
  exact weak h
 |succ n ih=>
  intro dead o hn hd h
  cases dead with
  |nil=>exact weak h
  |cons y dead=>
   have hy:=hd y zMs;have hd2:=λz hz=>hd z (zMo y hz);rw[zLc] at hn
   have main:∀ d,Ty L (some d) (y::(dead++rest))->Ty L none rest:=by
    intro d h;generalize hv:y::(dead++rest)=v at h;generalize ho:some d=o at h
    cases h with
    |nil=>cases hv
    |free _=>cases ho
    |defn h1 _ _=>injection hv with e _;rw[<-e,hy] at h1;cases h1
    |fdef _ _=>cases ho
    |num h1 h2=>
     injection hv with _ e;subst e
     exact ih dead _ (by omega) hd2 h2
    |jump h1 _ h2=>
     injection hv with _ e;obtain⟨q,rfl,rfl⟩:=cut e (by decide +kernel)
     exact ih q _ (by simp only[zLc] at hn;omega) (λz hz=>hd2 z (zMo _ hz)) h2
    |goto h1 _ h2=>
     injection hv with _ e;obtain⟨q,rfl,e2⟩:=cut e (qbe h1);obtain⟨q2,rfl,rfl⟩:=cut e2.symm (by decide +kernel)
     exact ih q2 _ (by simp only[zLc] at hn;omega) (λz hz=>hd2 z (zMo _ (zMo _ hz))) h2
    |call h1 h2=>
     injection hv with _ e;obtain⟨q,rfl,rfl⟩:=cut e (by decide +kernel)
     exact ih q _ (by simp only[zLc] at hn;omega) (λz hz=>hd2 z (zMo _ hz)) h2
    |sign h1 h2=>
     injection hv with _ e;subst e
     exact ih dead _ (by omega) hd2 h2
    |stop h1 h2=>
     injection hv with _ e;subst e;exact ih dead _ (by omega) hd2 h2
   cases o with
   |some d=>exact main d h
   |none=>
    rcases qop h with⟨d,h⟩|⟨x,h1,_⟩;exact main d h;rw[hy] at h1;cases h1
theorem qxd{l:Wd}(hl:L l=0):∀ {rest:List Wd},qf0 l rest=true->Ty L none rest->Ty L (some 0) rest
 |[],h,_=>by cases h
 |w::r,h,ht=>by
  rcases qop ht with⟨d,ht⟩|⟨x,h1,h2⟩
  cases hd:defW w with
  |none=>rw[qf0,hd] at h;cases h
  |some x=>
   obtain⟨rfl,_,_⟩:=qsb hd ht;exact ht
  rw[qf0,h1] at h;simp only[Bool.or_eq_true,zDe] at h
  have h0:L x=0:=by
   rcases h with rfl|h;exact hl
   cases r with
   |nil=>cases h
   |cons y q=>
    cases hd:defW y with
    |none=>rw[qf0,hd] at h;cases h
    |some z=>exact(qsb hd h2).1
  rw[h0] at h2;exact .defn h1 h0 h2
theorem qk8{c:UInt8}(h:isOp c):effW c=some (2,1):=by
 unfold isOp at h;rcases h with rfl|rfl|rfl|rfl|rfl|rfl|rfl <;> decide
theorem qrz{y:Wd}{n:Nat}(h:numW y=some n):refW y=none:=(qbt h).2
theorem qwR{used:Wd->Bool}{v p rest:List Wd}(h:Kind used v p rest){d:Nat}(ht:Ty L (some d) v)(T:List Wd)(hT:∀ o,Ty L o rest->Ty L o T):Ty L (some d) (p++T):=by
 have sgn:∀ {c:UInt8} {q:List Wd},c∈qcO->∀ y s,[c]::q=y::s->refW y=none:=λhc y s e=>by
  injection e with e _;rw[<-e];exact(qbk hc).2.2
 cases h with
 |@fold x y op z rest h1=>
  obtain⟨k1,k2,k3,k4⟩:=qfY h1;unfold qa1 at h1;split at h1
  rename_i a b ha hb
  split at h1
  rename_i c hc
  split at h1;injection h1 with h1;have hlt:=qku ((qcP _ _).1 ha).1 ((qcP _ _).1 hb).1 hc
  have hop:∃ ch,op=[ch]/\isOp ch:=by
   unfold qd1 at hc;unfold isOp;split at hc
   rename_i e;exact⟨_,e,by decide⟩
   split at hc
   rename_i e;exact⟨_,e,by decide⟩
   split at hc
   rename_i e;exact⟨_,e,by decide⟩
   split at hc
   rename_i e;exact⟨_,e,by decide⟩
   split at hc
   rename_i e;exact⟨_,e,by decide⟩
   split at hc
   rename_i e;exact⟨_,e,by decide⟩
   split at hc
   rename_i e;exact⟨_,e,by decide⟩
   cases hc
  obtain⟨ch,rfl,hop⟩:=hop;have t1:=qhJ ha (λy s e=>by injection e with e _;rw[<-e];exact qrz hb) ht;have t2:=qhJ hb (sgn (qcS hop)) t1;obtain⟨e,he,t3⟩:=qfU (qk8 hop) t2;obtain rfl:e=d:=by omega
  subst h1;exact .num (qgb hlt) (hT _ t3);cases h1;cases h1
  cases h1
 |@neutral x n c rest h1 h2=>
  have hop:=qiB h2;have t1:=qhJ h1 (sgn (qcS hop)) ht;obtain⟨e,he,t3⟩:=qfU (qk8 hop) t1;obtain rfl:e+1=d:=by omega
  exact hT _ t3
 |@regroup x y z c rest hc h1=>
  have hop:isOp c:=by
   unfold isOp;rcases hc with rfl|rfl|rfl <;> decide
  unfold qa1 at h1;split at h1
  rename_i a b ha hb
  split at h1
  rename_i k hk
  split at h1;injection h1 with h1;have hlt:=qku ((qcP _ _).1 ha).1 ((qcP _ _).1 hb).1 hk;have t1:=qhJ ha (sgn (qcS hop)) ht;obtain⟨e,he,t2⟩:=qfU (qk8 hop) t1;have t3:=qhJ hb (sgn (qcS hop)) t2;obtain⟨e',he',t4⟩:=qfU (qk8 hop) t3;subst h1;refine .num (qgb hlt) ?_;have e1:d+1=e'+2:=by omega
  rw[e1];exact .sign (qk8 hop) (hT _ t4);cases h1;cases h1
  cases h1
 |@same x n rest h1=>
  have t1:=qhJ h1 (sgn zDd) ht;obtain⟨e,he,t2⟩:=qfU (a:=1) (b:=1) zDd t1;have t3:=qhJ h1 (sgn zDd) t2;obtain⟨e',he',t4⟩:=qfU (a:=2) (b:=0) zDd t3;obtain rfl:e'=d:=by omega
  exact hT _ t4
 |@double w l rest h1=>
  have t1:=qhJ qlu (sgn zDd) ht;obtain⟨e,he,t2⟩:=qfU (a:=2) (b:=1) zDd t1;have t3:=qhJ qlu (sgn zDd) t2;obtain⟨e',he',t4⟩:=qfU (a:=2) (b:=1) zDd t3;obtain⟨j1,j2,j3⟩:=qrX h1 t4;obtain rfl:d=1:=by omega
  exact .jump h1 j2 (hT _ j3)
 |@never x w l n rest h1 h2 h3=>
  obtain⟨j1,j2,j3,j4⟩:=qoR h1 h3 ht;subst j1
  exact hT _ (j4 h2)
 |@next w l rest h1 h2=>
  obtain⟨j1,j2,j3,j4⟩:=qoR qeE h1 ht;subst j1
  exact hT _ (qxd j2 h2 j3)
 |@deadJ w l dead rest h1 h2 h3=>
  obtain⟨j1,j2,j3,j4⟩:=qoR qeE h1 ht;subst j1
  exact .goto h1 j2 (hT _ (qsJ h3 _ dead _ (zNr _) h2 j3))
 |@deadS c dead rest h1 h2 h3=>
  exact .stop h1 (hT _ (qsJ h3 _ dead _ (zNr _) h2 (qwH h1 ht)))
 |@unused w l rest h1 h2=>
  obtain⟨j1,j2,j3⟩:=qsb h1 ht;subst j1;exact hT _ j3
theorem qwt(used:Wd->Bool):∀ (n:Nat) (v:List Wd) (o:Option Nat),v.length<=n->Ty L o v->Ty L o (O used v):=by
 intro n
 induction n with
 |zero=>
  intro v o hn h;obtain rfl:=eq_nil_of_length_eq_zero (Nat.le_zero.1 hn)
  exact .nil
 |succ n ih=>
  intro v o hn h
  cases v with
  |nil=>exact .nil
  |cons w r=>
   rw[zLc] at hn
   have main:∀ d,Ty L (some d) (w::r)->Ty L (some d) (O used (w::r)):=by
    intro d h;rcases qkR used w r with⟨e,_⟩|⟨p,rest,k,e,hl⟩
    ·rw[e];generalize hv:w::r=v at h;generalize ho:some d=o at h
     cases h with
     |nil=>cases hv
     |free _=>cases ho
     |defn h1 h2 h3=>injection hv with e1 e2;subst e1 e2;exact .defn h1 h2 (ih _ _ (by omega) h3)
     |fdef _ _=>cases ho
     |num h1 h2=>injection hv with e1 e2;subst e1 e2;exact .num h1 (ih _ _ (by omega) h2)
     |jump h1 h2 h3=>
      injection hv with e1 e2;subst e1 e2;rw[qm6 used (.inl rfl)];simp only[zLc] at hn
      exact .jump h1 h2 (ih _ _ (by omega) h3)
     |goto h1 h2 h3=>
      injection hv with e1 e2;subst e1 e2;rw[O_ref used h1,qm6 used (.inl rfl)];simp only[zLc] at hn
      exact .goto h1 h2 (ih _ _ (by omega) h3)
     |call h1 h2=>
      injection hv with e1 e2;subst e1 e2;rw[qm6 used (.inr rfl)];simp only[zLc] at hn
      exact .call h1 (ih _ _ (by omega) h2)
     |sign h1 h2=>injection hv with e1 e2;subst e1 e2;exact .sign h1 (ih _ _ (by omega) h2)
     |stop h1 h2=>injection hv with e1 e2;subst e1 e2;exact .stop h1 (ih _ _ (by omega) h2)
    rw[e];exact qwR k h _ λo ho=>ih _ _ (by omega) ho
   cases o with
   |some d=>exact main d h
   |none=>
    rcases qop h with⟨d,h⟩|⟨x,h1,h2⟩;exact .free (main d h);have h3:=ih r _ (by omega) h2;rcases qkR used w r with⟨e,_⟩|⟨p,rest,k,e,hl⟩;rw[e];exact .fdef h1 h3;rw[e];generalize hv:w::r=v at k
    have hnum:numW w=none:=by
     cases hq:numW w with
     |none=>rfl
     |some n=>rw[(qbt hq).1] at h1;cases h1
    have hne:∀ c:UInt8,defW [c]=none->w≠[c]:=λc hc e=>by rw[e,hc] at h1;cases h1
    have hj:∀ {x op y z:Wd},qa1 x op y=some z->numW x≠none:=λhj e=>by
     unfold qa1 at hj;rw[e] at hj;cases hj
    cases k with
    |fold q=>injection hv with e _;exact absurd (by rw[<-e];exact hnum) (hj q)
    |neutral q _=>injection hv with e _;rw[<-e,hnum] at q;cases q
    |regroup _ q=>injection hv with e _;exact absurd (by rw[<-e];exact hnum) (hj q)
    |same q=>injection hv with e _;rw[<-e,hnum] at q;cases q
    |double _=>injection hv with e _;exact absurd e (hne 49 (qbt qlu).1)
    |never q _ _=>injection hv with e _;rw[<-e,hnum] at q;cases q
    |next _ _=>injection hv with e _;exact absurd e (hne 48 (qbt qeE).1)
    |deadJ _ _ _=>injection hv with e _;exact absurd e (hne 48 (qbt qeE).1)
    |@deadS c _ _ q _ _=>injection hv with e _;exact absurd e (hne c (qbk (qdv q)).1)
    |unused q _=>
     injection hv with e1 e2;subst e1 e2;exact .free h3
theorem qwp{o:Option Nat}{v:List Wd}(h:Ty L o v):Ty L o (qed v):=qwt _ _ v o (zNr _) h
theorem qr5{o:Option Nat}:∀ (f:Nat) {v:List Wd},Ty L o v->Ty L o (optF f v)
 |0,v,h=>h
 |f+1,v,h=>by
  rw[optF];split;exact h;exact qr5 f (qwp h)
theorem qx6{o:Option Nat}{v:List Wd}(h:Ty L o v):Ty L o (optP v):=qr5 _ h
theorem ty_nb(known:Wd->Nat){o:Option Nat}{v:List Wd}(h:Ty L o v):∀ (t:Wd),(qbc t=true->∃ d,o=some (d+1))->∀ (j:Nat) (w x:Wd),v[j]? = some w->defW w=some x->qbc ((v.take j).foldl (addT known) t)=false:=by
 have sgn:∀ {c:UInt8} (t:Wd),c∈qcO->qbc (addT known t [c])=false:=λ{c} t hc=>by
  obtain⟨e1,e2,e3⟩:=qbn hc;have h1:=(qhF known t [c] e1 (by simp)).2.1;rw[h1];unfold qaI;rw[e2];unfold qbc;simp[e3]
 have pass:∀ {t w x:Wd},defW w=some x->addT known t w=t:=λhd=>by unfold addT;rw[hd]
 have no:∀ {t:Wd},qbc t=false->∀ {P:Prop},qbc t=true->P:=λh1 _ h2=>by rw[h1] at h2;cases h2
 induction h with
 |nil=>intro t ht j w x hw;simp at hw
 |free _ ih=>
  intro t ht
  exact ih t λh=>by obtain⟨d,hd⟩:=ht h;cases hd
 |@defn w x r h1 h2 h3 ih=>
  intro t ht j y z hy hz
  have h0:qbc t=false:=by
   cases hl:qbc t with
   |false=>rfl
   |true=>obtain⟨d,hd⟩:=ht hl;injection hd with hd;omega
  cases j with
  |zero=>exact h0
  |succ j=>
   rw[take_succ_cons,foldl_cons,pass h1]
   exact ih t (no h0) j y z (by simpa using hy) hz
 |@fdef w x r h1 h2 ih=>
  intro t ht j y z hy hz
  have h0:qbc t=false:=by
   cases hl:qbc t with
   |false=>rfl
   |true=>obtain⟨d,hd⟩:=ht hl;cases hd
  cases j with
  |zero=>exact h0
  |succ j=>
   rw[take_succ_cons,foldl_cons,pass h1]
   exact ih t (no h0) j y z (by simpa using hy) hz
 |@num d n w r h1 h2 ih=>
  intro t ht j y z hy hz
  cases j with
  |zero=>
   simp only[List.getElem?_cons_zero,Option.some.injEq] at hy;rw[<-hy,(qbt h1).1] at hz
   cases hz
  |succ j=>
   rw[take_succ_cons,foldl_cons]
   exact ih _ (λ_=>⟨d,rfl⟩) j y z (by simpa using hy) hz
 |@jump w x r h1 h2 h3 ih=>
  intro t ht j y z hy hz
  match j,hy with
  |0,hy=>
   simp only[List.getElem?_cons_zero,Option.some.injEq] at hy;rw[<-hy,qbe h1] at hz
   cases hz
  |1,hy=>
   simp only[List.getElem?_cons_zero,List.getElem?_cons_succ,Option.some.injEq] at hy;rw[<-hy,(qbk (c:=63) zDd).1] at hz
   cases hz
  |j+2,hy=>
   rw[take_succ_cons,take_succ_cons,foldl_cons,foldl_cons]
   exact ih _ (no (sgn _ zDd)) j y z (by simpa using hy) hz
 |@goto w x r h1 h2 h3 ih=>
  intro t ht j y z hy hz
  match j,hy with
  |0,hy=>
   simp only[List.getElem?_cons_zero,Option.some.injEq] at hy;rw[<-hy,(qbt qeE).1] at hz
   cases hz
  |1,hy=>
   simp only[List.getElem?_cons_zero,List.getElem?_cons_succ,Option.some.injEq] at hy;rw[<-hy,qbe h1] at hz
   cases hz
  |2,hy=>
   simp only[List.getElem?_cons_zero,List.getElem?_cons_succ,Option.some.injEq] at hy;rw[<-hy,(qbk (c:=63) zDd).1] at hz
   cases hz
  |j+3,hy=>
   rw[take_succ_cons,take_succ_cons,take_succ_cons,foldl_cons,foldl_cons,foldl_cons]
   exact ih _ (no (sgn _ zDd)) j y z (by simpa using hy) hz
 |@call d w x r h1 h2 ih=>
  intro t ht j y z hy hz
  match j,hy with
  |0,hy=>
   simp only[List.getElem?_cons_zero,Option.some.injEq] at hy;rw[<-hy,qbe h1] at hz
   cases hz
  |1,hy=>
   simp only[List.getElem?_cons_zero,List.getElem?_cons_succ,Option.some.injEq] at hy;rw[<-hy,(qbk (c:=58) zDd).1] at hz
   cases hz
  |j+2,hy=>
   rw[take_succ_cons,take_succ_cons,foldl_cons,foldl_cons]
   exact ih _ (no (sgn _ zDd)) j y z (by simpa using hy) hz
 |@sign d a b c r h1 h2 ih=>
  intro t ht j y z hy hz
  cases j with
  |zero=>
   simp only[List.getElem?_cons_zero,Option.some.injEq] at hy;rw[<-hy,(qbk (qdH h1).1).1] at hz
   cases hz
  |succ j=>
   rw[take_succ_cons,foldl_cons]
   exact ih _ (no (sgn _ (qdH h1).1)) j y z (by simpa using hy) hz
 |@stop d c r h1 h2 ih=>
  intro t ht j y z hy hz
  cases j with
  |zero=>
   simp only[List.getElem?_cons_zero,Option.some.injEq] at hy;rw[<-hy,(qbk (qdv h1)).1] at hz
   cases hz
  |succ j=>
   rw[take_succ_cons,foldl_cons];exact ih _ (no (sgn _ (qdv h1))) j y z (by simpa using hy) hz
end
abbrev PM:=Go.Stele.PW
abbrev SM:=Go.Stele.MS
structure Lk(C:PM)(D:Nat->Bool):Prop where
 label:∀ (j:Nat) (w x:Wd),C.W[j]? = some w->defW w=some x->C.known x=C.plc j
 nb:∀ (j:Nat) (w x:Wd),C.W[j]? = some w->defW w=some x->qbc (C.pre j)=false
 data:∀ a,D a=true->a<262144/\(a<C.og∨C.og+(qcX C.known C.W).length<=a)
def Spot(C:PM)(k:List Wd)(t:Nat)(f:Bool):Prop:=∃ i,k=C.W.drop i/\t=C.plc i/\qbc (C.pre i)=f
inductive All2 {A B:Type} (R:A->B->Prop):List A->List B->Prop
 |nil:All2 R [] []
 |cons {a:A} {b:B} {l:List A} {m:List B}:R a b->All2 R l m->All2 R (a::l) (b::m)
theorem All2.len{A B:Type}{R:A->B->Prop}{l:List A}{m:List B}(h:All2 R l m):l.length=m.length:=by
 induction h with
 |nil=>rfl
 |cons _ _ ih=>rw[zLc,zLc,ih]
structure Lnk(C:PM)(D:Nat->Bool)(s:MS)(m:SM):Prop where
 ok:C.Ok m.mem
 here:Spot C s.pc m.pc s.digit
 digit:m.digit=s.digit
 data:m.data=s.data
 calls:All2 (λk t=>Spot C k t false) s.calls m.calls
 mem:∀ a,D a=true->m.mem a=s.mem a
 inp:m.inp=s.inp
 out:m.out=s.out
section
variable{C:PM}{D:Nat->Bool}{s:MS}{m:SM}{i:Nat}{w x:Wd}{r:List Wd}
theorem qsU(h:w::r=C.W.drop i):C.W[i]? = some w/\r=C.W.drop (i+1):=by
 have h1:=congrArg (λl=>l[0]?) h;simp only[List.getElem?_cons_zero,List.getElem?_drop,add_zero] at h1;refine⟨h1.symm,?_⟩;rw[<-drop_drop,<-h]
 try rfl
theorem qp3(hw:C.W[i]? = some w)(hd:defW w=some x):C.plc (i+1)=C.plc i/\C.pre (i+1)=C.pre i:=by
 have h1:=C.pre_succ hw;have h2:addT C.known (C.pre i) w=C.pre i:=by unfold addT;rw[hd]
 rw[h2] at h1;refine⟨?_,h1⟩;unfold Go.Stele.PW.plc;rw[h1]
theorem qqw(hL:Lk C D){k:List Wd}(h:qby x C.W=some k):Spot C k (C.known x) false:=by
 obtain⟨p,w,h1,h2⟩:=qen h;have hw:C.W[p.length]? = some w:=by rw[h1,List.getElem?_append_right (zNr _)];simp
 obtain⟨e1,e2⟩:=qp3 hw h2;refine⟨p.length+1,?_,?_,?_⟩
 ·conv=>rhs;rw[h1]
  rw[<-drop_drop,List.drop_left]
  try rfl
 rw[e1];exact hL.label _ _ _ hw h2;rw[e2];exact hL.nb _ _ _ hw h2
theorem qpJ(hk:C.Ok m.mem)(hpc:m.pc=C.plc i)(hdg:qbc (C.pre i)=m.digit)(hw:C.W[i]? = some w)(hd:defW w=none)(hne:qaI C.known w≠[])(hg:∀ c∈qaI C.known w,qap c=true)(hv:valD 0 (qaI C.known w)<4294967296)(hroom:m.data.length<256) :
  Go.Stele.Stp ((qaI C.known w).length+one m.digit) m { m with pc:=C.plc (i+1),data:=valD 0 (qaI C.known w)::m.data,digit:=true }/\qbc (C.pre (i+1))=true:=by
 obtain⟨⟨h1,h2⟩,h3⟩:=C.digsX hk ⟨hpc,λh=>by rw[hdg];exact h⟩ hw hd hne hg hv hroom;refine⟨?_,h3⟩
 have hf:qbP (qaI C.known w)=true:=by
  cases hp:qaI C.known w with
  |nil=>exact absurd hp hne
  |cons c r=>exact hg c (by rw[hp];simp)
 have h4:=(C.piece hk hw hd).1
 have hplc:C.plc (i+1)=C.plc i+((qaI C.known w).length+one m.digit):=by
  unfold Go.Stele.PW.plc;rw[h4,zLa,zLa,hf,Bool.and_true,hdg];unfold one;cases m.digit <;> simp <;> omega
 rw[hplc,Nat.add_sub_cancel_left,<-hplc] at h2;exact h2
theorem qfS{m':SM}(h:Go.Stele.Stx 1 m m')(hne:m≠m'):Go.Stele.Stp 1 m m':=by
 obtain⟨k,h1,h2⟩:=h;rcases Nat.lt_or_ge k 1 with h0|h0;obtain rfl:k=0:=by omega
 cases h2;exact absurd rfl hne;obtain rfl:k=1:=by omega
 exact h2
theorem qja{c:UInt8}(hk:C.Ok m.mem)(hc:c∈qcO)(hw:C.W[i]? = some [c]):C.plc (i+1)=C.plc i+1/\qbc (C.pre (i+1))=false:=by
 obtain⟨e1,e2,e3⟩:=qbn hc;refine⟨C.sign_plc hk hw e1 e2 e3,?_⟩;have h1:=(C.piece hk hw e1).1;have hp:qaI C.known [c]=[c]:=by unfold qaI;rw[e2]
 rw[h1,hp,qj2 (by simp)];unfold qbc;simp[e3]
theorem ok_store(hL:Lk C D){mem:Nat->Nat}(hk:C.Ok mem){a v:Nat}(ha:D a=true):C.Ok λi=>if i=a then v else mem i:=by
 refine⟨λk h=>?_,hk.fits⟩;have h1:=hk.here k h;have h2:=(hL.data a ha).2;rw[if_neg (by omega)];exact h1
theorem qnc(hL:Lk C D)(h:Lnk C D s m):match stepM ⟨C.W,D⟩ s with
  |.run s'=>∃ m',Go.Stele.Stp (qbY s) m m'/\Lnk C D s' m'
  |.stop e o=>e≠99->Go.Stele.stepM m=.stop e o:=by
 obtain⟨hk,⟨i,h1,h2,h3⟩,hdg,hdat,hcal,hmem,hinp,hout⟩:=h;have hAt:C.At m i:=⟨h2,λh=>by rw[h3,<-hdg];exact h⟩;have hfits:C.plc i<=262144:=zNt (C.pre_le i) hk.fits
 cases hv:s.pc with
 |nil=>
  have:stepM ⟨C.W,D⟩ s=lost s:=by unfold stepM;rw[hv]
  rw[this]
  exact λh=>absurd rfl h
 |cons w r=>
  rw[hv] at h1;obtain⟨hw,hr⟩:=qsU h1;rw[qa4 hv]
  cases hd:defW w with
  |some x=>
   have hs:qhL ⟨C.W,D⟩ s w r=.run { s with pc:=r }:=by unfold qhL;rw[hd]
   obtain⟨e1,e2⟩:=qp3 hw hd;rw[hs];refine⟨m,?_,⟨hk,⟨i+1,hr,h2.trans e1.symm,by rw[e2];exact h3⟩,hdg,hdat,hcal,hmem,hinp,hout⟩⟩;rw[qg0 hv hd]
   exact .zero m
  |none=>
   cases hn:numW w with
   |some n=>
    rw[qff hn];obtain⟨n1,n2⟩:=(qcP w n).1 hn;have hrf:=(qbt hn).2;have hp:qaI C.known w=w:=by unfold qaI;rw[hrf]
    unfold qde
    by_cases hl:s.data.length<256
    rw[if_pos hl];have hval:valD 0 w=n:=by rw[<-n2,qmn]
    obtain⟨k1,k2⟩:=qpJ hk h2 (by rw[h3,hdg]) hw hd (by rw[hp];exact(qjB hn).1) (by rw[hp];exact(qjB hn).2) (by rw[hp,hval];exact n1) (by rw[hdat];exact hl);rw[hp,hval] at k1;have hc:qbY s=w.length+one s.digit:=by unfold qbY;rw[hv];exact qfg hn
    rw[hc,<-hdg];exact⟨_,k1,⟨hk,⟨i+1,hr,rfl,k2⟩,rfl,by simp only;rw[hdat],hcal,hmem,hinp,hout⟩⟩;rw[if_neg hl]
    exact λh=>absurd rfl h
   |none=>
    cases hrf:refW w with
    |some x=>
     rw[qdL hrf];have hc:qbY s=7+one s.digit:=by unfold qbY;rw[hv];exact qek hrf
     unfold qhY
     cases hka:qby x C.W with
     |none=>exact λh=>absurd rfl h
     |some k=>
      have hsp:=qqw hL hka
      have hknow:C.known x<1000000:=by
       obtain⟨j,_,j2,_⟩:=hsp;have:=zNt (C.pre_le j) hk.fits;omega
      cases r with
      |nil=>exact λh=>absurd rfl h
      |cons y r=>
       simp only;obtain⟨hw1,hr1⟩:=qsU hr
       by_cases hl:s.data.length<256
       rotate_left;rw[if_neg hl];exact λh=>absurd rfl h;rw[if_pos hl];obtain⟨b1,b2⟩:=qfX (C.known x);have hp:qaI C.known w=qeb (C.known x):=by unfold qaI;rw[hrf]
       obtain⟨k1,k2⟩:=qpJ hk h2 (by rw[h3,hdg]) hw hd (by rw[hp];intro h;rw[h] at b1;cases b1) (by rw[hp];exact b2) (by rw[hp,qnQ hknow];omega) (by rw[hdat];exact hl);rw[hp,qnQ hknow,b1] at k1;generalize hm1:({ m with pc:=C.plc (i+1),data:=C.known x::m.data,digit:=true }:SM)=m1 at k1;have q1:m1.mem=m.mem:=by rw[<-hm1]
       have q2:m1.data=C.known x::m.data:=by rw[<-hm1]
       have q3:m1.calls=m.calls:=by rw[<-hm1]
       have q4:m1.inp=m.inp:=by rw[<-hm1]
       have q5:m1.out=m.out:=by rw[<-hm1]
       have hAt1:C.At m1 (i+1):=by rw[<-hm1];exact⟨rfl,λ_=>k2⟩
       have hk1:C.Ok m1.mem:=by rw[q1];exact hk
       have hcs:6+one m.digit+1=qbY s:=by rw[hc,hdg];omega
       by_cases hy:y=[63]
       subst hy;rw[if_pos rfl];unfold qnP
       cases hsd:s.data with
       |nil=>exact λh=>absurd rfl h
       |cons a d=>
        simp only;have t1:=C.jump hk1 hAt1 hw1 (t:=C.known x) (v:=a) (r:=d) (by rw[q2,hdat,hsd])
        have t2:=qfS t1 (by
         intro he;have:=congrArg (λz:SM=>z.data.length) he;simp only[Go.Stele.PW.put,q2,hdat,hsd,zLc] at this
         omega)
        have t3:=k1.trans t2;rw[hcs] at t3;refine⟨_,t3,⟨hk1,?_,rfl,rfl,by show All2 _ s.calls m1.calls;rw[q3];exact hcal,by show ∀ a,D a=true->m1.mem a=s.mem a;rw[q1];exact hmem,by show m1.inp=_;rw[q4];exact hinp,by show m1.out=_;rw[q5];exact hout⟩⟩
        by_cases ha:a=0
        subst ha;simp only[if_true];exact hsp;simp only[if_neg ha];exact⟨i+1+1,hr1,rfl,(qja hk zDd hw1).2⟩
       rw[if_neg hy]
       by_cases hy2:y=[58]
       rotate_left;rw[if_neg hy2];exact λh=>absurd rfl h;subst hy2;rw[if_pos rfl];have hcl:m.calls.length=s.calls.length:=(hcal.len).symm
       by_cases hl2:s.calls.length<64
       rotate_left;rw[if_neg hl2];exact λh=>absurd rfl h;rw[if_pos hl2];have t1:=C.call hk1 hAt1 hw1 (t:=C.known x) (r:=m.data) q2 (by rw[q3,hcl];exact hl2)
       have t2:=qfS t1 (by
        intro he;have:=congrArg (λz:SM=>z.calls.length) he;simp only[zLc] at this
        omega)
       have t3:=k1.trans t2;rw[hcs] at t3
       exact⟨_,t3,⟨hk1,hsp,rfl,hdat,.cons ⟨i+1+1,hr1,rfl,(qja hk zDd hw1).2⟩ (by rw[q3];exact hcal),by show ∀ a,D a=true->m1.mem a=s.mem a;rw[q1];exact hmem,by show m1.inp=_;rw[q4];exact hinp,by show m1.out=_;rw[q5];exact hout⟩⟩
    |none=>
     rw[qh2 hd hn hrf]
     have hc:qbY s=1:=by
      unfold qbY qjV;rw[hv];simp[hd,hn,hrf]
     rw[hc];rcases w with _|⟨c,_|⟨c2,w2⟩⟩;exact λh=>absurd rfl h;rotate_left;exact λh=>absurd rfl h;have hone:oneW ⟨C.W,D⟩ s [c] r=qgn D s c r:=rfl;rw[hone];have spot:c∈qcO->Spot C r (C.plc (i+1)) false:=λhcs=>⟨i+1,hr,rfl,(qja hk hcs hw).2⟩
     have pcne:c∈qcO->∀ {m':SM},m'.pc=C.plc (i+1)->m≠m':=λhcs m' hp he=>by
      have h4:=(qja hk hcs hw).1;rw[<-he,h2] at hp;omega
     unfold qgn
     by_cases c1:c=64
     ·subst c1;rw[if_pos rfl];unfold qo0
      cases hsd:s.data with
      |nil=>exact λh=>absurd rfl h
      |cons a d=>
       simp only
       by_cases hD:D a=true
       rotate_left;rw[if_neg hD];exact λh=>absurd rfl h;rw[if_pos hD];unfold qde
       by_cases hl:d.length<256
       rotate_left;rw[if_neg hl];exact λh=>absurd rfl h;rw[if_pos hl];have t1:=C.load hk hAt hw (by rw[hdat,hsd]) (hL.data a hD).1 hl;exact⟨_,qfS t1 (pcne zDd rfl),⟨hk,spot zDd,rfl,by simp only[Go.Stele.PW.put];rw[hmem a hD],hcal,hmem,hinp,hout⟩⟩
     rw[if_neg c1]
     by_cases c2:c=33
     ·subst c2;rw[if_pos rfl];unfold qjj
      match hsd:s.data with
      |[]=>exact λh=>absurd rfl h
      |[_]=>exact λh=>absurd rfl h
      |a::v::d=>
       simp only
       by_cases hD:D a=true
       rotate_left;rw[if_neg hD];exact λh=>absurd rfl h;rw[if_pos hD];have t1:=C.store hk hAt hw (by rw[hdat,hsd]) (hL.data a hD).1;refine⟨_,qfS t1 (pcne zDd rfl),⟨ok_store hL hk hD,spot zDd,rfl,rfl,hcal,λb hb=>?_,hinp,hout⟩⟩;simp only;split;rfl;exact hmem b hb
     rw[if_neg c2]
     by_cases c3:c=59
     subst c3;rw[if_pos rfl];unfold qm4
     cases hcl:s.calls with
     |nil=>exact λh=>absurd rfl h
     |cons kk l=>
      rw[hcl] at hcal;simp only
      cases hmc:m.calls with
      |nil=>rw[hmc] at hcal;cases hcal
      |cons tt l2=>
       rw[hmc] at hcal
       cases hcal with
       |cons g1 g2=>
        have t1:=C.back hk hAt hw hmc
        exact⟨_,qfS t1 (by
         intro he;have:=congrArg (λz:SM=>z.calls.length) he;simp only[hmc,zLc] at this
         omega),⟨hk,g1,rfl,hdat,g2,hmem,hinp,hout⟩⟩
     rw[if_neg c3]
     by_cases c4:c=44
     ·subst c4;rw[if_pos rfl];unfold qde
      by_cases hl:s.data.length<256
      rotate_left;rw[if_neg hl];exact λh=>absurd rfl h;rw[if_pos hl];have t1:=C.read hk hAt hw (by rw[hdat];exact hl);exact⟨_,qfS t1 (pcne zDd rfl),⟨hk,spot zDd,rfl,by simp only[Go.Stele.PW.put];rw[hinp,hdat],hcal,hmem,by simp only;rw[hinp],hout⟩⟩
     rw[if_neg c4]
     by_cases c5:c=46
     subst c5;rw[if_pos rfl];unfold qmS
     cases hsd:s.data with
     |nil=>exact λh=>absurd rfl h
     |cons v d=>
      have t1:=C.write hk hAt hw (v:=v) (r:=d) (by rw[hdat,hsd]);exact⟨_,qfS t1 (pcne zDd rfl),⟨hk,spot zDd,rfl,rfl,hcal,hmem,hinp,by simp only;rw[hout]⟩⟩
     rw[if_neg c5]
     by_cases c6:c=36
     subst c6;rw[if_pos rfl];intro _;rw[C.halt hk hAt hw,hout];rw[if_neg c6]
     by_cases c7:c=43∨c=45∨c=42∨c=47∨c=37∨c=94∨c=60
     rotate_left;rw[if_neg c7];exact λh=>absurd rfl h;rw[if_pos c7]
     have hop:isOp c:=by
      unfold isOp;rcases c7 with h|h|h|h|h|h|h <;> simp[h]
     unfold binW
     match hsd:s.data with
     |[]=>exact λh=>absurd rfl h
     |[_]=>exact λh=>absurd rfl h
     |b::a::d=>
      simp only
      cases hb:binM c.toNat a b with
      |none=>
       intro _
       rw[C.opTrap hk hAt hop hw (by rw[hdat,hsd]) hb,hout]
      |some v=>
       simp only;unfold qde
       by_cases hl:d.length<256
       rotate_left;rw[if_neg hl];exact λh=>absurd rfl h;rw[if_pos hl];have t1:=C.op hk hAt hop hw (by rw[hdat,hsd]) hb hl;exact⟨_,qfS t1 (pcne (qcS hop) rfl),⟨hk,spot (qcS hop),rfl,rfl,hcal,hmem,hinp,hout⟩⟩
theorem qud(hL:Lk C D):∀ {n e k:Nat} {o:Wd} {s:MS} {m:SM},Ends ⟨C.W,D⟩ n s e o k->Lnk C D s m->∀ N,k<=N->runM N m=(e,o,k):=by
 intro n e k o s m h
 induction h generalizing m with
 |@stop s e o h1 h2=>
  intro hl N hN;have key:=qnc hL hl;rw[h1] at key;have key:=key h2;obtain⟨n,rfl⟩:∃ n,N=n+1:=⟨N-1,by omega⟩
  rw[runM,key]
 |@step n k e o s s' h1 _ ih=>
  intro hl N hN;have key:=qnc hL hl;rw[h1] at key;obtain⟨m',k1,k2⟩:=key;obtain⟨n,rfl⟩:∃ n,N=qbY s+n:=⟨N-qbY s,by omega⟩;rw[qwZ k1,ih k2 n (by omega)];simp only[add_comm]
end
theorem qlf{W:List Wd}{L:Wd->Nat}{og:Nat}(hA:qgN W)(hne:∀ w∈W,w≠[])(hT:Ty L (some 0) W){known:Wd->Nat}(hkn:known=qdJ (qef (λ_=>0) og W))(hlen:(qcX known W).length<=40000)(hog:og+40000<=262144){inp:List Nat}{n e k:Nat}{o:Wd}
  (h:Ends ⟨W,λx=>decide (x<262144/\(x<og∨og+40000<=x))⟩ n ⟨λ_=>0,W,[],[],inp,[],false⟩ e o k) (N:Nat) (hN:k<=N):runM N (qfn (qcX known W) og inp)=(e,o,k):=by
 subst hkn;generalize hk:qdJ (qef (λ_=>0) og W)=known at *
 have hL:Lk ⟨W,og,known⟩ λx=>decide (x<262144/\(x<og∨og+40000<=x)):=by
  refine⟨λj w x hw hd=>?_,λj w x hw hd=>?_,λa ha=>?_⟩;have:=qnO og hA.1 hne hw hd;rw[hk] at this;exact this;exact ty_nb known hT [] (λh=>by cases h) j w x hw hd;have:=of_decide_eq_true ha;show _/\(a<og∨og+(qcX known W).length<=a);omega
 refine qud hL h (C:=⟨W,og,known⟩) ⟨⟨qwE _ _,by show og+(qcX known W).length<=262144;omega⟩,⟨0,rfl,rfl,rfl⟩,rfl,rfl,.nil,λa ha=>?_,rfl,rfl⟩ N hN;have:=of_decide_eq_true ha;show qfp (qcX known W) og a=0;unfold qfp;split;rw[List.getElem?_eq_none (by omega)];rfl
def quM(C:PW)(inp:List Nat):MS:=⟨λ_=>0,C.plc 0,[],[],inp,[],false⟩
section
variable{X:Trn}
theorem qr9(hX:TrnOk X)(inp:List Nat)(limit:Nat):X.Rel (qer X.P inp limit) (quM X.C inp):=by
 refine⟨trivial,λk hk=>rfl,λa ha=>?_,rfl,rfl⟩
 have har:(qer X.P inp limit).ar a.name=List.replicate a.size 0:=by
  show(match X.P.arrays.find? λb=>decide (b.name=a.name) with
   |some b=>List.replicate b.size 0
   |none=>[])=_
  cases hf:X.P.arrays.find? λb=>decide (b.name=a.name) with
  |none=>exact absurd (List.find?_eq_none.1 hf a ha) (by simp)
  |some b=>
   have h1:=mem_of_find?_eq_some hf;have h2:b.name=a.name:=of_decide_eq_true (List.find?_some (p:=λb:Ar=>decide (b.name=a.name)) hf);simp only;rw[hX.arName b h1 a ha h2]
 rw[har];refine⟨List.length_replicate,λi hi=>?_⟩;rw[List.length_replicate] at hi;rw[List.getElem_replicate]
 try rfl
end
theorem qpb{x w:Wd}:∀ (W:List Wd) (j:Nat),(defs W).Nodup->W[j]? = some w->defW w=some x->qby x W=some (W.drop (j+1))
 |[],j,_,h,_=>by simp at h
 |v::W,0,hn,h,hd=>by
  simp only[List.getElem?_cons_zero,Option.some.injEq] at h;subst h;rw[qby,if_pos hd]
  try rfl
 |v::W,j+1,hn,h,hd=>by
  rw[List.getElem?_cons_succ] at h;have hm:x∈defs W:=List.mem_filterMap.2 ⟨w,List.mem_of_getElem? h,hd⟩;rw[qcT] at hn;have hn2:=List.nodup_append.1 hn
  have hne:¬ defW v=some x:=λe=>by
   rw[e] at hn2;exact hn2.2.2 x (List.mem_singleton.2 rfl) x hm rfl
  rw[qby,if_neg hne,List.drop_succ_cons];exact qpb W j hn2.2.1 h hd
def qya(X:Go.Stele.Trn)(D:Nat->Bool):Trn:=⟨⟨X.C.W,D⟩,X.P,X.cc,X.cenv,X.sa,X.aa,X.S,X.fst⟩
theorem qul{X:Go.Stele.Trn}{D:Nat->Bool}(h:Go.Stele.TrnOk X)(hD:∀ x,X.Data x->D x=true)(hn:(defs X.C.W).Nodup):TrnOk (qya X D):=
 ⟨h.sc,h.ar,h.temps,h.low,hD,h.keyLow,h.inj,h.apart,h.arInj,h.arLow,h.arName,h.body,h.fn,h.par,h.code,h.ldef,h.lref,h.fdef,h.fref,λj w x hw hd=>qpb _ _ hn hw hd⟩
def qqD(og:Nat):Nat->Bool:=λx=>decide (x<262144/\(x<og∨og+40000<=x))
theorem qve{P:Pr}{o:Org}(hc:qcf P=0)(hfit:qfZ P.vars (qbo P) P.funcs o=true):∀ x,(trnP P o).Data x->qqD o.code.toNat x=true:=λx hx=>by
 have hv:=qfi hc;have hF:=qhk hfit;have hnames:=(qbA _ _ hv.names).1;have han:(P.arrays.map (·.name)).Nodup:=(List.nodup_append.1 (List.nodup_append.1 hnames).1).2.1;obtain⟨s0,c0,a0,s1,c1,a1,cs,as',ac⟩:=hF;refine decide_eq_true ?_;rcases hx with⟨k,hk,rfl⟩|hx|⟨a,ha,i,hi,rfl⟩;have h1:(qaj P.vars P.funcs).idxOf k<_:=qjh hk;show o.scalars.toNat+3+(qaj P.vars P.funcs).idxOf k<262144/\(o.scalars.toNat+3+(qaj P.vars P.funcs).idxOf k<_∨_<=o.scalars.toNat+3+(qaj P.vars P.funcs).idxOf k);omega;have h1:o.scalars.toNat<=x/\x<=o.scalars.toNat+2:=hx;omega;have h1:=qle _ han a ha;have h2:=ac (by have:i<a.size:=hi;omega);have h3:i<a.size:=hi;show o.arrays.toNat+offA P.arrays a.name+i<262144/\(o.arrays.toNat+offA P.arrays a.name+i<_∨_<=o.arrays.toNat+offA P.arrays a.name+i);omega
section
variable{L:Wd->Nat}
def Up(L:Wd->Nat)(ws:List Wd):Prop:=∀ d r,Ty L (some (d+1)) r->Ty L (some d) (ws++r)
def Flat(L:Wd->Nat)(ws:List Wd):Prop:=∀ r,Ty L (some 0) r->Ty L (some 0) (ws++r)
def NumW(w:Wd):Prop:=∃ k,numW w=some k
structure NumC(c:CC):Prop where
 sc:∀ n,NumW (c.sc n)
 ar:∀ n,NumW (c.ar n)
 t0:NumW c.t0
 t1:NumW c.t1
 t2:NumW c.t2
variable{d:Nat}{w:Wd}{r:List Wd}
theorem tnum(h:NumW w)(ht:Ty L (some (d+1)) r):Ty L (some d) (w::r):=by
 obtain⟨k,hk⟩:=h;exact .num hk ht
theorem n48:NumW [48]:=⟨0,qeE⟩
theorem n49:NumW [49]:=⟨1,qlu⟩
theorem top{c:UInt8}(h:isOp c)(ht:Ty L (some (d+1)) r):Ty L (some (d+2)) ([c]::r):=.sign (qk8 h) ht
theorem tst(ht:Ty L (some d) r):Ty L (some (d+2)) ([33]::r):=.sign (a:=2) (b:=0) zDd ht
theorem tld(ht:Ty L (some (d+1)) r):Ty L (some (d+1)) ([64]::r):=.sign (a:=1) (b:=1) zDd ht
theorem trd(ht:Ty L (some (d+1)) r):Ty L (some d) ([44]::r):=.sign (d:=d) (a:=0) (b:=1) zDd ht
theorem twr(ht:Ty L (some d) r):Ty L (some (d+1)) ([46]::r):=.sign (a:=1) (b:=0) zDd ht
theorem qdq{c:UInt8}(h:c∈([43,45,42,47,37,94,60]:Wd)):isOp c:=by
 unfold isOp;simpa using h
theorem qk6{c:CC}(hc:NumC c)(ht:Ty L (some (d+1)) r):Ty L (some (d+2)) (qaZ c++r):=
 tnum hc.t2 (tst (tnum hc.t1 (tst (tnum hc.t2 (tld (tnum hc.t1 (tld (top (qdq zDd) ht))))))))
theorem qxy{c:CC}(hc:NumC c){op:Nm}(hop:op∈qeO)(h1:op≠[33,61])(h2:op≠[38,38])(h3:op≠[124,124])(ht:Ty L (some (d+1)) r) :
  Ty L (some (d+2)) ((if op=[62] then qaZ c else if op=[60,61] then qaZ c++[[49],[94]] else if op=[62,61] then [[60],[49],[94]] else if op=[61,61] then [[94],[49],[60]] else [op])++r):=by
 simp only[qeO,zMi,not_mem_nil,or_false] at hop;rcases hop with rfl|rfl|rfl|rfl|rfl|rfl|rfl|rfl|rfl|rfl|rfl|rfl|rfl|rfl;exact absurd rfl h3;exact absurd rfl h2;exact top (qdq zDd) (tnum n49 (top (qdq zDd) ht));exact absurd rfl h1;exact top (qdq zDd) ht;exact qk6 hc ht;show Ty L (some (d+2)) ((qaZ c++[[49],[94]])++r);rw[zAs];exact qk6 hc (tnum n49 (top (qdq zDd) ht));exact top (qdq zDd) (tnum n49 (top (qdq zDd) ht));exact top (qdq zDd) ht;exact top (qdq zDd) ht;exact top (qdq zDd) ht;exact top (qdq zDd) ht;exact top (qdq zDd) ht;exact top (qdq zDd) ht
def FnOk(L:Wd->Nat)(env:CEnv):Prop:=∀ name g,env.fn name=some g->refW ([38,102,95]++name)=some ([102,95]++name)/\L ([102,95]++name)=g.params
mutual
theorem qvL{c:CC}(hc:NumC c){env:CEnv}(hfn:FnOk L env):∀ e,numE e->errE env e=0->Up L (exW c e)
 |.mk op num name args,hn,h=>λd r ht=>by
  rw[errE] at h;split at h
  case isFalse=>cases h
  rename_i hop
  obtain⟨h1,h2⟩:=qah.1 h;obtain⟨hnum,hn⟩:=hn;have ha:=qr2 hc hfn args hn h1;rw[exW]
  by_cases o1:op=nNum
  subst o1;exact tnum ⟨num,qgb hnum⟩ ht
  by_cases o2:op=nVar
  subst o2;exact tnum (hc.sc name) (tld ht)
  by_cases o3:op=qec
  ·subst o3
   have hl:args.length=1:=by
    have e:qbv qec=1:=rfl;rw[e] at hop;omega
   obtain⟨x,rfl⟩:=List.length_eq_one_iff.1 hl;have hx:=ha.2 (exW c x) (by rw[exWl];simp);show Ty L (some d) ((c.ar name::((exWl c [x]).headD []++[[43],[64]]))++r);have e:(exWl c [x]).headD []=exW c x:=by rw[exWl];try rfl
   rw[e,cons_append,zAs];exact tnum (hc.ar name) (hx _ _ (top (qdq zDd) (tld ht)))
  by_cases o4:op=qbN
  subst o4;have he3:callE env name args.length=0:=h2;show Ty L (some d) (((exWl c args).flatten++(if name=[105,110] then [[44]] else if name=[111,117,116] then [[46],[48]] else [[38,102,95]++name,[58]]))++r);rw[zAs];refine ha.1 _ _ ?_
  by_cases k1:name=[105,110]
  rw[if_pos k1]
  have hl:args.length=0:=by
   unfold callE at he3;rw[if_pos k1] at he3;split at he3
   assumption
   cases he3
  rw[hl];exact trd ht
  by_cases k2:name=[111,117,116]
  rw[if_neg k1,if_pos k2]
  have hl:args.length=1:=by
   unfold callE at he3;rw[if_neg k1,if_pos k2] at he3;split at he3
   assumption
   cases he3
  rw[hl];exact twr (tnum n48 ht);rw[if_neg k1,if_neg k2];unfold callE at he3;rw[if_neg k1,if_neg k2] at he3
  cases hq:env.fn name with
  |none=>
   rw[hq] at he3;simp only at he3
   split at he3 <;> cases he3
  |some g=>
   rw[hq] at he3;simp only at he3;obtain⟨q1,q2⟩:=hfn name g hq;split at he3
   rename_i hl
   rw[hl,<-q2];exact .call q1 ht;cases he3
  have o5':qbv op=args.length:=by
   have:qbv op ≠ -1:=by
    unfold qbv;rw[if_neg (by simp[o1,o2])]
    by_cases q:op=qec∨op=nNeg∨op=nNot
    rw[if_pos q];decide;rw[if_neg q,if_neg o4];split <;> decide
   rcases hop with h|h;exact absurd h this;exact h
  by_cases o5:op=nNeg
  ·subst o5
   have hl:args.length=1:=by
    have e:qbv nNeg=1:=rfl;rw[e] at o5';omega
   obtain⟨x,rfl⟩:=List.length_eq_one_iff.1 hl;have hx:=ha.2 (exW c x) (by rw[exWl];simp);show Ty L (some d) (([48]::((exWl c [x]).headD []++[[45]]))++r);have e:(exWl c [x]).headD []=exW c x:=by rw[exWl];try rfl
   rw[e,cons_append,zAs];exact tnum n48 (hx _ _ (top (qdq zDd) ht))
  by_cases o6:op=nNot
  ·subst o6
   have hl:args.length=1:=by
    have e:qbv nNot=1:=rfl;rw[e] at o5';omega
   obtain⟨x,rfl⟩:=List.length_eq_one_iff.1 hl;have hx:=ha.2 (exW c x) (by rw[exWl];simp);show Ty L (some d) (((exWl c [x]).headD []++[[49],[60]])++r);have e:(exWl c [x]).headD []=exW c x:=by rw[exWl];try rfl
   rw[e,zAs];exact hx _ _ (tnum n49 (top (qdq zDd) ht))
  have hb:op∈qeO/\args.length=2:=by
   unfold qbv at o5';rw[if_neg (by simp[o1,o2]),if_neg (by simp[o3,o5,o6]),if_neg o4] at o5';split at o5'
   rename_i hm
   exact⟨hm,by omega⟩;omega
  obtain⟨hb,hl⟩:=hb
  obtain⟨x,y,rfl⟩:∃ x y,args=[x,y]:=by
   match args,hl with
   |[x,y],_=>exact⟨x,y,rfl⟩
  have hx:=ha.2 (exW c x) (by rw[exWl];simp);have hy:=ha.2 (exW c y) (by rw[exWl,exWl];simp);have e1:(exWl c [x,y]).headD []=exW c x:=by rw[exWl];try rfl
  have e2:((exWl c [x,y]).drop 1).headD []=exW c y:=by rw[exWl,exWl];try rfl
  unfold opW;rw[if_neg o1,if_neg o2,if_neg o3,if_neg o4,if_neg o5,if_neg o6,e1,e2]
  by_cases b1:op=[33,61]
  rw[if_pos b1,cons_append,zAs,zAs];exact tnum n48 (hx _ _ (hy _ _ (top (qdq zDd) (top (qdq zDd) ht))));rw[if_neg b1]
  by_cases b2:op=[38,38]
  rw[if_pos b2];simp only[cons_append,zAs,nil_append];exact tnum n48 (hx _ _ (top (qdq zDd) (tnum n48 (hy _ _ (top (qdq zDd) (top (qdq zDd) ht))))));rw[if_neg b2]
  by_cases b3:op=[124,124]
  rw[if_pos b3];simp only[cons_append,zAs,nil_append];exact tnum n48 (tnum n48 (hx _ _ (top (qdq zDd) (tnum n48 (hy _ _ (top (qdq zDd) (top (qdq zDd) (top (qdq zDd) ht))))))));rw[if_neg b3,zAs,zAs];exact hx _ _ (hy _ _ (qxy hc hb b1 b2 b3 ht))
theorem qr2{c:CC}(hc:NumC c){env:CEnv}(hfn:FnOk L env):∀ l,qdt l->qbr env l=0->(∀ d r,Ty L (some (d+l.length)) r->Ty L (some d) ((exWl c l).flatten++r))/\∀ ws∈exWl c l,Up L ws
 |[],_,_=>by
  rw[exWl]
  exact⟨λd r h=>h,λws hw=>(not_mem_nil hw).elim⟩
 |x::l,hn,h=>by
  rw[qbr] at h;obtain⟨h1,h2⟩:=qah.1 h;have hx:=qvL hc hfn x hn.1 h1;obtain⟨k1,k2⟩:=qr2 hc hfn l hn.2 h2;rw[exWl,flatten_cons];refine⟨λd r ht=>?_,λws hw=>?_⟩;rw[zAs];refine hx _ _ (k1 _ _ ?_);rw[zLc] at ht;rw[show d+1+l.length=d+(l.length+1) by omega];exact ht;rcases zMi.1 hw with rfl|hw;exact hx;exact k2 ws hw
end
theorem qhG{ds:List Wd}{n:Nat}(h:OkW ds (labW n++[58])):defW (labW n++[58])=some (labW n):=qrR (c:=106) (x:=decDigits n) h zDd zDd
mutual
theorem qxZ{c:CC}(hc:NumC c){env:CEnv}(hfn:FnOk L env){ds:List Wd}(hL:∀ n,L (labW n)=0):∀ (s:Sm) (n:Nat),numS s->errS env s=0->(∀ w∈(stW c n s).1,OkW ds w)->Flat L (stW c n s).1
 |.mk kind name index value thn els,n,hn,h,hok=>λr ht=>by
  rw[errS] at h
  by_cases hf:qbR (.mk kind name index value thn els)=false
  rw[if_pos hf] at h;cases h;rw[if_neg hf] at h;obtain⟨h1,h⟩:=qah.1 h;obtain⟨h2,h⟩:=qah.1 h;obtain⟨h3,h⟩:=qah.1 h;obtain⟨h4,h5⟩:=qah.1 h;rw[Bool.not_eq_false] at hf;unfold qbR at hf;obtain⟨n1,n2,n3,n4⟩:=hn
  have one:∀ {l:List Ex},l.length=1->qdt l->qbr env l=0->Up L (exW c (l.headD default)):=λ{l} hl hnl hel=>by
   obtain⟨x,rfl⟩:=List.length_eq_one_iff.1 hl;rw[qbr] at hel;exact qvL hc hfn x hnl.1 (qah.1 hel).1
  have lref:∀ {k:Nat},OkW ds (38::labW k)->refW (38::labW k)=some (labW k):=λh=>qv5 h;rw[qtY] at hok ⊢
  by_cases k1:kind=1
  rw[if_pos k1] at hok ⊢;have hv:value.length=1:=by subst k1;simp at hf;exact hf.2.2.1
  rw[zAs];exact one hv n2 h1 _ _ (tnum (hc.sc name) (tst ht));rw[if_neg k1] at hok ⊢
  by_cases k2:kind=2
  rw[if_pos k2] at hok ⊢;have hv:index.length=1/\value.length=1:=by subst k2;simp at hf;exact⟨hf.2.1,hf.2.2.1⟩
  simp only[zAs,cons_append,nil_append];exact one hv.2 n2 h1 _ _ (tnum (hc.ar name) (one hv.1 n1 h2 _ _ (top (qdq zDd) (tst ht))));rw[if_neg k2] at hok ⊢
  by_cases k3:kind=3
  rw[if_pos k3] at hok ⊢;have hv:value.length=1:=by subst k3;simp at hf;exact hf.2.2
  cases els with
  |nil=>
   simp only at hok ⊢;have ht2:=qh9 hc hfn hL thn (n+1) n3 h4 (λw hw=>hok w (by simp[hw]));have d1:=qhG (hok (labW n++[58]) (by simp));have r1:=lref (hok (38::labW n) (by simp));simp only[zAs,cons_append,nil_append]
   exact one hv n2 h1 _ _ (.jump r1 (hL n) (ht2 _ (.defn d1 (hL n) ht)))
  |cons a q=>
   simp only at hok ⊢;have ht2:=qh9 hc hfn hL thn (n+2) n3 h4 (λw hw=>hok w (by simp[hw]));have ht3:=qh9 hc hfn hL (a::q) (stWs c (n+2) thn).2 n4 h5 (λw hw=>hok w (by simp[hw]));have d1:=qhG (hok (labW n++[58]) (by simp));have d2:=qhG (hok (labW (n+1)++[58]) (by simp));have r1:=lref (hok (38::labW n) (by simp));have r2:=lref (hok (38::labW (n+1)) (by simp));simp only[zAs,cons_append,nil_append];exact one hv n2 h1 _ _ (.jump r1 (hL n) (ht2 _ (.goto r2 (hL _) (.free (.defn d1 (hL n) (ht3 _ (.defn d2 (hL _) ht)))))))
  rw[if_neg k3] at hok ⊢
  by_cases k4:kind=4
  rw[if_pos k4] at hok ⊢;have hv:value.length=1:=by subst k4;simp at hf;exact hf.2.2.1
  have ht2:=qh9 hc hfn hL thn (n+2) n3 h4 (λw hw=>hok w (by simp[hw]));have d1:=qhG (hok (labW n++[58]) (by simp));have d2:=qhG (hok (labW (n+1)++[58]) (by simp));have r1:=lref (hok (38::labW n) (by simp));have r2:=lref (hok (38::labW (n+1)) (by simp));simp only[zAs,cons_append,nil_append];exact .defn d1 (hL n) (one hv n2 h1 _ _ (.jump r2 (hL _) (ht2 _ (.goto r1 (hL n) (.free (.defn d2 (hL _) ht))))));rw[if_neg k4] at hok ⊢
  by_cases k5:kind=5
  ·rw[if_pos k5] at hok ⊢;have hv:value.length=1:=by subst k5;simp at hf;exact hf.2.2.1
   simp only[zAs,cons_append,nil_append];exact one hv n2 h1 _ _ (.stop (.inl rfl) (.free ht))
  rw[if_neg k5] at hok ⊢
  by_cases k6:kind=6
  rw[if_pos k6] at hok ⊢;have hv:value.length=1:=by subst k6;simp at hf;exact hf.2.2.1
  simp only[zAs,cons_append,nil_append];exact one hv n2 h1 _ _ (tnum hc.t0 (tst ht));rw[if_neg k6] at hok ⊢
  by_cases k7:kind=7
  ·rw[if_pos k7] at hok ⊢;exact .stop (.inr rfl) (.free ht)
  rw[if_neg k7] at hok ⊢;exact ht
theorem qh9{c:CC}(hc:NumC c){env:CEnv}(hfn:FnOk L env){ds:List Wd}(hL:∀ n,L (labW n)=0):∀ (l:List Sm) (n:Nat),qcI l->qb0 env l=0->(∀ w∈(stWs c n l).1,OkW ds w)->Flat L (stWs c n l).1
 |[],n,_,_,_=>λr ht=>by rw[stWs];exact ht
 |s::l,n,hn,h,hok=>λr ht=>by
  rw[qb0] at h;obtain⟨h1,h2⟩:=qah.1 h;rw[stWs] at hok ⊢;simp only at hok ⊢;rw[zAs];exact qxZ hc hfn hL s n hn.1 h1 (λw hw=>hok w (List.mem_append.2 (.inl hw))) _ (qh9 hc hfn hL l _ hn.2 h2 (λw hw=>hok w (List.mem_append.2 (.inr hw))) _ ht)
end
theorem qsO{c:CC}(hc:NumC c):∀ (ps:List Nm),Ty L (some 0) r->Ty L (some ps.length) ((ps.flatMap λp=>[c.sc p,[33]])++r)
 |[],h=>h
 |p::ps,h=>by
  rw[List.flatMap_cons,zLc];simp only[cons_append,nil_append];exact tnum (hc.sc p) (tst (qsO hc ps h))
theorem qyq{c:CC}(hc:NumC c){env:CEnv}(hfn:FnOk L env){ds:List Wd}(hL:∀ n,L (labW n)=0){f:FnD}{n:Nat}(hd:defW ([102,95]++f.name++[58])=some ([102,95]++f.name))(hp:L ([102,95]++f.name)=f.params.length)(hn:qcI f.body)(he:qb0 env f.body=0)
  (hok:∀ w∈(fnW c n f).1,OkW ds w) (ht:Ty L none r):Ty L none ((fnW c n f).1++r):=by
 unfold fnW at hok ⊢;simp only at hok ⊢;rw[zAs,zAs,zAs];have hb:=qh9 hc hfn hL f.body n hn he (λw hw=>hok w (by simp[hw]));have h1:Ty L (some 0) ((stWs c n f.body).1++([[48],[59]]++r)):=hb _ (tnum n48 (.stop (.inl rfl) ht));refine .fdef hd ?_;rw[hp,<-length_reverse];exact qsO hc f.params.reverse h1
theorem qrB{cc:Nm->CC}(hc:∀ n,NumC (cc n)){ds:List Wd}(hL:∀ n,L (labW n)=0):∀ (fs:List FnD) (n:Nat),(∀ f∈fs,∃ env,FnOk L env/\qb0 env f.body=0/\qcI f.body/\defW ([102,95]++f.name++[58])=some ([102,95]++f.name)/\L ([102,95]++f.name)=f.params.length) ->
  (∀ w∈(fnWs cc n fs).1,OkW ds w)->Ty L none (fnWs cc n fs).1
 |[],n,_,_=>by rw[fnWs];exact .nil
 |f::fs,n,h,hok=>by
  rw[fnWs] at hok ⊢;simp only at hok ⊢;obtain⟨env,h1,h2,h3,h4,h5⟩:=h f zMs;exact qyq (hc f.name) h1 hL h4 h5 h3 h2 (λw hw=>hok w (List.mem_append.2 (.inl hw))) (qrB hc hL fs _ (λg hg=>h g (zMo _ hg)) (λw hw=>hok w (List.mem_append.2 (.inr hw))))
end
theorem qfa{z:Int}(h0:0<=z)(h1:z<4294967296):NumW (itoa z):=by
 rw[qb8 h0];exact⟨z.toNat,qgb (by omega)⟩
theorem qh1:∀ (l:List (Nm×Int)) (a:Int),0<=a->(∀ p∈l,0<=p.2)->∀ n,arrA a l n<=a+(l.map (·.2)).sum
 |[],a,h,_,n=>by simp[arrA];exact h
 |(x,k)::l,a,h,hl,n=>by
  have hk:0<=k:=hl (x,k) zMs
  have hs:0<=(l.map (·.2)).sum:=by
   have:∀ (m:List (Nm×Int)),(∀ p∈m,0<=p.2)->0<=(m.map (·.2)).sum:=by
    intro m
    induction m with
    |nil=>intro _;simp
    |cons p m ih=>
     intro hm;have:=ih λq hq=>hm q (zMo _ hq);have:=hm p zMs;rw[zMc,sum_cons];omega
   exact this l λp hp=>hl p (zMo _ hp)
  rw[arrA,zMc,sum_cons];split;simp only;omega;have:=qh1 l (a+k) (by omega) (λp hp=>hl p (zMo _ hp)) n;simp only;omega
theorem qyg{P:Pr}{o:Org}(hF:FitN P o)(own:Nm):NumC (ccF P.vars (qbo P) P.funcs o own):=by
 have s0:=hF.s0;have s1:=hF.s1;have a0:=hF.a0;have a1:=hF.a1
 have hnn:∀ p∈qbo P,0<=p.2:=λp hp=>by
  obtain⟨a,_,rfl⟩:=List.mem_map.1 hp;exact Int.natCast_nonneg _
 refine⟨λn=>?_,λn=>?_,?_,?_,?_⟩;show NumW (itoa (qeo (qaj P.vars P.funcs) o.scalars (keyC (qaj P.vars P.funcs) own n)));generalize keyC (qaj P.vars P.funcs) own n=k;unfold qeo;split
 rename_i hk
 have:=qjh hk;exact qfa (by omega) (by omega);exact qfa zDd zDd;show NumW (itoa (arrA o.arrays (qbo P) n));have h1:=qgX _ _ a0 hnn n;have h2:=qh1 _ _ a0 hnn n;have ht:((qbo P).map (·.2)).sum=((totA P.arrays:Nat):Int):=qhf P.arrays;exact qfa h1 (by omega);exact qfa s0 (by omega);exact qfa (z:=o.scalars+1) (by omega) (by omega);exact qfa (z:=o.scalars+2) (by omega) (by omega)
def labL(P:Pr)(x:Wd):Nat:=match x with
 |a::b::nm=>if a=102/\b=95 then (fnI P nm).params.length else 0
 |_=>0
theorem quR(P:Pr)(n:Nat):labL P (labW n)=0:=by
 unfold labW labL
 cases h:decDigits n with
 |nil=>rfl
 |cons c r=>simp
theorem qn4(P:Pr)(nm:Nm):labL P ([102,95]++nm)=(fnI P nm).params.length:=by
 show labL P (102::95::nm)=_;unfold labL
 simp
theorem qyv{P:Pr}{o:Org}(hc:qcf P=0)(hfit:qfZ P.vars (qbo P) P.funcs o=true)(hnum:∀ f∈P.funcs,qcI f.body)(hasm:qgN (qa6 P o))(hX:Go.Stele.TrnOk (trnP P o)):Ty (labL P) (some 0) (qa6 P o):=by
 have hv:=qfi hc;have hF:=qhk hfit;have hfn:(P.funcs.map (·.name)).Nodup:=(List.nodup_append.1 (qbA _ _ hv.names).1).2.1;have hm:=hv.main;have hfr:refW ([38,102,95]++(qb7 P).name)=some ([102,95]++(qb7 P).name):=hX.fref (qb7 P) hm.1
 have hpar:labL P ([102,95]++(qb7 P).name)=0:=by
  rw[qn4,qoi hfn hm.1,hm.2.2]
  try rfl
 have hname:(qb7 P).name=[109,97,105,110]:=hm.2.1;rw[hname] at hfr hpar
 have hbody:Ty (labL P) none (fnWs (ccF P.vars (qbo P) P.funcs o) 0 P.funcs).1:=by
  refine qrB (ds:=defs (qa6 P o)) (λn=>qyg hF n) (quR P) P.funcs 0 (λf hf=>⟨(trnP P o).cenv f,λname g hg=>?_,(hX.body f hf).1,hnum f hf,hX.fdef f hf,?_⟩) (λw hw=>hasm.2 w ?_);obtain⟨a1,a2,a3,_,_⟩:=hX.fn f hf name g hg;have h1:=hX.fref (fnI P name) a1;have a2:(fnI P name).name=name:=a2;rw[a2] at h1;exact⟨h1,by rw[qn4];exact a3.symm⟩;rw[qn4,qoi hfn hf];show w∈[[38,102,95,109,97,105,110],[58],itoa o.scalars,[33],[36]]++_;exact List.mem_append.2 (.inr hw)
 show Ty (labL P) (some 0) ([[38,102,95,109,97,105,110],[58],itoa o.scalars,[33],[36]]++_)
 have h3:Ty (labL P) (some (0+labL P [102,95,109,97,105,110])) ([38,102,95,109,97,105,110]::[58]::itoa o.scalars::[33]::[36]::(fnWs (ccF P.vars (qbo P) P.funcs o) 0 P.funcs).1):=by
  refine .call hfr ?_;exact tnum (qfa hF.s0 (by have:=hF.s1;omega)) (tst (.stop (.inr rfl) hbody))
 have e:labL P [102,95,109,97,105,110]=0:=hpar;rw[e] at h3;exact h3
theorem qmf{all:List Wd}:∀ (l:List (Wd×Nat)) (met:List Wd),(met++defs (l.map (·.1))).Nodup->(∀ w∈l.map (·.1),OkW all w)->(errT all met l).2=0
 |[],met,_,_=>rfl
 |(w,ln)::r,met,hn,hk=>by
  rw[zMc,qcT] at hn;have h0:=hk w (by simp);have hr:=λx hx=>hk x (by rw[zMc];exact zMo _ hx);unfold OkW at h0;rw[errT]
  cases hd:defW w with
  |some x=>
   rw[hd] at hn;simp only at hn ⊢;have hx:x ∉ met:=λhm=>(List.nodup_append.1 hn).2.2 x hm x (by simp) rfl;rw[if_neg hx]
   exact qmf r (met++[x]) (by rw[zAs];exact hn) hr
  |none=>
   rw[hd] at hn h0;simp only[nil_append] at hn h0 ⊢
   cases hf:refW w with
   |some x=>
    rw[hf] at h0;simp only at h0 ⊢;rw[if_pos h0]
    exact qmf r met hn hr
   |none=>
    rw[hf] at h0;simp only at h0 ⊢;rw[if_pos h0];exact qmf r met hn hr
theorem qsz{src x:Wd}{og:Int}{labs:List (Wd×Nat)}(h:asmP src og=.ok (x,labs)):qgN (qbl src)/\x.length<=40000:=by
 have h2:=(qmC h).1;unfold asmP at h;split at h;cases h;split at h;cases h
 rename_i h1
 exact⟨qpK (Classical.not_not.1 h1),h2⟩
theorem qx3{W:List Wd}(hA:qgN W)(hc:∀ w∈W,qbx w){og:Int}(h0:0<=og)(h1:og<262144)(hl:lenW false W<=40000) :
  asmP (join W [32]) og=.ok (qcX (qdJ (qef (λ_=>0) og.toNat W)) W,qef (λ_=>0) og.toNat W)/\(qcX (qdJ (qef (λ_=>0) og.toNat W)) W).length=lenW false W:=by
 have hw:=qf2 hc;have ht:=qjZ (qdJ (qef (λ_=>0) og.toNat W)) W λw hw=>(hc w hw).1;refine⟨?_,ht⟩
 have he:(errT (defs W) [] (qgr (join W [32]))).2=0:=by
  refine qmf _ _ ?_ ?_;rw[qd0,hw];exact hA.1;rw[qd0,hw];exact hA.2
 unfold asmP;rw[if_neg (by omega),hw,if_neg (by rw[he];decide),if_neg (by rw[ht];omega)]
section
variable{P:Pr}{o:Org}{t:Wd}
end
end Go.Stele.Wi
namespace Go.Stele.Wi.Wc
open Go.Lib
def pay(w:Nat)(s:IS):IR Unit:=if s.left<w then .stop 13 s else .ok () { s with left:=s.left-w }
def wN(n:Nat):Nat:=if n<10 then 2 else if n<100 then 3 else if n<1000 then 4 else if n<10000 then 5 else if n<100000 then 6 else if n<1000000 then 7 else 12
def wE(op:Nm)(num:Nat)(name:Nm)(k:Nat):Nat:=
 if op=nNum then wN num
 else if op=nVar then 8
 else if op=qec then 9
 else if op=nNeg then 3
 else if op=nNot then 3
 else if op=qbN then (if name=[105,110] then 1 else if name=[111,117,116] then 3 else 8 * k+11)
 else if op=[62] then 33
 else if op=[60,61] then 36
 else if op=[38,38] then 7
 else if op=[124,124] then 10
 else 4
def wS(kind:Int)(els:List Sm):Nat:=
 if kind=1 then 8
 else if kind=2 then 9
 else if kind=3 then (match els with
  |[]=>8
  |_::_=>18)
 else if kind=4 then 8
 else if kind=5 then 1
 else if kind=6 then 8
 else 0
def whlC(c:IS->IR Nat)(b:IS->IR (Option Nat)):Nat->Nat->IS->IR (Option Nat)
 |0,v,s=>if v=0 then .ok none s else .stop 13 s
 |m+1,v,s=>if v=0 then .ok none s else (b s).bind λr s=>match r with
  |some x=>.ok (some x) s
  |none=>(pay 18 s).bind λ_ s=>(c s).bind λv s=>whlC c b m v s
mutual
def evC(P:Pr):Nat->FnD->Ex->IS->IR Nat
 |0,_,_,s=>.stop 13 s
 |n+1,f,.mk op num name args,s=>(pay (wE op num name args.length) s).bind λ_ s=>(mapR (evC P n f) args s).bind λvs s=>opI P (stC P n) f op num name vs s
def stC(P:Pr):Nat->FnD->Sm->IS->IR (Option Nat)
 |0,_,_,s=>.stop 13 s
 |n+1,f,.mk kind name index value thn els,s=>(pay (wS kind els) s).bind λ_ s=>
  if kind=7 then .stop 0 s else (evC P n f (value.headD default) s).bind λv s=>
   if kind=1 then .ok none (qbj s (keyI f name) v)
   else if kind=2 then (evC P n f (index.headD default) s).bind λi s=>match (s.ar name)[i]? with
    |some _=>.ok none { s with ar:=λx=>if x=name then (s.ar name).set i v else s.ar x }
    |none=>.stop 2 s
   else if kind=5 then .ok (some v) s
   else if kind=3 then (if v≠0 then blkR (stC P n f) thn s else blkR (stC P n f) els s)
   else if kind=4 then whlC (evC P n f (value.headD default)) (blkR (stC P n f) thn) n v s
   else .ok none s
end
def qaq{A:Type}(C:PW)(Q:A->IS->MS->Prop)(c d:Int)(m:MS)(s:IS):IR A->Prop
 |.ok v s'=>s'.left<=s.left/\∃ k:Nat,∃ m',(k:Int)<=c+((s.left:Int)-(s'.left:Int))/\Stp C k m m'/\Q v s' m'
 |.stop e s'=>qiS C (d+(s.left:Int)) m e s'
variable{C:PW}
section
variable{A B:Type}{Q:A->IS->MS->Prop}{R:B->IS->MS->Prop}{c d c1 d1 c2 d2:Int}{m m1:MS}{s:IS}
theorem qaq.pre{r:IR A}{a:Nat}(h:Stx C a m m1)(g:qaq C Q c1 d1 m1 s r)(hc:a+c1<=c)(hd:a+d1<=d):qaq C Q c d m s r:=by
 obtain⟨x,hx,hs⟩:=h
 cases r with
 |ok v s'=>
  obtain⟨h1,k,m',h2,h3,h4⟩:=g
  exact⟨h1,x+k,m',by omega,hs.trans h3,h4⟩
 |stop e s'=>exact(qiS.pre hs g).mono (by omega)
theorem qaq.ok{v:A}(h:Q v s m)(hc:0<=c):qaq C Q c d m s (.ok v s):=⟨zNr _,0,m,by omega,.zero _,h⟩
theorem qaq.bind{r:IR A}{f:A->IS->IR B}(h:qaq C Q c1 d1 m s r)(hc:c1+c2<=c)(hd:d1<=d)(hd2:c1+d2<=d)(hf:∀ v s' m',Q v s' m'->qaq C R c2 d2 m' s' (f v s')):qaq C R c d m s (r.bind f):=by
 cases r with
 |ok v s1=>
  obtain⟨h1,k,m',h2,h3,h4⟩:=h;have g:=hf v s1 m' h4;show qaq C R c d m s (f v s1);revert g
  cases f v s1 with
  |ok w s2=>
   rintro⟨k1,k',m2,k2,k3,k4⟩
   exact⟨by omega,k+k',m2,by omega,h3.trans k3,k4⟩
  |stop e s2=>exact λg=>(qiS.pre h3 g).mono (by omega)
 |stop e s1=>exact qiS.mono (s:=s1) h (by omega)
theorem qaq.post{r:IR A}{R:A->IS->MS->Prop}{a:Nat}(h:qaq C Q c1 d1 m s r)(hc:c1+a<=c)(hd:d1<=d)(hf:∀ v s' m',Q v s' m'->∃ m2,Stx C a m' m2/\R v s' m2):qaq C R c d m s r:=by
 cases r with
 |ok v s1=>
  obtain⟨h1,k,m',h2,h3,h4⟩:=h;obtain⟨m2,⟨x,hx,k1⟩,k2⟩:=hf v s1 m' h4
  exact⟨h1,k+x,m2,by omega,h3.trans k1,k2⟩
 |stop e s1=>exact qiS.mono h (by omega)
theorem qaq.tick{w:Nat}{f:Unit->IS->IR A}(hout:m.out=s.out)(h:w<=s.left->qaq C Q (c+w) (d+w) m { s with left:=s.left-w } (f () { s with left:=s.left-w })):qaq C Q c d m s ((pay w s).bind f):=by
 unfold pay;split;exact⟨λhe=>(by rcases he with he|he <;> cases he),λ_=>⟨0,m,.zero _,hout⟩⟩
 rename_i h0
 have k:=h (by omega);show qaq C Q c d m s (f () { s with left:=s.left-w })
 revert k
 cases f () { s with left:=s.left-w } with
 |ok v s1=>
  rintro⟨k1,k,m2,k2,k3⟩;simp only at k1 k2
  exact⟨by omega,k,m2,by omega,k3⟩
 |stop e s1=>
  intro k;exact qiS.mono k (by simp only;omega)
theorem qaq.limit(hout:m.out=s.out):qaq C Q c d m s (.stop 13 s):=⟨λhe=>(by rcases he with he|he <;> cases he),λ_=>⟨0,m,.zero _,hout⟩⟩
theorem qaq.other{e:Int}(h:e≠0/\e≠12/\e≠13):qaq C Q c d m s (.stop e s):=⟨λhe=>(by rcases he with he|he <;> omega),λhe=>by omega⟩
theorem qaq.trap{e:Int}(hd:0<=d)(he:e=0∨e=12)(h:∃ m',Stp C 0 m m'/\stepM C m'=.stop e.toNat s.out):qaq C Q c d m s (.stop e s):=by
 obtain⟨m',h1,h2⟩:=h;exact⟨λ_=>⟨0,m',by omega,h1,h2⟩,λhe'=>by omega⟩
end
def lf(s:IS)(l:Nat):IS:={ s with left:=l }
theorem qiD(s:IS)(w k l:Nat):pay w (lf s (l+(w+k)))=.ok () (lf s (l+k)):=by
 unfold pay lf;simp only;rw[if_neg (by omega),show l+(w+k)-w=l+k by omega]
section
variable(P:Pr)
def Op(f:FnD)(op:Nm)(num:Nat)(name:Nm)(vs:List Nat)(s:IS)(K v:Nat)(s':IS):Prop:=∃ k,k<=K/\∃ n0,∀ n,n0<=n->∀ l,opI P (stC P n) f op num name vs (lf s (l+k))=.ok v (lf s' l)
def Ev(f:FnD)(x:Ex)(s:IS)(K v:Nat)(s':IS):Prop:=∃ k,k<=K/\∃ n0,∀ n,n0<=n->∀ l,evC P n f x (lf s (l+k))=.ok v (lf s' l)
def Evs(f:FnD)(xs:List Ex)(s:IS)(K:Nat)(vs:List Nat)(s':IS):Prop:=∃ k,k<=K/\∃ n0,∀ n,n0<=n->∀ l,mapR (evC P n f) xs (lf s (l+k))=.ok vs (lf s' l)
def St(f:FnD)(a:Sm)(s:IS)(K:Nat)(r:Option Nat)(s':IS):Prop:=∃ k,k<=K/\∃ n0,∀ n,n0<=n->∀ l,stC P n f a (lf s (l+k))=.ok r (lf s' l)
def Bl(f:FnD)(b:List Sm)(s:IS)(K:Nat)(r:Option Nat)(s':IS):Prop:=∃ k,k<=K/\∃ n0,∀ n,n0<=n->∀ l,blkR (stC P n f) b (lf s (l+k))=.ok r (lf s' l)
def Wh(f:FnD)(x:Ex)(b:List Sm)(v:Nat)(s:IS)(K:Nat)(r:Option Nat)(s':IS):Prop:=∃ k,k<=K/\∃ n0,∀ n m,n0<=n->n0<=m->∀ l,whlC (evC P n f x) (blkR (stC P n f) b) m v (lf s (l+k))=.ok r (lf s' l)
end
section
variable{P:Pr}{f:FnD}{s s1 s2 s':IS}{K K1 K2 K3 v w:Nat}
theorem Ev.mono{x:Ex}(h:Ev P f x s K v s')(hk:K<=K1):Ev P f x s K1 v s':=by
 obtain⟨k,h1,h2⟩:=h;exact⟨k,by omega,h2⟩
theorem Bl.mono{b:List Sm}{r:Option Nat}(h:Bl P f b s K r s')(hk:K<=K1):Bl P f b s K1 r s':=by
 obtain⟨k,h1,h2⟩:=h;exact⟨k,by omega,h2⟩
theorem St.mono{a:Sm}{r:Option Nat}(h:St P f a s K r s')(hk:K<=K1):St P f a s K1 r s':=by
 obtain⟨k,h1,h2⟩:=h;exact⟨k,by omega,h2⟩
theorem Wh.mono{x:Ex}{b:List Sm}{r:Option Nat}(h:Wh P f x b v s K r s')(hk:K<=K1):Wh P f x b v s K1 r s':=by
 obtain⟨k,h1,h2⟩:=h;exact⟨k,by omega,h2⟩
theorem Evs.nil:Evs P f [] s 0 [] s:=⟨0,zNr _,0,λn _ l=>rfl⟩
theorem Evs.cons{x:Ex}{xs:List Ex}{vs:List Nat}(h:Ev P f x s K1 v s1)(g:Evs P f xs s1 K2 vs s'):Evs P f (x::xs) s (K1+K2) (v::vs) s':=by
 obtain⟨k1,h1,n1,e1⟩:=h;obtain⟨k2,h2,n2,e2⟩:=g;refine⟨k1+k2,by omega,max n1 n2,λn hn l=>?_⟩;unfold mapR;rw[show l+(k1+k2)=(l+k2)+k1 by omega,e1 n (by omega) (l+k2)];show(mapR (evC P n f) xs (lf s1 (l+k2))).bind _=_;rw[e2 n (by omega) l]
 try rfl
theorem Ev.mk{op:Nm}{num:Nat}{name:Nm}{args:List Ex}{vs:List Nat}(h:Evs P f args s K1 vs s1)(g:Op P f op num name vs s1 K2 v s'):Ev P f (.mk op num name args) s (wE op num name args.length+K1+K2) v s':=by
 obtain⟨k1,h1,n1,e1⟩:=h;obtain⟨k2,h2,n2,e2⟩:=g;refine⟨wE op num name args.length+(k1+k2),by omega,max n1 n2+1,λn hn l=>?_⟩;obtain⟨m,rfl⟩:∃ m,n=m+1:=⟨n-1,by omega⟩;rw[evC,qiD];show(mapR (evC P m f) args (lf s (l+(k1+k2)))).bind _=_;rw[show l+(k1+k2)=(l+k2)+k1 by omega,e1 m (by omega) (l+k2)];exact e2 m (by omega) l
def vOp(f:FnD)(s:IS)(op:Nm)(num:Nat)(name:Nm)(vs:List Nat):Nat:=
 if op=nNum then num
 else if op=nVar then s.sc (keyI f name)
 else if op=qec then (s.ar name).getD (vs.headD 0) 0
 else if op=nNeg then (4294967296-vs.headD 0) % 4294967296
 else if op=nNot then b2n (decide (vs.headD 0=0))
 else (binI op (vs.headD 0) (vs.tail.headD 0)).getD 0
def okOp(f:FnD)(s:IS)(op:Nm)(name:Nm)(vs:List Nat):Bool:=
 if op=nNum then true
 else if op=nVar then true
 else if op=qec then decide (vs.headD 0<(s.ar name).length)
 else if op=nNeg then true
 else if op=nNot then true
 else if op=qbN then false
 else (binI op (vs.headD 0) (vs.tail.headD 0)).isSome
theorem Op.pure{op:Nm}{num:Nat}{name:Nm}{vs:List Nat}(h:okOp f s op name vs=true):Op P f op num name vs s 0 (vOp f s op num name vs) s:=by
 refine⟨0,zNr _,0,λn _ l=>?_⟩;rw[add_zero];unfold okOp at h
 by_cases h1:op=nNum
 subst h1;rfl
 by_cases h2:op=nVar
 subst h2;rfl;rw[if_neg h1,if_neg h2] at h
 by_cases h3:op=qec
 ·subst h3;rw[if_pos rfl] at h;have hlt:=of_decide_eq_true h
  show(match (s.ar name)[vs.headD 0]? with
   |some v=>IR.ok v (lf s l)
   |none=>.stop 2 (lf s l))=.ok ((s.ar name).getD (vs.headD 0) 0) (lf s l)
  rw[List.getElem?_eq_getElem hlt,List.getD_eq_getElem?_getD,List.getElem?_eq_getElem hlt]
  try rfl
 rw[if_neg h3] at h
 by_cases h4:op=nNeg
 subst h4;rfl;rw[if_neg h4] at h
 by_cases h5:op=nNot
 subst h5;rfl;rw[if_neg h5] at h
 by_cases h6:op=qbN
 rw[if_pos h6] at h;cases h;rw[if_neg h6] at h;unfold opI vOp;rw[if_neg h1,if_neg h2,if_neg h3,if_neg h4,if_neg h5,if_neg (show op≠[110,117,109] from h1),if_neg (show op≠[118,97,114] from h2),if_neg (show op≠[101,108,101,109] from h3),if_neg (show op≠[110,101,103] from h4),if_neg (show op≠[110,111,116] from h5),if_neg (show op≠[99,97,108,108] from h6)]
 cases hb:binI op (vs.headD 0) (vs.tail.headD 0) with
 |none=>rw[hb] at h;cases h
 |some v=>rfl
theorem Op.inp{num:Nat}:Op P f qbN num [105,110] [] s 0 (s.inp.headD 4294967295) { s with inp:=s.inp.tail }:=by
 refine⟨0,zNr _,0,λn _ l=>?_⟩;show qim P (stC P n) [105,110] [] (lf s l)=_;unfold qim;rw[if_pos rfl]
 show(match s.inp with
  |[]=>IR.ok 4294967295 (lf s l)
  |v::r=>.ok v { lf s l with inp:=r })=_
 cases hi:s.inp with
 |nil=>
  simp only[List.headD_nil,List.tail_nil];unfold lf;simp only
  congr 2
 |cons a r=>rfl
theorem Op.out{num v:Nat}:Op P f qbN num [111,117,116] [v] s 0 0 { s with out:=s.out++[UInt8.ofNat v] }:=by
 refine⟨0,zNr _,0,λn _ l=>?_⟩;show qim P (stC P n) [111,117,116] [v] (lf s l)=_;unfold qim;rw[if_neg zDd,if_pos rfl]
 try rfl
theorem qqi(g:FnD):∀ (ps:List Nm) (vs:List Nat) (s:IS) (l:Nat),qe9 g ps vs (lf s l)=lf (qe9 g ps vs s) l
 |[],vs,s,l=>by cases vs <;> rfl
 |p::ps,[],s,l=>rfl
 |p::ps,w::vs,s,l=>by
  rw[qe9,qe9];exact qqi g ps vs (qbj s (keyI g p) w) l
theorem Op.call{num:Nat}{name:Nm}{vs:List Nat}{r:Option Nat}(h1:name≠[105,110])(h2:name≠[111,117,116])(h:Bl P (fnI P name) (fnI P name).body (qe9 (fnI P name) (fnI P name).params vs s) K r s'):Op P f qbN num name vs s K (r.getD 0) s':=by
 obtain⟨k,hk,n0,e⟩:=h;refine⟨k,hk,n0,λn hn l=>?_⟩;show qim P (stC P n) name vs (lf s (l+k))=_;unfold qim;rw[if_neg h1,if_neg h2,qqi,e n hn l]
 try rfl
theorem St.asg{x:Ex}{name:Nm}{ix vr:List Ex}{th el:List Sm}(h:Ev P f x s K v s1):St P f (.mk 1 name ix (x::vr) th el) s (8+K) none (qbj s1 (keyI f name) v):=by
 obtain⟨k,hk,n0,e⟩:=h;refine⟨8+k,by omega,n0+1,λn hn l=>?_⟩;obtain⟨m,rfl⟩:∃ m,n=m+1:=⟨n-1,by omega⟩;rw[stC,show wS 1 el=8 from rfl,qiD];show(evC P m f x (lf s (l+k))).bind _=_;rw[e m (by omega) l]
 try rfl
theorem St.ret{x:Ex}{name:Nm}{ix vr:List Ex}{th el:List Sm}(h:Ev P f x s K v s1):St P f (.mk 5 name ix (x::vr) th el) s (1+K) (some v) s1:=by
 obtain⟨k,hk,n0,e⟩:=h;refine⟨1+k,by omega,n0+1,λn hn l=>?_⟩;obtain⟨m,rfl⟩:∃ m,n=m+1:=⟨n-1,by omega⟩;rw[stC,show wS 5 el=1 from rfl,qiD];show(evC P m f x (lf s (l+k))).bind _=_;rw[e m (by omega) l]
 try rfl
theorem St.exp{x:Ex}{name:Nm}{ix vr:List Ex}{th el:List Sm}(h:Ev P f x s K v s1):St P f (.mk 6 name ix (x::vr) th el) s (8+K) none s1:=by
 obtain⟨k,hk,n0,e⟩:=h;refine⟨8+k,by omega,n0+1,λn hn l=>?_⟩;obtain⟨m,rfl⟩:∃ m,n=m+1:=⟨n-1,by omega⟩;rw[stC,show wS 6 el=8 from rfl,qiD];show(evC P m f x (lf s (l+k))).bind _=_;rw[e m (by omega) l]
 try rfl
theorem St.ift{x:Ex}{name:Nm}{ix vr:List Ex}{th el:List Sm}{r:Option Nat}(h:Ev P f x s K v s1)(hv:v≠0)(g:Bl P f th s1 K2 r s2):St P f (.mk 3 name ix (x::vr) th el) s (wS 3 el+K+K2) r s2:=by
 obtain⟨k,hk,n0,e⟩:=h;obtain⟨k2,hk2,n2,e2⟩:=g;refine⟨wS 3 el+(k+k2),by omega,max n0 n2+1,λn hn l=>?_⟩;obtain⟨m,rfl⟩:∃ m,n=m+1:=⟨n-1,by omega⟩;rw[stC,qiD];show(evC P m f x (lf s (l+(k+k2)))).bind _=_;rw[show l+(k+k2)=(l+k2)+k by omega,e m (by omega) (l+k2)];show(if v≠0 then blkR (stC P m f) th (lf s1 (l+k2)) else blkR (stC P m f) el (lf s1 (l+k2)))=_;rw[if_pos hv];exact e2 m (by omega) l
theorem St.iff{x:Ex}{name:Nm}{ix vr:List Ex}{th el:List Sm}{r:Option Nat}(h:Ev P f x s K 0 s1)(g:Bl P f el s1 K2 r s2):St P f (.mk 3 name ix (x::vr) th el) s (wS 3 el+K+K2) r s2:=by
 obtain⟨k,hk,n0,e⟩:=h;obtain⟨k2,hk2,n2,e2⟩:=g;refine⟨wS 3 el+(k+k2),by omega,max n0 n2+1,λn hn l=>?_⟩;obtain⟨m,rfl⟩:∃ m,n=m+1:=⟨n-1,by omega⟩;rw[stC,qiD];show(evC P m f x (lf s (l+(k+k2)))).bind _=_;rw[show l+(k+k2)=(l+k2)+k by omega,e m (by omega) (l+k2)];exact e2 m (by omega) l
theorem St.whl{x:Ex}{name:Nm}{ix vr:List Ex}{th el:List Sm}{r:Option Nat}(h:Ev P f x s K v s1)(g:Wh P f x th v s1 K2 r s2):St P f (.mk 4 name ix (x::vr) th el) s (8+K+K2) r s2:=by
 obtain⟨k,hk,n0,e⟩:=h;obtain⟨k2,hk2,n2,e2⟩:=g;refine⟨8+(k+k2),by omega,max n0 n2+1,λn hn l=>?_⟩;obtain⟨m,rfl⟩:∃ m,n=m+1:=⟨n-1,by omega⟩;rw[stC,show wS 4 el=8 from rfl,qiD];show(evC P m f x (lf s (l+(k+k2)))).bind _=_;rw[show l+(k+k2)=(l+k2)+k by omega,e m (by omega) (l+k2)];exact e2 m m (by omega) (by omega) l
theorem Bl.nil:Bl P f [] s 0 none s:=⟨0,zNr _,0,λn _ l=>rfl⟩
theorem Bl.cons{a:Sm}{b:List Sm}{r:Option Nat}(h:St P f a s K1 none s1)(g:Bl P f b s1 K2 r s'):Bl P f (a::b) s (K1+K2) r s':=by
 obtain⟨k,hk,n0,e⟩:=h;obtain⟨k2,hk2,n2,e2⟩:=g;refine⟨k+k2,by omega,max n0 n2,λn hn l=>?_⟩;unfold blkR;rw[show l+(k+k2)=(l+k2)+k by omega,e n (by omega) (l+k2)];exact e2 n (by omega) l
theorem Bl.ret{a:Sm}{b:List Sm}(h:St P f a s K (some v) s'):Bl P f (a::b) s K (some v) s':=by
 obtain⟨k,hk,n0,e⟩:=h;refine⟨k,hk,n0,λn hn l=>?_⟩;unfold blkR;rw[e n hn l]
 try rfl
theorem Wh.done{x:Ex}{b:List Sm}:Wh P f x b 0 s 0 none s:=⟨0,zNr _,1,λn m _ hm l=>by
 obtain⟨m,rfl⟩:∃ k,m=k+1:=⟨m-1,by omega⟩
 rfl⟩
theorem Wh.next{x:Ex}{b:List Sm}{r:Option Nat}(hv:v≠0)(h:Bl P f b s K1 none s1)(g:Ev P f x s1 K2 w s2)(q:Wh P f x b w s2 K3 r s'):Wh P f x b v s (K1+18+K2+K3) r s':=by
 obtain⟨k1,h1,n1,e1⟩:=h;obtain⟨k2,h2,n2,e2⟩:=g;obtain⟨k3,h3,n3,e3⟩:=q;refine⟨k1+(18+(k2+k3)),by omega,max n1 (max n2 n3)+1,λn m hn hm l=>?_⟩;obtain⟨m,rfl⟩:∃ k,m=k+1:=⟨m-1,by omega⟩;rw[whlC,if_neg hv,show l+(k1+(18+(k2+k3)))=(l+(18+(k2+k3)))+k1 by omega,e1 n (by omega)];show(pay 18 (lf s1 (l+(18+(k2+k3))))).bind _=_;rw[qiD];show(evC P n f x (lf s1 (l+(k2+k3)))).bind _=_;rw[show l+(k2+k3)=(l+k3)+k2 by omega,e2 n (by omega)];exact e3 n m (by omega) (by omega) l
end
mutual
def vE(f:FnD)(s:IS):Ex->Nat
 |.mk op num name args=>vOp f s op num name (vEs f s args)
def vEs(f:FnD)(s:IS):List Ex->List Nat
 |[]=>[]
 |x::l=>vE f s x::vEs f s l
end
mutual
def okE(f:FnD)(s:IS):Ex->Bool
 |.mk op num name args=>okEs f s args && okOp f s op name (vEs f s args)
def okEs(f:FnD)(s:IS):List Ex->Bool
 |[]=>true
 |x::l=>okE f s x && okEs f s l
end
mutual
def cE:Ex->Nat
 |.mk op num name args=>wE op num name args.length+cEs args
def cEs:List Ex->Nat
 |[]=>0
 |x::l=>cE x+cEs l
end
mutual
theorem Ev.pure{P:Pr}{f:FnD}{s:IS}:∀ (x:Ex),okE f s x=true->Ev P f x s (cE x) (vE f s x) s
 |.mk op num name args,h=>by
  rw[okE,zBa] at h;rw[cE,vE];exact(Ev.mk (Evs.pure args h.1) (Op.pure h.2)).mono (by omega)
theorem Evs.pure{P:Pr}{f:FnD}{s:IS}:∀ (l:List Ex),okEs f s l=true->Evs P f l s (cEs l) (vEs f s l) s
 |[],_=>by rw[cEs,vEs];exact Evs.nil
 |x::l,h=>by
  rw[okEs,zBa] at h;rw[cEs,vEs];exact Evs.cons (Ev.pure x h.1) (Evs.pure l h.2)
end
section
variable(f:FnD)(s:IS)(n:Nat)(m:Nm)(x y:Ex)
theorem qxM:vE f s (.mk [110,117,109] n m [])=n:=rfl
theorem qyn:vE f s (.mk [118,97,114] n m [])=s.sc (keyI f m):=rfl
theorem qyi:vE f s (.mk [42] n m [x,y])=vE f s x * vE f s y % 4294967296:=by
 show(binI [42] (vE f s x) (vE f s y)).getD 0=_;unfold binI;rw[if_neg zDd,if_neg zDd,if_pos rfl];exact getD_some
theorem qxE:vE f s (.mk [94] n m [x,y])=vE f s x ^^^ vE f s y:=by
 show(binI [94] (vE f s x) (vE f s y)).getD 0=_;unfold binI;rw[if_neg zDd,if_neg zDd,if_neg zDd,if_pos rfl];exact getD_some
theorem Ev.of{P:Pr}{f:FnD}{s:IS}{v:Nat}{x:Ex}(h:okE f s x=true)(hv:vE f s x=v):Ev P f x s (cE x) v s:=hv▸Ev.pure x h
end
theorem qye{P:Pr}{inp:List Nat}{limit:Nat}{r:Option Nat}{s':IS}(h:Bl P (qb7 P) (qb7 P).body (qer P inp 0) limit r s'):∃ fuel s2,blkR (stC P fuel (qb7 P)) (qb7 P).body (qer P inp limit)=.ok r s2/\s2.out=s'.out:=by
 obtain⟨k,hk,n0,e⟩:=h;refine⟨n0,lf s' (limit-k),?_,rfl⟩;have:=e n0 (zNr _) (limit-k);rw[show limit-k+k=limit by omega] at this;exact this
theorem wN_le{n:Nat}(h:n<4294967296):(decDigits n).length+1<=wN n:=by
 unfold wN;split;have:=qdi 0 n (by omega);omega;split;have:=qdi 1 n (by omega);omega;split;have:=qdi 2 n (by omega);omega;split;have:=qdi 3 n (by omega);omega;split;have:=qdi 4 n (by omega);omega;split;have:=qdi 5 n (by omega);omega;have:=qdi 9 n (by omega);omega
def wB(op:Nm):Nat:=if op=[62] then 33 else if op=[60,61] then 36 else 4
theorem qyr(op:Nm):1<=wB op:=by
 unfold wB;split;omega;split <;> omega
def EvOk(X:Trn)(n:Nat):Prop:=∀ f∈X.P.funcs,∀ e i s m d c,numE e->errE (X.cenv f) e=0->X.C.Code i (exW (X.cc f) e)->X.Vw s i d c m->d.length+qbb (X.cenv f) e<=256->c.length+depE (X.cenv f) e<=64 ->
 qaq X.C (λv s' m'=>X.Vw s' (i+(exW (X.cc f) e).length) (v::d) c m') 0 0 m s (evC X.P n f e s)
def qv9(X:Trn)(n:Nat):Prop:=∀ f∈X.P.funcs,∀ name vs i s m d c,name≠[105,110]->name≠[111,117,116]->callE (X.cenv f) name vs.length=0->X.C.Code i [[38,102,95]++name,[58]]->X.Vw s i (vs.reverse++d) c m ->
 (∀ g,(X.cenv f).fn name=some g->d.length+max (g.params+1) g.need<=256/\c.length+(g.depth+1)<=64) ->
 qaq X.C (λv s' m'=>X.Vw s' (i+2) (v::d) c m') (8 * vs.length+11) (8 * vs.length+11) m s (qim X.P (stC X.P n) name vs s)
section
variable{X:Trn}{n:Nat}
theorem qtH(hE:EvOk X n){f:FnD}(hf:f∈X.P.funcs):∀ (l:List Ex) i s m d c,qdt l->qbr (X.cenv f) l=0->X.C.Code i (exWl (X.cc f) l).flatten->X.Vw s i d c m->(∀ k (h:k<l.length),d.length+k+qbb (X.cenv f) l[k]<=256)->c.length+qbZ (X.cenv f) l<=64 ->
  qaq X.C (λvs s' m'=>vs.length=l.length/\X.Vw s' (i+(exWl (X.cc f) l).flatten.length) (vs.reverse++d) c m') 0 0 m s (mapR (evC X.P n f) l s)
 |[],i,s,m,d,c,_,_,_,v,_,_=>qaq.ok ⟨rfl,v⟩ (Int.le_refl 0)
 |e::l,i,s,m,d,c,hn,he,hc,v,hd,hdep=>by
  rw[qbr] at he;obtain⟨he1,he2⟩:=qah.1 he;rw[qbZ] at hdep;rw[exWl,flatten_cons] at hc;obtain⟨hc1,hc2⟩:=hc.app;unfold mapR;have h0:=hd 0 (by simp);simp only[List.getElem_cons_zero] at h0;refine qaq.bind (c2:=0) (d2:=0) (hE f hf e i s m d c hn.1 he1 hc1 v (by omega) (by omega)) (by omega) (Int.le_refl _) (by omega) λa s' m' va=>?_;refine qaq.bind (c2:=0) (d2:=0) (qtH hE hf l _ s' m' (a::d) c hn.2 he2 hc2 va (λk hk=>?_) (by omega)) (by omega) (Int.le_refl _) (by omega) λvs s2 m2 hv=>?_;have:=hd (k+1) (by rw[zLc];omega);simp only[List.getElem_cons_succ] at this;rw[zLc];omega;refine qaq.ok ⟨by rw[zLc,zLc,hv.1],?_⟩ (Int.le_refl _);have:=hv.2;rw[exWl,flatten_cons,zLa,<-add_assoc];simpa using this
theorem qxS(hX:TrnOk X){f:FnD}(hf:f∈X.P.funcs){op:Nm}(hop:op∈qeO)(h1:op≠[33,61])(h2:op≠[38,38])(h3:op≠[124,124]){s:IS}{i a b:Nat}{d:List Nat}{c:List (List Wd)}{m:MS}(v:X.Vw s i (b::a::d) c m)(hd:d.length+3<=256∨(d.length+2<=256/\op≠[62]/\op≠[60,61]))
  {ws:List Wd} (hw:ws=(if op=[62] then qaZ (X.cc f) else if op=[60,61] then qaZ (X.cc f)++[[49],[94]] else if op=[62,61] then [[60],[49],[94]] else if op=[61,61] then [[94],[49],[60]] else [op])) (hc:X.C.Code i ws) :
  qaq X.C (λr s' m'=>X.Vw s' (i+ws.length) (r::d) c m') (wB op:Int) 0 m s (match binI op a b with
   |some r=>.ok r s
   |none=>.stop 12 s):=by
 have hd2:d.length+2<=256:=by omega
 have simple:∀ ch:UInt8,op=[ch]->isOp ch->(ws=[op])->binI op a b=binM ch.toNat a b->qaq X.C (λr s' m'=>X.Vw s' (i+ws.length) (r::d) c m') (wB op:Int) 0 m s (match binI op a b with
   |some r=>.ok r s
   |none=>.stop 12 s):=by
  intro ch e1 e2 e3 e4;subst e3;obtain⟨w0,_⟩:=hc.cons;rw[e1] at w0;rw[e4]
  cases hv:binM ch.toNat a b with
  |some r=>
   obtain⟨m1,t1,v1,_⟩:=v.op w0 e2 hv (by omega);have:=qyr op
   exact qaq.pre t1 (qaq.ok (c:=0) (d := -1) v1 (Int.le_refl 0)) (by omega) (by omega)
  |none=>exact qaq.trap (by omega) (.inr rfl) (by rw[<-v.rel.out];exact PW.opTrap v.here e2 w0 v.data hv)
 simp only[qeO,zMi,not_mem_nil,or_false] at hop;rcases hop with rfl|rfl|rfl|rfl|rfl|rfl|rfl|rfl|rfl|rfl|rfl|rfl|rfl|rfl;exact absurd rfl h3;exact absurd rfl h2
 ·-- ==
  have hw:ws=[[94],[49],[60]]:=hw;subst hw;obtain⟨w0,hc⟩:=hc.cons;obtain⟨w1,hc⟩:=hc.cons;obtain⟨w2,hc⟩:=hc.cons;obtain⟨m1,t1,v1,_⟩:=v.op (x:=a ^^^ b) w0 (by unfold isOp;simp) rfl (by omega);obtain⟨m2,t2,v2,_⟩:=v1.dig (n:=1) w1 zDd rfl (by simp only[zLc];omega)
  obtain⟨m3,t3,v3,_⟩:=v2.op (x:=b2n (decide (a=b))) w2 (by unfold isOp;simp) (by
   unfold binM;simp only[xor_zero];unfold b2n
   simp) (by omega)
  have:wB [61,61]=4:=rfl;exact qaq.pre (t1.trans (t2.trans t3)) (qaq.ok (c:=0) (d := -4) v3 (Int.le_refl 0)) (by omega) (by omega)
 exact absurd rfl h1
 ·exact simple 60 rfl (by unfold isOp;simp) hw (by unfold binM;rw[if_neg zDd,if_neg zDd,if_neg zDd,if_neg zDd,if_neg zDd,if_neg zDd,qem];try rfl)
 ·-- >
  have hw:ws=qaZ (X.cc f):=hw;subst hw;obtain⟨m1,t1,v1⟩:=v.greater hX hf hc (by rcases hd with h|h;omega;exact absurd rfl h.2.1);have:wB [62]=33:=rfl;exact qaq.pre t1 (qaq.ok (c:=0) (d := -33) v1 (Int.le_refl 0)) (by omega) (by omega)
 ·-- <=
  have hw:ws=qaZ (X.cc f)++[[49],[94]]:=hw;subst hw;obtain⟨hc1,hc2⟩:=hc.app;obtain⟨m1,t1,v1⟩:=v.greater hX hf hc1 (by rcases hd with h|h;omega;exact absurd rfl h.2.2);have hl:(qaZ (X.cc f)).length=9:=rfl;rw[hl] at hc2;obtain⟨w1,hc2⟩:=hc2.cons;obtain⟨w2,hc2⟩:=hc2.cons;obtain⟨m2,t2,v2,_⟩:=v1.dig (n:=1) w1 zDd rfl (by simp only[zLc];omega)
  obtain⟨m3,t3,v3,_⟩:=v2.op (x:=b2n (decide (a<=b))) w2 (by unfold isOp;simp) (by
   unfold binM b2n
   by_cases h:b<a
   simp[h,show ¬ a<=b by omega]
   simp[h,show a<=b by omega]) (by omega)
  have:wB [60,61]=36:=rfl
  exact qaq.pre (t1.trans (t2.trans t3)) (qaq.ok (c:=0) (d := -36) (by
   have:i+9+1+1=i+(qaZ (X.cc f)++[[49],[94]]).length:=rfl
   exact v3.cast this) (Int.le_refl 0)) (by omega) (by omega)
 ·-- >=
  have hw:ws=[[60],[49],[94]]:=hw;subst hw;obtain⟨w0,hc⟩:=hc.cons;obtain⟨w1,hc⟩:=hc.cons;obtain⟨w2,hc⟩:=hc.cons;obtain⟨m1,t1,v1,_⟩:=v.op (x:=b2n (decide (a<b))) w0 (by unfold isOp;simp) (by unfold binM;rw[if_neg zDd,if_neg zDd,if_neg zDd,if_neg zDd,if_neg zDd,if_neg zDd,qem]) (by omega);obtain⟨m2,t2,v2,_⟩:=v1.dig (n:=1) w1 zDd rfl (by simp only[zLc];omega)
  obtain⟨m3,t3,v3,_⟩:=v2.op (x:=b2n (decide (b<=a))) w2 (by unfold isOp;simp) (by
   unfold binM b2n
   by_cases h:a<b
   simp[h,show ¬ b<=a by omega]
   simp[h,show b<=a by omega]) (by omega)
  have:wB [62,61]=4:=rfl;exact qaq.pre (t1.trans (t2.trans t3)) (qaq.ok (c:=0) (d := -4) v3 (Int.le_refl 0)) (by omega) (by omega)
 exact simple 94 rfl (by unfold isOp;simp) hw rfl;exact simple 43 rfl (by unfold isOp;simp) hw rfl;exact simple 45 rfl (by unfold isOp;simp) hw rfl;exact simple 42 rfl (by unfold isOp;simp) hw rfl;exact simple 47 rfl (by unfold isOp;simp) hw (by unfold binM binI;by_cases h:b=0 <;> simp[h]);exact simple 37 rfl (by unfold isOp;simp) hw (by unfold binM binI;by_cases h:b=0 <;> simp[h])
end
section
variable{X:Trn}{n:Nat}
theorem qwS(hX:TrnOk X)(hE:EvOk X n)(hC:qv9 X n):EvOk X (n+1):=by
 intro f hf e i s m d c hn he hc v hd hdep;obtain⟨op,num,name,args⟩:=e;rw[errE] at he;split at he
 case isFalse=>cases he
 rename_i hop
 obtain⟨he1,he2⟩:=qah.1 he;rw[evC];refine qaq.tick v.rel.out λhleft=>?_;have v:=v.steps (s.left-wE op num name args.length);generalize { s with left:=s.left-wE op num name args.length }=s1 at v ⊢;clear hleft;obtain⟨hnum,hn⟩:=hn;rw[exW] at hc ⊢;rw[qbb] at hd;rw[depE] at hdep;have hdep2:c.length+qbZ (X.cenv f) args<=64:=by omega
 by_cases h1:op=nNum
 ·subst h1
  have ha:args=[]:=eq_nil_of_length_eq_zero (by
   have e:qbv nNum=0:=rfl;rw[e] at hop
   omega)
  subst ha;have hr:((mapR (evC X.P n f) [] s1).bind λvs s=>opI X.P (stC X.P n) f nNum num name vs s)=.ok num s1:=rfl;rw[hr];have hw:opW (X.cc f) nNum num name (exWl (X.cc f) [])=[decDigits num]:=by rw[exWl];try rfl
  rw[hw] at hc ⊢;obtain⟨w0,_⟩:=hc.cons
  have hroom:d.length<256:=by
   have:opN (X.cenv f) nNum name (qaY (X.cenv f) [])=1:=rfl;omega
  have hq:wE nNum num name ([]:List Ex).length=wN num:=rfl;rw[hq];obtain⟨m1,t1,v1,_⟩:=v.num (k:=wN num) w0 hnum (wN_le hnum) hroom;exact qaq.pre t1 (qaq.ok (c:=0) (d:=0) v1 (Int.le_refl 0)) (by omega) (by omega)
 by_cases h2:op=nVar
 ·subst h2
  have ha:args=[]:=eq_nil_of_length_eq_zero (by
   have e:qbv nVar=0:=rfl;rw[e] at hop
   omega)
  subst ha;have hr:((mapR (evC X.P n f) [] s1).bind λvs s=>opI X.P (stC X.P n) f nVar num name vs s)=.ok (s1.sc (keyI f name)) s1:=rfl;rw[hr];have he3:qcd (X.cenv f) name=0:=he2;obtain⟨a1,a2⟩:=hX.sc f hf name he3;have hw:opW (X.cc f) nVar num name (exWl (X.cc f) [])=[(X.cc f).sc name,[64]]:=by rw[exWl];try rfl
  rw[hw,a1] at hc;rw[hw];obtain⟨w0,hc⟩:=hc.cons;obtain⟨w1,hc⟩:=hc.cons
  have hroom:d.length<256:=by
   have:opN (X.cenv f) nVar name (qaY (X.cenv f) [])=1:=rfl;omega
  have hlow:=hX.low _ (.inl ⟨_,a2,rfl⟩);obtain⟨m1,t1,v1,e1⟩:=v.addr w0 (by omega) hroom;obtain⟨m2,t2,v2,e2⟩:=v1.load w1 (hX.dat _ (.inl ⟨_,a2,rfl⟩)) hroom;rw[e1,v.rel.sc _ a2] at v2;have hq:wE nVar num name ([]:List Ex).length=8:=rfl;rw[hq];exact qaq.pre (t1.trans t2) (qaq.ok (c:=0) (d:=0) v2 (Int.le_refl 0)) (by omega) (by omega)
 by_cases h3:op=qec
 ·subst h3
  obtain⟨x,rfl⟩:∃ x,args=[x]:=List.length_eq_one_iff.1 (by
   have e:qbv qec=1:=rfl;rw[e] at hop
   omega)
  rw[qhI,qez];have he3:qeS (X.cenv f) name=0:=he2;obtain⟨a1,A,hA,rfl⟩:=hX.ar f hf name he3;have hw:opW (X.cc f) qec num A.name (exWl (X.cc f) [x])=(X.cc f).ar A.name::(exW (X.cc f) x++[[43],[64]]):=by rw[exWl];try rfl
  rw[hw,a1] at hc;rw[hw];obtain⟨w0,hc⟩:=hc.cons;obtain⟨hcx,hc⟩:=hc.app;obtain⟨w1,hc⟩:=hc.cons;obtain⟨w2,hc⟩:=hc.cons;have hneed:d.length+(1+qbb (X.cenv f) x)<=256:=hd;rw[qbr] at he1;rw[qbZ] at hdep2;have hbase:∀ j,j<A.size->X.aa A.name+j<262144:=λj hj=>hX.low _ (.inr (.inr ⟨A,hA,j,hj,rfl⟩));have haa:X.aa A.name<1000000:=hX.arLow A hA;obtain⟨m1,t1,v1,e1⟩:=v.addr w0 haa (by omega);have hq:wE qec num A.name [x].length=9:=rfl;rw[hq];refine qaq.pre t1 (c1:=2) (d1:=2) ?_ (by omega) (by omega);refine qaq.bind (c2:=2) (d2:=2) (hE f hf x (i+1) s1 m1 (X.aa A.name::d) c hn.1 (qah.1 he1).1 hcx v1 (by rw[zLc];omega) (by omega)) (by omega) (by omega) (by omega) λa s' m' va=>?_
  show qaq X.C _ 2 2 m' s' (match (s'.ar A.name)[a]? with
   |some v=>.ok v s'
   |none=>.stop 2 s')
  cases hg:(s'.ar A.name)[a]? with
  |none=>exact qaq.other zDd
  |some r=>
   obtain⟨hlt,hr⟩:=List.getElem?_eq_some_iff.1 hg;obtain⟨b1,b2⟩:=va.rel.ar A hA;have hb:=hbase a (by omega)
   obtain⟨m2,t2,v2,e2⟩:=va.op (x:=X.aa A.name+a) w1 (by unfold isOp;simp) (by
    show some ((X.aa A.name+a) % 4294967296)=_
    rw[mod_eq_of_lt (by omega)]) (by omega)
   obtain⟨m3,t3,v3,e3⟩:=v2.load w2 (hX.dat _ (.inr (.inr ⟨A,hA,a,by omega,rfl⟩))) (by omega);rw[e2,b2 a hlt,hr] at v3;refine qaq.pre (t2.trans t3) (qaq.ok (c:=0) (d:=0) (v3.cast ?_) (Int.le_refl 0)) (by omega) (by omega);simp only[zLc,zLa,zLn];omega
 by_cases h4:op=nNeg
 ·subst h4
  obtain⟨x,rfl⟩:∃ x,args=[x]:=List.length_eq_one_iff.1 (by
   have e:qbv nNeg=1:=rfl;rw[e] at hop
   omega)
  rw[qhI,qez];have hw:opW (X.cc f) nNeg num name (exWl (X.cc f) [x])=[48]::(exW (X.cc f) x++[[45]]):=by rw[exWl];try rfl
  rw[hw] at hc ⊢;obtain⟨w0,hc⟩:=hc.cons;obtain⟨hcx,hc⟩:=hc.app;obtain⟨w1,hc⟩:=hc.cons;have hneed:d.length+(1+qbb (X.cenv f) x)<=256:=hd;rw[qbr] at he1;rw[qbZ] at hdep2;obtain⟨m1,t1,v1,e1⟩:=v.dig (n:=0) w0 zDd rfl (by omega);have hq:wE nNeg num name [x].length=3:=rfl;rw[hq];refine qaq.pre t1 (c1:=1) (d1:=1) ?_ (by omega) (by omega);refine qaq.bind (c2:=1) (d2:=1) (hE f hf x (i+1) s1 m1 (0::d) c hn.1 (qah.1 he1).1 hcx v1 (by rw[zLc];omega) (by omega)) (by omega) (by omega) (by omega) λa s' m' va=>?_;show qaq X.C _ 1 1 m' s' (.ok ((4294967296-a) % 4294967296) s')
  obtain⟨m2,t2,v2,e2⟩:=va.op (x:=(4294967296-a) % 4294967296) w1 (by unfold isOp;simp) (by
   show some ((0+4294967296-a) % 4294967296)=_
   rw[zero_add]) (by omega)
  refine qaq.pre t2 (qaq.ok (c:=0) (d:=0) (v2.cast ?_) (Int.le_refl 0)) (by omega) (by omega);simp only[zLc,zLa,zLn];omega
 by_cases h5:op=nNot
 ·subst h5
  obtain⟨x,rfl⟩:∃ x,args=[x]:=List.length_eq_one_iff.1 (by
   have e:qbv nNot=1:=rfl;rw[e] at hop
   omega)
  rw[qhI,qez];have hw:opW (X.cc f) nNot num name (exWl (X.cc f) [x])=exW (X.cc f) x++[[49],[60]]:=by rw[exWl];try rfl
  rw[hw] at hc ⊢;obtain⟨hcx,hc⟩:=hc.app;obtain⟨w0,hc⟩:=hc.cons;obtain⟨w1,hc⟩:=hc.cons;have hneed:d.length+max 2 (qbb (X.cenv f) x)<=256:=hd;rw[qbr] at he1;rw[qbZ] at hdep2;have hq:wE nNot num name [x].length=3:=rfl;rw[hq];refine qaq.bind (c2:=3) (d2:=3) (hE f hf x i s1 m d c hn.1 (qah.1 he1).1 hcx v (by omega) (by omega)) (by omega) (by omega) (by omega) λa s' m' va=>?_;show qaq X.C _ 3 3 m' s' (.ok (b2n (decide (a=0))) s');obtain⟨m1,t1,v1,e1⟩:=va.dig (n:=1) w0 zDd rfl (by simp only[zLc];omega)
  obtain⟨m2,t2,v2,e2⟩:=v1.op (x:=b2n (decide (a=0))) w1 (by unfold isOp;simp) (by
   show some (if a<1 then 1 else 0)=_;rw[qem];congr 3
   exact propext ⟨λh=>by omega,λh=>by omega⟩) (by omega)
  refine qaq.pre (t1.trans t2) (qaq.ok (c:=0) (d:=0) (v2.cast ?_) (Int.le_refl 0)) (by omega) (by omega);simp only[zLc,zLa,zLn];omega
 by_cases h6:op=qbN
 ·subst h6;have hneed:d.length+qiW (X.cenv f) name (qaY (X.cenv f) args)<=256:=hd;have hw:opW (X.cc f) qbN num name (exWl (X.cc f) args)=(exWl (X.cc f) args).flatten++(if name=[105,110] then [[44]] else if name=[111,117,116] then [[46],[48]] else [[38,102,95]++name,[58]]):=rfl;have he3:callE (X.cenv f) name args.length=0:=he2;have hop2:∀ vs s,opI X.P (stC X.P n) f qbN num name vs s=qim X.P (stC X.P n) name vs s:=λvs s=>rfl;rw[hw] at hc ⊢;obtain⟨hca,hc⟩:=hc.app
  by_cases k1:name=[105,110]
  subst k1;rw[if_pos rfl] at hc ⊢
  have ha:args=[]:=eq_nil_of_length_eq_zero (by
   unfold callE at he3;rw[if_pos rfl] at he3;split at he3
   assumption
   cases he3)
  subst ha;rw[exWl] at hc ⊢;obtain⟨w0,_⟩:=hc.cons
  have hroom:d.length<256:=by
   have:qiW (X.cenv f) [105,110] (qaY (X.cenv f) [])=1:=rfl;omega
  obtain⟨m1,t1,v1⟩:=v.read w0 hroom
  have hr:((mapR (evC X.P n f) [] s1).bind λvs s=>opI X.P (stC X.P n) f qbN num [105,110] vs s)=.ok (s1.inp.headD 4294967295) { s1 with inp:=s1.inp.tail }:=by
   show qim X.P (stC X.P n) [105,110] [] s1=_;unfold qim;rw[if_pos rfl]
   cases hi:s1.inp with
   |nil=>simp only[List.headD_nil,List.tail_nil];congr 1;cases s1;simp only at hi;subst hi;rfl
   |cons a r=>rfl
  rw[hr];have hq:wE qbN num [105,110] ([]:List Ex).length=1:=rfl;rw[hq];refine qaq.pre (s:=s1) t1 (c1:=0) (d1:=0) ?_ (by omega) (by omega);exact⟨zNr _,0,m1,by simp,.zero _,v1⟩
  by_cases k2:name=[111,117,116]
  subst k2;rw[if_neg zDd,if_pos rfl] at hc ⊢
  obtain⟨x,rfl⟩:∃ x,args=[x]:=List.length_eq_one_iff.1 (by
   unfold callE at he3;rw[if_neg zDd,if_pos rfl] at he3;split at he3
   assumption
   cases he3)
  rw[qhI,qez];have hfl:(exWl (X.cc f) [x]).flatten=exW (X.cc f) x:=by rw[exWl,exWl];simp
  rw[hfl] at hc hca ⊢;obtain⟨w0,hc⟩:=hc.cons;obtain⟨w1,_⟩:=hc.cons;have hneed2:d.length+qbb (X.cenv f) x<=256:=hneed;have hpos:1<=qbb (X.cenv f) x:=qga _ _ (qah.1 (by rw[qbr] at he1;exact he1)).1;rw[qbr] at he1;rw[qbZ] at hdep2;have hq:wE qbN num [111,117,116] [x].length=3:=rfl;rw[hq];refine qaq.bind (c2:=3) (d2:=3) (hE f hf x i s1 m d c hn.1 (qah.1 he1).1 hca v (by omega) (by omega)) (by omega) (by omega) (by omega) λa s' m' va=>?_;show qaq X.C _ 3 3 m' s' (.ok 0 { s' with out:=s'.out++[UInt8.ofNat a] })
  obtain⟨m1,t1,v1⟩:=va.write w0;obtain⟨m2,t2,v2,_⟩:=v1.dig (n:=0) w1 zDd rfl (by omega);refine qaq.pre (s:=s') (t1.trans t2) (c1:=0) (d1:=0) ?_ (by omega) (by omega);refine⟨zNr _,0,m2,by simp,.zero _,v2.cast ?_⟩;simp only[zLc,zLa,zLn];omega;rw[if_neg k1,if_neg k2] at hc ⊢
  have hcn:qiW (X.cenv f) name (qaY (X.cenv f) args)=match (X.cenv f).fn name with
    |some g=>qhQ 0 (qaY (X.cenv f) args) (max (g.params+1) g.need)
    |none=>0:=by unfold qiW;rw[if_neg k1,if_neg k2];try rfl
  have hcd:qgp (X.cenv f) qbN name=match (X.cenv f).fn name with
    |some g=>g.depth+1
    |none=>0:=by unfold qgp;rw[if_pos ⟨rfl,k1,k2⟩];try rfl
  obtain⟨g,hg⟩:∃ g,(X.cenv f).fn name=some g:=by
   cases hq:(X.cenv f).fn name with
   |some g=>exact⟨g,rfl⟩
   |none=>
    unfold callE at he3;rw[if_neg k1,if_neg k2,hq] at he3;simp only at he3;split at he3 <;> cases he3
  rw[hg] at hcn hcd;simp only at hcn hcd;obtain⟨q1,q2⟩:=qmz (qaY (X.cenv f) args) 0 (max (g.params+1) g.need) (256-d.length) (by omega);obtain⟨r1,r2⟩:=qlc (X.cenv f) args
  have hq:wE qbN num name args.length=8 * args.length+11:=by
   show(if name=[105,110] then 1 else if name=[111,117,116] then 3 else 8 * args.length+11)=_;rw[if_neg k1,if_neg k2]
  rw[hq];refine qaq.bind (c2:=8 * args.length+11) (d2:=8 * args.length+11) (qtH hE hf args i s1 m d c hn he1 hca v (λk hk=>?_) hdep2) (by omega) (by omega) (by omega) λvs s' m' hv=>?_;have:=q2 k (by omega);rw[r2 k hk (by omega)] at this;have hdl:d.length<=256:=by omega
  omega;rw[hop2];obtain⟨hv1,hv2⟩:=hv;rw[<-hv1]
  have:=hC f hf name vs _ s' m' d c k1 k2 (by rw[hv1];exact he3) hc hv2 (λg' hg'=>by
   rw[hg] at hg';cases hg';have hdl:d.length<=256:=by omega
   exact⟨by omega,by omega⟩)
  refine qaq.post (a:=0) this (by omega) (Int.le_refl _) λr s2 m2 h=>⟨m2,.refl _,h.cast ?_⟩;rw[zLa];simp only[zLc,zLn];omega
 have hop2:qbv op=2/\args.length=2:=by
  unfold qbv at hop ⊢;simp only[h1,h2,h3,h4,h5,h6,or_self,if_false] at hop ⊢;split at hop
  rename_i hb
  exact⟨if_pos hb,by rcases hop with h|h <;> omega⟩;rcases hop with h|h <;> omega
 obtain⟨hbin,_⟩:=qpM hop2.1
 obtain⟨x,y,rfl⟩:∃ x y,args=[x,y]:=by
  have h:=hop2.2
  match args,h with
  |[x,y],_=>exact⟨x,y,rfl⟩
 rw[qu7,qez];simp only[qez]
 have hcont:∀ a b s,(IR.ok [a,b] s).bind (λvs s=>opI X.P (stC X.P n) f op num name vs s)=match binI op a b with
   |some r=>.ok r s
   |none=>.stop 12 s:=λa b s=>qwQ X.P (stC X.P n) f hbin num name a b s
 simp only[hcont];have hnx:=hn.1;have hny:=hn.2.1;rw[qbr,qbr] at he1;obtain⟨he1,he3⟩:=qah.1 he1;obtain⟨he3,_⟩:=qah.1 he3;rw[qbZ,qbZ] at hdep2;have hwl:exWl (X.cc f) [x,y]=[exW (X.cc f) x,exW (X.cc f) y]:=by rw[exWl,exWl,exWl]
 have hnl:qaY (X.cenv f) [x,y]=[qbb (X.cenv f) x,qbb (X.cenv f) y]:=by rw[qaY,qaY,qaY]
 rw[hwl] at hc ⊢;rw[hnl] at hd
 by_cases b1:op=[33,61]
 subst b1;have hw:opW (X.cc f) [33,61] num name [exW (X.cc f) x,exW (X.cc f) y]=[48]::(exW (X.cc f) x++exW (X.cc f) y++[[94],[60]]):=rfl;rw[hw] at hc ⊢;have hneed:d.length+max (max 3 (1+qbb (X.cenv f) x)) (2+qbb (X.cenv f) y)<=256:=hd;obtain⟨w0,hc⟩:=hc.cons;obtain⟨hc,hc3⟩:=hc.app;obtain⟨hc1,hc2⟩:=hc.app;obtain⟨w1,hc3⟩:=hc3.cons;obtain⟨w2,_⟩:=hc3.cons;obtain⟨m1,t1,v1,e1⟩:=v.dig (n:=0) w0 zDd rfl (by omega);have hq:wE [33,61] num name [x,y].length=4:=rfl;rw[hq];refine qaq.pre t1 (c1:=2) (d1:=2) ?_ (by omega) (by omega);refine qaq.bind (c2:=2) (d2:=2) (hE f hf x (i+1) s1 m1 (0::d) c hnx he1 hc1 v1 (by rw[zLc];omega) (by omega)) (by omega) (by omega) (by omega) λa s' m' va=>?_;refine qaq.bind (c2:=2) (d2:=2) (hE f hf y _ s' m' (a::0::d) c hny he3 hc2 va (by rw[zLc,zLc];omega) (by omega)) (by omega) (by omega) (by omega) λb s2 m2 vb=>?_;rw[zLa,<-add_assoc] at w1 w2;obtain⟨m3,t3,v3,_⟩:=vb.op (x:=a ^^^ b) w1 (by unfold isOp;simp) rfl (by simp only[zLc];omega)
 obtain⟨m4,t4,v4,_⟩:=v3.op (x:=b2n (decide (a≠b))) w2 (by unfold isOp;simp) (by
  show some (if 0<a ^^^ b then 1 else 0)=_;rw[qem];congr 3;refine propext ⟨λh e=>?_,λh=>?_⟩;have:=xor_zero.2 e;omega
  have:=mt xor_zero.1 h;omega) (by omega)
 refine qaq.pre (t3.trans t4) (qaq.ok (c:=0) (d:=0) (v4.cast ?_) (Int.le_refl 0)) (by omega) (by omega);simp only[zLc,zLa,zLn];omega
 by_cases b2:op=[38,38]
 subst b2;have hw:opW (X.cc f) [38,38] num name [exW (X.cc f) x,exW (X.cc f) y]=[48]::(exW (X.cc f) x++[[60],[48]]++exW (X.cc f) y++[[60],[42]]):=rfl;rw[hw] at hc ⊢;have hneed:d.length+max (1+qbb (X.cenv f) x) (2+qbb (X.cenv f) y)<=256:=hd;have hpx:=qga _ _ he1;have hpy:=qga _ _ he3;obtain⟨w0,hc⟩:=hc.cons;obtain⟨hc,hc4⟩:=hc.app;obtain⟨hc,hc3⟩:=hc.app;obtain⟨hc1,hc2⟩:=hc.app;obtain⟨w1,hc2⟩:=hc2.cons;obtain⟨w2,_⟩:=hc2.cons;obtain⟨w3,hc4⟩:=hc4.cons;obtain⟨w4,_⟩:=hc4.cons;obtain⟨m1,t1,v1,e1⟩:=v.dig (n:=0) w0 zDd rfl (by omega);have hq:wE [38,38] num name [x,y].length=7:=rfl;rw[hq];refine qaq.pre t1 (c1:=5) (d1:=5) ?_ (by omega) (by omega);refine qaq.bind (c2:=5) (d2:=5) (hE f hf x (i+1) s1 m1 (0::d) c hnx he1 hc1 v1 (by rw[zLc];omega) (by omega)) (by omega) (by omega) (by omega) λa s' m' va=>?_
 obtain⟨m2,t2,v2,_⟩:=va.op (x:=b2n (decide (0<a))) w1 (by unfold isOp;simp) (by
  show some (if 0<a then 1 else 0)=_
  rw[qem]) (by omega)
 obtain⟨m3,t3,v3,_⟩:=v2.dig (n:=0) w2 zDd rfl (by simp only[zLc];omega);refine qaq.pre (t2.trans t3) (c1:=2) (d1:=2) ?_ (by omega) (by omega)
 refine qaq.bind (c2:=2) (d2:=2) (hE f hf y _ s' m3 (0::b2n (decide (0<a))::d) c hny he3 (by
  rw[zLa,<-add_assoc] at hc3
  exact hc3) v3 (by rw[zLc,zLc];omega) (by omega)) (by omega) (by omega) (by omega) λb s2 m4 vb=>?_
 have w3':X.C.W[i+1+(exW (X.cc f) x).length+1+1+(exW (X.cc f) y).length]? = some [60]:=by
  rw[<-w3];congr 1;simp only[zLa,zLc,zLn];omega
 have w4':X.C.W[i+1+(exW (X.cc f) x).length+1+1+(exW (X.cc f) y).length+1]? = some [42]:=by
  rw[<-w4];congr 1;simp only[zLa,zLc,zLn];omega
 obtain⟨m5,t5,v5,_⟩:=vb.op (x:=b2n (decide (0<b))) w3' (by unfold isOp;simp) (by
  show some (if 0<b then 1 else 0)=_
  rw[qem]) (by simp only[zLc];omega)
 obtain⟨m6,t6,v6,_⟩:=v5.op (x:=b2n (decide (a≠0/\b≠0))) w4' (by unfold isOp;simp) (by
  show some (b2n (decide (0<a)) * b2n (decide (0<b)) % 4294967296)=_;congr 1;unfold b2n
  by_cases ha:0<a <;> by_cases hb:0<b <;> simp[ha,hb,Nat.pos_iff_ne_zero.1,show a=0 ↔ ¬ 0<a by omega,show b=0 ↔ ¬ 0<b by omega]) (by omega)
 refine qaq.pre (t5.trans t6) (qaq.ok (c:=0) (d:=0) (v6.cast ?_) (Int.le_refl 0)) (by omega) (by omega);simp only[zLc,zLa,zLn];omega
 by_cases b3:op=[124,124]
 subst b3;have hw:opW (X.cc f) [124,124] num name [exW (X.cc f) x,exW (X.cc f) y]=[48]::[48]::(exW (X.cc f) x++[[60],[48]]++exW (X.cc f) y++[[60],[43],[60]]):=rfl;rw[hw] at hc ⊢;have hneed:d.length+max (2+qbb (X.cenv f) x) (3+qbb (X.cenv f) y)<=256:=hd;have hpx:=qga _ _ he1;have hpy:=qga _ _ he3;obtain⟨w0,hc⟩:=hc.cons;obtain⟨w00,hc⟩:=hc.cons;obtain⟨hc,hc4⟩:=hc.app;obtain⟨hc,hc3⟩:=hc.app;obtain⟨hc1,hc2⟩:=hc.app;obtain⟨w1,hc2⟩:=hc2.cons;obtain⟨w2,_⟩:=hc2.cons;obtain⟨w3,hc4⟩:=hc4.cons;obtain⟨w4,hc4⟩:=hc4.cons;obtain⟨w5,_⟩:=hc4.cons;obtain⟨m0,t0,v0,e0⟩:=v.dig (n:=0) w0 zDd rfl (by omega);obtain⟨m1,t1,v1,e1⟩:=v0.dig (n:=0) w00 zDd rfl (by simp only[zLc];omega);have hq:wE [124,124] num name [x,y].length=10:=rfl;rw[hq];refine qaq.pre (t0.trans t1) (c1:=6) (d1:=6) ?_ (by omega) (by omega);refine qaq.bind (c2:=6) (d2:=6) (hE f hf x (i+1+1) s1 m1 (0::0::d) c hnx he1 hc1 v1 (by rw[zLc,zLc];omega) (by omega)) (by omega) (by omega) (by omega) λa s' m' va=>?_
 obtain⟨m2,t2,v2,_⟩:=va.op (x:=b2n (decide (0<a))) w1 (by unfold isOp;simp) (by
  show some (if 0<a then 1 else 0)=_
  rw[qem]) (by simp only[zLc];omega)
 obtain⟨m3,t3,v3,_⟩:=v2.dig (n:=0) w2 zDd rfl (by simp only[zLc];omega);refine qaq.pre (t2.trans t3) (c1:=3) (d1:=3) ?_ (by omega) (by omega)
 refine qaq.bind (c2:=3) (d2:=3) (hE f hf y _ s' m3 (0::b2n (decide (0<a))::0::d) c hny he3 (by
  rw[zLa,<-add_assoc] at hc3
  exact hc3) v3 (by rw[zLc,zLc,zLc];omega) (by omega)) (by omega) (by omega) (by omega) λb s2 m4 vb=>?_
 have w3':X.C.W[i+1+1+(exW (X.cc f) x).length+1+1+(exW (X.cc f) y).length]? = some [60]:=by
  rw[<-w3];congr 1;simp only[zLa,zLc,zLn];omega
 have w4':X.C.W[i+1+1+(exW (X.cc f) x).length+1+1+(exW (X.cc f) y).length+1]? = some [43]:=by
  rw[<-w4];congr 1;simp only[zLa,zLc,zLn];omega
 have w5':X.C.W[i+1+1+(exW (X.cc f) x).length+1+1+(exW (X.cc f) y).length+1+1]? = some [60]:=by
  rw[<-w5];congr 1;simp only[zLa,zLc,zLn];omega
 obtain⟨m5,t5,v5,_⟩:=vb.op (x:=b2n (decide (0<b))) w3' (by unfold isOp;simp) (by
  show some (if 0<b then 1 else 0)=_
  rw[qem]) (by simp only[zLc];omega)
 obtain⟨m6,t6,v6,_⟩:=v5.op (x:=b2n (decide (0<a))+b2n (decide (0<b))) w4' (by unfold isOp;simp) (by
  show some ((b2n (decide (0<a))+b2n (decide (0<b))) % 4294967296)=_;have h1:=qvK (decide (0<a));have h2:=qvK (decide (0<b))
  rw[mod_eq_of_lt (by omega)]) (by simp only[zLc];omega)
 obtain⟨m7,t7,v7,_⟩:=v6.op (x:=b2n (decide (a≠0∨b≠0))) w5' (by unfold isOp;simp) (by
  show some (if 0<b2n (decide (0<a))+b2n (decide (0<b)) then 1 else 0)=_;congr 1;unfold b2n
  by_cases ha:0<a <;> by_cases hb:0<b <;> simp[ha,hb,show a=0 ↔ ¬ 0<a by omega,show b=0 ↔ ¬ 0<b by omega]) (by omega)
 refine qaq.pre (t5.trans (t6.trans t7)) (qaq.ok (c:=0) (d:=0) (v7.cast ?_) (Int.le_refl 0)) (by omega) (by omega);simp only[zLc,zLa,zLn];omega;obtain⟨_,o1,o2,o3,o4,o5,o6⟩:=qpM hop2.1
 have hw:opW (X.cc f) op num name [exW (X.cc f) x,exW (X.cc f) y]=exW (X.cc f) x++exW (X.cc f) y++(if op=[62] then qaZ (X.cc f) else if op=[60,61] then qaZ (X.cc f)++[[49],[94]] else if op=[62,61] then [[60],[49],[94]] else if op=[61,61] then [[94],[49],[60]] else [op]):=by
  unfold opW;rw[if_neg o1,if_neg o2,if_neg o3,if_neg o6,if_neg o4,if_neg o5,if_neg b1,if_neg b2,if_neg b3]
  try rfl
 rw[hw] at hc ⊢;obtain⟨hc,hc3⟩:=hc.app;obtain⟨hc1,hc2⟩:=hc.app
 have hneed:d.length+(if op=[62]∨op=[60,61] then max (max 3 (qbb (X.cenv f) x)) (1+qbb (X.cenv f) y) else max (max 2 (qbb (X.cenv f) x)) (1+qbb (X.cenv f) y))<=256:=by
  have:opN (X.cenv f) op name [qbb (X.cenv f) x,qbb (X.cenv f) y]=(if op=[62]∨op=[60,61] then max (max 3 (qbb (X.cenv f) x)) (1+qbb (X.cenv f) y) else max (max 2 (qbb (X.cenv f) x)) (1+qbb (X.cenv f) y)):=by
   unfold opN;rw[if_neg (by rintro(h|h);exact o1 h;exact o2 h),if_neg (by rintro(h|h);exact o3 h;exact o4 h),if_neg o6,if_neg o5,if_neg b1,if_neg b2,if_neg b3]
   try rfl
  rw[this] at hd;exact hd
 have hdx:d.length+qbb (X.cenv f) x<=256/\d.length+1+qbb (X.cenv f) y<=256/\(d.length+3<=256∨(d.length+2<=256/\op≠[62]/\op≠[60,61])):=by
  split at hneed;exact⟨by omega,by omega,.inl (by omega)⟩
  rename_i h
  exact⟨by omega,by omega,.inr ⟨by omega,λe=>h (.inl e),λe=>h (.inr e)⟩⟩
 have hq:wE op num name [x,y].length=wB op:=by
  unfold wE wB;rw[if_neg o1,if_neg o2,if_neg o3,if_neg o4,if_neg o5,if_neg o6];split <;> try rfl
 rw[hq];refine qaq.bind (c2:=(wB op:Int)) (d2:=(wB op:Int)) (hE f hf x i s1 m d c hnx he1 hc1 v hdx.1 (by omega)) (by omega) (by omega) (by omega) λa s' m' va=>?_;refine qaq.bind (c2:=(wB op:Int)) (d2:=0) (hE f hf y _ s' m' (a::d) c hny he3 hc2 va (by rw[zLc];omega) (by omega)) (by omega) (by omega) (by omega) λb s2 m2 vb=>?_;rw[zLa,<-add_assoc] at hc3;refine qaq.post (a:=0) (qxS hX hf hbin b1 b2 b3 vb hdx.2.2 rfl hc3) (by omega) (Int.le_refl _) λr s3 m3 h=>⟨m3,.refl _,h.cast ?_⟩;rw[zLa,zLa];omega
end
def StOk(X:Trn)(n:Nat):Prop:=∀ f∈X.P.funcs,∀ st i nl s m d t rest,numS st->errS (X.cenv f) st=0->X.C.Code i (stW (X.cc f) nl st).1->X.Vw s i d (t::rest) m->d.length+qkH (X.cenv f) st<=256->rest.length+1+depS (X.cenv f) st<=64 ->
 qaq X.C (StQ X (i+(stW (X.cc f) nl st).1.length) d t rest) 0 0 m s (stC X.P n f st s)
section
variable{X:Trn}{n:Nat}
theorem qjn(hS:StOk X n){f:FnD}(hf:f∈X.P.funcs):∀ (l:List Sm) i nl s m d t rest,qcI l->qb0 (X.cenv f) l=0->X.C.Code i (stWs (X.cc f) nl l).1->X.Vw s i d (t::rest) m->d.length+qbM (X.cenv f) l<=256->rest.length+1+qck (X.cenv f) l<=64 ->
  qaq X.C (StQ X (i+(stWs (X.cc f) nl l).1.length) d t rest) 0 0 m s (blkR (stC X.P n f) l s)
 |[],i,nl,s,m,d,t,rest,_,_,_,v,_,_=>qaq.ok (by rw[stWs];exact v) (Int.le_refl 0)
 |a::l,i,nl,s,m,d,t,rest,hn,he,hc,v,hd,hdep=>by
  rw[qb0] at he;obtain⟨he1,he2⟩:=qah.1 he;rw[qbM] at hd;rw[qck] at hdep;rw[stWs] at hc ⊢;obtain⟨hc1,hc2⟩:=hc.app;unfold blkR;refine qaq.bind (c2:=0) (d2:=0) (hS f hf a i nl s m d t rest hn.1 he1 hc1 v (by omega) (by omega)) (by omega) (by omega) (by omega) λr s' m' h=>?_
  cases r with
  |some w=>exact qaq.ok h (Int.le_refl 0)
  |none=>
   have:=qjn hS hf l _ _ s' m' d t rest hn.2 he2 hc2 h (by omega) (by omega);rw[zLa,<-add_assoc];exact this
theorem qaq.left{A:Type}{Q:A->IS->MS->Prop}{c d:Int}{m:MS}{s s':IS}{r:IR A}(h:qaq X.C Q c d m s r)(hl:s.left=s'.left):qaq X.C Q c d m s' r:=by
 cases r with
 |ok v s2=>
  unfold qaq at h ⊢;rw[<-hl]
  exact h
 |stop e s2=>
  unfold qaq at h ⊢;rw[<-hl];exact h
theorem qwL(hX:TrnOk X)(hS:StOk X n):qv9 X n:=by
 intro f hf name vs i s m d c k1 k2 he hc v hneed
 obtain⟨g,hg⟩:∃ g,(X.cenv f).fn name=some g:=by
  cases hq:(X.cenv f).fn name with
  |some g=>exact⟨g,rfl⟩
  |none=>
   unfold callE at he;rw[if_neg k1,if_neg k2,hq] at he;simp only at he;split at he <;> cases he
 have hlen:vs.length=g.params:=by
  unfold callE at he;rw[if_neg k1,if_neg k2,hg] at he;simp only at he;split at he
  assumption
  cases he
 obtain⟨n1,n2⟩:=hneed g hg;obtain⟨a1,a2,a3,a4,a5⟩:=hX.fn f hf name g hg
 have hci:qim X.P (stC X.P n) name vs s=(blkR (stC X.P n (fnI X.P name)) (fnI X.P name).body (qe9 (fnI X.P name) (fnI X.P name).params vs s)).bind λr s=>.ok (r.getD 0) s:=by
  unfold qim;rw[if_neg k1,if_neg k2]
 rw[hci];generalize hk:fnI X.P name=k at *;obtain⟨nl,hcode⟩:=hX.code k a1;obtain⟨b1,b2⟩:=hX.body k a1;obtain⟨p1,p2⟩:=hX.par k a1;have hfd:=hX.fdef k a1;have hfr:=hX.fref k a1;rw[a2] at hfd hfr;unfold fnW at hcode;simp only at hcode;rw[a2] at hcode;obtain⟨hcode,hc4⟩:=hcode.app;obtain⟨hcode,hc3⟩:=hcode.app;obtain⟨hc1,hc2⟩:=hcode.app;obtain⟨w0,hc⟩:=hc.cons;obtain⟨w1,_⟩:=hc.cons;obtain⟨wd,_⟩:=hc1.cons;have hvl:(vs.reverse++d).length=vs.length+d.length:=by rw[zLa,length_reverse]
 have t2:=PW.call v.here w0 w1 hfr (hX.label _ _ _ wd hfd) (by rw[v.data,hvl];omega) (by rw[v.calls];omega)
 have v3:X.Vw s (X.fst k+1) (vs.reverse++d) (X.C.plc (i+1+1)::c) { m with pc:=X.C.plc (X.fst k+1),calls:=X.C.plc (i+1+1)::m.calls,digit:=false }:=
  ⟨PW.at_mk rfl,v.rel.same rfl rfl rfl rfl rfl rfl rfl,v.data,by simp only;rw[v.calls]⟩
 obtain⟨m3,t3,v4⟩:=qsV hX k.params.length k.params vs _ s d _ _ rfl (by omega) p1 p2 hc2 v3 (by omega);refine qaq.pre (t2.trans t3) (c1:=3) (d1:=3) ?_ (by omega) (by omega);have hb:=qjn hS a1 k.body _ nl _ m3 d (X.C.plc (i+1+1)) c b2 b1 hc3 (v4.cast (by simp only[zLa,zLc,zLn];omega)) (by omega) (by omega);generalize hidx:X.fst k+([[102,95]++name++[58]]++k.params.reverse.flatMap λp=>[(X.cc k).sc p,[33]]).length=i3 at hb
 have hfin:∀ s' m',X.Vw s' (i3+(stWs (X.cc k) nl k.body).1.length) d (X.C.plc (i+1+1)::c) m'->∃ m2,Stx X.C 3 m' m2/\X.Vw s' (i+2) (0::d) c m2:=by
  intro s' m' v5;obtain⟨w2,hc4⟩:=hc4.cons;obtain⟨w3,_⟩:=hc4.cons;rw[zLa,<-add_assoc,hidx] at w2 w3;obtain⟨m6,t6,v6,_⟩:=v5.dig (n:=0) w2 zDd rfl (by omega);have t7:=PW.back v6.here w3 v6.calls;exact⟨_,(t6.trans t7).mono zDd,⟨PW.at_mk rfl,v6.rel.same rfl rfl rfl rfl rfl rfl rfl,v6.data,rfl⟩⟩
 refine qaq.bind (c1:=0) (d1:=0) (c2:=3) (d2:=3) (hb.left (qk2 _ _ _ _)) (by omega) (by omega) (by omega) λr s' m' h=>?_
 cases r with
 |none=>
  obtain⟨m2,t5,v5⟩:=hfin s' m' h
  exact qaq.pre t5 (qaq.ok (c:=0) (d:=0) v5 (Int.le_refl 0)) (by omega) (by omega)
 |some w=>
  obtain⟨g1,g2,g3,g4,g5⟩:=h;exact qaq.ok ⟨PW.at_mk g1,g3,g4,g5⟩ (by omega)
theorem qwc(hX:TrnOk X)(hE:EvOk X n)(hS:StOk X n){f:FnD}(hf:f∈X.P.funcs){x:Ex}{thn:List Sm}{i0 k0 k1 nb:Nat}{d:List Nat}{t:List Wd}{rest:List (List Wd)}(hnx:numE x)(hex:errE (X.cenv f) x=0)(hnt:qcI thn)(het:qb0 (X.cenv f) thn=0)
  (hw0:X.C.W[i0]? = some (labW k0++[58])) (hcx:X.C.Code (i0+1) (exW (X.cc f) x)) (hcb:X.C.Code (i0+1+(exW (X.cc f) x).length) [38::labW k1,[63]]) (hct:X.C.Code (i0+1+(exW (X.cc f) x).length+2) (stWs (X.cc f) nb thn).1)
  (hcg:X.C.Code (i0+1+(exW (X.cc f) x).length+2+(stWs (X.cc f) nb thn).1.length) [[48],38::labW k0,[63]]) (hwe:X.C.W[i0+1+(exW (X.cc f) x).length+2+(stWs (X.cc f) nb thn).1.length+3]? = some (labW k1++[58]))
  (hdx:d.length+qbb (X.cenv f) x<=256) (hdt:d.length+qbM (X.cenv f) thn<=256) (hd2:d.length+2<=256) (hpx:rest.length+1+depE (X.cenv f) x<=64) (hpt:rest.length+1+qck (X.cenv f) thn<=64) :
  ∀ (k a:Nat) (s:IS) (m:MS),X.Vw s (i0+1+(exW (X.cc f) x).length) (a::d) (t::rest) m->qaq X.C (StQ X (i0+1+(exW (X.cc f) x).length+2+(stWs (X.cc f) nb thn).1.length+3+1) d t rest) 8 8 m s (whlC (evC X.P n f x) (blkR (stC X.P n f) thn) k a s)
 |0,a,s,m,v=>by
  unfold whlC;obtain⟨m1,t1,v1⟩:=v.branch hX hcb hwe hd2
  by_cases ha:a=0
  rw[if_pos ha] at v1 ⊢;exact qaq.pre t1 (qaq.ok (c:=0) (d:=0) v1 (Int.le_refl 0)) (by omega) (by omega);rw[if_neg ha]
  exact qaq.limit v.rel.out
 |k+1,a,s,m,v=>by
  unfold whlC;obtain⟨m1,t1,v1⟩:=v.branch hX hcb hwe hd2
  by_cases ha:a=0
  rw[if_pos ha] at v1 ⊢;exact qaq.pre t1 (qaq.ok (c:=0) (d:=0) v1 (Int.le_refl 0)) (by omega) (by omega);rw[if_neg ha] at v1 ⊢;refine qaq.pre t1 (c1:=0) (d1:=0) ?_ (by omega) (by omega);refine qaq.bind (c1:=0) (d1:=0) (c2:=0) (d2:=0) (qjn hS hf thn _ nb s m1 d t rest hnt het hct v1 (by omega) (by omega)) (by omega) (by omega) (by omega) λr s' m' h=>?_
  cases r with
  |some w=>exact qaq.ok h (by omega)
  |none=>
   have h:X.Vw s' _ d (t::rest) m':=h;refine qaq.tick h.rel.out λhleft=>?_;have h:=h.steps (s'.left-18);generalize { s' with left:=s'.left-18 }=s1 at h ⊢;obtain⟨m2,t2,v2⟩:=Trn.Vw.goto hX h hcg hw0 hd2;refine qaq.pre t2 (c1:=8) (d1:=8) ?_ (by omega) (by omega);refine qaq.bind (c1:=0) (d1:=0) (c2:=8) (d2:=8) (hE f hf x _ s1 m2 d (t::rest) hnx hex hcx v2 (by omega) (by rw[zLc];omega)) (by omega) (by omega) (by omega) λa' s2 m3 v3=>?_;exact qwc hX hE hS hf hnx hex hnt het hw0 hcx hcb hct hcg hwe hdx hdt hd2 hpx hpt k a' s2 m3 v3
theorem qwz(hX:TrnOk X)(hE:EvOk X n)(hS:StOk X n):StOk X (n+1):=by
 intro f hf st i nl s m d t rest hn he hc v hd hdep;obtain⟨kind,name,index,value,thn,els⟩:=st;rw[errS] at he;split at he;cases he
 rename_i hform
 obtain⟨ev,he⟩:=qah.1 he;obtain⟨ei,he⟩:=qah.1 he;obtain⟨eu,he⟩:=qah.1 he;obtain⟨et,ee⟩:=qah.1 he;obtain⟨ni,nv,nt,ne⟩:=hn;rw[stC];refine qaq.tick v.rel.out λhleft=>?_;have v:=v.steps (s.left-wS kind els);generalize { s with left:=s.left-wS kind els }=s1 at v ⊢;clear hleft;rw[qtY] at hc ⊢;rw[qkH] at hd;rw[depS] at hdep;unfold qbR at hform;simp only at hform
 by_cases k7:kind=7
 subst k7;rw[if_pos rfl];have hc:X.C.Code i [[36]]:=hc;obtain⟨w0,_⟩:=hc.cons;exact qaq.trap (by omega) (.inl rfl) (by rw[<-v.rel.out];exact PW.halt v.here w0);rw[if_neg k7];rw[if_neg k7] at hd
 have hval:value.length=1:=by
  by_cases q1:kind=1
  rw[if_pos q1] at hform;simp only[Bool.not_eq_false,zDe] at hform;exact hform.2.2.1;rw[if_neg q1] at hform
  by_cases q2:kind=2
  rw[if_pos q2] at hform;simp only[Bool.not_eq_false,zDe] at hform;exact hform.2.2.1;rw[if_neg q2] at hform
  by_cases q3:kind=3
  rw[if_pos q3] at hform;simp only[Bool.not_eq_false,zDe] at hform;exact hform.2.2;rw[if_neg q3] at hform
  by_cases q4:kind=4
  rw[if_pos q4] at hform;simp only[Bool.not_eq_false,zDe] at hform;exact hform.2.2.1;rw[if_neg q4] at hform
  by_cases q5:kind=5
  rw[if_pos q5] at hform;simp only[Bool.not_eq_false,zDe] at hform;exact hform.2.2.1;rw[if_neg q5] at hform
  by_cases q6:kind=6
  rw[if_pos q6] at hform;simp only[Bool.not_eq_false,zDe] at hform;exact hform.2.2.1;rw[if_neg q6,if_neg k7] at hform;exact absurd rfl hform
 obtain⟨x,rfl⟩:=qv6 hval;have hx0:([x]:List Ex).headD default=x:=rfl;simp only[hx0] at hc hd ⊢;rw[qbr] at ev;have evx:=(qah.1 ev).1;have nvx:=nv.1
 have hdx:(t::rest).length+depE (X.cenv f) x<=64:=by
  rw[qbZ] at hdep;rw[zLc];omega
 by_cases k1:kind=1
 subst k1;rw[if_pos rfl] at hc ⊢;rw[if_neg zDd,if_neg zDd] at hd;simp only at hc ⊢;obtain⟨hcx,hc⟩:=hc.app;obtain⟨w0,hc⟩:=hc.cons;obtain⟨w1,_⟩:=hc.cons;have eu:qcd (X.cenv f) name=0:=eu;obtain⟨a1,a2⟩:=hX.sc f hf name eu;rw[a1] at w0;have hlow:=hX.low _ (.inl ⟨_,a2,rfl⟩);have hq:wS 1 els=8:=rfl;rw[hq];refine qaq.bind (c1:=0) (d1:=0) (c2:=8) (d2:=8) (hE f hf x i s1 m d (t::rest) nvx evx hcx v (by omega) hdx) (by omega) (by omega) (by omega) λa s' m' va=>?_;rw[if_pos trivial];obtain⟨m1,t1,v1,_⟩:=va.addr w0 (by omega) (by simp only[zLc];omega);obtain⟨m2,t2,v2⟩:=v1.scal hX a2 w1;refine(qaq.pre (s:=qbj s' (keyI f name) a) (t1.trans t2) (qaq.ok (c:=0) (d:=0) (v:=none) (v2.cast ?_) (Int.le_refl 0)) (by omega) (by omega)).left rfl;simp only[zLa,zLc,zLn];omega
 by_cases k2:kind=2
 subst k2;rw[if_neg zDd,if_pos rfl] at hc ⊢;rw[if_pos rfl] at hd;rw[if_neg zDd,if_pos rfl] at hform;simp only[Bool.not_eq_false,zDe] at hform;obtain⟨y,rfl⟩:=qv6 hform.2.1;have hy0:([y]:List Ex).headD default=y:=rfl;simp only[hy0] at hc hd ⊢;rw[qbr] at ei;have eiy:=(qah.1 ei).1;have niy:=ni.1
 have hdy:(t::rest).length+depE (X.cenv f) y<=64:=by
  rw[qbZ,qbZ,qbZ,qbZ] at hdep;rw[zLc];omega
 obtain⟨hcx,hc⟩:=hc.app;obtain⟨w0,hc⟩:=hc.cons;obtain⟨hcy,hc⟩:=hc.app;obtain⟨w1,hc⟩:=hc.cons;obtain⟨w2,_⟩:=hc.cons;have eu:qeS (X.cenv f) name=0:=eu;obtain⟨a1,A,hA,rfl⟩:=hX.ar f hf name eu;rw[a1] at w0;have haa:X.aa A.name<1000000:=hX.arLow A hA;have hq:wS 2 els=9:=rfl;rw[hq];refine qaq.bind (c1:=0) (d1:=0) (c2:=9) (d2:=9) (hE f hf x i s1 m d (t::rest) nvx evx hcx v (by omega) hdx) (by omega) (by omega) (by omega) λa s' m' va=>?_;rw[if_neg zDd,if_pos trivial];obtain⟨m1,t1,v1,_⟩:=va.addr w0 haa (by simp only[zLc];omega);refine qaq.pre t1 (c1:=2) (d1:=2) ?_ (by omega) (by omega);refine qaq.bind (c1:=0) (d1:=0) (c2:=2) (d2:=2) (hE f hf y _ s' m1 (X.aa A.name::a::d) (t::rest) niy eiy hcy v1 (by rw[zLc,zLc];omega) hdy) (by omega) (by omega) (by omega) λb s2 m2 vb=>?_
 cases hg:(s2.ar A.name)[b]? with
 |none=>exact qaq.other zDd
 |some r=>
  obtain⟨hlt,hr⟩:=List.getElem?_eq_some_iff.1 hg;have hsz:=(vb.rel.ar A hA).1;have hb:=hX.low _ (.inr (.inr ⟨A,hA,b,by omega,rfl⟩))
  obtain⟨m3,t3,v3,_⟩:=vb.op (x:=X.aa A.name+b) w1 (by unfold isOp;simp) (by
   show some ((X.aa A.name+b) % 4294967296)=_
   rw[mod_eq_of_lt (by omega)]) (by simp only[zLc];omega)
  obtain⟨m4,t4,v4⟩:=v3.elem hX hA hlt w2;refine(qaq.pre (s:={ s2 with ar:=λy=>if y=A.name then (s2.ar A.name).set b a else s2.ar y }) (t3.trans t4) (qaq.ok (c:=0) (d:=0) (v:=none) (v4.cast ?_) (Int.le_refl 0)) (by omega) (by omega)).left rfl;simp only[zLa,zLc,zLn];omega
 rw[if_neg k2] at hd
 by_cases k5:kind=5
 subst k5;rw[if_neg zDd,if_neg zDd,if_neg zDd,if_neg zDd,if_pos rfl] at hc ⊢;rw[if_pos rfl] at hd;simp only at hc ⊢;obtain⟨hcx,hc⟩:=hc.app;obtain⟨w0,_⟩:=hc.cons;have hq:wS 5 els=1:=rfl;rw[hq];refine qaq.bind (c1:=0) (d1:=0) (c2:=1) (d2:=1) (hE f hf x i s1 m d (t::rest) nvx evx hcx v (by omega) hdx) (by omega) (by omega) (by omega) λa s' m' va=>?_;rw[if_neg zDd,if_neg zDd,if_pos trivial];have t1:=PW.back va.here w0 va.calls;exact qaq.pre t1 (qaq.ok (c:=0) (d:=0) (v:=some a) ⟨rfl,rfl,va.rel.same rfl rfl rfl rfl rfl rfl rfl,va.data,rfl⟩ (Int.le_refl 0)) (by omega) (by omega);rw[if_neg k5] at hd
 by_cases k6:kind=6
 subst k6;rw[if_neg zDd,if_neg zDd,if_neg zDd,if_neg zDd,if_neg zDd,if_pos rfl] at hc ⊢;simp only at hc ⊢;obtain⟨hcx,hc⟩:=hc.app;obtain⟨w0,hc⟩:=hc.cons;obtain⟨w1,_⟩:=hc.cons;obtain⟨t0,_,_⟩:=hX.temps f hf;rw[t0] at w0;have hS:X.S+2<262144:=hX.low _ (.inr (.inl ⟨by omega,by omega⟩));have hq:wS 6 els=8:=rfl;rw[hq];refine qaq.bind (c1:=0) (d1:=0) (c2:=8) (d2:=8) (hE f hf x i s1 m d (t::rest) nvx evx hcx v (by omega) hdx) (by omega) (by omega) (by omega) λa s' m' va=>?_;rw[if_neg zDd,if_neg zDd,if_neg zDd,if_neg zDd,if_neg zDd];obtain⟨m1,t1,v1,_⟩:=va.addr w0 (by omega) (by simp only[zLc];omega);obtain⟨m2,t2,v2,_⟩:=v1.temp hX w1 ⟨by omega,by omega⟩;refine qaq.pre (t1.trans t2) (qaq.ok (c:=0) (d:=0) (v:=none) (v2.cast ?_) (Int.le_refl 0)) (by omega) (by omega);simp only[zLa,zLc,zLn];omega
 by_cases k3:kind=3
 ·subst k3;rw[if_neg zDd,if_neg zDd,if_pos rfl] at hc ⊢
  cases els with
  |nil=>
   simp only at hc ⊢;obtain⟨hc,hc4⟩:=hc.app;obtain⟨hc,hc3⟩:=hc.app;obtain⟨hcx,hc2⟩:=hc.app;obtain⟨wl,_⟩:=hc4.cons;have hq:wS 3 ([]:List Sm)=8:=rfl;rw[hq];refine qaq.bind (c1:=0) (d1:=0) (c2:=8) (d2:=8) (hE f hf x i s1 m d (t::rest) nvx evx hcx v (by omega) hdx) (by omega) (by omega) (by omega) λa s' m' va=>?_;rw[if_neg zDd,if_neg zDd,if_neg zDd,if_pos trivial];have hidx:i+(exW (X.cc f) x++[38::labW nl,[63]]).length=i+(exW (X.cc f) x).length+2:=by rw[zLa];try rfl
   rw[hidx] at hc3;rw[zLa,<-add_assoc,hidx] at wl;obtain⟨m1,t1,v1⟩:=va.branch hX hc2 wl (by omega)
   have hend:i+(exW (X.cc f) x).length+2+(stWs (X.cc f) (nl+1) thn).1.length+1=i+(exW (X.cc f) x++[38::labW nl,[63]]++(stWs (X.cc f) (nl+1) thn).1++[labW nl++[58]]).length:=by
    simp only[zLa,zLc,zLn];omega
   refine qaq.pre t1 (c1:=0) (d1:=0) ?_ (by omega) (by omega)
   by_cases ha:a=0
   rw[if_pos ha] at v1;rw[if_neg (by simp[ha])];exact qaq.ok (v1.cast hend) (by omega);rw[if_neg ha] at v1;rw[if_pos ha];refine qaq.post (a:=0) (qjn hS hf thn _ (nl+1) s' m1 d t rest nt et hc3 v1 (by omega) (by omega)) (by omega) (by omega) λr s2 m2 h=>⟨m2,.refl _,?_⟩
   cases r with
   |some w=>exact h
   |none=>
    have h:X.Vw s2 _ d (t::rest) m2:=h
    exact(h.pass wl (hX.ldef _ _ wl)).cast hend
  |cons e els=>
   simp only at hc ⊢;obtain⟨hc,hc6⟩:=hc.app;obtain⟨hc,hc5⟩:=hc.app;obtain⟨hc,hc4⟩:=hc.app;obtain⟨hc,hc3⟩:=hc.app;obtain⟨hcx,hc2⟩:=hc.app;obtain⟨we,_⟩:=hc6.cons;have hidx:i+(exW (X.cc f) x++[38::labW nl,[63]]).length=i+(exW (X.cc f) x).length+2:=by rw[zLa];try rfl
   rw[hidx] at hc3;rw[zLa,<-add_assoc,hidx] at hc4;generalize hi3:i+(exW (X.cc f) x).length+2=i3 at *;generalize hB:(stWs (X.cc f) (nl+2) thn).1=tw at *;generalize hN:(stWs (X.cc f) (nl+2) thn).2=n2 at *
   have hlen5:i+(exW (X.cc f) x++[38::labW nl,[63]]++tw++[[48],38::labW (nl+1),[63],labW nl++[58]]).length=i3+tw.length+3+1:=by
    rw[<-hi3];simp only[zLa,zLc,zLn];omega
   rw[hlen5] at hc5
   have hlen6:i+(exW (X.cc f) x++[38::labW nl,[63]]++tw++[[48],38::labW (nl+1),[63],labW nl++[58]]++(stWs (X.cc f) n2 (e::els)).1).length=i3+tw.length+3+1+(stWs (X.cc f) n2 (e::els)).1.length:=by
    rw[zLa,<-add_assoc,hlen5]
   rw[hlen6] at we;have hc4':X.C.Code (i3+tw.length) ([[48],38::labW (nl+1),[63]]++[labW nl++[58]]):=hc4;obtain⟨hcg,hcl⟩:=hc4'.app;obtain⟨wl,_⟩:=hcl.cons;have wl:X.C.W[i3+tw.length+3]? = some (labW nl++[58]):=wl
   have hend:i3+tw.length+3+1+(stWs (X.cc f) n2 (e::els)).1.length+1=i+(exW (X.cc f) x++[38::labW nl,[63]]++tw++[[48],38::labW (nl+1),[63],labW nl++[58]]++(stWs (X.cc f) n2 (e::els)).1++[labW (nl+1)++[58]]).length:=by
    have:=hlen6;simp only[zLa,zLc,zLn] at this ⊢;omega
   rw[<-hend];have hq:wS 3 (e::els)=18:=rfl;rw[hq];refine qaq.bind (c1:=0) (d1:=0) (c2:=18) (d2:=18) (hE f hf x i s1 m d (t::rest) nvx evx hcx v (by omega) hdx) (by omega) (by omega) (by omega) λa s' m' va=>?_;rw[if_neg zDd,if_neg zDd,if_neg zDd,if_pos trivial];obtain⟨m1,t1,v1⟩:=va.branch hX hc2 wl (by omega);refine qaq.pre t1 (c1:=10) (d1:=10) ?_ (by omega) (by omega)
   by_cases ha:a=0
   rw[if_pos ha] at v1;rw[if_neg (by simp[ha])];refine qaq.post (a:=0) (qjn hS hf (e::els) _ n2 s' m1 d t rest ne ee hc5 v1 (by omega) (by omega)) (by omega) (by omega) λr s2 m2 h=>⟨m2,.refl _,?_⟩
   cases r with
   |some w=>exact h
   |none=>
    have h:X.Vw s2 _ d (t::rest) m2:=h;exact h.pass we (hX.ldef _ _ we)
   rw[if_neg ha] at v1;rw[if_pos ha];have hb:=qjn hS hf thn i3 (nl+2) s' m1 d t rest nt et (by rw[hB];exact hc3) (v1.cast (by omega)) (by omega) (by omega);rw[hB] at hb;refine qaq.post (a:=10) hb (by omega) (by omega) λr s2 m2 h=>?_
   cases r with
   |some w=>exact⟨m2,(Stx.refl _).mono (by omega),h⟩
   |none=>
    have h:X.Vw s2 _ d (t::rest) m2:=h;exact h.goto hX hcg we (by omega)
 by_cases k4:kind=4
 subst k4;rw[if_neg zDd,if_neg zDd,if_neg zDd,if_pos rfl] at hc ⊢;simp only at hc ⊢;obtain⟨hc,hc5⟩:=hc.app;obtain⟨hc,hc4⟩:=hc.app;obtain⟨hc,hc3⟩:=hc.app;obtain⟨hc1,hc2⟩:=hc.app;obtain⟨w0,_⟩:=hc1.cons;have e3:i+([labW nl++[58]]++exW (X.cc f) x).length=i+1+(exW (X.cc f) x).length:=by simp only[zLa,zLc,zLn];omega
 rw[e3] at hc3;have e4:i+([labW nl++[58]]++exW (X.cc f) x++[38::labW (nl+1),[63]]).length=i+1+(exW (X.cc f) x).length+2:=by simp only[zLa,zLc,zLn];omega
 rw[e4] at hc4
 have e5:i+([labW nl++[58]]++exW (X.cc f) x++[38::labW (nl+1),[63]]++(stWs (X.cc f) (nl+2) thn).1).length=i+1+(exW (X.cc f) x).length+2+(stWs (X.cc f) (nl+2) thn).1.length:=by
  have:=e4;simp only[zLa,zLc,zLn] at this ⊢;omega
 rw[e5] at hc5;have hc5':X.C.Code (i+1+(exW (X.cc f) x).length+2+(stWs (X.cc f) (nl+2) thn).1.length) ([[48],38::labW nl,[63]]++[labW (nl+1)++[58]]):=hc5;obtain⟨hcg,hcl⟩:=hc5'.app;obtain⟨we,_⟩:=hcl.cons;have v1:=v.pass w0 (hX.ldef _ _ w0);have hq:wS 4 els=8:=rfl;rw[hq];refine qaq.bind (c1:=0) (d1:=0) (c2:=8) (d2:=8) (hE f hf x (i+1) s1 m d (t::rest) nvx evx hc2 v1 (by omega) hdx) (by omega) (by omega) (by omega) λa s' m' va=>?_;rw[if_neg zDd,if_neg zDd,if_neg zDd,if_neg zDd,if_pos trivial];rw[zLc] at hdx;have:=qwc hX hE hS hf nvx evx nt et w0 hc2 hc3 hc4 hcg we (by omega) (by omega) (by omega) (by omega) (by omega) n a s' m' va
 have e6:i+1+(exW (X.cc f) x).length+2+(stWs (X.cc f) (nl+2) thn).1.length+3+1=i+([labW nl++[58]]++exW (X.cc f) x++[38::labW (nl+1),[63]]++(stWs (X.cc f) (nl+2) thn).1++[[48],38::labW nl,[63],labW (nl+1)++[58]]).length:=by
  have:=e5;simp only[zLa,zLc,zLn] at this ⊢;omega
 rw[<-e6];exact this;rw[if_neg k1,if_neg k2,if_neg k3,if_neg k4,if_neg k5,if_neg k6,if_neg k7] at hform;exact absurd rfl hform
theorem qvS(hX:TrnOk X):∀ n,EvOk X n/\StOk X n
 |0=>⟨λf hf e i s m d c hn he hc v hd hdep=>qaq.limit v.rel.out,λf hf st i nl s m d t rest hn he hc v hd hdep=>qaq.limit v.rel.out⟩
 |n+1=>by
  obtain⟨h1,h2⟩:=qvS hX n;exact⟨qwS hX h1 (qwL hX h2),qwz hX h1 h2⟩
end
def endC:IR (Option Nat)->Int×IS
 |.ok _ s=>(0,s)
 |.stop e s=>(e,s)
def runC(P:Pr)(fuel:Nat)(inp:List Nat)(limit:Nat):Int×IS:=endC (blkR (stC P fuel (qb7 P)) (qb7 P).body (qer P inp limit))
section
variable{X:Trn}
theorem qyo(hX:TrnOk X)(hW:X.C.Code 0 [[38,102,95,109,97,105,110],[58],decDigits X.S,[33],[36]])(hm:qb7 X.P∈X.P.funcs)(hname:(qb7 X.P).name=[109,97,105,110])(hpar:(qb7 X.P).params=[])
  (hneed:qbM (X.cenv (qb7 X.P)) (qb7 X.P).body<=256) (hdep:qck (X.cenv (qb7 X.P)) (qb7 X.P).body<=63) (inp:List Nat) (fuel limit:Nat) (he:(runC X.P fuel inp limit).1=0∨(runC X.P fuel inp limit).1=12) :
  ∃ k m',k<=limit+100/\Stp X.C k (quM X.C inp) m'/\stepM X.C m'=.stop (runC X.P fuel inp limit).1.toNat (runC X.P fuel inp limit).2.out:=by
 have hrel:=qr9 hX inp limit;generalize hm0:quM X.C inp=m0 at *
 have v0:X.Vw (qer X.P inp limit) 0 [] [] m0:=by
  subst hm0;exact⟨PW.at_mk rfl,hrel,rfl,rfl⟩
 have hpost:qaq X.C (λ(_:Option Nat) s' m'=>∃ m2,Stp X.C 0 m' m2/\stepM X.C m2=.stop 0 s'.out) 100 100 m0 (qer X.P inp limit) (blkR (stC X.P fuel (qb7 X.P)) (qb7 X.P).body (qer X.P inp limit)):=by
  generalize qb7 X.P=k at *;obtain⟨nl,hcode⟩:=hX.code k hm;obtain⟨b1,b2⟩:=hX.body k hm;have hfd:=hX.fdef k hm;have hfr:=hX.fref k hm;unfold fnW at hcode;simp only at hcode;rw[hpar] at hcode;simp only[List.reverse_nil,List.flatMap_nil,zLz] at hcode;obtain⟨hcode,hc4⟩:=hcode.app;obtain⟨hc1,hc3⟩:=hcode.app;obtain⟨wd,_⟩:=hc1.cons;obtain⟨w0,hW⟩:=hW.cons;obtain⟨w1,hW⟩:=hW.cons;obtain⟨w2,hW⟩:=hW.cons;obtain⟨w3,hW⟩:=hW.cons;obtain⟨w4,_⟩:=hW.cons;rw[hname] at hfr hfd wd;have t2:=PW.call v0.here w0 w1 hfr (hX.label _ _ _ wd hfd) (by rw[v0.data];decide) (by rw[v0.calls];decide)
  have v3:X.Vw (qer X.P inp limit) (X.fst k+1) [] [X.C.plc (0+1+1)] { m0 with pc:=X.C.plc (X.fst k+1),calls:=X.C.plc (0+1+1)::m0.calls,digit:=false }:=
   ⟨PW.at_mk rfl,v0.rel.same rfl rfl rfl rfl rfl rfl rfl,v0.data,by simp only;rw[v0.calls]⟩
  have hb:=qjn (qvS hX fuel).2 hm k.body (X.fst k+1) nl _ _ [] (X.C.plc (0+1+1)) [] b2 b1 hc3 v3 (by simpa using hneed) (by simp only[zLn];omega);have hS:X.S+2<262144:=hX.low _ (.inr (.inl ⟨by omega,by omega⟩))
  have hlast:∀ s' a m',X.Vw s' (0+1+1) [a] [] m'->∃ m2,Stx X.C 10 m' m2/\∃ m3,Stp X.C 0 m2 m3/\stepM X.C m3=.stop 0 s'.out:=by
   intro s' a m' v5;obtain⟨m6,t6,v6,_⟩:=v5.addr w2 (by omega) (by simp);obtain⟨m7,t7,v7,_⟩:=v6.temp hX w3 ⟨by omega,by omega⟩;exact⟨m7,(t6.trans t7).mono zDd,by rw[<-v7.rel.out];exact PW.halt v7.here w4⟩
  refine qaq.pre t2 (c1:=50) (d1:=50) ?_ (by omega) (by omega);refine qaq.post (a:=20) hb (by omega) (by omega) λr s' m' h=>?_
  cases r with
  |some a=>
   obtain⟨g1,g2,g3,g4,g5⟩:=h;obtain⟨m2,t5,h5⟩:=hlast s' a m' ⟨PW.at_mk g1,g3,g4,g5⟩
   exact⟨m2,t5.mono zDd,h5⟩
  |none=>
   have h:X.Vw s' _ [] [X.C.plc (0+1+1)] m':=h;obtain⟨q2,hc4⟩:=hc4.cons;obtain⟨q3,_⟩:=hc4.cons;rw[zLa,<-add_assoc] at q2 q3;obtain⟨m6,t6,v6,_⟩:=h.dig (n:=0) q2 zDd rfl zDd;have t7:=PW.back v6.here q3 v6.calls
   have v7:X.Vw s' (0+1+1) [0] [] { m6 with pc:=X.C.plc (0+1+1),calls:=[],digit:=false }:=
    ⟨PW.at_mk rfl,v6.rel.same rfl rfl rfl rfl rfl rfl rfl,v6.data,rfl⟩
   obtain⟨m8,t8,h8⟩:=hlast s' 0 _ v7;exact⟨m8,(t6.trans (t7.trans t8)).mono zDd,h8⟩
 unfold runC at he ⊢;revert hpost he
 cases blkR (stC X.P fuel (qb7 X.P)) (qb7 X.P).body (qer X.P inp limit) with
 |ok v s'=>
  rintro he ⟨h1,k,m',h2,h3,m2,h4,h5⟩;have hl:(qer X.P inp limit).left=limit:=rfl;rw[hl] at h1 h2
  exact⟨k+0,m2,by omega,h3.trans h4,h5⟩
 |stop e s'=>
  rintro he ⟨h1,h2⟩;have hl:(qer X.P inp limit).left=limit:=rfl;rw[hl] at h1;obtain⟨k,m',k1,k2,k3⟩:=h1 he;exact⟨k,m',by omega,k2,k3⟩
end
theorem cmp_c{P:Pr}{o:Org}{t:Wd}(hnum:∀ f∈P.funcs,qcI f.body)(h:cmpP P.vars (qbo P) P.funcs o=.ok t)(inp:List Nat)(fuel limit:Nat)(he:(runC P fuel inp limit).1=0∨(runC P fuel inp limit).1=12) :
  ∃ k m',k<=limit+100/\Stp ⟨qa6 P o,qqD o.code.toNat⟩ k (quM ⟨qa6 P o,qqD o.code.toNat⟩ inp) m'/\stepM ⟨qa6 P o,qqD o.code.toNat⟩ m'=.stop (runC P fuel inp limit).1.toNat (runC P fuel inp limit).2.out:=by
 obtain⟨hc,hfit,_,_,hasm,hX,hlen⟩:=qmI hnum h;have hv:=qfi hc;have hF:=qhk hfit;have hfn:(P.funcs.map (·.name)).Nodup:=(List.nodup_append.1 (qbA _ _ hv.names).1).2.1
 have hnd:(defs (qa6 P o)).Nodup:=by
  have h1:=(qmI hnum h).2.2.2.1;have h2:=(qmC hasm).2.1;have h3:=(qmI hnum h).2.2.1;rw[h1] at h2;exact h2
 have hW:Go.Stele.PW.Code (trnP P o).C 0 [[38,102,95,109,97,105,110],[58],decDigits (trnP P o).S,[33],[36]]:=by
  have h1:Go.Stele.PW.Code (trnP P o).C 0 ([[38,102,95,109,97,105,110],[58],itoa o.scalars,[33],[36]]++(fnWs (ccF P.vars (qbo P) P.funcs o) 0 P.funcs).1):=qpc _ _ _;rw[qb8 hF.s0] at h1;exact h1.app.1
 have hneed:qbM ((trnP P o).cenv (qb7 P)) (qb7 P).body<=200/\qck ((trnP P o).cenv (qb7 P)) (qb7 P).body<=60:=by
  unfold qcf qdn at hc;have e1:(P.arrays.map λa=>(a.name,(a.size:Int))).map (·.1)=P.arrays.map (·.name):=by rw[map_map];try rfl
  rw[e1,qnV _ _ hfn,nil_append] at hc;have hm:=(qah.1 (qah.1 (qah.1 hc).2).2).2;unfold qt2 at hm;rw[List.getLast?_map] at hm;have hmi:qb7 P=(P.funcs.getLast?).getD ⟨[],[],[],[]⟩:=rfl
  cases hl:P.funcs.getLast? with
  |none=>rw[hl] at hm;cases hm
  |some f=>
   rw[hl] at hm hmi;simp only[Option.map_some,getD_some] at hm hmi;rw[hmi];split at hm;split at hm
   rename_i hq
   have hs:=qlI (vars:=P.vars) (arrays:=P.arrays.map (·.name)) (later:=P.funcs.map (·.name)) (knF P.vars (P.arrays.map (·.name)) (P.funcs.map (·.name)) [] P.funcs f) f;exact⟨zNt hs.1 hq.2.1,zNt hs.2 hq.2.2⟩;cases hm;cases hm
 exact qyo (X:=qya (trnP P o) (qqD o.code.toNat)) (qul hX (qve hc hfit) hnd) hW hv.main.1 hv.main.2.1 hv.main.2.2 (zNt hneed.1 zDd) (zNt hneed.2 zDd) inp fuel limit he
section
variable{P:Pr}{o:Org}{t:Wd}
theorem qgG(hnum:∀ f∈P.funcs,qcI f.body)(h:cmpP P.vars (qbo P) P.funcs o=.ok t){inp:List Nat}(hi:∀ v∈inp,v<4294967296)(fuel limit:Nat)(he:(runC P fuel inp limit).1=0∨(runC P fuel inp limit).1=12) :
  ∃ x labs y labs' K K',asmP t o.code=.ok (x,labs)/\asmP (join (optP (qbl t)) [32]) o.code=.ok (y,labs')/\x.length<=40000/\y.length<=x.length/\K<=limit+101/\K'<=K /\
   ∀ N,K<=N->runM N (qfn x o.code.toNat inp)=((runC P fuel inp limit).1.toNat,(runC P fuel inp limit).2.out,K)/\runM N (qfn y o.code.toNat inp)=((runC P fuel inp limit).1.toNat,(runC P fuel inp limit).2.out,K'):=by
 obtain⟨hc,hfit,ht,hw,hasm,hX,hlen⟩:=qmI hnum h;have hF:=qhk hfit;have hcl:∀ w∈qa6 P o,qbx w:=qnw hc hfit;obtain⟨hA,hl⟩:=qsz hasm;rw[hw] at hA;rw[hw];have hty:=qyv hc hfit hnum hA hX;obtain⟨k,m',k1,k2,k3⟩:=cmp_c hnum h inp fuel limit he;have h99:(runC P fuel inp limit).1.toNat≠99:=by rcases he with e|e <;> rw[e] <;> decide
 obtain⟨n,hE⟩:=qvI k2 k3 h99;have hog:o.code.toNat+40000<=262144:=hF.c1;have hE:Ends ⟨qa6 P o,qqD o.code.toNat⟩ n ⟨λ_=>0,qa6 P o,[],[],inp,[],false⟩ (runC P fuel inp limit).1.toNat (runC P fuel inp limit).2.out (k+1):=hE;obtain⟨n',K',hE2,hK⟩:=qt7 hi hA hE;obtain⟨hA2,hlw⟩:=qwC hA;have hcl2:=qtJ hcl;have htx:=qjZ (qiF P o) (qa6 P o) λw hw=>(hcl w hw).1;have hl:(qcX (qiF P o) (qa6 P o)).length<=40000:=hl;obtain⟨b1,b2⟩:=qx3 hA2 hcl2 (og:=o.code) hF.c0 (by omega) (by omega);refine⟨_,_,_,_,k+1,K',hasm,b1,hl,by rw[b2,htx];exact hlw,by omega,hK,λN hN=>⟨?_,?_⟩⟩;exact qlf hA (λw hw=>(hcl w hw).1) hty rfl hl hog hE N hN;exact qlf hA2 (λw hw=>(hcl2 w hw).1) (qx6 hty) rfl (by rw[b2];omega) hog hE2 N (by omega)
end
end Go.Stele.Wi.Wc
