import Derived.Test.YtmnjklgnhpnckaaGreatDoorBRowLBq
set_option linter.unusedVariables false
set_option linter.unusedSimpArgs false
set_option maxRecDepth 100000
set_option maxHeartbeats 4000000
open List (getD_eq_getElem?_getD length_set length_drop)
open Nat (mod_lt min_eq_left ble_eq_true_of_le zero_le)
namespace Go.GL
open Go.RowKit
variable{el len t:Nat}
class Wo (P:Program) (t:TypeId) (el len:outParam Nat):Prop where
 hu:P.underlying t=some (.array len el)
 hs:∃ i,P.info? el=some i/\i.size=1
theorem Wo.of{P:Program}(h:P.underlying t=some (.array len el))(g:(P.info? el).map (·.size)=some 1):Wo P t el len:=⟨h,by
 cases hi:P.info? el with
 |none=>rw[hi] at g;cases g
 |some i=>
  rw[hi] at g;injection g with g;exact⟨i,rfl,g⟩⟩
theorem qnY{w:World}{L:Live}{pl:List (Nat×Nat)}{place:Nat->Option (Nat×Nat)}(hp:∀ i x,pl[i]? = some x->place i=some x):∀ {parts:List (Nat×LV)} {vs:List (Nat×Value)} {cells:List LV} {xs:List Value} {cs:List LV},
  la w L cells xs->parts.map (·.1)=vs.map (·.1)->la w L (parts.map (·.2)) (vs.map (·.2))->uC pl cells parts=some cs->∃ ys:List Value,Instr.fill place xs.toArray vs=some ys.toArray/\la w L cs ys
 |[],[],cells,xs,cs,h,_,_,hf=>by simp only[uC,Cm] at hf;subst hf;exact⟨xs,rfl,h⟩
 |[],_::_,_,_,_,_,h,_,_=>by simp at h
 |_::_,[],_,_,_,_,h,_,_=>by simp at h
 |(i,lv)::parts,(i',v)::vs,cells,xs,cs,h,h1,h2,hf=>by
  simp only[jd,List.cons.injEq] at h1;obtain⟨rfl,h1⟩:=h1;simp only[jd,la] at h2;obtain⟨y,ys,he,h2,h3⟩:=h2;simp only[List.cons.injEq] at he;obtain⟨rfl,rfl⟩:=he;simp only[uC] at hf;split at hf;rename_i off size VN yp N1;split at hf;rename_i hc;have hr:=h2.cells N1;have hl:=hr.length;have yB:=h.length;simp only[Instr.fill,hp _ _ yp];have gd:v.cells.size=VN.length:=by simpa using hl
  rw[zn (by simp[gd,yB];omega)];have he:(v.cells.zipIdx.foldl (λcs (c,j)=>cs.setIfInBounds (off+j) c) xs.toArray)=(xs.take off++v.cells.toList++xs.drop (off+VN.length)).toArray:=by rw[<-Array.foldl_toList,Array.toList_zipIdx];have:=LU off v.cells.toList 0 xs (by simp[gd,yB];omega);rw[Nat.add_zero] at this;rw[this];simp[gd]
  rw[he];refine qnY hp ?_ h1 h3 hf;rw[YO _ _ _ hc.2];exact((h.take off).append hr).append (h.drop _);cases hf;cases hf
section
variable{C:Ctx}{e:Env}{H:Heap}{dst:Option Nat}{ty:TypeId}{pos:String}{ka:Array Edge}{g:Option (Nat×Bool)}{x y:Operand}{k:IntKind}
theorem Pure.Ug [h:Wo C.P t el len]{b i:Nat}{n:Int}(hx:e.ev x=ptr b 0)(hy:e.ev y=int k n)(hn:n=(i:Int))(hi:i<len):Pure C ⟨dst,.indexAddr t x y,ty,pos,ka,g⟩ e H (ptr b i):=by obtain⟨ti,h1,h2⟩:=h.hs;have:=Pure.aB (C:=C) (H:=H) (dst:=dst) (ty:=ty) (pos:=pos) (ka:=ka) (g:=g) h.hu h1 hx hy zo zo;rw[h2,hn,show 0+((i:Nat):Int).toNat * 1=i by rw[Int.toNat_natCast];omega] at this;exact this
theorem Pure.iw [hA:Wo C.P t el len]{zs:List Value} [hz:Dh C.P t zs](parts:List (Nat×Operand)){cs:List LV}
  (h:uC ((List.range len).map λi=>(i,1)) (zs.map .atom) (parts.map λp=>(p.1,e.ev p.2))=some cs):Pure C ⟨dst,.build t parts.toArray,ty,pos,ka,g⟩ e H (.agg cs):=.Ja λρ w L hρ=>by
 obtain⟨ti,h1,h2⟩:=hA.hs;have hp:∀ i x,((List.range len).map λi=>(i,1))[i]? = some x->(λi=>some (i * 1,1):Nat->Option (Nat×Nat)) i=some x:=λi x hx=>by rw[List.getElem?_map] at hx;by_cases hi:i<len;rw[List.getElem?_range hi] at hx;simpa using hx;rw[List.getElem?_eq_none (by simpa using hi)] at hx;cases hx
 have J2:=BL hρ (parts.map (·.2));have:=qnY hp (w:=w) (L:=L) (parts:=parts.map λp=>(p.1,e.ev p.2)) (vs:=parts.map λp=>(p.1,ρ p.2)) (Wq zs) (by simp[Function.comp_def]) (by simpa [Function.comp_def] using J2) h;obtain⟨ys,k1,k2⟩:=this;refine⟨.agg ys.toArray,by simp only[wb];exact⟨ys,rfl,k2⟩,λw'=>?_⟩;obtain⟨v,hv,hc⟩:=mU (P:=C.P) (t:=t) w';have h3:execOp ρ ⟨dst,.build t parts.toArray,ty,pos,ka,g⟩=(do Pure.pure (.value (<-Instr.build t (parts.toArray.map λ(i,x)=>(i,ρ x))))):=rfl;rw[h3];simp only[Instr.build,wc,hv,Sc,ie hA.hu w',zy h1,h2,hc,List.map_toArray];rw[k1]
 try rfl
end
end Go.GL
namespace Go.Proofs.YtmnjklgnhpnckaaGreatDoor.Lb
open Go.GL Go.RowKit Go.ea
open pi (u32 gn Ji tu)
open Go.ea.Wi.Wc.Q (Ta Ac Qb an)
open Go.ea.Wi.Wc.Q.Bk (Jg al ag Zf Yf Xf)
variable{n:Nat}{v:List Nat}
theorem x9{a b:Nat}(ha:a<4294967296)(hb:b<4294967296):IntKind.u32.wrap ((BitVec.ofInt IntKind.u32.bits a ||| BitVec.ofInt IntKind.u32.bits b).toNat:Nat)=((a ||| b:Nat):Int):=by
 rw[gn,BitVec.toNat_or];have h1:∀ n:Nat,n<4294967296->(BitVec.ofInt IntKind.u32.bits (n:Int)).toNat=n:=λn hn=>by rw[BitVec.ofInt_natCast,BitVec.toNat_ofNat];exact Nat.mod_eq_of_lt hn
 rw[h1 a ha,h1 b hb];have:a ||| b<2 ^ 32:=Nat.or_lt_two_pow ha hb;omega
theorem qzo{x k p q:Nat}(hq:q=2 ^ k)(bK:p * q=4294967296)(hx:x<4294967296):(x / p) ||| (x * q % 4294967296)=Jg x p q:=by
 have hp:0<p:=Nat.pos_of_ne_zero λe=>by rw[e,Nat.zero_mul] at bK;cases bK
 have h1:x * q % 4294967296=2 ^ k * (x % p):=by rw[<-bK,Nat.mul_mod_mul_right,hq,Nat.mul_comm]
 have h2:x / p<2 ^ k:=by rw[<-hq];exact Nat.div_lt_of_lt_mul (by rw[bK];exact hx)
 have h3:2 ^ k * (x % p)+x / p<4294967296:=by have h4:x % p+1<=p:=mod_lt _ hp;have h5:=Nat.mul_le_mul_left (2 ^ k) h4;rw[<-hq,Nat.mul_comm q p,bK,Nat.mul_add,Nat.mul_one] at h5;rw[<-hq] at h2 ⊢;omega
 unfold Jg Ta an Ac;rw[h1,Nat.or_comm,<-Nat.two_pow_add_eq_or_of_lt h2,Nat.add_comm];exact(Nat.mod_eq_of_lt zo).symm
theorem EG(x p q:Nat):Jg x p q<4294967296:=mod_lt _ da
def Sm(v:List Nat):Prop:=∀ x∈v,x<4294967296
theorem Sm.at(h:Sm v)(i:Nat):v.getD i 0<4294967296:=by by_cases hi:i<v.length;rw[getD_eq_getElem?_getD,di hi];exact h _ (List.getElem_mem hi);rw[getD_eq_getElem?_getD,List.getElem?_eq_none zo];decide
theorem Sm.set{v:List Nat}(h:Sm v)(i:Nat){x:Nat}(hx:x<4294967296):Sm (v.set i x):=λy hy=>by rcases List.mem_or_eq_of_mem_set hy with e|e;exact h y e;rw[e];exact hx
theorem Hl{i:Nat}(hv:v.length=n)(hi:i<n):(v.map u32)[i]? = some (u32 (v.getD i 0)):=by rw[List.getElem?_map,getD_eq_getElem?_getD,di zo];rfl
theorem tP(x:LV):∀ (l:List LV) (i:Nat),i<l.length->Kd l i [x]=l.set i x
 |_::l,0,_=>by cases l <;> rfl
 |y::l,i+1,h=>by show y::Kd l i [x]=y::l.set i x;rw[tP x l i (by simpa using h)]
theorem dP:∀ (l vs:List LV),l.length=vs.length->Kd l 0 vs=vs
 |[],[],_=>rfl
 |x::l,[],h=>by cases h
 |[],v::vs,h=>by cases h
 |x::l,v::vs,h=>by show v::Kd l 0 vs=v::vs;rw[dP l vs (by simpa using h)]
theorem GO:∀ v:List Nat,(v.map u32).all Tq=true
 |[]=>rfl
 |x::v=>by rw[jd,List.all_cons,GO v];rfl
theorem GG(hv:v.length=n):((v.map u32).drop 0).take n=v.map u32:=by rw[List.drop_zero];exact List.take_of_length_le (by rw[ab];omega)
theorem mv{i x:Nat}(hv:v.length=n)(hi:i<n):Kd (v.map u32) i [u32 x]=(v.set i x).map u32:=by rw[tP _ _ _ (by rw[ab];omega),List.map_set]
attribute [local irreducible] wa Qa Ra ca Go.GL.Pure Ud xe od LQ Eb Tf Rh LS
variable{B0:Nat}{w0:World}
theorem YU(x r k p q:Nat)(hx:x<4294967296)(hr:0<r/\r<32)(hk:k+r=32)(hp:p=2 ^ r)(hq:q=2 ^ k):ca (KC B0 w0) 116 [u32 x,int .u64 (r:Nat)] [] (Hb (u32 (Jg x p q))):=by
 have bK:p * q=4294967296:=by rw[hp,hq,<-Nat.pow_add,Nat.add_comm,hk]
 have e1:(2:Int) ^ min ((r:Nat):Int).toNat IntKind.u32.bits=(p:Int):=by rw[show((r:Nat):Int).toNat=r from rfl,show min r IntKind.u32.bits=r from min_eq_left (by show r<=32;omega),hp];exact(Int.natCast_pow 2 r).symm
 have e3:IntKind.u64.wrap ((32:Int)-(r:Nat))=((k:Nat):Int):=by simp only[IntKind.wrap,IntKind.bits,IntKind.signed];simp;omega
 have e2:IntKind.u32.wrap ((x:Int) * 2 ^ min ((k:Nat):Int).toNat IntKind.u32.bits)=((x * q % 4294967296:Nat):Int):=by rw[show((k:Nat):Int).toNat=k from rfl,show min k IntKind.u32.bits=k from min_eq_left (by show k<=32;omega),hq,show(2:Int) ^ k=((2 ^ k:Nat):Int) from(Int.natCast_pow 2 k).symm,<-Int.natCast_mul,JW]
 have e4:=x9 (a:=x / p) (b:=x * q % 4294967296) (Nat.lt_of_le_of_lt (Nat.div_le_self x p) hx) (mod_lt _ da);rw[qzo hq bK hx] at e4;generalize Jg x p q=y at e4 ⊢;generalize x * q % 4294967296=z at e2 e4;refine Xa Tryz.func116 rfl (n:=13) rfl rfl rfl ?_;refine Pj ?_;refine ia (Pure.to (Pure.shr rfl rfl zo) (V8 (d:=p) e1))<|qa ?_;refine ia (Pure.to (Pure.Tx rfl rfl) (congrArg (int .u64) e3))<|ia (Pure.to (Pure.jO rfl rfl zo) (Ji e2))<|ia (Pure.to (Pure.orW rfl rfl) (Ji e4))<|Qc ?_;exact Wa rfl (Oa rfl) rfl
theorem RP(c:UInt8):ca (KC B0 w0) 68 [int .u8 (c.toNat:Int)] [] (Hb (int .i64 (if 97<=c.toNat then (c.toNat:Int)-87 else (c.toNat:Int)-48))):=by have hc:=TT c;have e0:IntKind.i64.wrap (c.toNat:Int)=(c.toNat:Int):=xy zo;by_cases h97:97<=c.toNat;rw[zp h97];refine Xa Tryz.func68 rfl (n:=11) rfl rfl rfl ?_;refine ja ?_;refine oC rfl (λh=>?_) λh=>absurd (zf h) zo;refine ja ?_;exact Wa rfl (Oa rfl) (by show int .i64 _=int .i64 _;rw[e0]);rw[zn h97];refine Xa Tryz.func68 rfl (n:=11) rfl rfl rfl ?_;refine ja ?_;refine oC rfl (λh=>absurd (zt h) zo) λh=>?_;refine ja ?_;exact Wa rfl (Oa rfl) (by show int .i64 _=int .i64 _;rw[e0])
instance:Wo Uj 142 54 16:=.of zk zk
theorem LL(a b:Nat):IntKind.u32.wrap ((a:Int)+(b:Int))=((Ta a b:Nat):Int):=by rw[<-Int.natCast_add,JW];rfl
theorem tG(a b:Nat):Ta a b<4294967296:=mod_lt _ da
theorem kE{a b:Nat}(ha:a<4294967296)(hb:b<4294967296):Qb a b<4294967296:=Nat.xor_lt_two_pow (n:=32) ha hb
theorem YX(v:List Nat)(hv:v.length=16)(hs:Sm v)(a b c d x y:Nat)(ha:a<16)(hb:b<16)(hc:c<16)(hd:d<16)(hx:x<4294967296)(hy:y<4294967296):ca (KC B0 w0) 67 [.agg (v.map u32),int .i64 (a:Nat),int .i64 (b:Nat),int .i64 (c:Nat),int .i64 (d:Nat),u32 x,u32 y] [] (Hb (.agg ((al v a b c d x y).map u32))):=by
 generalize hM:al v a b c d x y=R;unfold al at hM;simp only at hM;refine Xa Tryz.func67 rfl (n:=96) rfl rfl rfl ?_;refine Xd ?_;refine oS (sB (cs:=v.map u32) rfl λbv=>oS (Rc λbr=>?_));refine qa ?_;obtain⟨U0,UH⟩:∃ t,v.getD a 0=t:=⟨_,rfl⟩;obtain⟨W0,BK⟩:∃ t,v.getD b 0=t:=⟨_,rfl⟩;have cA0:(v.map u32)[a]? = some (u32 U0):=by rw[<-UH];exact Hl hv ha
 have cB0:(v.map u32)[b]? = some (u32 W0):=by rw[<-BK];exact Hl hv hb
 have bA0:U0<4294967296:=by rw[<-UH];exact hs.at a
 have bB0:W0<4294967296:=by rw[<-BK];exact hs.at b
 obtain⟨Y0,hY0⟩:∃ t,Ta U0 W0=t:=⟨_,rfl⟩;have wY0:IntKind.u32.wrap ((U0:Int)+(W0:Int))=((Y0:Nat):Int):=by rw[<-hY0];exact LL _ _
 obtain⟨Z0,y5⟩:∃ t,Ta Y0 x=t:=⟨_,rfl⟩;have wZ0:IntKind.u32.wrap ((Y0:Int)+(x:Int))=((Z0:Nat):Int):=by rw[<-y5];exact LL _ _
 have bZ0:Z0<4294967296:=by rw[<-y5];exact tG _ _
 rw[UH,BK,hY0,y5] at hM;obtain⟨v1,e0⟩:∃ w,v.set a Z0=w:=⟨_,rfl⟩;have l0:v1.length=16:=by rw[<-e0,length_set];exact hv
 have s0:Sm v1:=by rw[<-e0];exact hs.set a bZ0
 have tS0:Kd (v.map u32) a [u32 Z0]=v1.map u32:=by rw[<-e0];exact mv hv ha
 have mS0:Nat.ble (a+1) (v.map u32).length=true:=ble_eq_true_of_le (by rw[ab,hv];omega);rw[e0] at hM;refine Qa.tail 11 zk ?_;refine Wg ?_;refine Wg ?_;refine lP (Pure.Ug rfl rfl rfl ha) rfl ?_;refine lP (pL (c:=u32 U0) rfl xf cA0) rfl ?_;refine Wg ?_;refine lP (Pure.Ug rfl rfl rfl hb) rfl ?_;refine lP (pL (c:=u32 W0) rfl xf cB0) rfl ?_;refine lP (Pure.to (Pure.Vo rfl rfl) (Ji wY0)) rfl ?_;refine Wg ?_;refine lP (Pure.to (Pure.Vo rfl rfl) (Ji wZ0)) rfl ?_;refine lP (Pure.Ug rfl rfl rfl ha) rfl ?_;refine LS.nil ?_;refine oS (sS (Ab:=v1.map u32) (vs:=[u32 Z0]) rfl Fc rfl rfl mS0 rfl tS0 ?_);refine qa ?_;refine Qa.Nf [(1,int .i64 (a:Nat)),(2,int .i64 (b:Nat)),(3,int .i64 (c:Nat)),(4,int .i64 (d:Nat)),(5,u32 x),(6,u32 y),(7,ptr bv 0),(14,ptr br 0)] (Yr.mem jb) λj0 hj0=>?_;obtain⟨U1,CK⟩:∃ t,v1.getD d 0=t:=⟨_,rfl⟩;obtain⟨W1,O5⟩:∃ t,v1.getD a 0=t:=⟨_,rfl⟩;have cA1:(v1.map u32)[d]? = some (u32 U1):=by rw[<-CK];exact Hl l0 hd
 have cB1:(v1.map u32)[a]? = some (u32 W1):=by rw[<-O5];exact Hl l0 ha
 have bA1:U1<4294967296:=by rw[<-CK];exact s0.at d
 have bB1:W1<4294967296:=by rw[<-O5];exact s0.at a
 obtain⟨Y1,D5⟩:∃ t,Qb U1 W1=t:=⟨_,rfl⟩;have wY1:IntKind.u32.wrap ((BitVec.ofInt IntKind.u32.bits U1 ^^^ BitVec.ofInt IntKind.u32.bits W1).toNat:Nat)=((Y1:Nat):Int):=by rw[<-D5];exact tu bA1 bB1
 have bY1:Y1<4294967296:=by rw[<-D5];exact kE bA1 bB1
 have Ld:=YU (B0:=B0) (w0:=w0) Y1 16 16 65536 65536 bY1 da da da da;obtain⟨Z1,x5⟩:∃ t,Jg Y1 65536 65536=t:=⟨_,rfl⟩;have bZ1:Z1<4294967296:=by rw[<-x5];exact EG _ _ _
 rw[x5] at Ld;rw[CK,O5,D5,x5] at hM;obtain⟨v2,e1⟩:∃ w,v1.set d Z1=w:=⟨_,rfl⟩;have l1:v2.length=16:=by rw[<-e1,length_set];exact l0
 have s1:Sm v2:=by rw[<-e1];exact s0.set d bZ1
 have tS1:Kd (v1.map u32) d [u32 Z1]=v2.map u32:=by rw[<-e1];exact mv l0 hd
 have mS1:Nat.ble (d+1) (v1.map u32).length=true:=ble_eq_true_of_le (by rw[ab,l0];omega);rw[e1] at hM;refine Qa.tl [(1,int .i64 (a:Nat)),(2,int .i64 (b:Nat)),(3,int .i64 (c:Nat)),(4,int .i64 (d:Nat)),(5,u32 x),(6,u32 y),(7,ptr bv 0),(14,ptr br 0)] [(bv,.cells 142 (v2.map u32)),(br,.cells 142 ((List.replicate 16 (Value.int .u32 0)).map LV.atom))] ?_ λj1 Vf=>?_
 ·refine AN ?_;refine t2 3 6 zk (lH rfl rfl (pL (c:=u32 U1) rfl Bb cA1) (lO 6 (lH rfl rfl (pL (c:=u32 W1) rfl Bb cB1) ?_))) (lH rfl rfl (pL (c:=u32 W1) rfl Bb cB1) (lO 3 (lH rfl rfl (pL (c:=u32 U1) rfl Bb cA1) ?_)))
  all_goals
   refine lO 7 (lH rfl rfl (Pure.to (Pure.oo rfl rfl) (Ji wY1)) ?_);refine lO 8 (lS (H1:=[]) rfl (.inl rfl) rfl Kb Vc (sF [_,_] rfl Ld ?_));refine lO 9 (lH rfl rfl (Pure.Ug rfl rfl rfl hd) ?_);refine lO 10 (lS (H1:=[(bv,.cells 142 (v1.map u32))]) (F:=[(br,.cells 142 ((List.replicate 16 (Value.int .u32 0)).map LV.atom))]) rfl (.inl rfl) rfl Kb Vc (sS (Ab:=v2.map u32) (vs:=[u32 Z1]) rfl pH rfl rfl mS1 rfl tS1 ?_));refine Xm ?_;exact⟨jb,rfl,rfl⟩
 refine qa ?_;obtain⟨U2,VM⟩:∃ t,v2.getD c 0=t:=⟨_,rfl⟩;obtain⟨W2,GR⟩:∃ t,v2.getD d 0=t:=⟨_,rfl⟩;have cA2:(v2.map u32)[c]? = some (u32 U2):=by rw[<-VM];exact Hl l1 hc
 have cB2:(v2.map u32)[d]? = some (u32 W2):=by rw[<-GR];exact Hl l1 hd
 have bA2:U2<4294967296:=by rw[<-VM];exact s1.at c
 have bB2:W2<4294967296:=by rw[<-GR];exact s1.at d
 obtain⟨Z2,X4⟩:∃ t,Ta U2 W2=t:=⟨_,rfl⟩;have wZ2:IntKind.u32.wrap ((U2:Int)+(W2:Int))=((Z2:Nat):Int):=by rw[<-X4];exact LL _ _
 have bZ2:Z2<4294967296:=by rw[<-X4];exact tG _ _
 rw[VM,GR,X4] at hM;obtain⟨v3,e2⟩:∃ w,v2.set c Z2=w:=⟨_,rfl⟩;have l2:v3.length=16:=by rw[<-e2,length_set];exact l1
 have s2:Sm v3:=by rw[<-e2];exact s1.set c bZ2
 have tS2:Kd (v2.map u32) c [u32 Z2]=v3.map u32:=by rw[<-e2];exact mv l1 hc
 have mS2:Nat.ble (c+1) (v2.map u32).length=true:=ble_eq_true_of_le (by rw[ab,l1];omega);rw[e2] at hM;refine Qa.tail 9 zk ?_;refine Wg ?_;refine Wg ?_;refine lP (Pure.Ug rfl rfl rfl hc) rfl ?_;refine lP (pL (c:=u32 U2) rfl Bb cA2) rfl ?_;refine Wg ?_;refine lP (Pure.Ug rfl rfl rfl hd) rfl ?_;refine lP (pL (c:=u32 W2) rfl Bb cB2) rfl ?_;refine lP (Pure.to (Pure.Vo rfl rfl) (Ji wZ2)) rfl ?_;refine lP (Pure.Ug rfl rfl rfl hc) rfl ?_;refine LS.nil ?_;refine oS (sS (Ab:=v3.map u32) (vs:=[u32 Z2]) rfl pH rfl rfl mS2 rfl tS2 ?_);refine qa ?_;refine Qa.Nf [(1,int .i64 (a:Nat)),(2,int .i64 (b:Nat)),(3,int .i64 (c:Nat)),(4,int .i64 (d:Nat)),(5,u32 x),(6,u32 y),(7,ptr bv 0),(14,ptr br 0)] (Yr.mem jb) λj2 tc=>?_;obtain⟨U3,V5⟩:∃ t,v3.getD b 0=t:=⟨_,rfl⟩;obtain⟨W3,N5⟩:∃ t,v3.getD c 0=t:=⟨_,rfl⟩;have cA3:(v3.map u32)[b]? = some (u32 U3):=by rw[<-V5];exact Hl l2 hb
 have cB3:(v3.map u32)[c]? = some (u32 W3):=by rw[<-N5];exact Hl l2 hc
 have bA3:U3<4294967296:=by rw[<-V5];exact s2.at b
 have bB3:W3<4294967296:=by rw[<-N5];exact s2.at c
 obtain⟨Y3,C5⟩:∃ t,Qb U3 W3=t:=⟨_,rfl⟩;have wY3:IntKind.u32.wrap ((BitVec.ofInt IntKind.u32.bits U3 ^^^ BitVec.ofInt IntKind.u32.bits W3).toNat:Nat)=((Y3:Nat):Int):=by rw[<-C5];exact tu bA3 bB3
 have bY3:Y3<4294967296:=by rw[<-C5];exact kE bA3 bB3
 have bx:=YU (B0:=B0) (w0:=w0) Y3 12 20 4096 1048576 bY3 da da da da;obtain⟨Z3,V4⟩:∃ t,Jg Y3 4096 1048576=t:=⟨_,rfl⟩;have bZ3:Z3<4294967296:=by rw[<-V4];exact EG _ _ _
 rw[V4] at bx;rw[V5,N5,C5,V4] at hM;obtain⟨v4,e3⟩:∃ w,v3.set b Z3=w:=⟨_,rfl⟩;have l3:v4.length=16:=by rw[<-e3,length_set];exact l2
 have s3:Sm v4:=by rw[<-e3];exact s2.set b bZ3
 have tS3:Kd (v3.map u32) b [u32 Z3]=v4.map u32:=by rw[<-e3];exact mv l2 hb
 have mS3:Nat.ble (b+1) (v3.map u32).length=true:=ble_eq_true_of_le (by rw[ab,l2];omega);rw[e3] at hM;refine Qa.tl [(1,int .i64 (a:Nat)),(2,int .i64 (b:Nat)),(3,int .i64 (c:Nat)),(4,int .i64 (d:Nat)),(5,u32 x),(6,u32 y),(7,ptr bv 0),(14,ptr br 0)] [(bv,.cells 142 (v4.map u32)),(br,.cells 142 ((List.replicate 16 (Value.int .u32 0)).map LV.atom))] ?_ λj3 Om=>?_
 ·refine zN ?_;refine t2 3 6 zk (lH rfl rfl (pL (c:=u32 U3) rfl Bb cA3) (lO 6 (lH rfl rfl (pL (c:=u32 W3) rfl Bb cB3) ?_))) (lH rfl rfl (pL (c:=u32 W3) rfl Bb cB3) (lO 3 (lH rfl rfl (pL (c:=u32 U3) rfl Bb cA3) ?_)))
  all_goals
   refine lO 7 (lH rfl rfl (Pure.to (Pure.oo rfl rfl) (Ji wY3)) ?_);refine lO 8 (lS (H1:=[]) rfl (.inl rfl) rfl Kb Vc (sF [_,_] rfl bx ?_));refine lO 9 (lH rfl rfl (Pure.Ug rfl rfl rfl hb) ?_);refine lO 10 (lS (H1:=[(bv,.cells 142 (v3.map u32))]) (F:=[(br,.cells 142 ((List.replicate 16 (Value.int .u32 0)).map LV.atom))]) rfl (.inl rfl) rfl Kb Vc (sS (Ab:=v4.map u32) (vs:=[u32 Z3]) rfl pH rfl rfl mS3 rfl tS3 ?_));refine Xm ?_;exact⟨jb,rfl,rfl⟩
 refine qa ?_;obtain⟨U4,T5⟩:∃ t,v4.getD a 0=t:=⟨_,rfl⟩;obtain⟨W4,M5⟩:∃ t,v4.getD b 0=t:=⟨_,rfl⟩;have cA4:(v4.map u32)[a]? = some (u32 U4):=by rw[<-T5];exact Hl l3 ha
 have cB4:(v4.map u32)[b]? = some (u32 W4):=by rw[<-M5];exact Hl l3 hb
 have bA4:U4<4294967296:=by rw[<-T5];exact s3.at a
 have bB4:W4<4294967296:=by rw[<-M5];exact s3.at b
 obtain⟨Y4,hY4⟩:∃ t,Ta U4 W4=t:=⟨_,rfl⟩;have wY4:IntKind.u32.wrap ((U4:Int)+(W4:Int))=((Y4:Nat):Int):=by rw[<-hY4];exact LL _ _
 obtain⟨Z4,T4⟩:∃ t,Ta Y4 y=t:=⟨_,rfl⟩;have wZ4:IntKind.u32.wrap ((Y4:Int)+(y:Int))=((Z4:Nat):Int):=by rw[<-T4];exact LL _ _
 have bZ4:Z4<4294967296:=by rw[<-T4];exact tG _ _
 rw[T5,M5,hY4,T4] at hM;obtain⟨v5,e4⟩:∃ w,v4.set a Z4=w:=⟨_,rfl⟩;have l4:v5.length=16:=by rw[<-e4,length_set];exact l3
 have s4:Sm v5:=by rw[<-e4];exact s3.set a bZ4
 have tS4:Kd (v4.map u32) a [u32 Z4]=v5.map u32:=by rw[<-e4];exact mv l3 ha
 have mS4:Nat.ble (a+1) (v4.map u32).length=true:=ble_eq_true_of_le (by rw[ab,l3];omega);rw[e4] at hM;refine Qa.tail 11 zk ?_;refine Wg ?_;refine Wg ?_;refine lP (Pure.Ug rfl rfl rfl ha) rfl ?_;refine lP (pL (c:=u32 U4) rfl Bb cA4) rfl ?_;refine Wg ?_;refine lP (Pure.Ug rfl rfl rfl hb) rfl ?_;refine lP (pL (c:=u32 W4) rfl Bb cB4) rfl ?_;refine lP (Pure.to (Pure.Vo rfl rfl) (Ji wY4)) rfl ?_;refine Wg ?_;refine lP (Pure.to (Pure.Vo rfl rfl) (Ji wZ4)) rfl ?_;refine lP (Pure.Ug rfl rfl rfl ha) rfl ?_;refine LS.nil ?_;refine oS (sS (Ab:=v5.map u32) (vs:=[u32 Z4]) rfl pH rfl rfl mS4 rfl tS4 ?_);refine qa ?_;refine Qa.Nf [(1,int .i64 (a:Nat)),(2,int .i64 (b:Nat)),(3,int .i64 (c:Nat)),(4,int .i64 (d:Nat)),(5,u32 x),(6,u32 y),(7,ptr bv 0),(14,ptr br 0)] (Yr.mem jb) λj4 pr=>?_;obtain⟨U5,S5⟩:∃ t,v5.getD d 0=t:=⟨_,rfl⟩;obtain⟨W5,L5⟩:∃ t,v5.getD a 0=t:=⟨_,rfl⟩;have cA5:(v5.map u32)[d]? = some (u32 U5):=by rw[<-S5];exact Hl l4 hd
 have cB5:(v5.map u32)[a]? = some (u32 W5):=by rw[<-L5];exact Hl l4 ha
 have bA5:U5<4294967296:=by rw[<-S5];exact s4.at d
 have bB5:W5<4294967296:=by rw[<-L5];exact s4.at a
 obtain⟨Y5,B5⟩:∃ t,Qb U5 W5=t:=⟨_,rfl⟩;have wY5:IntKind.u32.wrap ((BitVec.ofInt IntKind.u32.bits U5 ^^^ BitVec.ofInt IntKind.u32.bits W5).toNat:Nat)=((Y5:Nat):Int):=by rw[<-B5];exact tu bA5 bB5
 have bY5:Y5<4294967296:=by rw[<-B5];exact kE bA5 bB5
 have hr5:=YU (B0:=B0) (w0:=w0) Y5 8 24 256 16777216 bY5 da da da da;obtain⟨Z5,S4⟩:∃ t,Jg Y5 256 16777216=t:=⟨_,rfl⟩;have bZ5:Z5<4294967296:=by rw[<-S4];exact EG _ _ _
 rw[S4] at hr5;rw[S5,L5,B5,S4] at hM;obtain⟨v6,e5⟩:∃ w,v5.set d Z5=w:=⟨_,rfl⟩;have l5:v6.length=16:=by rw[<-e5,length_set];exact l4
 have s5:Sm v6:=by rw[<-e5];exact s4.set d bZ5
 have tS5:Kd (v5.map u32) d [u32 Z5]=v6.map u32:=by rw[<-e5];exact mv l4 hd
 have mS5:Nat.ble (d+1) (v5.map u32).length=true:=ble_eq_true_of_le (by rw[ab,l4];omega);rw[e5] at hM;refine Qa.tl [(1,int .i64 (a:Nat)),(2,int .i64 (b:Nat)),(3,int .i64 (c:Nat)),(4,int .i64 (d:Nat)),(5,u32 x),(6,u32 y),(7,ptr bv 0),(14,ptr br 0)] [(bv,.cells 142 (v6.map u32)),(br,.cells 142 ((List.replicate 16 (Value.int .u32 0)).map LV.atom))] ?_ λj5 nF=>?_
 ·refine AN ?_;refine t2 3 6 zk (lH rfl rfl (pL (c:=u32 U5) rfl Bb cA5) (lO 6 (lH rfl rfl (pL (c:=u32 W5) rfl Bb cB5) ?_))) (lH rfl rfl (pL (c:=u32 W5) rfl Bb cB5) (lO 3 (lH rfl rfl (pL (c:=u32 U5) rfl Bb cA5) ?_)))
  all_goals
   refine lO 7 (lH rfl rfl (Pure.to (Pure.oo rfl rfl) (Ji wY5)) ?_);refine lO 8 (lS (H1:=[]) rfl (.inl rfl) rfl Kb Vc (sF [_,_] rfl hr5 ?_));refine lO 9 (lH rfl rfl (Pure.Ug rfl rfl rfl hd) ?_);refine lO 10 (lS (H1:=[(bv,.cells 142 (v5.map u32))]) (F:=[(br,.cells 142 ((List.replicate 16 (Value.int .u32 0)).map LV.atom))]) rfl (.inl rfl) rfl Kb Vc (sS (Ab:=v6.map u32) (vs:=[u32 Z5]) rfl pH rfl rfl mS5 rfl tS5 ?_));refine Xm ?_;exact⟨jb,rfl,rfl⟩
 refine qa ?_;obtain⟨U6,R5⟩:∃ t,v6.getD c 0=t:=⟨_,rfl⟩;obtain⟨W6,K5⟩:∃ t,v6.getD d 0=t:=⟨_,rfl⟩;have cA6:(v6.map u32)[c]? = some (u32 U6):=by rw[<-R5];exact Hl l5 hc
 have cB6:(v6.map u32)[d]? = some (u32 W6):=by rw[<-K5];exact Hl l5 hd
 have bA6:U6<4294967296:=by rw[<-R5];exact s5.at c
 have bB6:W6<4294967296:=by rw[<-K5];exact s5.at d
 obtain⟨Z6,R4⟩:∃ t,Ta U6 W6=t:=⟨_,rfl⟩;have wZ6:IntKind.u32.wrap ((U6:Int)+(W6:Int))=((Z6:Nat):Int):=by rw[<-R4];exact LL _ _
 have bZ6:Z6<4294967296:=by rw[<-R4];exact tG _ _
 rw[R5,K5,R4] at hM;obtain⟨v7,e6⟩:∃ w,v6.set c Z6=w:=⟨_,rfl⟩;have l6:v7.length=16:=by rw[<-e6,length_set];exact l5
 have s6:Sm v7:=by rw[<-e6];exact s5.set c bZ6
 have tS6:Kd (v6.map u32) c [u32 Z6]=v7.map u32:=by rw[<-e6];exact mv l5 hc
 have mS6:Nat.ble (c+1) (v6.map u32).length=true:=ble_eq_true_of_le (by rw[ab,l5];omega);rw[e6] at hM;refine Qa.tail 9 zk ?_;refine Wg ?_;refine Wg ?_;refine lP (Pure.Ug rfl rfl rfl hc) rfl ?_;refine lP (pL (c:=u32 U6) rfl Bb cA6) rfl ?_;refine Wg ?_;refine lP (Pure.Ug rfl rfl rfl hd) rfl ?_;refine lP (pL (c:=u32 W6) rfl Bb cB6) rfl ?_;refine lP (Pure.to (Pure.Vo rfl rfl) (Ji wZ6)) rfl ?_;refine lP (Pure.Ug rfl rfl rfl hc) rfl ?_;refine LS.nil ?_;refine oS (sS (Ab:=v7.map u32) (vs:=[u32 Z6]) rfl pH rfl rfl mS6 rfl tS6 ?_);refine qa ?_;refine Qa.Nf [(1,int .i64 (a:Nat)),(2,int .i64 (b:Nat)),(3,int .i64 (c:Nat)),(4,int .i64 (d:Nat)),(5,u32 x),(6,u32 y),(7,ptr bv 0),(14,ptr br 0)] (Yr.mem jb) λj6 EV=>?_;obtain⟨U7,Q5⟩:∃ t,v7.getD b 0=t:=⟨_,rfl⟩;obtain⟨W7,J5⟩:∃ t,v7.getD c 0=t:=⟨_,rfl⟩;have cA7:(v7.map u32)[b]? = some (u32 U7):=by rw[<-Q5];exact Hl l6 hb
 have cB7:(v7.map u32)[c]? = some (u32 W7):=by rw[<-J5];exact Hl l6 hc
 have bA7:U7<4294967296:=by rw[<-Q5];exact s6.at b
 have bB7:W7<4294967296:=by rw[<-J5];exact s6.at c
 obtain⟨Y7,A5⟩:∃ t,Qb U7 W7=t:=⟨_,rfl⟩;have wY7:IntKind.u32.wrap ((BitVec.ofInt IntKind.u32.bits U7 ^^^ BitVec.ofInt IntKind.u32.bits W7).toNat:Nat)=((Y7:Nat):Int):=by rw[<-A5];exact tu bA7 bB7
 have bY7:Y7<4294967296:=by rw[<-A5];exact kE bA7 bB7
 have aK:=YU (B0:=B0) (w0:=w0) Y7 7 25 128 33554432 bY7 da da da da;obtain⟨Z7,Q4⟩:∃ t,Jg Y7 128 33554432=t:=⟨_,rfl⟩;have bZ7:Z7<4294967296:=by rw[<-Q4];exact EG _ _ _
 rw[Q4] at aK;rw[Q5,J5,A5,Q4] at hM;obtain⟨v8,e7⟩:∃ w,v7.set b Z7=w:=⟨_,rfl⟩;have l7:v8.length=16:=by rw[<-e7,length_set];exact l6
 have s7:Sm v8:=by rw[<-e7];exact s6.set b bZ7
 have tS7:Kd (v7.map u32) b [u32 Z7]=v8.map u32:=by rw[<-e7];exact mv l6 hb
 have mS7:Nat.ble (b+1) (v7.map u32).length=true:=ble_eq_true_of_le (by rw[ab,l6];omega);rw[e7] at hM;refine Qa.tl [(1,int .i64 (a:Nat)),(2,int .i64 (b:Nat)),(3,int .i64 (c:Nat)),(4,int .i64 (d:Nat)),(5,u32 x),(6,u32 y),(7,ptr bv 0),(14,ptr br 0)] [(bv,.cells 142 (v8.map u32)),(br,.cells 142 ((List.replicate 16 (Value.int .u32 0)).map LV.atom))] ?_ λj7 hj7=>?_
 ·refine zN ?_;refine t2 3 6 zk (lH rfl rfl (pL (c:=u32 U7) rfl Bb cA7) (lO 6 (lH rfl rfl (pL (c:=u32 W7) rfl Bb cB7) ?_))) (lH rfl rfl (pL (c:=u32 W7) rfl Bb cB7) (lO 3 (lH rfl rfl (pL (c:=u32 U7) rfl Bb cA7) ?_)))
  all_goals
   refine lO 7 (lH rfl rfl (Pure.to (Pure.oo rfl rfl) (Ji wY7)) ?_);refine lO 8 (lS (H1:=[]) rfl (.inl rfl) rfl Kb Vc (sF [_,_] rfl aK ?_));refine lO 9 (lH rfl rfl (Pure.Ug rfl rfl rfl hb) ?_);refine lO 10 (lS (H1:=[(bv,.cells 142 (v7.map u32))]) (F:=[(br,.cells 142 ((List.replicate 16 (Value.int .u32 0)).map LV.atom))]) rfl (.inl rfl) rfl Kb Vc (sS (Ab:=v8.map u32) (vs:=[u32 Z7]) rfl pH rfl rfl mS7 rfl tS7 ?_));refine Xm ?_;exact⟨jb,rfl,rfl⟩
 refine qa ?_;subst hM;refine Xd ?_;refine ia (Pure.to (Pure.Zg (n:=16) rfl Bb (by rw[ab,l7];decide)) (congrArg LV.agg (GG l7)))<|oS (sS (Ab:=v8.map u32) (vs:=v8.map u32) rfl Fc rfl (by rw[ab];exact l7) rfl (GO v8) (dP _ _ (by rw[show(v8.map u32).length=16 by rw[ab];exact l7];rfl)) ?_);refine Qc ?_;exact Wa (hj7.trans (EV.trans (nF.trans (pr.trans (Om.trans (tc.trans (Vf.trans hj0))))))) (rC (rA (k:=16) rfl Bb (ble_eq_true_of_le (by rw[ab,l7];decide)) ld) rN) (congrArg LV.agg (GG l7))
open Go.ea.Wi.Wc.Q.Bk (Jg al ag Zf Yf Xf td)
def aQ:List (List UInt8):=[[48,49,50,51,52,53,54,55,56,57,97,98,99,100,101,102],[101,97,52,56,57,102,100,54,49,99,48,50,98,55,53,51],[98,56,99,48,53,50,102,100,97,101,51,54,55,49,57,52],[55,57,51,49,100,99,98,101,50,54,53,97,52,48,102,56],[57,48,53,55,50,52,97,102,101,49,98,99,54,56,51,100],[50,99,54,97,48,98,56,51,52,100,55,53,102,101,49,57],[99,53,49,102,101,100,52,97,48,55,54,51,57,50,56,98],[100,98,55,101,99,49,51,57,53,48,102,52,56,54,50,97],[54,102,101,57,98,51,48,56,99,50,100,55,49,52,97,53],[97,50,56,52,55,54,49,53,102,98,57,101,51,99,100,48]]
def Wu(r:Nat):List UInt8:=aQ.getD r []
def IK(c:UInt8):Nat:=if 97<=c.toNat then c.toNat-87 else c.toNat-48
theorem qwx:∀ r,r<10->(Wu r).length=16/\∀ j,j<16->IK ((Wu r).getD j 0)=td (16 * r+j)/\48<=((Wu r).getD j 0).toNat:=by decide +kernel
instance:Wo Uj 82 54 8:=.of zk zk
instance:Wo Uj 144 3 4:=.of zk zk
def xp:List Nat:=[1779033703,3144134277,1013904242,2773480762,1359893119,2600822924,528734635,1541459225]
theorem qi6:ca (KC B0 w0) 33 [] [] (Hb (.agg (xp.map u32))):=by refine Xa Tryz.func33 rfl (n:=2) rfl rfl rfl ?_;refine Xd ?_;refine oS (Rc λb=>?_);refine wg ?_;refine ia (Pure.iw _ (cs:=xp.map u32) rfl)<|Ga ?_;exact Wa rfl (rC (rA (k:=8) rfl Bb rfl ld) rN) rfl
theorem qnk(k:Nat)(hk:k<8):ca (KC B0 w0) 66 [int .i64 (k:Nat)] [] (Hb (.agg [int .i64 (ag k:Nat),int .i64 (Zf k:Nat),int .i64 (Yf k:Nat),int .i64 (Xf k:Nat)])):=by
 refine Xa Tryz.func66 rfl (n:=29) rfl rfl rfl ?_;refine Xd ?_;refine oS (Rc λb=>?_);refine oa ?_;refine Ca (λh=>?_) λh=>?_;have h4:k<4:=by have:=zt h;omega
 have e1:(k:Int)=(ag k:Nat):=by unfold ag;omega
 have e2:(k:Int)+4=(Zf k:Nat):=by unfold Zf;rw[zp h4];omega
 have e3:(k:Int)+8=(Yf k:Nat):=by unfold Yf;rw[zp h4];omega
 have e4:(k:Int)+12=(Xf k:Nat):=by unfold Xf;rw[zp h4];omega
 refine oa ?_;refine ia (Pure.iw _ (cs:=[_,_,_,_]) rfl)<|Ga ?_;exact Wa rfl (rC (rA (k:=4) rfl Bb rfl ld) rN) (by rw[<-e1,<-e2,<-e3,<-e4];rfl);have h4:¬k<4:=by have:=zf h;omega
 have e1:(k:Int)-4=(ag k:Nat):=by unfold ag;omega
 have e2:4+((k:Int)-4+1) % 4=(Zf k:Nat):=by unfold Zf;rw[zn h4];omega
 have e3:8+((k:Int)-4+2) % 4=(Yf k:Nat):=by unfold Yf;rw[zn h4];omega
 have e4:12+((k:Int)-4+3) % 4=(Xf k:Nat):=by unfold Xf;rw[zn h4];omega
 refine ja ?_;refine ia (Pure.rem (a:=(k:Int)-4+1) (b:=4) rfl rfl zo zo)<|qa ?_;refine ia (Pure.rem (a:=(k:Int)-4+2) (b:=4) rfl rfl zo zo)<|qa ?_;refine ia (Pure.rem (a:=(k:Int)-4+3) (b:=4) rfl rfl zo zo)<|qa ?_;refine ia (Pure.iw _ (cs:=[_,_,_,_]) rfl)<|Ga ?_;exact Wa rfl (rC (rA (k:=4) rfl Bb rfl ld) rN) (by rw[<-e1,<-e2,<-e3,<-e4];rfl)
theorem qjj(r:Nat)(hr:r<10):ca (KC B0 w0) 65 [int .i64 (r:Nat)] [] (Hb (str (Wu r))):=by
 refine Xa Tryz.func65 rfl (n:=22) rfl rfl rfl ?_;refine oa ?_;refine Ca (λh=>?_) λh0=>?_;have h1:=zt h;obtain rfl:r=0:=by omega
 refine oa ?_;exact Wa rfl (Oa rfl) rfl;have g0:r≠0:=by have:=zf h0;omega
 refine Ch ?_;refine Ca (λh=>?_) λh1=>?_;have h1:=zt h;obtain rfl:r=1:=by omega
 refine oa ?_;exact Wa rfl (Oa rfl) rfl;have g1:r≠1:=by have:=zf h1;omega
 refine Ch ?_;refine Ca (λh=>?_) λh2=>?_;have h1:=zt h;obtain rfl:r=2:=by omega
 refine oa ?_;exact Wa rfl (Oa rfl) rfl;have g2:r≠2:=by have:=zf h2;omega
 refine Ch ?_;refine Ca (λh=>?_) λh3=>?_;have h1:=zt h;obtain rfl:r=3:=by omega
 refine oa ?_;exact Wa rfl (Oa rfl) rfl;have g3:r≠3:=by have:=zf h3;omega
 refine Ch ?_;refine Ca (λh=>?_) λh4=>?_;have h1:=zt h;obtain rfl:r=4:=by omega
 refine oa ?_;exact Wa rfl (Oa rfl) rfl;have g4:r≠4:=by have:=zf h4;omega
 refine Ch ?_;refine Ca (λh=>?_) λh5=>?_;have h1:=zt h;obtain rfl:r=5:=by omega
 refine oa ?_;exact Wa rfl (Oa rfl) rfl;have g5:r≠5:=by have:=zf h5;omega
 refine Ch ?_;refine Ca (λh=>?_) λh6=>?_;have h1:=zt h;obtain rfl:r=6:=by omega
 refine oa ?_;exact Wa rfl (Oa rfl) rfl;have g6:r≠6:=by have:=zf h6;omega
 refine Ch ?_;refine Ca (λh=>?_) λh7=>?_;have h1:=zt h;obtain rfl:r=7:=by omega
 refine oa ?_;exact Wa rfl (Oa rfl) rfl;have g7:r≠7:=by have:=zf h7;omega
 refine Ch ?_;refine Ca (λh=>?_) λh8=>?_;have h1:=zt h;obtain rfl:r=8:=by omega
 refine oa ?_;exact Wa rfl (Oa rfl) rfl;have g8:r≠8:=by have:=zf h8;omega
 refine oa ?_;obtain rfl:r=9:=by omega
 exact Wa rfl (Oa rfl) rfl
end Go.Proofs.YtmnjklgnhpnckaaGreatDoor.Lb
namespace Go.GL
open Go.RowKit
section
variable{C:Ctx}{e:Env}{H:Heap}{dst:Option Nat}{ty:TypeId}{pos:String}{ka:Array Edge}{g:Option (Nat×Bool)}{x:Operand}
theorem Pure.K6{xT:TypeId}{a:Int}(hx:e.ev x=int .u32 a):Pure C ⟨dst,.unOp .xor xT x,ty,pos,ka,g⟩ e H (int .u32 (IntKind.u32.wrap ((BitVec.ofInt IntKind.u32.bits 4294967295 ^^^ BitVec.ofInt IntKind.u32.bits a).toNat:Nat))):=
 .Ja λρ _ _ h=>⟨_,Zc,λw'=>by simp only[execOp,Rb h hx,Op.unary];rfl⟩
end
end Go.GL
namespace Go.Proofs.YtmnjklgnhpnckaaGreatDoor.Lb
open Go.GL Go.RowKit Go.ea
open pi (u32 gn Ji tu)
open Go.ea.Wi.Wc.Q (Ta Ac Qb an)
open Go.ea.Wi.Wc.Q.Bk (Jg al ag Zf Yf Xf td mT MI qqJ BC Ej LI vG FI Ep sU)
def vT(h:List Nat):Nat->List Nat
 |0=>List.replicate 16 0
 |i+1=>((vT h i).set i (h.getD i 0)).set (i+8) (xp.getD i 0)
theorem dX(h:List Nat):∀ i,(vT h i).length=16
 |0=>rfl
 |i+1=>by unfold vT;rw[length_set,length_set];exact dX h i
theorem VS(Tc:List Nat):∀ i,Sm (mT Tc i)
 |0=>λx hx=>by rw[List.eq_of_mem_replicate hx];decide
 |i+1=>(VS Tc i).set _ (Nat.or_lt_two_pow (n:=32) ((VS Tc i).at _) (mod_lt _ da))
theorem qzq:Sm xp:=by unfold Sm;decide
theorem OW{h:List Nat}(hs:Sm h):∀ i,Sm (vT h i)
 |0=>λx hx=>by rw[List.eq_of_mem_replicate hx];decide
 |i+1=>((OW hs i).set _ (hs.at i)).set _ (qzq.at i)
theorem U8(h:List Nat)(c:Nat)(last:Bool):Ej h c last=let v:=(vT h 8).set 12 (Qb ((vT h 8).getD 12 0) c)
  if last=true then v.set 14 3766232660 else v:=by
 cases last <;> rfl
theorem qwU{v:List Nat}(hv:v.length=16)(a b c d x y:Nat):(al v a b c d x y).length=16:=by unfold al;simp only[length_set];exact hv
theorem qy5{v:List Nat}(hs:Sm v)(a b c d x y:Nat):Sm (al v a b c d x y):=by unfold al;exact(((((((hs.set _ (tG _ _)).set _ (EG _ _ _)).set _ (tG _ _)).set _ (EG _ _ _)).set _ (tG _ _)).set _ (EG _ _ _)).set _ (tG _ _)).set _ (EG _ _ _)
def kT(m v:List Nat)(r:Nat):Nat->List Nat
 |0=>v
 |k+1=>FI m r (kT m v r k) k
def rT(m v:List Nat):Nat->List Nat
 |0=>v
 |r+1=>kT m (rT m v r) r 8
theorem X7(m v:List Nat)(r:Nat):∀ k,kT m v r k=(List.range k).foldl (FI m r) v
 |0=>rfl
 |k+1=>by rw[List.range_succ,List.foldl_append,<-X7 m v r k];rfl
theorem T7(m v:List Nat):∀ r,rT m v r=(List.range r).foldl (LI m) v
 |0=>rfl
 |r+1=>by rw[List.range_succ,List.foldl_append,<-T7 m v r];rw[List.foldl_cons,List.foldl_nil];have h1:rT m v (r+1)=kT m (rT m v r) r 8:=rfl;rw[h1,X7,LI]
theorem E8(m v:List Nat):rT m v 10=vG m v:=T7 m v 10
theorem tO{m v:List Nat}(hv:v.length=16)(hs:Sm v)(r:Nat):∀ k,(kT m v r k).length=16/\Sm (kT m v r k)
 |0=>⟨hv,hs⟩
 |k+1=>⟨qwU (tO hv hs r k).1 _ _ _ _ _ _,qy5 (tO hv hs r k).2 _ _ _ _ _ _⟩
theorem xO{m v:List Nat}(hv:v.length=16)(hs:Sm v):∀ r,(rT m v r).length=16/\Sm (rT m v r)
 |0=>⟨hv,hs⟩
 |r+1=>tO (xO hv hs r).1 (xO hv hs r).2 r 8
theorem qAv:∀ k,k<8->ag k<16/\Zf k<16/\Yf k<16/\Xf k<16:=by decide
theorem qnJ{B0:Nat}{w0:World}(c:UInt8)(n:Nat)(h:IK c=n/\48<=c.toNat):ca (KC B0 w0) 68 [int .u8 (c.toNat:Int)] [] (Hb (int .i64 (n:Nat))):=by
 have:=RP (B0:=B0) (w0:=w0) c;rwa [show(if 97<=c.toNat then (c.toNat:Int)-87 else (c.toNat:Int)-48)=((n:Nat):Int) by
  rw[<-h.1];unfold IK;have:=h.2;split <;> omega] at this
def oT(h v:List Nat):Nat->List Nat
 |0=>h
 |i+1=>(oT h v i).set i (Qb (Qb (h.getD i 0) (v.getD i 0)) (v.getD (i+8) 0))
theorem wL(h v:List Nat):∀ i,(oT h v i).length=h.length
 |0=>rfl
 |i+1=>by unfold oT;rw[length_set];exact wL h v i
theorem FW(h v:List Nat)(hh:h.length=8)(j:Nat):∀ i,i<=8->(oT h v i).getD j 0=if j<i then Qb (Qb (h.getD j 0) (v.getD j 0)) (v.getD (j+8) 0) else h.getD j 0
 |0,_=>by rw[zn zo];rfl
 |i+1,hi=>by unfold oT;rw[sU _ _ _ _ (by rw[wL,hh];omega),FW h v hh j i zo];by_cases e:j=i;subst e;rw[zp rfl,zp zo];rw[zn e];by_cases e2:j<i;rw[zp e2,zp zo];rw[zn e2,zn zo]
theorem qzR(h v:List Nat)(hh:h.length=8):oT h v 8=(List.range 8).map λi=>Qb (Qb (h.getD i 0) (v.getD i 0)) (v.getD (i+8) 0):=by
 refine List.ext_getElem (by rw[wL,hh,ab,List.length_range]) λj h1 h2=>?_;have hj:j<8:=by rwa [wL,hh] at h1
 have:=FW h v hh j 8 (Nb _);rw[zp hj,getD_eq_getElem?_getD,di h1] at this;rw[List.getElem_map,List.getElem_range];exact this
attribute [local irreducible] wa Qa Ra ca Go.GL.Pure Ud xe od LQ Eb Tf Rh LS
variable{B0:Nat}{w0:World}
theorem qmj(h:List Nat)(hh:h.length=8)(hs:Sm h)(Tc:List UInt8)(hb:Tc.length=64)(c:Nat)(fD:c<4294967296)(last:Bool):ca (KC B0 w0) 34 [.agg (h.map u32),str Tc,int .u64 (c:Nat),bool last] [] (Hb (.tuple [.agg ((Ep h (Ee Tc) c last).map u32),int .i64 0])):=by
 have fg:=qi6 (B0:=B0) (w0:=w0);have RH:(Ee Tc).length=64:=by unfold Ee;rw[ab];exact hb
 refine Xa Tryz.func34 rfl (n:=135) rfl rfl rfl ?_;refine Xd ?_;refine oS (sB (cs:=h.map u32) rfl λbh=>oS (Rc λbr=>?_));refine ja ?_;refine oC rfl (λh1=>by rw[hb] at h1;exact absurd h1 da) λ_=>?_;refine Zi ?_;refine oS (Rc λbm=>?_);refine oa ?_
 refine oL (λk sl H=>∃ i:Nat,i<=64/\k=64-i/\sl=[(1,str Tc),(2,int .u64 (c:Nat)),(3,bool last),(4,ptr bh 0),(8,ptr br 0),(9,int .i64 0),(10,ptr bm 0),(11,int .i64 i)]/\H=[(bm,.cells 142 ((mT (Ee Tc) i).map u32)),(br,.cells 82 ((List.replicate 8 0).map u32)),(bh,.cells 82 (h.map u32))])
  ⟨_,_,_,⟨0,zero_le _,rfl,rfl,rfl⟩,jb,Tb _⟩ ?_
 rintro k sl H ⟨i,hi,rfl,rfl,rfl⟩ j1 Vf;refine oa ?_;refine Ca (λhc=>?_) λhc=>?_;have za:i<64:=by have:=zt hc;omega
 have h4:i / 4<16:=by omega
 have wm:Tc[((i:Nat):Int).toNat]? = some Tc[i]:=by rw[Int.toNat_natCast];exact di zo
 have I4:(Ee Tc).getD i 0=Tc[i].toNat:=by unfold Ee;rw[getD_eq_getElem?_getD,List.getElem?_map,di zo];rfl
 have hb8:=TT Tc[i];have e0:IntKind.u32.wrap ((Tc[i].toNat:Nat):Int)=((Tc[i].toNat:Nat):Int):=by rw[gn];omega
 have e1:IntKind.u64.wrap (8 * ((i:Int) % 4))=((8 * (i % 4):Nat):Int):=by simp only[IntKind.wrap,IntKind.bits,IntKind.signed];simp;omega
 have e2:IntKind.u32.wrap (((Tc[i].toNat:Nat):Int) * 2 ^ min ((8 * (i % 4):Nat):Int).toNat IntKind.u32.bits)=((Tc[i].toNat * 2 ^ (8 * (i % 4)) % 4294967296:Nat):Int):=by rw[Int.toNat_natCast,show min (8 * (i % 4)) IntKind.u32.bits=8 * (i % 4) from min_eq_left (by show 8 * (i % 4)<=32;omega),show(2:Int) ^ (8 * (i % 4))=((2 ^ (8 * (i % 4)):Nat):Int) from(Int.natCast_pow 2 _).symm,<-Int.natCast_mul,JW]
 have e3:=x9 (a:=(mT (Ee Tc) i).getD (i / 4) 0) (b:=Tc[i].toNat * 2 ^ (8 * (i % 4)) % 4294967296) ((VS _ i).at _) (mod_lt _ da);have hS:(mT (Ee Tc) i).set (i / 4) ((mT (Ee Tc) i).getD (i / 4) 0 ||| (Tc[i].toNat * 2 ^ (8 * (i % 4)) % 4294967296))=mT (Ee Tc) (i+1):=by rw[<-I4];rfl
 have hl:=MI (Ee Tc) i;generalize Tc[i]=ch at *;generalize ch.toNat * 2 ^ (8 * (i % 4)) % 4294967296=z at *;obtain⟨w,hw⟩:∃ w,mT (Ee Tc) (i+1)=w:=⟨_,rfl⟩;rw[hw] at hS;obtain⟨v,RC⟩:∃ v,mT (Ee Tc) i=v:=⟨_,rfl⟩;rw[RC] at hS e3 hl ⊢;refine qa ?_;refine Qa.tail 17 zk ?_;refine Wg ?_;refine lP (Pure.quo (a:=(i:Int)) (b:=4) rfl rfl zo zo zo) rfl ?_;refine Wg ?_;refine lP (Pure.quo (a:=(i:Int)) (b:=4) rfl rfl zo zo zo) rfl ?_;refine lP (Pure.Ug (i:=i / 4) rfl rfl zo h4) rfl ?_;refine lP (pL (c:=u32 (v.getD (i / 4) 0)) rfl Bb (Hl hl h4)) rfl ?_;refine Wg ?_;refine Wg ?_;refine lP (pI rfl rfl zo wm) rfl ?_;refine lP (Pure.to (Pure.xx rfl) (Ji e0)) rfl ?_;refine Wg ?_;refine lP (Pure.rem (a:=(i:Int)) (b:=4) rfl rfl zo zo) rfl ?_;refine lP (Pure.to (Pure.Fv rfl rfl) (congrArg (int .i64) (xy (n:=8 * ((i:Int) % 4)) zo))) rfl ?_;refine lP (Pure.to (Pure.xx rfl) (congrArg (int .u64) e1)) rfl ?_;refine lP (Pure.to (Pure.jO rfl rfl zo) (Ji e2)) rfl ?_;refine lP (Pure.to (Pure.orW rfl rfl) (Ji e3)) rfl ?_;refine lP (Pure.Ug (i:=i / 4) rfl rfl zo h4) rfl ?_;refine LS.nil ?_;refine oS (sS (Ab:=w.map u32) (vs:=[u32 (v.getD (i / 4) 0 ||| z)]) rfl pH rfl rfl (ble_eq_true_of_le (by rw[ab,hl];show i / 4+1<=16;omega)) rfl (by rw[<-hS];exact mv hl h4) ?_);refine oa ?_;exact⟨_,_,_,by omega,⟨i+1,by omega,rfl,rfl,by rw[hw]⟩,jb,Tb _,Vf⟩;have u4:i=64:=by have:=zf hc;omega
 subst u4;have hmw:=qqJ (Ee Tc) λx hx=>iP Tc x hx;have Bu:=MI (Ee Tc) 64;have Au:=VS (Ee Tc) 64;generalize mT (Ee Tc) 64=m at hmw Bu Au ⊢;refine oa ?_;refine oS (sF [] rfl fg<|oS (Rc λbi=>?_));refine oS (sS (Ab:=xp.map u32) (vs:=xp.map u32) rfl pH rfl rfl rfl rfl rfl ?_);refine wg ?_;refine oS (Rc λbv=>?_);refine oa ?_
 refine oL (λk sl H=>∃ i:Nat,i<=8/\k=8-i/\sl=[(2,int .u64 (c:Nat)),(3,bool last),(4,ptr bh 0),(8,ptr br 0),(9,int .i64 0),(10,ptr bm 0),(12,ptr bi 0),(13,ptr bv 0),(14,int .i64 i)]/\H=[(bv,.cells 142 ((vT h i).map u32)),(bi,.cells 82 (xp.map u32)),(bm,.cells 142 (m.map u32)),(br,.cells 82 ((List.replicate 8 0).map u32)),(bh,.cells 82 (h.map u32))])
  ⟨_,_,_,⟨0,zero_le _,rfl,rfl,rfl⟩,jb,Tb _⟩ ?_
 rintro k sl H ⟨i,hi,rfl,rfl,rfl⟩ j2 tc;refine oa ?_;refine Ca (λhc=>?_) λhc=>?_;have za:i<8:=by have:=zt hc;omega
 have Gz:=dX h i;have hS:((vT h i).set i (h.getD i 0)).set (i+8) (xp.getD i 0)=vT h (i+1):=rfl;obtain⟨w,hw⟩:∃ w,vT h (i+1)=w:=⟨_,rfl⟩;obtain⟨v,RC⟩:∃ v,vT h i=v:=⟨_,rfl⟩;rw[hw,RC] at hS;rw[RC] at Gz ⊢;obtain⟨v1,e1⟩:∃ v1,v.set i (h.getD i 0)=v1:=⟨_,rfl⟩;have l1:v1.length=16:=by rw[<-e1,length_set];exact Gz
 rw[e1] at hS;refine oa ?_;refine ia (Pure.Ug (i:=i) rfl rfl rfl za)<|ia (pL (c:=u32 (h.getD i 0)) rfl cN (Hl hh za))<|ia (Pure.Ug (i:=i) rfl rfl rfl (show i<16 by omega))<|oS (sS (Ab:=v1.map u32) (vs:=[u32 (h.getD i 0)]) rfl pH rfl rfl (ble_eq_true_of_le (by rw[ab,Gz];show i+1<=16;omega)) rfl (by rw[<-e1];exact mv Gz (show i<16 by omega)) ?_);refine rl ?_;refine ia (Pure.Ug (i:=i) rfl rfl rfl za)<|ia (pL (c:=u32 (xp.getD i 0)) rfl xf (Hl (v:=xp) (n:=8) rfl za))<|ia (Pure.Ug (i:=i+8) rfl rfl rfl (show i+8<16 by omega))<|oS (sS (Ab:=w.map u32) (vs:=[u32 (xp.getD i 0)]) rfl pH rfl rfl (ble_eq_true_of_le (by rw[ab,l1];show i+8+1<=16;omega)) rfl (by rw[<-hS];exact mv l1 (show i+8<16 by omega)) ?_);refine oa ?_;exact⟨_,_,_,by omega,⟨i+1,by omega,rfl,rfl,by rw[hw]⟩,jb,Tb _,tc⟩;have X3:i=8:=by have:=zf hc;omega
 subst X3;clear hi;have Gz:=dX h 8;have VE:=OW hs 8;have tH:=U8 h c last;have tQ:(vT h 8).getD 14 0=528734635:=rfl;generalize vT h 8=v at Gz VE tH tQ ⊢;obtain⟨LN,SJ⟩:∃ y,Qb (v.getD 12 0) c=y:=⟨_,rfl⟩;have w12:IntKind.u32.wrap ((BitVec.ofInt IntKind.u32.bits (v.getD 12 0:Nat) ^^^ BitVec.ofInt IntKind.u32.bits (c:Nat)).toNat:Nat)=((LN:Nat):Int):=by rw[<-SJ];exact tu (VE.at 12) fD
 have JF:LN<4294967296:=by rw[<-SJ];exact kE (VE.at 12) fD
 have e12:IntKind.u32.wrap ((c:Nat):Int)=((c:Nat):Int):=by rw[gn];omega
 obtain⟨v1,PC⟩:∃ v1,v.set 12 LN=v1:=⟨_,rfl⟩;have l1:v1.length=16:=by rw[<-PC,length_set];exact Gz
 have s1:Sm v1:=by rw[<-PC];exact VE.set 12 JF
 have h14:v1.getD 14 0=528734635:=by rw[<-PC,sU _ _ _ _ zo,zn da,tQ]
 have t12:Kd (v.map u32) 12 [u32 LN]=v1.map u32:=by rw[<-PC];exact mv Gz da
 simp only at tH;rw[SJ,PC] at tH;have w13:IntKind.u32.wrap ((BitVec.ofInt IntKind.u32.bits (v1.getD 13 0:Nat) ^^^ BitVec.ofInt IntKind.u32.bits ((0:Nat):Int)).toNat:Nat)=((v1.getD 13 0:Nat):Int):=by have:=tu (a:=v1.getD 13 0) (b:=0) (s1.at 13) da;rwa [Nat.xor_zero] at this
 have t13:Kd (v1.map u32) 13 [u32 (v1.getD 13 0)]=v1.map u32:=by
  rw[mv l1 da];congr 1;refine List.ext_getElem (by rw[length_set]) λi h1 h2=>?_;rw[List.getElem_set];split
  rename_i e;subst e;rw[getD_eq_getElem?_getD,di h2];rfl;rfl
 have e32:((c:Nat):Int).fdiv (2 ^ min (32:Int).toNat IntKind.u64.bits)=((0:Nat):Int):=by rw[show(2:Int) ^ min (32:Int).toNat IntKind.u64.bits=4294967296 by decide,Int.fdiv_eq_ediv_of_nonneg _ zo];omega
 have dz:IntKind.u32.wrap ((0:Nat):Int)=((0:Nat):Int):=by rw[gn];rfl
 have w14:IntKind.u32.wrap ((BitVec.ofInt IntKind.u32.bits 4294967295 ^^^ BitVec.ofInt IntKind.u32.bits ((528734635:Nat):Int)).toNat:Nat)=((3766232660:Nat):Int):=by have:=tu (a:=4294967295) (b:=528734635) da da;rwa [show(4294967295 ^^^ 528734635:Nat)=3766232660 by decide] at this
 have mb:∀ i,i<16->Nat.ble (i+1) 16=true:=λi hi=>ble_eq_true_of_le zo;have m0:Nat.ble (12+1) (v.map u32).length=true:=by rw[ab,Gz];rfl
 have m1:Nat.ble (13+1) (v1.map u32).length=true:=by rw[ab,l1];rfl
 have m2:Nat.ble (14+1) (v1.map u32).length=true:=by rw[ab,l1];rfl
 have c12:(v.map u32)[12]? = some (u32 (v.getD 12 0)):=Hl Gz da;have c13:(v1.map u32)[13]? = some (u32 (v1.getD 13 0)):=Hl l1 da;have c14:(v1.map u32)[14]? = some (u32 528734635):=by rw[<-h14];exact Hl l1 da
 generalize v.getD 12 0=x12 at *;generalize v1.getD 13 0=D7 at *;refine oa ?_;refine ia (Pure.Ug (i:=12) rfl rfl rfl da)<|ia (pL (c:=u32 x12) rfl Bb c12)<|ia (pM rfl)<|ia (Pure.to (Pure.xx rfl) (Ji e12))<|ia (Pure.to (Pure.oo rfl rfl) (Ji w12))<|ia (Pure.Ug (i:=12) rfl rfl rfl da)<|oS (sS (Ab:=v1.map u32) (vs:=[u32 LN]) rfl pH rfl rfl m0 rfl t12 ?_);refine wg ?_;refine ia (Pure.Ug (i:=13) rfl rfl rfl da)<|ia (pL (c:=u32 D7) rfl Bb c13)<|ia (pM rfl)<|ia (Pure.to (Pure.shr rfl rfl da) (congrArg (int .u64) e32))<|ia (Pure.to (Pure.xx rfl) (Ji dz))<|ia (Pure.to (Pure.oo rfl rfl) (Ji w13))<|ia (Pure.Ug (i:=13) rfl rfl rfl da)<|oS (sS (Ab:=v1.map u32) (vs:=[u32 D7]) rfl pH rfl rfl m1 rfl t13 ?_);refine Xh ?_;refine Qa.tl [(4,ptr bh 0),(8,ptr br 0),(9,int .i64 0),(10,ptr bm 0),(13,ptr bv 0)] [(bv,.cells 142 ((Ej h c last).map u32)),(bi,.cells 82 (xp.map u32)),(bm,.cells 142 (m.map u32)),(br,.cells 82 ((List.replicate 8 0).map u32)),(bh,.cells 82 (h.map u32))] ?_ λj3 Om=>?_
 cases last with
 |true=>
  rw[zp rfl] at tH;have t14:Kd (v1.map u32) 14 [u32 3766232660]=(Ej h c true).map u32:=by rw[tH];exact mv l1 da
  refine oC rfl (λ_=>?_) (λh1=>by cases h1);refine Xd ?_;refine ia (Pure.Ug (i:=14) rfl rfl rfl da)<|ia (pL (c:=u32 528734635) rfl Bb c14)<|ia (Pure.to (Pure.K6 rfl) (Ji w14))<|ia (Pure.Ug (i:=14) rfl rfl rfl da)<|oS (sS (Ab:=(Ej h c true).map u32) (vs:=[u32 3766232660]) rfl pH rfl rfl m2 rfl t14 ?_);refine Qc ?_;exact⟨jb,rfl,rfl⟩
 |false=>rw[zn da] at tH;refine oC rfl (λh1=>by cases h1) λ_=>?_;refine qa ?_;exact⟨jb,by rw[tH],rfl⟩
 have UJ:(Ej h c last).length=16:=rfl;have TJ:Sm (Ej h c last):=by rw[tH];split;exact s1.set 14 da;exact s1
 generalize M1:Ej h c last=vl at UJ TJ ⊢;refine oa ?_;refine oL (λk sl H=>∃ r:Nat,r<=10/\k=10-r/\sl=[(4,ptr bh 0),(8,ptr br 0),(9,int .i64 0),(10,ptr bm 0),(13,ptr bv 0),(15,int .i64 r)]/\H=[(bv,.cells 142 ((rT m vl r).map u32)),(bi,.cells 82 (xp.map u32)),(bm,.cells 142 (m.map u32)),(br,.cells 82 ((List.replicate 8 0).map u32)),(bh,.cells 82 (h.map u32))])
  ⟨_,_,_,⟨0,zero_le _,rfl,rfl,rfl⟩,jb,Tb _⟩ ?_
 rintro k sl H ⟨r,hr,rfl,rfl,rfl⟩ j4 pr;refine oa ?_;refine Ca (λhc=>?_) λhc=>?_;have za:r<10:=by have:=zt hc;omega
 have Kt:=qjj (B0:=B0) (w0:=w0) r za;obtain⟨yp,il⟩:=qwx r za;obtain⟨zj,vk⟩:=xO (m:=m) UJ TJ r;have oq:kT m (rT m vl r) r 8=rT m vl (r+1):=rfl;obtain⟨vn,hvn⟩:∃ vn,rT m vl (r+1)=vn:=⟨_,rfl⟩;obtain⟨vr,hvr⟩:∃ vr,rT m vl r=vr:=⟨_,rfl⟩;rw[hvn,hvr] at oq;rw[hvr] at zj vk ⊢;refine oa ?_;refine oS (sF [_] rfl Kt ?_);refine oa ?_;refine oL (λq sl H=>∃ k:Nat,k<=8/\q=8-k/\sl=[(4,ptr bh 0),(8,ptr br 0),(9,int .i64 0),(10,ptr bm 0),(13,ptr bv 0),(15,int .i64 r),(16,str (Wu r)),(17,int .i64 k)]/\H=[(bv,.cells 142 ((kT m vr r k).map u32)),(bi,.cells 82 (xp.map u32)),(bm,.cells 142 (m.map u32)),(br,.cells 82 ((List.replicate 8 0).map u32)),(bh,.cells 82 (h.map u32))])
  ⟨_,_,_,⟨0,zero_le _,rfl,rfl,rfl⟩,jb,Tb _⟩ ?_
 rintro q sl H ⟨k,hk,rfl,rfl,rfl⟩ j5 nF;refine oa ?_;refine Ca (λhc=>?_) λhc=>?_;have DV:k<8:=by have:=zt hc;omega
 have F4:=qnk (B0:=B0) (w0:=w0) k DV;obtain⟨XA,O7⟩:=tO (m:=m) zj vk r k;obtain⟨l2,_⟩:=tO (m:=m) zj vk r (k+1);have Jt:FI m r (kT m vr r k) k=kT m vr r (k+1):=rfl;obtain⟨w2,Zw⟩:∃ w2,kT m vr r (k+1)=w2:=⟨_,rfl⟩;obtain⟨w,hw⟩:∃ w,kT m vr r k=w:=⟨_,rfl⟩;rw[hw,Zw] at Jt;rw[Zw] at l2;rw[hw] at XA O7 ⊢;obtain⟨cA,cB,cC,cD⟩:=qAv k DV;have DM:=il (2 * k) zo;have xV:=il (2 * k+1) zo;have KM:(Wu r)[(2 * (k:Int)).toNat]? = some ((Wu r).getD (2 * k) 0):=by rw[show(2 * (k:Int)).toNat=2 * k by omega,getD_eq_getElem?_getD,di zo];rfl
 have bD:(Wu r)[(2 * (k:Int)+1).toNat]? = some ((Wu r).getD (2 * k+1) 0):=by rw[show(2 * (k:Int)+1).toNat=2 * k+1 by omega,getD_eq_getElem?_getD,di zo];rfl
 have FF:=Go.ea.Wi.Wc.Q.Bk.Fq (16 * r+2 * k) zo;have bC:=Go.ea.Wi.Wc.Q.Bk.Fq (16 * r+(2 * k+1)) zo;have xm:=qnJ (B0:=B0) (w0:=w0) _ _ DM;have ur:=qnJ (B0:=B0) (w0:=w0) _ _ xV;have iF:=YX (B0:=B0) (w0:=w0) w XA O7 (ag k) (Zf k) (Yf k) (Xf k) (m.getD (td (16 * r+2 * k)) 0) (m.getD (td (16 * r+(2 * k+1))) 0) cA cB cC cD (Au.at _) (Au.at _);rw[show al w (ag k) (Zf k) (Yf k) (Xf k) (m.getD (td (16 * r+2 * k)) 0) (m.getD (td (16 * r+(2 * k+1))) 0)=w2 from Jt] at iF;have g1:(m.map u32)[td (16 * r+2 * k)]? = some (u32 (m.getD (td (16 * r+2 * k)) 0)):=Hl Bu FF;have g2:(m.map u32)[td (16 * r+(2 * k+1))]? = some (u32 (m.getD (td (16 * r+(2 * k+1))) 0)):=Hl Bu bC;generalize (Wu r).getD (2 * k) 0=ch1 at KM xm;generalize (Wu r).getD (2 * k+1) 0=ch2 at bD ur;generalize m.getD (td (16 * r+2 * k)) 0=x1 at g1 iF;generalize m.getD (td (16 * r+(2 * k+1))) 0=x2 at g2 iF;generalize td (16 * r+2 * k)=n1 at FF xm g1;generalize td (16 * r+(2 * k+1))=n2 at bC ur g2;refine oa ?_;refine oS (sF [_] rfl F4<|oS (Rc λbe=>?_));have V0:0+16<=(w.map u32).length:=by rw[ab];omega
 refine Ga ?_;have hF:HSub [(be,.cells 144 [int .i64 (ag k:Nat),int .i64 (Zf k:Nat),int .i64 (Yf k:Nat),int .i64 (Xf k:Nat)]),(bm,.cells 142 (m.map u32))] [(be,.cells 144 [int .i64 (ag k:Nat),int .i64 (Zf k:Nat),int .i64 (Yf k:Nat),int .i64 (Xf k:Nat)]),(bv,.cells 142 (w.map u32)),(bi,.cells 82 (xp.map u32)),(bm,.cells 142 (m.map u32)),(br,.cells 82 ((List.replicate 8 0).map u32)),(bh,.cells 82 (h.map u32))]:=Pb pH (Pb Bj Vc);have hF2:HSub [(be,.cells 144 [int .i64 (ag k:Nat),int .i64 (Zf k:Nat),int .i64 (Yf k:Nat),int .i64 (Xf k:Nat)]),(bm,.cells 142 (m.map u32))] [(be,.cells 144 [int .i64 (ag k:Nat),int .i64 (Zf k:Nat),int .i64 (Yf k:Nat),int .i64 (Xf k:Nat)]),(bi,.cells 82 (xp.map u32)),(bm,.cells 142 (m.map u32)),(br,.cells 82 ((List.replicate 8 0).map u32)),(bh,.cells 82 (h.map u32))]:=Pb pH (Pb Fc Vc);refine bj (m:=26) rfl [(be,.cells 144 [int .i64 (ag k:Nat),int .i64 (Zf k:Nat),int .i64 (Yf k:Nat),int .i64 (Xf k:Nat)]),(bm,.cells 142 (m.map u32))] ?_;refine aT 1 rfl rfl (Pure.Ug (i:=0) rfl rfl rfl da) ?_ (Bh:=hF);refine aT 2 rfl rfl (pL (c:=int .i64 (ag k:Nat)) rfl Bb rfl) ?_ (Bh:=hF);refine aT 3 rfl rfl (Pure.Ug (i:=1) rfl rfl rfl da) ?_ (Bh:=hF);refine aT 4 rfl rfl (pL (c:=int .i64 (Zf k:Nat)) rfl Bb rfl) ?_ (Bh:=hF);refine aT 5 rfl rfl (Pure.Ug (i:=2) rfl rfl rfl da) ?_ (Bh:=hF);refine aT 6 rfl rfl (pL (c:=int .i64 (Yf k:Nat)) rfl Bb rfl) ?_ (Bh:=hF);refine aT 7 rfl rfl (Pure.Ug (i:=3) rfl rfl rfl da) ?_ (Bh:=hF);refine aT 8 rfl rfl (pL (c:=int .i64 (Xf k:Nat)) rfl Bb rfl) ?_ (Bh:=hF);refine aT 9 rfl rfl (pM rfl) ?_ (Bh:=hF);refine aT 10 rfl rfl (pM rfl) ?_ (Bh:=hF);refine aT 11 rfl rfl (Pure.to (Pure.Fv rfl rfl) (congrArg (int .i64) (xy (n:=2 * (k:Int)) zo))) ?_ (Bh:=hF);refine aT 12 rfl rfl (pI rfl rfl zo KM) ?_ (Bh:=hF);refine aT 16 rfl rfl (pM rfl) ?_ (Bh:=hF);refine aT 17 rfl rfl (pM rfl) ?_ (Bh:=hF);refine aT 18 rfl rfl (Pure.to (Pure.Fv rfl rfl) (congrArg (int .i64) (xy (n:=2 * (k:Int)) zo))) ?_ (Bh:=hF);refine aT 19 rfl rfl (Pure.add rfl rfl zo) ?_ (Bh:=hF);refine aT 20 rfl rfl (pI rfl rfl zo bD) ?_ (Bh:=hF);refine aL ?_ hF;refine t2 0 13 zk ?_ ?_;refine lH rfl rfl (Pure.to (Pure.Zg (n:=16) rfl xf (by rw[ab,XA];decide)) (congrArg LV.agg (GG XA)))<|lO 13 (lS (H1:=[]) rfl (.inl rfl) rfl Kb hF (sF [_] rfl xm ?_));refine Tf.any [(be,.cells 144 [int .i64 (ag k:Nat),int .i64 (Zf k:Nat),int .i64 (Yf k:Nat),int .i64 (Xf k:Nat)]),(bm,.cells 142 (m.map u32))] (λ_ h=>h) (aT 14 rfl rfl (Pure.Ug (i:=n1) rfl rfl rfl FF) (aT 15 rfl rfl (pL rfl xf g1) (aL ?_ hF) (Bh:=hF)) (Bh:=hF));refine lO 21 (lS (H1:=[]) rfl (.inl rfl) rfl Kb hF (sF [_] rfl ur ?_));refine Tf.any [(be,.cells 144 [int .i64 (ag k:Nat),int .i64 (Zf k:Nat),int .i64 (Yf k:Nat),int .i64 (Xf k:Nat)]),(bm,.cells 142 (m.map u32))] (λ_ h=>h) (aT 22 rfl rfl (Pure.Ug (i:=n2) rfl rfl rfl bC) (aT 23 rfl rfl (pL rfl xf g2) (aL ?_ hF) (Bh:=hF)) (Bh:=hF));refine jW ?_;exact⟨_,_,_,by omega,⟨k+1,by omega,rfl,rfl,by rw[Zw]⟩,jb,Pb pH (Pb Fc (Pb Fc (Pb Fc (Pb Fc Vc)))),nF⟩;refine lS (H1:=[]) rfl (.inl rfl) rfl Kb hF (sF [_] rfl xm ?_);refine Tf.any [(be,.cells 144 [int .i64 (ag k:Nat),int .i64 (Zf k:Nat),int .i64 (Yf k:Nat),int .i64 (Xf k:Nat)]),(bm,.cells 142 (m.map u32))] (λ_ h=>h) (aT 14 rfl rfl (Pure.Ug (i:=n1) rfl rfl rfl FF) (aT 15 rfl rfl (pL rfl xf g1) (aL ?_ hF) (Bh:=hF)) (Bh:=hF));refine t2 0 21 zk ?_ ?_;refine lH rfl rfl (Pure.to (Pure.Zg (n:=16) rfl xf (by rw[ab,XA];decide)) (congrArg LV.agg (GG XA)))<|lO 21 (lS (H1:=[]) rfl (.inl rfl) rfl Kb hF (sF [_] rfl ur ?_));refine Tf.any [(be,.cells 144 [int .i64 (ag k:Nat),int .i64 (Zf k:Nat),int .i64 (Yf k:Nat),int .i64 (Xf k:Nat)]),(bm,.cells 142 (m.map u32))] (λ_ h=>h) (aT 22 rfl rfl (Pure.Ug (i:=n2) rfl rfl rfl bC) (aT 23 rfl rfl (pL rfl xf g2) (aL ?_ hF) (Bh:=hF)) (Bh:=hF));refine jW ?_;exact⟨_,_,_,by omega,⟨k+1,by omega,rfl,rfl,by rw[Zw]⟩,jb,Pb pH (Pb Fc (Pb Fc (Pb Fc (Pb Fc Vc)))),nF⟩;refine lS (H1:=[]) rfl (.inl rfl) rfl Kb hF (sF [_] rfl ur ?_);refine Tf.any [(be,.cells 144 [int .i64 (ag k:Nat),int .i64 (Zf k:Nat),int .i64 (Yf k:Nat),int .i64 (Xf k:Nat)]),(bm,.cells 142 (m.map u32))] (λ_ h=>h) (aT 22 rfl rfl (Pure.Ug (i:=n2) rfl rfl rfl bC) (aT 23 rfl rfl (pL rfl xf g2) (aL ?_ hF) (Bh:=hF)) (Bh:=hF));refine lO 0 (lH rfl rfl (Pure.to (Pure.Zg (n:=16) rfl xf (by rw[ab,XA];decide)) (congrArg LV.agg (GG XA))) ?_);refine jW ?_;exact⟨_,_,_,by omega,⟨k+1,by omega,rfl,rfl,by rw[Zw]⟩,jb,Pb pH (Pb Fc (Pb Fc (Pb Fc (Pb Fc Vc)))),nF⟩;have DV:k=8:=by have:=zf hc;omega
 subst DV;refine oa ?_;exact⟨_,_,_,by omega,⟨r+1,by omega,rfl,rfl,by rw[hvn,oq]⟩,jb,Tb _,nF.trans pr⟩;have N2:r=10:=by have:=zf hc;omega
 subst N2;obtain⟨zj,vk⟩:=xO (m:=m) UJ TJ 10;have Me:oT h (rT m vl 10) 8=Ep h (Ee Tc) c last:=by rw[qzR _ _ hh,E8,<-M1,hmw];rfl
 clear hr hc;generalize rT m vl 10=vr at zj vk Me ⊢;refine oa ?_;refine oL (λk sl H=>∃ i:Nat,i<=8/\k=8-i/\sl=[(4,ptr bh 0),(8,ptr br 0),(9,int .i64 0),(13,ptr bv 0),(19,int .i64 i)]/\H=[(bh,.cells 82 ((oT h vr i).map u32)),(bv,.cells 142 (vr.map u32)),(br,.cells 82 ((List.replicate 8 0).map u32))])
  ⟨_,_,_,⟨0,zero_le _,rfl,rfl,rfl⟩,jb,Pb OK (Pb pH (Pb Bj Vc))⟩ ?_
 rintro k sl H ⟨i,hi,rfl,rfl,rfl⟩ j6 EV;refine oa ?_;refine Ca (λhc=>?_) λhc=>?_;have za:i<8:=by have:=zt hc;omega
 have FM:(oT h vr i).length=8:=by rw[wL];exact hh
 have hoi:(oT h vr i).getD i 0=h.getD i 0:=by rw[FW h vr hh i i zo,zn zo]
 have nr:(oT h vr i).set i (Qb (Qb (h.getD i 0) (vr.getD i 0)) (vr.getD (i+8) 0))=oT h vr (i+1):=rfl;obtain⟨w,hw⟩:∃ w,oT h vr i=w:=⟨_,rfl⟩;obtain⟨w2,Zw⟩:∃ w2,oT h vr (i+1)=w2:=⟨_,rfl⟩;rw[hw,Zw] at nr;rw[hw] at FM hoi ⊢;have g0:(w.map u32)[i]? = some (u32 (h.getD i 0)):=by rw[<-hoi];exact Hl FM za
 have g1:(vr.map u32)[i]? = some (u32 (vr.getD i 0)):=Hl zj zo;have g2:(vr.map u32)[i+8]? = some (u32 (vr.getD (i+8) 0)):=Hl zj zo;have x1:=tu (a:=h.getD i 0) (b:=vr.getD i 0) (hs.at i) (vk.at i);have x2:=tu (a:=Qb (h.getD i 0) (vr.getD i 0)) (b:=vr.getD (i+8) 0) (kE (hs.at i) (vk.at i)) (vk.at _);have tS:Kd (w.map u32) i [u32 (Qb (Qb (h.getD i 0) (vr.getD i 0)) (vr.getD (i+8) 0))]=w2.map u32:=by rw[<-nr];exact mv FM za
 have mS:Nat.ble (i+1) (w.map u32).length=true:=ble_eq_true_of_le (by rw[ab,FM];omega);refine qa ?_;refine Qa.tail 14 zk ?_;refine Wg ?_;refine Wg ?_;refine lP (Pure.Ug (i:=i) rfl rfl rfl za) rfl ?_;refine lP (pL (c:=u32 (h.getD i 0)) rfl Bb g0) rfl ?_;refine Wg ?_;refine lP (Pure.Ug (i:=i) rfl rfl rfl (show i<16 by omega)) rfl ?_;refine lP (pL (c:=u32 (vr.getD i 0)) rfl xf g1) rfl ?_;refine lP (Pure.to (Pure.oo rfl rfl) (Ji x1)) rfl ?_;refine Wg ?_;refine lP (Pure.add rfl rfl zo) rfl ?_;refine lP (Pure.Ug (i:=i+8) rfl rfl rfl (show i+8<16 by omega)) rfl ?_;refine lP (pL (c:=u32 (vr.getD (i+8) 0)) rfl xf g2) rfl ?_;refine lP (Pure.to (Pure.oo rfl rfl) (Ji x2)) rfl ?_;refine lP (Pure.Ug (i:=i) rfl rfl rfl za) rfl ?_;refine LS.nil ?_;refine oS (sS (Ab:=w2.map u32) (vs:=[u32 (Qb (Qb (h.getD i 0) (vr.getD i 0)) (vr.getD (i+8) 0))]) rfl pH rfl rfl mS rfl tS ?_);refine oa ?_;exact⟨_,_,_,by omega,⟨i+1,by omega,rfl,rfl,by rw[Zw]⟩,jb,Tb _,EV⟩;have X3:i=8:=by have:=zf hc;omega
 subst X3;rw[Me];have oe:(Ep h (Ee Tc) c last).length=8:=by rw[<-Me,wL];exact hh
 generalize Ep h (Ee Tc) c last=w at oe ⊢;refine oa ?_;refine ia (Pure.to (Pure.Zg (n:=8) rfl Bb (by rw[ab,oe];decide)) (congrArg LV.agg (GG oe)))<|oS (sS (Ab:=w.map u32) (vs:=w.map u32) rfl Bj rfl (by rw[ab];exact oe) rfl (GO w) (dP _ _ (by rw[show(w.map u32).length=8 by rw[ab];exact oe];rfl)) ?_);refine Qc ?_;exact Wa (EV.trans (pr.trans (Om.trans (tc.trans Vf)))) (rC (rA (k:=8) rfl Bb (ble_eq_true_of_le (by rw[ab,oe];decide)) ld) (Oa rfl)) (congrArg (λa=>LV.tuple [.agg a,int .i64 0]) (GG oe))
end Go.Proofs.YtmnjklgnhpnckaaGreatDoor.Lb
namespace Go.Proofs.YtmnjklgnhpnckaaGreatDoor.Lb
open Go.GL Go.RowKit Go.ea
open Go.ea.Wi.Wc.Q (Ta Ac Qb an)
open Go.ea.Wi.Wc.Q.Bk (BC Ej vG Ep mg)
theorem qAm{h:List Nat}(hs:Sm h){c:Nat}(hc:c<4294967296)(last:Bool):Sm (Ej h c last):=by
 have a:=OW hs 8;have e:=U8 h c last;generalize vT h 8=v at a e;have s1:=a.set 12 (kE (a.at 12) hc);rw[e];generalize Qb (v.getD 12 0) c=y at s1 ⊢;cases last with
 |false=>exact s1
 |true=>exact s1.set 14 da
theorem qu6(h Tc:List Nat)(c:Nat)(last:Bool):(Ep h Tc c last).length=8:=by simp only[Ep,ab,List.length_range]
theorem qvf{h:List Nat}(hs:Sm h)(Tc:List Nat){c:Nat}(hc:c<4294967296)(last:Bool):Sm (Ep h Tc c last):=by
 have hv:Sm (vG (BC Tc) (Ej h c last)):=by rw[<-E8];exact(xO rfl (qAm hs hc last) 10).2
 intro x hx;simp only[Ep] at hx;obtain⟨i,_,rfl⟩:=List.mem_map.mp hx;exact kE (kE (hs.at i) (hv.at i)) (hv.at _)
theorem HY(n:Nat)(h:List Nat)(c:Nat)(l:List Nat)(hl:l.length<=64):mg (n+1) h c l=Ep h (l++List.replicate (64-l.length) 0) (c+l.length) true:=by rw[mg,zp hl]
theorem CY(n:Nat)(h:List Nat)(c:Nat)(l:List Nat)(hl:64<l.length):mg (n+1) h c l=mg n (Ep h (l.take 64) (c+64) false) (c+64) (l.drop 64):=by rw[mg,zn zo]
open pi (u32 gn Ji tu)
open Go.ea.Wi.Wc.Q.Bk (BC Ej vG Ep mg uh Ak qoc)
theorem qzd:Sm Ak:=by unfold Sm;decide
theorem U9(b:List UInt8)(j:Nat):Ee (b++List.replicate j 0)=Ee b++List.replicate j 0:=by unfold Ee;rw[Lf,List.map_replicate];rfl
theorem eM(s:List UInt8):(Ee s).length=s.length:=ab _
theorem qsb(s:List UInt8)(c:Nat):Ee (s.drop c)=(Ee s).drop c:=List.map_drop
theorem qr0(s:List UInt8)(c:Nat):Ee (s.take c)=(Ee s).take c:=List.map_take
theorem qsH(h:List Nat)(i:Nat)(hi:i<32):(uh h).take (i+1)=(uh h).take i++[UInt8.ofNat (h.getD (i / 4) 0 / 256 ^ (i % 4))]:=by
 have hl:(uh h).length=32:=by simp[uh]
 rw[List.take_succ_eq_append_getElem zo];congr 1;simp[uh]
theorem qn5:∀ (n n':Nat) (h:List Nat) (c:Nat) (l:List Nat),l.length<n->l.length<n'->mg n h c l=mg n' h c l
 |0,_,_,_,_,h,_=>absurd h (Nat.not_lt_zero _)
 |_,0,_,_,_,_,h=>absurd h (Nat.not_lt_zero _)
 |n+1,n'+1,h,c,l,h1,h2=>by by_cases hl:l.length<=64;rw[HY _ _ _ _ hl,HY _ _ _ _ hl];rw[CY _ _ _ _ zo,CY _ _ _ _ zo];exact qn5 n n' _ _ _ (by rw[length_drop];omega) (by rw[length_drop];omega)
theorem qwh(r:Nat)(hr:r<4):(2:Nat) ^ (8 * r)=256 ^ r:=by rw[Nat.pow_mul]
attribute [local irreducible] wa Qa Ra ca Go.GL.Pure Ud xe od LQ Eb Tf Rh LS
variable{B0:Nat}{w0:World}
theorem qo4(s:List UInt8)(hs:s.length<=1000000):ca (KC B0 w0) 19 [str s] [] (Hb (str (uh (mg (s.length+1) Ak 0 (Ee s))))):=by
 have fg:=qi6 (B0:=B0) (w0:=w0);obtain⟨fin,Nt⟩:∃ fin,mg (s.length+1) Ak 0 (Ee s)=fin:=⟨_,rfl⟩;rw[Nt];have x0:=tu (a:=1779033703) (b:=16842784) da da;rw[show(1779033703 ^^^ 16842784:Nat)=1795745351 by decide] at x0;have tS:Kd (xp.map u32) 0 [u32 1795745351]=Ak.map u32:=rfl;refine Xa Tryz.func19 rfl (n:=69) rfl rfl rfl ?_;refine Ln ?_;refine oS (sF [] rfl fg<|oS (Rc λbh=>?_));refine oS (sS (Ab:=xp.map u32) (vs:=xp.map u32) rfl pH rfl rfl rfl rfl rfl ?_);refine wg ?_;refine ia (Pure.Ug (i:=0) rfl rfl rfl da)<|ia (pL (c:=u32 1779033703) rfl Bb rfl)<|ia (Pure.to (Pure.oo rfl rfl) (Ji x0))<|ia (Pure.Ug (i:=0) rfl rfl rfl da)<|oS (sS (Ab:=Ak.map u32) (vs:=[u32 1795745351]) rfl pH rfl rfl rfl rfl tS ?_);refine oa ?_;refine oL (λk sl H=>∃ (dn:Bool) (c:Nat) (h:List Nat),c<=s.length/\k=(if dn then 0 else s.length+1-c)/\h.length=8/\Sm h/\(if dn then h=fin else mg (s.length+1-c) h c (Ee (s.drop c))=fin)/\sl=[(0,str s),(3,ptr bh 0),(4,int .i64 c),(5,bool dn)]/\H=[(bh,.cells 82 (h.map u32))])
  ⟨_,_,_,⟨false,0,Ak,zero_le _,rfl,rfl,qzd,Nt,rfl,rfl⟩,jb,Tb _⟩ ?_
 rintro k sl H ⟨dn,c,h,hc,rfl,hl,Bs,hR,rfl,rfl⟩ j1 Vf;cases dn with
 |false=>
  have hR:mg (s.length+1-c) h c (Ee (s.drop c))=fin:=hR;obtain⟨m,hm⟩:∃ m,s.length+1-c=m+1:=⟨s.length-c,by omega⟩;refine ja ?_;refine oC rfl (λ_=>?_) (λh1=>by cases h1);refine ja ?_;obtain⟨n,hn⟩:∃ n,min 64 (s.length-c)=n:=⟨_,rfl⟩;have dD:c+n<=s.length:=by omega
  refine Qa.tl [(0,str s),(3,ptr bh 0),(4,int .i64 c),(5,bool false),(6,int .i64 n)] [(bh,.cells 82 (h.map u32))] ?_ λj2 tc=>?_;refine Ca (λh1=>?_) λh1=>?_;have h1:=zt h1;obtain rfl:n=64:=by omega
  refine Ln ?_;exact⟨jb,rfl,rfl⟩;have h1:=zf h1;refine qa ?_;exact⟨jb,rfl,rfl⟩;obtain⟨b0,Ze⟩:∃ b0,(s.take (c+n)).drop c=b0:=⟨_,rfl⟩;have tR:b0.length=n:=by rw[<-Ze,length_drop,List.length_take];omega
  have lr:(s.take ((c:Int)+n).toNat).drop (c:Int).toNat=b0:=by rw[show((c:Int)+n).toNat=c+n by omega,Int.toNat_natCast];exact Ze
  refine oa ?_;refine ia (Pure.OD (l:=s) (i:=(c:Int)) (j:=(c:Int)+n) rfl ⟨_,rfl⟩ ⟨_,rfl⟩ zo zo zo lr)<|oa ?_;refine oL (λk sl H=>∃ j:Nat,n+j<=64/\k=64-(n+j)/\sl=[(0,str s),(3,ptr bh 0),(4,int .i64 (c+n:Nat)),(5,bool false),(7,str (b0++List.replicate j 0))]/\H=[(bh,.cells 82 (h.map u32))])
   ⟨64-(n+0),[(0,str s),(3,ptr bh 0),(4,int .i64 (c+n:Nat)),(5,bool false),(7,str (b0++List.replicate 0 0))],_,⟨0,by omega,rfl,rfl,rfl⟩,⟨rfl,rfl,lh zo,rfl,congrArg str (Jd _).symm,trivial⟩,Tb _⟩ ?_
  rintro k sl H ⟨j,hj,rfl,rfl,rfl⟩ j4 pr;have hlen:(b0++List.replicate j (0:UInt8)).length=n+j:=by rw[ya,List.length_replicate,tR]
  have nr:(b0++List.replicate j (0:UInt8))++[0]=b0++List.replicate (j+1) 0:=by rw[Pc,List.replicate_succ']
  have hq:∀ q,q=64-n->b0++List.replicate q (0:UInt8)=b0++List.replicate (64-n) 0:=λq e=>by rw[e]
  have hq:=hq j;obtain⟨w,hw⟩:∃ w,b0++List.replicate j (0:UInt8)=w:=⟨_,rfl⟩;rw[hw] at hlen nr hq ⊢;refine ja ?_;refine Ca (λh1=>?_) λh1=>?_;have h1:((w.length:Nat):Int)<64:=zt h1;refine ja ?_;exact⟨_,_,_,by omega,⟨j+1,by omega,rfl,rfl,rfl⟩,⟨rfl,rfl,rfl,rfl,congrArg str nr,trivial⟩,Tb _,pr⟩;have h1:¬ ((w.length:Nat):Int)<64:=zf h1;obtain rfl:w=b0++List.replicate (64-n) 0:=hq zo;have RH:(b0++List.replicate (64-n) (0:UInt8)).length=64:=by rw[ya,List.length_replicate,tR];omega
  have PH:=λlast=>qmj (B0:=B0) (w0:=w0) h hl Bs (b0++List.replicate (64-n) (0:UInt8)) RH (c+n) zo last;rw[hm] at hR
  have hN:∃ h2:List Nat,Ep h (Ee (b0++List.replicate (64-n) (0:UInt8))) (c+n) (decide (((c+n:Nat):Int)=((s.length:Nat):Int)))=h2/\(if decide (((c+n:Nat):Int)=((s.length:Nat):Int)) then h2=fin else mg (s.length+1-(c+n)) h2 (c+n) (Ee (s.drop (c+n)))=fin):=by
   refine⟨_,rfl,?_⟩;by_cases hle:s.length-c<=64;have cx:c+n=s.length:=by omega
   have qF:(Ee (s.drop c)).length=n:=by rw[eM,length_drop];omega
   have tF:Ee b0=Ee (s.drop c):=by rw[<-Ze,List.take_of_length_le zo]
   rw[HY _ _ _ _ zo,qF] at hR;rw[Vg (show((c+n:Nat):Int)=((s.length:Nat):Int) by omega),zp rfl,U9,tF];exact hR;have cx:n=64:=by omega
   subst cx;have tF:Ee b0=(Ee (s.drop c)).take 64:=by rw[<-qr0,<-Ze,List.drop_take,show c+64-c=64 by omega]
   rw[CY _ _ _ _ (by rw[eM,length_drop];omega)] at hR;rw[decide_eq_false (show ¬ ((c+64:Nat):Int)=((s.length:Nat):Int) by omega),zn da,U9,tF];have e2:(Ee (s.drop c)).drop 64=Ee (s.drop (c+64)):=by rw[<-qsb,List.drop_drop]
   rw[e2] at hR;rw[show(Ee (s.drop c)).take 64++List.replicate (64-64) 0=(Ee (s.drop c)).take 64 from Jd _];rw[<-hR];exact qn5 _ _ _ _ _ (by rw[eM,length_drop];omega) (by rw[eM,length_drop];omega)
  obtain⟨h2,HV,vg⟩:=hN;have G4:=PH (decide (((c+n:Nat):Int)=((s.length:Nat):Int)));have l2:h2.length=8:=by rw[<-HV];exact qu6 _ _ _ _
  have s2:Sm h2:=by rw[<-HV];exact qvf Bs _ zo _
  rw[HV] at G4;have E3:(if decide (((c+n:Nat):Int)=((s.length:Nat):Int)) then 0 else s.length+1-(c+n))<s.length+1-c:=by split;omega;rename_i g;have:¬ ((c+n:Nat):Int)=((s.length:Nat):Int):=λe=>g (Vg e);omega
  have e64:IntKind.u64.wrap ((c+n:Nat):Int)=((c+n:Nat):Int):=by simp only[IntKind.wrap,IntKind.bits,IntKind.signed];simp;omega
  have hz8:0+8<=(h.map u32).length:=by rw[ab];omega
  generalize b0++List.replicate (64-n) (0:UInt8)=Tc at G4 ⊢;clear PH HV hR fg hq nr hlen h1 hw;refine ja ?_;refine ia (Pure.to (Pure.Zg (n:=8) rfl Bb (by rw[ab,hl];decide)) (congrArg LV.agg (GG hl)))<|ia (pM rfl)<|ia (pM rfl)<|ia (Pure.to (Pure.xx rfl) (congrArg (int .u64) e64))<|qa ?_;refine oS (sF [_,_,_,_] rfl G4<|ia (pM (lv:=.tuple _) rfl)<|ia (Pure.extract (c:=.agg (h2.map u32)) rfl rfl)<|ia (Pure.extract (c:=.atom _) rfl rfl)<|oS (sS (Ab:=h2.map u32) (vs:=h2.map u32) rfl pH rfl (by rw[ab];exact l2) (ble_eq_true_of_le hz8) (GO h2) (dP _ _ (by rw[ab,ab,hl,l2])) ?_));refine qa ?_;exact⟨_,_,_,E3,⟨_,c+n,h2,dD,rfl,l2,s2,vg,rfl,rfl⟩,jb,Tb _,pr.trans (tc.trans Vf)⟩
 |true=>
  have hR:h=fin:=hR;subst hR;refine ja ?_;refine oC rfl (λh1=>by cases h1) λ_=>?_;refine oa ?_
  refine oL (λk sl H=>∃ (i:Nat) (v:LV),i<=32/\k=32-i/\Acc 1 v (Qe ((uh h).take i)) H [(bh,.cells 82 (h.map u32))]/\sl=[(3,ptr bh 0),(8,v),(9,int .i64 i)])
   ⟨_,_,_,⟨0,Ob,zero_le _,rfl,Acc.nil,rfl⟩,jb,Tb _⟩ ?_
  rintro k sl H ⟨i,v,hi,rfl,kb,rfl⟩ j2 tc;refine oa ?_;refine Ca (λhc=>?_) λhc=>?_;have za:i<32:=by have:=zt hc;omega
  have h4:i / 4<8:=by omega
  have e1:IntKind.u64.wrap (8 * ((i:Int) % 4))=((8 * (i % 4):Nat):Int):=by simp only[IntKind.wrap,IntKind.bits,IntKind.signed];simp;omega
  have e2:(2:Int) ^ min ((8 * (i % 4):Nat):Int).toNat IntKind.u32.bits=((256 ^ (i % 4):Nat):Int):=by rw[Int.toNat_natCast,show min (8 * (i % 4)) IntKind.u32.bits=8 * (i % 4) from min_eq_left (by show 8 * (i % 4)<=32;omega),<-qwh _ zo];exact(Int.natCast_pow 2 _).symm
  have hT:=congrArg Qe (qsH h i za);have hg:=Hl hl h4;have hm4:(bh,ga.cells 82 (h.map u32))∈H:=kb.Oy.mem _ Bb;generalize h.getD (i / 4) 0=x at hg hT;have e3:=qys (n:=((x / 256 ^ (i % 4):Nat):Int)) (m:=x / 256 ^ (i % 4)) rfl;generalize 256 ^ (i % 4)=d at e2 e3 hT;have hTl:(Qe ((uh h).take i)).length<=32:=by rw[rP,List.length_take];omega
  refine Kx ?_;refine ia (Pure.quo (a:=(i:Int)) (b:=4) rfl rfl zo zo zo)<|ia (Pure.Ug (i:=i / 4) rfl rfl zo h4)<|ia (pL (c:=u32 x) rfl hm4 hg)<|qa ?_;refine ia (Pure.rem (a:=(i:Int)) (b:=4) rfl rfl zo zo)<|ia (Pure.to (Pure.Fv rfl rfl) (congrArg (int .i64) (xy (n:=8 * ((i:Int) % 4)) zo)))<|ia (Pure.to (Pure.xx rfl) (congrArg (int .u64) e1))<|ia (Pure.to (Pure.shr rfl rfl zo) (V8 (d:=d) e2))<|ia (Pure.to (Pure.xx rfl) e3)<|oS (sL [_] (es:=Qe [UInt8.ofNat (x / d)]) rfl (Hd rfl rfl Ek) rfl rfl rfl ?_);refine oS (S.acc (F:=[(bh,.cells 82 (h.map u32))]) rfl kb rfl (by simp[Qe,LV.cells]) rfl (by have:(Qe [UInt8.ofNat (x / d)]).length=1:=rfl;rw[this];omega) λv' H' qb=>?_);refine ik ?_;refine oa ?_;exact⟨_,_,_,by omega,⟨i+1,v',by omega,rfl,by rw[hT,eY];exact qb,rfl⟩,jb,Tb _,tc⟩;have xi:i=32:=by have:=zf hc;omega
  subst xi;rw[List.take_of_length_le (show(uh h).length<=32 by simp[uh])] at kb;refine Qa.sub (d:=8) (v:=v) rfl kb.sub ?_;refine oa ?_;refine ia (Pure.vq (l:=uh h) rfl)<|Qc ?_;exact Wa (tc.trans Vf) (Oa rfl) rfl
theorem qry(s:List UInt8)(hs:s.length<=1000000):ca (KC B0 w0) 8 [.list [str s]] [] (Hb (str (uh (mg (s.length+1) Ak 0 (Ee s))))):=by
 have hd:=qo4 (B0:=B0) (w0:=w0) s hs;have hg:([str s]:List LV)[((0:Nat):Int).toNat]? = some (str s):=rfl;generalize uh (mg (s.length+1) Ak 0 (Ee s))=R at hd ⊢;refine Xa Tryz.func8 rfl (n:=19) rfl rfl rfl ?_;refine oa ?_;refine oL (λk sl H=>∃ (i:Nat) (v:List UInt8),i<=1/\k=1-i/\(if i=0 then v=[] else v=s)/\sl=[(0,.list [str s]),(3,str v),(4,int .i64 i)]/\H=[])
  ⟨_,_,_,⟨0,[],by omega,rfl,rfl,rfl,rfl⟩,jb,Tb _⟩ ?_
 rintro k sl H ⟨i,v,hi,rfl,hv,rfl,rfl⟩ j1 Vf;refine ja ?_;refine Ca (λhc=>?_) λhc=>?_
 have h0:i=0:=by have h1:((i:Nat):Int)<1:=zt hc;omega
 subst h0;have hv:v=[]:=hv;subst hv;refine oa ?_;refine ia (xR (ve:=str s) (cs:=[str s]) rfl rfl da hg rfl rfl)<|ja ?_;exact⟨_,_,_,by omega,⟨1,s,by omega,rfl,rfl,rfl,rfl⟩,jb,Tb _,Vf⟩;have h1:i=1:=by have h1:¬ ((i:Nat):Int)<1:=zf hc;omega
 subst h1;have hv:v=s:=hv;subst hv;refine oa ?_;refine oS (sF [_] rfl hd ?_);refine Qc ?_;exact Wa Vf (Oa rfl) rfl
open pi (u32 Rh.IA)
open Go.ea.Wi.Wc.Q.Bk (mg uh Ak)
theorem qle(hG:Pp.GW B0 w0)(b:List UInt8):ca (KC B0 w0) 3 [str b] [] (Hb (bool true)):=by
 have LB:=qrk (B0:=B0) (w0:=w0) hG;refine Xa Tryz.func3 rfl (n:=24) rfl rfl rfl ?_;refine Ln ?_;refine oS (sF [] rfl LB ?_);refine Ga ?_;refine oC rfl (λhc=>by cases hc) λ_=>?_;refine ja ?_;refine Ca (λ_=>?_) λhc=>?_;refine Qj ?_;exact Wa rfl (Oa rfl) rfl;have hb:b.length<=300:=by have:=zf hc;omega
 obtain⟨code,h1,h2⟩:=qzc;obtain⟨K,hK⟩:=h2 (Ee b) (iP b) (by rw[eM];exact hb);have hx:=qzn (B0:=B0) (w0:=w0) hG h1 (xa:=Ee b) (λv hv=>by have:=iP b v hv;omega) (N:=5000000) da da hK;rw[eM] at hx;have hi:=qi1 (B0:=B0) (w0:=w0) b zo;have hs:=qry (B0:=B0) (w0:=w0) b zo;clear h2 hK h1;generalize uh (mg (b.length+1) Ak 0 (Ee b))=o at *;generalize (Ee b).map u32=ins at hx hi;refine oa ?_;refine oS (sF [_] rfl hi<|oS (sL (s:=1) (es:=[str JO,str LP]) [_,_] rfl (bt [JO,LP]) rfl rfl rfl ?_));refine oS (sF [_,_,_] rfl hx<|oS (Rc λb3=>?_));refine Ga ?_;refine bj (m:=12) rfl [(b3,.cells 25 [str o,int .i64 0,int .i64 K])] ?_;refine lI ?_;refine aT 2 rfl rfl (Pure.eql rfl rfl)<|aT 3 rfl rfl (pM (lv:=.atom _) rfl)<|Eb.MD 4 rfl rfl rfl rfl (pF rfl)<|Eb.MD 5 rfl rfl rfl rfl (pL (c:=.atom _) rfl Bb rfl)<|Eb.MD 6 rfl rfl rfl rfl (pM (lv:=.atom _) rfl)<|aL ?_ Ya;refine lO 7 (lS (H1:=[]) rfl (.inr ⟨_,_,_,rfl,rfl,rfl⟩) rfl Kb Ya (sL (s:=1) (es:=[str b]) [_] rfl (bt [b]) rfl rfl rfl ?_));refine lO 8 (lS (H1:=[]) rfl (.inr ⟨_,_,_,rfl,rfl,rfl⟩) rfl Kb Ya (sF [_] rfl hs ?_));refine lO 9 (Rh.IA rfl rfl rfl rfl (Pure.seq rfl rfl) ?_);refine lO 10 (lH rfl rfl (Pure.Jm (lv:=.atom _) rfl rfl) ?_);refine lO 11 (lH rfl rfl (pA (lv:=.atom _) rfl) ?_);refine lD zk ?_;refine Qc ?_;exact Wa rfl (Oa rfl) (Ae (Vg rfl))
end Go.Proofs.YtmnjklgnhpnckaaGreatDoor.Lb
