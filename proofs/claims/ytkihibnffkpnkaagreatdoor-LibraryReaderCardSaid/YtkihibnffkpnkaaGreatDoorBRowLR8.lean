import Derived.Test.YtkihibnffkpnkaaGreatDoorProg
import Derived.Test.YtkihibnffkpnkaaGreatDoorBRowLR7
set_option linter.unusedVariables false
set_option linter.unusedSimpArgs false
set_option maxRecDepth 100000
set_option maxHeartbeats 4000000
open Go.GL (zk)
open List (mem_append_right length_replicate)
open Nat (lt_succ_self mod_eq_of_lt)
namespace Go.Stele.Wi.Wc
open Go.Lib
def endC:IR (Option Nat)->Int×IS
 |.ok _ s=>(0,s)
 |.stop e s=>(e,s)
def runC(P:Pr)(fuel:Nat)(inp:List Nat)(limit:Nat):Int×IS:=endC (blkR (stC P fuel (qbS P)) (qbS P).body (qdE P inp limit))
section
variable{X:Trn}
theorem qx0(hX:TrnOk X)(hW:X.C.Code 0 [[38,102,95,109,97,105,110],[58],decDigits X.S,[33],[36]])(hm:qbS X.P∈X.P.funcs)(hname:(qbS X.P).name=[109,97,105,110])(hpar:(qbS X.P).params=[])
  (hneed:qbN (X.cenv (qbS X.P)) (qbS X.P).body<=256) (hdep:qcm (X.cenv (qbS X.P)) (qbS X.P).body<=63) (inp:List Nat) (fuel limit:Nat) (he:(runC X.P fuel inp limit).1=0∨(runC X.P fuel inp limit).1=12) :
  ∃ k m',k<=limit+100/\Stp X.C k (qt9 X.C inp) m'/\stepM X.C m'=.stop (runC X.P fuel inp limit).1.toNat (runC X.P fuel inp limit).2.out:=by
 have hrel:=qrF hX inp limit;generalize hm0:qt9 X.C inp=m0 at *
 have v0:X.Vw (qdE X.P inp limit) 0 [] [] m0:=by
  subst hm0;exact⟨PW.at_mk rfl,hrel,rfl,rfl⟩
 have hpost:qaq X.C (λ(_:Option Nat) s' m'=>∃ m2,Stp X.C 0 m' m2/\stepM X.C m2=.stop 0 s'.out) 100 100 m0 (qdE X.P inp limit) (blkR (stC X.P fuel (qbS X.P)) (qbS X.P).body (qdE X.P inp limit)):=by
  generalize qbS X.P=k at *;obtain⟨nl,hcode⟩:=hX.code k hm;obtain⟨b1,b2⟩:=hX.body k hm;have hfd:=hX.fdef k hm;have hfr:=hX.fref k hm;unfold fnW at hcode;simp only at hcode;rw[hpar] at hcode;simp only[List.reverse_nil,List.flatMap_nil,zLz] at hcode;obtain⟨hcode,hc4⟩:=hcode.app;obtain⟨hc1,hc3⟩:=hcode.app;obtain⟨wd,_⟩:=hc1.cons;obtain⟨w0,hW⟩:=hW.cons;obtain⟨w1,hW⟩:=hW.cons;obtain⟨w2,hW⟩:=hW.cons;obtain⟨w3,hW⟩:=hW.cons;obtain⟨w4,_⟩:=hW.cons;rw[hname] at hfr hfd wd;have t2:=PW.call v0.here w0 w1 hfr (hX.label _ _ _ wd hfd) (by rw[v0.data];decide) (by rw[v0.calls];decide)
  have v3:X.Vw (qdE X.P inp limit) (X.fst k+1) [] [X.C.plc (0+1+1)] { m0 with pc:=X.C.plc (X.fst k+1),calls:=X.C.plc (0+1+1)::m0.calls,digit:=false }:=
   ⟨PW.at_mk rfl,v0.rel.same rfl rfl rfl rfl rfl rfl rfl,v0.data,by simp only;rw[v0.calls]⟩
  have hb:=qjd (qvf hX fuel).2 hm k.body (X.fst k+1) nl _ _ [] (X.C.plc (0+1+1)) [] b2 b1 hc3 v3 (by simpa using hneed) (by simp only[zLn];omega);have hS:X.S+2<262144:=hX.low _ (.inr (.inl ⟨by omega,by omega⟩))
  have hlast:∀ s' a m',X.Vw s' (0+1+1) [a] [] m'->∃ m2,Stx X.C 10 m' m2/\∃ m3,Stp X.C 0 m2 m3/\stepM X.C m3=.stop 0 s'.out:=by
   intro s' a m' v5;obtain⟨m6,t6,v6,_⟩:=v5.addr w2 (by omega) (by simp);obtain⟨m7,t7,v7,_⟩:=v6.temp hX w3 ⟨by omega,by omega⟩;exact⟨m7,(t6.trans t7).mono zDd,by rw[<-v7.rel.out];exact PW.halt v7.here w4⟩
  refine qaq.pre t2 (c1:=50) (d1:=50) ?_ (by omega) (by omega);refine qaq.post (a:=20) hb (by omega) (by omega) λr s' m' h=>?_
  cases r with
  |some a=>
   obtain⟨g1,g2,g3,g4,g5⟩:=h;obtain⟨m2,t5,h5⟩:=hlast s' a m' ⟨PW.at_mk g1,g3,g4,g5⟩
   exact⟨m2,t5.mono zDd,h5⟩
  |none=>
   have h:X.Vw s' _ [] [X.C.plc (0+1+1)] m':=h;obtain⟨q2,hc4⟩:=hc4.cons;obtain⟨q3,_⟩:=hc4.cons;rw[zLa,<-Nat.add_assoc] at q2 q3;obtain⟨m6,t6,v6,_⟩:=h.dig (n:=0) q2 zDd rfl zDd;have t7:=PW.back v6.here q3 v6.calls
   have v7:X.Vw s' (0+1+1) [0] [] { m6 with pc:=X.C.plc (0+1+1),calls:=[],digit:=false }:=
    ⟨PW.at_mk rfl,v6.rel.same rfl rfl rfl rfl rfl rfl rfl,v6.data,rfl⟩
   obtain⟨m8,t8,h8⟩:=hlast s' 0 _ v7;exact⟨m8,(t6.trans (t7.trans t8)).mono zDd,h8⟩
 unfold runC at he ⊢;revert hpost he
 cases blkR (stC X.P fuel (qbS X.P)) (qbS X.P).body (qdE X.P inp limit) with
 |ok v s'=>
  rintro he ⟨h1,k,m',h2,h3,m2,h4,h5⟩;have hl:(qdE X.P inp limit).left=limit:=rfl;rw[hl] at h1 h2
  exact⟨k+0,m2,by omega,h3.trans h4,h5⟩
 |stop e s'=>
  rintro he ⟨h1,h2⟩;have hl:(qdE X.P inp limit).left=limit:=rfl;rw[hl] at h1;obtain⟨k,m',k1,k2,k3⟩:=h1 he;exact⟨k,m',by omega,k2,k3⟩
end
theorem cmp_c{P:Pr}{o:Org}{t:Wd}(hnum:∀ f∈P.funcs,qcu f.body)(h:cmpP P.vars (qbd P) P.funcs o=.ok t)(inp:List Nat)(fuel limit:Nat)(he:(runC P fuel inp limit).1=0∨(runC P fuel inp limit).1=12) :
  ∃ k m',k<=limit+100/\Stp ⟨qaT P o,qp3 o.code.toNat⟩ k (qt9 ⟨qaT P o,qp3 o.code.toNat⟩ inp) m'/\stepM ⟨qaT P o,qp3 o.code.toNat⟩ m'=.stop (runC P fuel inp limit).1.toNat (runC P fuel inp limit).2.out:=by
 obtain⟨hc,hfit,_,_,hasm,hX,hlen⟩:=qmi hnum h;have hv:=qfi hc;have hF:=qhd hfit;have hfn:(P.funcs.map (·.name)).Nodup:=(List.nodup_append.1 (qbA _ _ hv.names).1).2.1
 have hnd:(defs (qaT P o)).Nodup:=by
  have h1:=(qmi hnum h).2.2.2.1;have h2:=(qi9 hasm).2.1;have h3:=(qmi hnum h).2.2.1;rw[h1] at h2;exact h2
 have hW:Go.Stele.PW.Code (trnP P o).C 0 [[38,102,95,109,97,105,110],[58],decDigits (trnP P o).S,[33],[36]]:=by
  have h1:Go.Stele.PW.Code (trnP P o).C 0 ([[38,102,95,109,97,105,110],[58],itoa o.scalars,[33],[36]]++(fnWs (ccF P.vars (qbd P) P.funcs o) 0 P.funcs).1):=qoE _ _ _;rw[qca hF.s0] at h1;exact h1.app.1
 have hneed:qbN ((trnP P o).cenv (qbS P)) (qbS P).body<=200/\qcm ((trnP P o).cenv (qbS P)) (qbS P).body<=60:=by
  unfold qb9 qc3 at hc;have e1:(P.arrays.map λa=>(a.name,(a.size:Int))).map (·.1)=P.arrays.map (·.name):=by rw[List.map_map];try rfl
  rw[e1,qnq _ _ hfn,List.nil_append] at hc;have hm:=(qah.1 (qah.1 (qah.1 hc).2).2).2;unfold qtr at hm;rw[List.getLast?_map] at hm;have hmi:qbS P=(P.funcs.getLast?).getD ⟨[],[],[],[]⟩:=rfl
  cases hl:P.funcs.getLast? with
  |none=>rw[hl] at hm;cases hm
  |some f=>
   rw[hl] at hm hmi;simp only[Option.map_some,Option.getD_some] at hm hmi;rw[hmi];split at hm;split at hm
   rename_i hq
   have hs:=qlo (vars:=P.vars) (arrays:=P.arrays.map (·.name)) (later:=P.funcs.map (·.name)) (knF P.vars (P.arrays.map (·.name)) (P.funcs.map (·.name)) [] P.funcs f) f;exact⟨zNt hs.1 hq.2.1,zNt hs.2 hq.2.2⟩;cases hm;cases hm
 exact qx0 (X:=qxO (trnP P o) (qp3 o.code.toNat)) (qtI hX (quz hc hfit) hnd) hW hv.main.1 hv.main.2.1 hv.main.2.2 (zNt hneed.1 zDd) (zNt hneed.2 zDd) inp fuel limit he
section
variable{P:Pr}{o:Org}{t:Wd}
theorem qd4(hnum:∀ f∈P.funcs,qcu f.body)(h:cmpP P.vars (qbd P) P.funcs o=.ok t){inp:List Nat}(hi:∀ v∈inp,v<4294967296)(fuel limit:Nat)(he:(runC P fuel inp limit).1=0∨(runC P fuel inp limit).1=12) :
  ∃ x labs y labs' K K',asmP t o.code=.ok (x,labs)/\asmP (join (optP (qbi t)) [32]) o.code=.ok (y,labs')/\x.length<=40000/\y.length<=x.length/\K<=limit+101/\K'<=K /\
   ∀ N,K<=N->runM N (qdD x o.code.toNat inp)=((runC P fuel inp limit).1.toNat,(runC P fuel inp limit).2.out,K)/\runM N (qdD y o.code.toNat inp)=((runC P fuel inp limit).1.toNat,(runC P fuel inp limit).2.out,K'):=by
 obtain⟨hc,hfit,ht,hw,hasm,hX,hlen⟩:=qmi hnum h;have hF:=qhd hfit;have hcl:∀ w∈qaT P o,qbr w:=qjX hc hfit;obtain⟨hA,hl⟩:=qr4 hasm;rw[hw] at hA;rw[hw];have hty:=qx8 hc hfit hnum hA hX;obtain⟨k,m',k1,k2,k3⟩:=cmp_c hnum h inp fuel limit he;have h99:(runC P fuel inp limit).1.toNat≠99:=by rcases he with e|e <;> rw[e] <;> decide
 obtain⟨n,hE⟩:=qu2 k2 k3 h99;have hog:o.code.toNat+40000<=262144:=hF.c1;have hE:Ends ⟨qaT P o,qp3 o.code.toNat⟩ n ⟨λ_=>0,qaT P o,[],[],inp,[],false⟩ (runC P fuel inp limit).1.toNat (runC P fuel inp limit).2.out (k+1):=hE;obtain⟨n',K',hE2,hK⟩:=qtw hi hA hE;obtain⟨hA2,hlw⟩:=qv3 hA;have hcl2:=qtb hcl;have htx:=qjN (qis P o) (qaT P o) λw hw=>(hcl w hw).1;have hl:(qcZ (qis P o) (qaT P o)).length<=40000:=hl;obtain⟨b1,b2⟩:=qvl hA2 hcl2 (og:=o.code) hF.c0 (by omega) (by omega);refine⟨_,_,_,_,k+1,K',hasm,b1,hl,by rw[b2,htx];exact hlw,by omega,hK,λN hN=>⟨?_,?_⟩⟩;exact qkU hA (λw hw=>(hcl w hw).1) hty rfl hl hog hE N hN;exact qkU hA2 (λw hw=>(hcl2 w hw).1) (qxJ hty) rfl (by rw[b2];omega) hog hE2 N (by omega)
end
end Go.Stele.Wi.Wc
namespace Go.Proofs.YtkihibnffkpnkaaGreatDoor
open Go.GL
noncomputable abbrev zTp:=Tryz.prog
abbrev zE:=TEnter zTp
instance:TMixed zTp:=⟨by kernel_rfl⟩
instance:TSize zTp 3 1:=.of zk
instance:TOne zTp 3:=.of zk
instance:TKind zTp 3 .i64:=.of zk
instance:TZero zTp 3 [.int .i64 0]:=.of (v:=.int .i64 0) (n:=1) zk rfl rfl
instance:TRow zTp 3 1 8:=.of zk
instance:TSize zTp 4 1:=.of zk
instance:TOne zTp 4:=.of zk
instance:TKind zTp 5 .u8:=.of zk
instance:TZero zTp 5 [.int .u8 0]:=.of (v:=.int .u8 0) (n:=1) zk rfl rfl
instance:TRow zTp 5 1 1:=.of zk
instance:TSize zTp 9 1:=.of zk
instance:TOne zTp 9:=.of zk
instance:TStr zTp 9:=.of zk
instance:TZero zTp 9 [.string ⟨#[]⟩]:=.of (v:=.string ⟨#[]⟩) (n:=1) zk rfl rfl
instance:TRow zTp 9 1 16:=.of zk
instance:TSize zTp 23 1:=.of zk
instance:TOne zTp 23:=.of zk
instance:TZero zTp 23 [.int .i64 0]:=.of (v:=.int .i64 0) (n:=1) zk rfl rfl
instance:TSize zTp 25 3:=.of zk
instance:TAgg zTp 25 3:=.of zk
instance:TField zTp 25 0 0:=.of zk
instance:TField zTp 25 1 1:=.of zk
instance:TStruct zTp 25 [(0,1),(1,1),(2,1)]:=.of zk
instance:TZero zTp 25 [.string ⟨#[]⟩,.int .i64 0,.int .i64 0]:=.of (v:=.agg #[.string ⟨#[]⟩,.int .i64 0,.int .i64 0]) (n:=3) zk rfl rfl
instance:TSize zTp 27 1:=.of zk
instance:TOne zTp 27:=.of zk
instance:TSlice zTp 27 30 1:=.of zk
instance:TSize zTp 30 1:=.of zk
instance:TOne zTp 30:=.of zk
instance:TKind zTp 30 .u32:=.of zk
instance:TZero zTp 30 [.int .u32 0]:=.of (v:=.int .u32 0) (n:=1) zk rfl rfl
instance:TRow zTp 30 1 4:=.of zk
instance:TSize zTp 32 1:=.of zk
instance:TOne zTp 32:=.of zk
instance:TSlice zTp 32 9 1:=.of zk
instance:TZero zTp 32 [.slice none 0 0]:=.of (v:=.slice none 0 0) (n:=1) zk rfl rfl
instance:TSize zTp 40 1:=.of zk
instance:TOne zTp 40:=.of zk
instance:TSlice zTp 40 106 2:=.of zk
instance:TSize zTp 41 1:=.of zk
instance:TOne zTp 41:=.of zk
instance:TSlice zTp 41 110 4:=.of zk
instance:TSize zTp 43 3:=.of zk
instance:TAgg zTp 43 3:=.of zk
instance:TField zTp 43 0 0:=.of zk
instance:TField zTp 43 1 1:=.of zk
instance:TField zTp 43 2 2:=.of zk
instance:TStruct zTp 43 [(0,1),(1,1),(2,1)]:=.of zk
instance:TZero zTp 43 [.slice none 0 0,.slice none 0 0,.slice none 0 0]:=.of (v:=.agg #[.slice none 0 0,.slice none 0 0,.slice none 0 0]) (n:=3) zk rfl rfl
instance:TOne zTp 47:=.of zk
instance:TSize zTp 52 2:=.of zk
instance:TAgg zTp 52 2:=.of zk
instance:TField zTp 52 0 0:=.of zk
instance:TField zTp 52 1 1:=.of zk
instance:TStruct zTp 52 [(0,1),(1,1)]:=.of zk
instance:TZero zTp 52 [.int .i64 0,.string ⟨#[]⟩]:=.of (v:=.agg #[.int .i64 0,.string ⟨#[]⟩]) (n:=2) zk rfl rfl
instance:TSlice zTp 53 52 2:=.of zk
instance:TSize zTp 56 3:=.of zk
instance:TAgg zTp 56 3:=.of zk
instance:TField zTp 56 0 0:=.of zk
instance:TField zTp 56 1 1:=.of zk
instance:TField zTp 56 2 2:=.of zk
instance:TStruct zTp 56 [(0,1),(1,1),(2,1)]:=.of zk
instance:TZero zTp 56 [.int .i64 0,.int .i64 0,.int .i64 0]:=.of (v:=.agg #[.int .i64 0,.int .i64 0,.int .i64 0]) (n:=3) zk rfl rfl
instance:TSize zTp 59 1:=.of zk
instance:TOne zTp 59:=.of zk
instance:TSlice zTp 59 5 1:=.of zk
instance:TSlice zTp 61 64 2:=.of zk
instance:TSize zTp 64 2:=.of zk
instance:TAgg zTp 64 2:=.of zk
instance:TField zTp 64 0 0:=.of zk
instance:TField zTp 64 1 1:=.of zk
instance:TStruct zTp 64 [(0,1),(1,1)]:=.of zk
instance:TZero zTp 64 [.string ⟨#[]⟩,.nilFunc]:=.of (v:=.agg #[.string ⟨#[]⟩,.nilFunc]) (n:=2) zk rfl rfl
instance:TField zTp 69 1 1:=.of zk
instance:TZero zTp 69 [.pointer none,.slice none 0 0]:=.of (v:=.agg #[.pointer none,.slice none 0 0]) (n:=2) zk rfl rfl
instance:TOne zTp 74:=.of zk
instance:TSlice zTp 74 100 3:=.of zk
instance:TSize zTp 78 2:=.of zk
instance:TConcrete zTp 78:=.of zk
instance:TField zTp 78 0 0:=.of zk
instance:TField zTp 78 1 1:=.of zk
instance:TStruct zTp 78 [(0,1),(1,1)]:=.of zk
instance:TZero zTp 78 [.int .i64 0,.int .i64 0]:=.of (v:=.agg #[.int .i64 0,.int .i64 0]) (n:=2) zk rfl rfl
instance:TOne zTp 80:=.of zk
instance:TField zTp 82 0 0:=.of zk
instance:TField zTp 82 1 1:=.of zk
instance:TField zTp 82 2 2:=.of zk
instance:TStruct zTp 82 [(0,1),(1,1),(2,1)]:=.of zk
instance:TZero zTp 82 [.slice none 0 0,.int .i64 0,.int .i64 0]:=.of (v:=.agg #[.slice none 0 0,.int .i64 0,.int .i64 0]) (n:=3) zk rfl rfl
instance:TOne zTp 86:=.of zk
instance:TField zTp 89 0 0:=.of zk
instance:TField zTp 89 1 1:=.of zk
instance:TField zTp 89 2 2:=.of zk
instance:TField zTp 89 3 3:=.of zk
instance:TField zTp 89 4 4:=.of zk
instance:TField zTp 89 5 5:=.of zk
instance:TField zTp 89 6 6:=.of zk
instance:TField zTp 89 7 7:=.of zk
instance:TField zTp 89 8 8:=.of zk
instance:TField zTp 89 9 9:=.of zk
instance:TStruct zTp 89 [(0,1),(1,1),(2,1),(3,1),(4,1),(5,1),(6,1),(7,1),(8,1),(9,1)]:=.of zk
instance:TZero zTp 89 [.slice none 0 0,.int .u32 0,.slice none 0 0,.slice none 0 0,.slice none 0 0,.slice none 0 0,.bool false,.int .i64 0,.bool false,.map none]:=.of (v:=.agg #[.slice none 0 0,.int .u32 0,.slice none 0 0,.slice none 0 0,.slice none 0 0,.slice none 0 0,.bool false,.int .i64 0,.bool false,.map none]) (n:=10) zk rfl rfl
instance:TSlice zTp 93 137 2:=.of zk
instance:TSize zTp 100 3:=.of zk
instance:TAgg zTp 100 3:=.of zk
instance:TField zTp 100 0 0:=.of zk
instance:TField zTp 100 1 1:=.of zk
instance:TField zTp 100 2 2:=.of zk
instance:TStruct zTp 100 [(0,1),(1,1),(2,1)]:=.of zk
instance:TZero zTp 100 [.int .i64 0,.string ⟨#[]⟩,.int .i64 0]:=.of (v:=.agg #[.int .i64 0,.string ⟨#[]⟩,.int .i64 0]) (n:=3) zk rfl rfl
instance:TRow zTp 100 3 32:=.of zk
instance:TSize zTp 106 2:=.of zk
instance:TAgg zTp 106 2:=.of zk
instance:TField zTp 106 0 0:=.of zk
instance:TField zTp 106 1 1:=.of zk
instance:TStruct zTp 106 [(0,1),(1,1)]:=.of zk
instance:TZero zTp 106 [.string ⟨#[]⟩,.int .i64 0]:=.of (v:=.agg #[.string ⟨#[]⟩,.int .i64 0]) (n:=2) zk rfl rfl
instance:TRow zTp 106 2 24:=.of zk
instance:TSize zTp 108 1:=.of zk
instance:TOne zTp 108:=.of zk
instance:TSlice zTp 108 193 6:=.of zk
instance:TSize zTp 110 4:=.of zk
instance:TAgg zTp 110 4:=.of zk
instance:TField zTp 110 0 0:=.of zk
instance:TField zTp 110 1 1:=.of zk
instance:TField zTp 110 2 2:=.of zk
instance:TField zTp 110 3 3:=.of zk
instance:TStruct zTp 110 [(0,1),(1,1),(2,1),(3,1)]:=.of zk
instance:TZero zTp 110 [.string ⟨#[]⟩,.slice none 0 0,.slice none 0 0,.slice none 0 0]:=.of (v:=.agg #[.string ⟨#[]⟩,.slice none 0 0,.slice none 0 0,.slice none 0 0]) (n:=4) zk rfl rfl
instance:TRow zTp 110 4 88:=.of zk
instance:TSize zTp 116 0:=.of zk
instance:TConcrete zTp 116:=.of zk
instance:TStruct zTp 116 []:=.of zk
instance:TZero zTp 116 []:=.of (v:=.agg #[]) (n:=0) zk rfl rfl
instance:TSize zTp 120 2:=.of zk
instance:TConcrete zTp 120:=.of zk
instance:TField zTp 120 0 0:=.of zk
instance:TField zTp 120 1 1:=.of zk
instance:TStruct zTp 120 [(0,1),(1,1)]:=.of zk
instance:TZero zTp 120 [.string ⟨#[]⟩,.int .i64 0]:=.of (v:=.agg #[.string ⟨#[]⟩,.int .i64 0]) (n:=2) zk rfl rfl
instance:TSize zTp 123 1:=.of zk
instance:TOne zTp 123:=.of zk
instance:TOne zTp 124:=.of zk
instance:TField zTp 126 0 0:=.of zk
instance:TField zTp 126 1 1:=.of zk
instance:TField zTp 126 2 2:=.of zk
instance:TField zTp 126 3 3:=.of zk
instance:TField zTp 126 4 4:=.of zk
instance:TField zTp 126 5 5:=.of zk
instance:TField zTp 126 6 6:=.of zk
instance:TStruct zTp 126 [(0,1),(1,1),(2,1),(3,1),(4,1),(5,1),(6,1)]:=.of zk
instance:TZero zTp 126 [.map none,.map none,.map none,.map none,.string ⟨#[]⟩,.map none,.int .i64 0]:=.of (v:=.agg #[.map none,.map none,.map none,.map none,.string ⟨#[]⟩,.map none,.int .i64 0]) (n:=7) zk rfl rfl
instance:TOne zTp 129:=.of zk
instance:TOne zTp 130:=.of zk
instance:TField zTp 132 0 0:=.of zk
instance:TField zTp 132 1 1:=.of zk
instance:TField zTp 132 2 2:=.of zk
instance:TField zTp 132 3 3:=.of zk
instance:TField zTp 132 4 4:=.of zk
instance:TField zTp 132 5 5:=.of zk
instance:TStruct zTp 132 [(0,1),(1,1),(2,1),(3,1),(4,1),(5,1)]:=.of zk
instance:TZero zTp 132 [.slice none 0 0,.int .i64 0,.int .i64 0,.map none,.map none,.string ⟨#[]⟩]:=.of (v:=.agg #[.slice none 0 0,.int .i64 0,.int .i64 0,.map none,.map none,.string ⟨#[]⟩]) (n:=6) zk rfl rfl
instance:TSize zTp 137 2:=.of zk
instance:TAgg zTp 137 2:=.of zk
instance:TField zTp 137 0 0:=.of zk
instance:TField zTp 137 1 1:=.of zk
instance:TStruct zTp 137 [(0,1),(1,1)]:=.of zk
instance:TZero zTp 137 [.string ⟨#[]⟩,.int .i64 0]:=.of (v:=.agg #[.string ⟨#[]⟩,.int .i64 0]) (n:=2) zk rfl rfl
instance:TRow zTp 137 2 24:=.of zk
instance:TSlice zTp 141 171 2:=.of zk
instance:TSize zTp 160 3:=.of zk
instance:TField zTp 160 0 0:=.of zk
instance:TField zTp 160 1 1:=.of zk
instance:TField zTp 160 2 2:=.of zk
instance:TStruct zTp 160 [(0,1),(1,1),(2,1)]:=.of zk
instance:TZero zTp 160 [.int .i64 0,.int .i64 0,.int .i64 0]:=.of (v:=.agg #[.int .i64 0,.int .i64 0,.int .i64 0]) (n:=3) zk rfl rfl
instance:TSize zTp 162 2:=.of zk
instance:TAgg zTp 162 2:=.of zk
instance:TField zTp 162 0 0:=.of zk
instance:TField zTp 162 1 1:=.of zk
instance:TStruct zTp 162 [(0,1),(1,1)]:=.of zk
instance:TZero zTp 162 [.int .i64 0,.int .i64 0]:=.of (v:=.agg #[.int .i64 0,.int .i64 0]) (n:=2) zk rfl rfl
instance:TSlice zTp 163 162 2:=.of zk
instance:TSize zTp 171 2:=.of zk
instance:TAgg zTp 171 2:=.of zk
instance:TField zTp 171 0 0:=.of zk
instance:TField zTp 171 1 1:=.of zk
instance:TStruct zTp 171 [(0,1),(1,1)]:=.of zk
instance:TZero zTp 171 [.string ⟨#[]⟩,.int .i64 0]:=.of (v:=.agg #[.string ⟨#[]⟩,.int .i64 0]) (n:=2) zk rfl rfl
instance:TRow zTp 171 2 24:=.of zk
instance:TSlice zTp 175 176 1:=.of zk
instance:TOne zTp 176:=.of zk
instance:TZero zTp 176 [.nilFunc]:=.of (v:=.nilFunc) (n:=1) zk rfl rfl
instance:TAgg zTp 179 2:=.of zk
instance:TField zTp 179 0 0:=.of zk
instance:TField zTp 179 1 1:=.of zk
instance:TStruct zTp 179 [(0,1),(1,1)]:=.of zk
instance:TZero zTp 179 [.slice none 0 0,.map none]:=.of (v:=.agg #[.slice none 0 0,.map none]) (n:=2) zk rfl rfl
instance:TKind zTp 186 .u64:=.of zk
instance:TSize zTp 191 1:=.of zk
instance:TOne zTp 191:=.of zk
instance:TSlice zTp 191 202 4:=.of zk
instance:TSize zTp 193 6:=.of zk
instance:TAgg zTp 193 6:=.of zk
instance:TField zTp 193 0 0:=.of zk
instance:TField zTp 193 1 1:=.of zk
instance:TField zTp 193 2 2:=.of zk
instance:TField zTp 193 3 3:=.of zk
instance:TField zTp 193 4 4:=.of zk
instance:TField zTp 193 5 5:=.of zk
instance:TStruct zTp 193 [(0,1),(1,1),(2,1),(3,1),(4,1),(5,1)]:=.of zk
instance:TZero zTp 193 [.int .i64 0,.string ⟨#[]⟩,.slice none 0 0,.slice none 0 0,.slice none 0 0,.slice none 0 0]:=.of (v:=.agg #[.int .i64 0,.string ⟨#[]⟩,.slice none 0 0,.slice none 0 0,.slice none 0 0,.slice none 0 0]) (n:=6) zk rfl rfl
instance:TRow zTp 193 6 120:=.of zk
instance:TOne zTp 197:=.of zk
instance:TSlice zTp 197 32 1:=.of zk
instance:TSize zTp 202 4:=.of zk
instance:TAgg zTp 202 4:=.of zk
instance:TField zTp 202 0 0:=.of zk
instance:TField zTp 202 1 1:=.of zk
instance:TField zTp 202 2 2:=.of zk
instance:TField zTp 202 3 3:=.of zk
instance:TStruct zTp 202 [(0,1),(1,1),(2,1),(3,1)]:=.of zk
instance:TZero zTp 202 [.string ⟨#[]⟩,.int .u32 0,.string ⟨#[]⟩,.slice none 0 0]:=.of (v:=.agg #[.string ⟨#[]⟩,.int .u32 0,.string ⟨#[]⟩,.slice none 0 0]) (n:=4) zk rfl rfl
instance:TRow zTp 202 4 64:=.of zk
instance:TSize zTp 213 1:=.of zk
instance:TOne zTp 213:=.of zk
instance:TZero zTp 213 [.nilFunc]:=.of (v:=.nilFunc) (n:=1) zk rfl rfl
instance:TSlice zTp 261 3 1:=.of zk
instance:zE 7:=.of zk
instance:zE 8:=.of zk
instance:zE 9:=.of zk
instance:zE 12:=.of zk
instance:zE 14:=.of zk
instance:zE 16:=.of zk
instance:zE 18:=.of zk
instance:zE 19:=.of zk
instance:zE 20:=.of zk
instance:zE 21:=.of zk
instance:zE 22:=.of zk
instance:zE 23:=.of zk
instance:zE 25:=.of zk
instance:zE 26:=.of zk
instance:zE 27:=.of zk
instance:zE 28:=.of zk
instance:zE 29:=.of zk
instance:zE 30:=.of zk
instance:zE 31:=.of zk
instance:zE 32:=.of zk
instance:zE 33:=.of zk
instance:zE 34:=.of zk
instance:zE 35:=.of zk
instance:zE 36:=.of zk
instance:zE 37:=.of zk
instance:zE 38:=.of zk
instance:zE 39:=.of zk
instance:zE 41:=.of zk
instance:zE 42:=.of zk
instance:zE 43:=.of zk
instance:zE 44:=.of zk
instance:zE 45:=.of zk
instance:zE 46:=.of zk
instance:zE 47:=.of zk
instance:zE 48:=.of zk
instance:zE 49:=.of zk
instance:zE 50:=.of zk
instance:zE 51:=.of zk
instance:zE 52:=.of zk
instance:zE 53:=.of zk
instance:zE 54:=.of zk
instance:zE 55:=.of zk
instance:zE 56:=.of zk
instance:zE 57:=.of zk
instance:zE 58:=.of zk
instance:zE 59:=.of zk
instance:zE 60:=.of zk
instance:zE 61:=.of zk
instance:zE 62:=.of zk
instance:zE 63:=.of zk
instance:zE 64:=.of zk
instance:zE 65:=.of zk
instance:zE 67:=.of zk
instance:zE 68:=.of zk
instance:zE 69:=.of zk
instance:zE 70:=.of zk
instance:zE 71:=.of zk
instance:zE 72:=.of zk
instance:zE 73:=.of zk
instance:zE 74:=.of zk
instance:zE 75:=.of zk
instance:zE 76:=.of zk
instance:zE 77:=.of zk
instance:zE 78:=.of zk
instance:zE 79:=.of zk
instance:zE 80:=.of zk
instance:zE 81:=.of zk
instance:zE 82:=.of zk
instance:zE 83:=.of zk
instance:zE 84:=.of zk
instance:zE 85:=.of zk
instance:zE 86:=.of zk
instance:zE 87:=.of zk
instance:zE 88:=.of zk
instance:zE 89:=.of zk
instance:zE 90:=.of zk
instance:zE 91:=.of zk
instance:zE 92:=.of zk
instance:zE 93:=.of zk
instance:zE 94:=.of zk
instance:zE 95:=.of zk
instance:zE 96:=.of zk
instance:zE 97:=.of zk
instance:zE 98:=.of zk
instance:zE 99:=.of zk
instance:zE 100:=.of zk
instance:zE 101:=.of zk
instance:zE 102:=.of zk
instance:zE 103:=.of zk
instance:zE 104:=.of zk
instance:zE 105:=.of zk
instance:zE 106:=.of zk
instance:zE 108:=.of zk
instance:zE 109:=.of zk
instance:zE 110:=.of zk
instance:zE 111:=.of zk
instance:zE 112:=.of zk
instance:zE 113:=.of zk
instance:zE 114:=.of zk
instance:zE 115:=.of zk
instance:zE 116:=.of zk
instance:zE 117:=.of zk
instance:zE 120:=.of zk
instance:zE 121:=.of zk
instance:zE 122:=.of zk
instance:zE 123:=.of zk
instance:zE 124:=.of zk
instance:zE 125:=.of zk
instance:zE 126:=.of zk
instance:zE 127:=.of zk
instance:zE 129:=.of zk
instance:zE 130:=.of zk
instance:zE 131:=.of zk
instance:zE 132:=.of zk
instance:zE 133:=.of zk
instance:zE 134:=.of zk
instance:zE 135:=.of zk
instance:zE 136:=.of zk
instance:zE 137:=.of zk
instance:zE 138:=.of zk
instance:zE 139:=.of zk
instance:zE 140:=.of zk
instance:zE 141:=.of zk
instance:zE 142:=.of zk
instance:zE 144:=.of zk
instance:zE 145:=.of zk
instance:zE 146:=.of zk
instance:zE 147:=.of zk
instance:zE 148:=.of zk
instance:zE 149:=.of zk
instance:zE 150:=.of zk
instance:zE 151:=.of zk
instance:zE 152:=.of zk
instance:zE 153:=.of zk
instance:zE 154:=.of zk
instance:zE 155:=.of zk
instance:zE 156:=.of zk
instance:zE 157:=.of zk
instance:zE 158:=.of zk
instance:zE 159:=.of zk
instance:zE 160:=.of zk
instance:zE 161:=.of zk
instance:zE 162:=.of zk
instance:zE 164:=.of zk
instance:zE 165:=.of zk
instance:zE 166:=.of zk
instance:zE 167:=.of zk
instance:zE 168:=.of zk
instance:zE 169:=.of zk
instance:zE 170:=.of zk
instance:zE 175:=.of zk
instance:zE 176:=.of zk
instance:zE 177:=.of zk
instance:zE 178:=.of zk
instance:zE 179:=.of zk
instance:zE 180:=.of zk
instance:zE 182:=.of zk
instance:zE 183:=.of zk
instance:zE 184:=.of zk
instance:zE 185:=.of zk
instance:zE 186:=.of zk
instance:zE 187:=.of zk
instance:zE 188:=.of zk
instance:zE 189:=.of zk
instance:zE 192:=.of zk
instance:zE 193:=.of zk
instance:zE 194:=.of zk
instance:zE 197:=.of zk
instance:zE 199:=.of zk
instance:zE 200:=.of zk
instance:zE 201:=.of zk
instance:zE 204:=.of zk
instance:zE 205:=.of zk
instance:zE 206:=.of zk
instance:zE 207:=.of zk
instance:zE 210:=.of zk
instance:zE 231:=.of zk
instance:zE 232:=.of zk
instance:zE 233:=.of zk
instance:zE 234:=.of zk
instance:zE 235:=.of zk
instance:zE 236:=.of zk
instance:zE 237:=.of zk
instance:zE 238:=.of zk
instance:zE 239:=.of zk
instance:zE 240:=.of zk
instance:zE 241:=.of zk
instance:zE 242:=.of zk
instance:zE 255:=.of zk
instance:zE 256:=.of zk
instance:zE 257:=.of zk
instance:zE 258:=.of zk
instance:zE 259:=.of zk
open Go.GL Go.RowKit Go.Stele
noncomputable abbrev KC(B0:Nat)(w0:World):Ctx:=⟨Tryz.prog,B0,w0⟩
attribute [local irreducible] LOps qag qae LCalls Go.GL.Pure qaz qam qad
section
variable{B0:Nat}{w0:World}
theorem qhG(c:UInt8):LCalls (KC B0 w0) 112 [int .u8 c.toNat] [] (Ret (bool (qao c))):=by
 refine zcI Tryz.func112 rfl (n:=9) rfl rfl rfl ?_;refine gaa ?_;refine zoB 5 rfl (λht=>?_) (λht=>?_);refine gad ?_;exact qac rfl (zra rfl) (by simp[qbJ,qao,ht]);refine gab ?_;exact qac rfl (zra rfl) (by simp[qbJ,qao,ht])
theorem qgK(c:UInt8):LCalls (KC B0 w0) 114 [int .u8 c.toNat] [] (Ret (bool (qaV c))):=by
 refine zcI Tryz.func114 rfl (n:=9) rfl rfl rfl ?_;refine gaa ?_;refine zoB 5 rfl (λht=>?_) (λht=>?_);refine gad ?_;exact qac rfl (zra rfl) (by simp[qbJ,qaV,ht]);refine gab ?_;exact qac rfl (zra rfl) (by simp[qbJ,qaV,ht])
theorem qqh(c:UInt8):LCalls (KC B0 w0) 110 [int .u8 c.toNat] [] (Ret (bool (qv8 c))):=by
 refine zcI Tryz.func110 rfl (n:=5) rfl rfl rfl ?_;refine gaa ?_;exact qac rfl (zra rfl) rfl
theorem qqy(c:UInt8):LCalls (KC B0 w0) 166 [int .u8 c.toNat] [] (Ret (bool (qaW c))):=by
 refine zcI Tryz.func166 rfl (n:=13) rfl rfl rfl ?_;refine gao ?_;refine oS (sF [_] rfl (qgK c) ?_) rfl;refine gaj ?_;refine zoB 5 rfl (λht=>?_) (λht=>?_);refine gab ?_;exact qac rfl (zra rfl) (by simp[qbJ,qaW,ht]);refine gaj ?_;refine oS (sF [_] rfl (qhG c) ?_) rfl;refine gab ?_;refine zoB 9 rfl (λhd=>?_) (λhd=>?_);refine gab ?_;exact qac rfl (zra rfl) (by simp[qbJ,qaW,ht,hd]);refine gab ?_;exact qac rfl (zra rfl) (by simp[qbJ,qaW,ht,hd])
theorem qqP(c:UInt8):LCalls (KC B0 w0) 111 [int .u8 c.toNat] [] (Ret (bool (qdz c))):=by
 refine zcI Tryz.func111 rfl (n:=13) rfl rfl rfl ?_;refine gac ?_;refine zoB 5 rfl (λht=>?_) (λht=>?_);refine gab ?_;exact qac rfl (zra rfl) (by simp[qbJ,qdz,ht]);refine gab ?_;refine zoB 9 rfl (λhd=>?_) (λhd=>?_);refine gab ?_;exact qac rfl (zra rfl) (by simp[qbJ,qdz,ht,hd]);refine gab ?_;exact qac rfl (zra rfl) (by simp[qbJ,qdz,ht,hd])
end
end Go.Proofs.YtkihibnffkpnkaaGreatDoor
namespace Go.Proofs.YtkihibnffkpnkaaGreatDoor
open Go.GL Go.RowKit Go.Stele
mutual
def qbO:Ex->List LV
 |.mk _ _ _ a=>qrZ a
def qrZ:List Ex->List LV
 |[]=>[]
 |e::r=>.agg [str (exOp e),int .u32 (qe2 e),str (qcW e),.list (qbO e)]::qrZ r
end
def encE(e:Ex):LV:=.agg [str (exOp e),int .u32 (qe2 e),str (qcW e),.list (qbO e)]
theorem qnd:∀ l:List Ex,qrZ l=l.map encE
 |[]=>by simp[qrZ]
 |e::r=>by rw[qrZ,qnd r];try rfl
theorem qjw(o:List UInt8)(n:Nat)(nm:List UInt8)(a:List Ex):qbO (.mk o n nm a)=a.map encE:=by rw[qbO,qnd]
theorem qd5(o:List UInt8)(n:Nat)(nm:List UInt8)(a:List Ex):encE (.mk o n nm a)=.agg [str o,int .u32 n,str nm,.list (a.map encE)]:=by rw[encE,qjw];try rfl
mutual
def qon:Sm->List LV
 |.mk _ _ _ _ t _=>qqd t
def qov:Sm->List LV
 |.mk _ _ _ _ _ e=>qqd e
def qqd:List Sm->List LV
 |[]=>[]
 |s::r=>.agg [int .i64 (qva s),str (qvm s),.list ((qrD s).map encE),.list ((qsK s).map encE),.list (qon s),.list (qov s)]::qqd r
end
def encS(s:Sm):LV:=.agg [int .i64 (qva s),str (qvm s),.list ((qrD s).map encE),.list ((qsK s).map encE),.list (qon s),.list (qov s)]
theorem qj6:∀ l:List Sm,qqd l=l.map encS
 |[]=>by simp[qqd]
 |e::r=>by rw[qqd,qj6 r];try rfl
theorem qcJ(k:Int)(n:List UInt8)(i v:List Ex)(t e:List Sm):encS (.mk k n i v t e)=.agg [int .i64 k,str n,.list (i.map encE),.list (v.map encE),.list (t.map encS),.list (e.map encS)]:=by
 rw[encS,qon,qov,qj6,qj6];try rfl
def qn6(a:Ar):LV:=.agg [str a.name,int .i64 a.size]
def qbm(f:FnD):LV:=.agg [str f.name,.list (f.params.map str),.list (f.locals.map str),.list (f.body.map encS)]
def qgA(p:Pr):LV:=.agg [.list (p.vars.map str),.list (p.arrays.map qn6),.list (p.funcs.map qbm)]
end Go.Proofs.YtkihibnffkpnkaaGreatDoor
namespace Go.Proofs.YtkihibnffkpnkaaGreatDoor.Chk
open Go.GL Go.RowKit Go.Stele
def qpr(es:List LV)(r:LRes)(H:Heap):Prop:=∃ v,r=.ret v/\GL.Acc 1 v es H []
theorem get_mid{A B:Type}(g:A->B)(pre:List A)(a:A)(l:List A):((pre++a::l).map g)[((pre.length:Nat):Int).toNat]? = some (g a):=by
 rw[Int.toNat_natCast,List.getElem?_map,List.getElem?_append_right (zNr _),Nat.sub_self];rfl
theorem qc0{H F:Heap}:HSub H (H++F):=⟨F,List.Perm.refl _⟩
theorem qnr(l:List (List UInt8)):∀ v∈l.map str,v.cells.length=1:=λv hv=>by
 obtain⟨a,_,rfl⟩:=List.mem_map.1 hv;rfl
theorem qvC(l:List (List UInt8)):((l.map str).flatMap LV.cells).all qc4=true:=by
 induction l with
 |nil=>rfl
 |cons a l ih=>
  simp only[zMc,List.flatMap_cons,List.all_append,ih,Bool.and_true];rfl
section
variable{C:Ctx}{n:Nat}{e:Env}{H H':Heap}{rs:List ResultVar}{vs:List LV}{es:List LV}{v:LV}
theorem qms(hd:e.ds=[])(h:qbX C n e H rs [v])(hv:GL.Acc 1 v es H' [])(hH:HSub H' H):qad C n rs (qpr es) .ret e H:=rR hd h hH ⟨v,rfl,hv⟩
end
attribute [local irreducible] LOps qag qae LCalls Go.GL.Pure qaz qam qad LQ LAny qaI qan LS
section
variable{B0:Nat}{w0:World}
theorem qqp(l:List (List UInt8))(hl:l.length<=2000000):LCalls (KC B0 w0) 137 [.list (l.map str)] [] (qpr (l.map str)):=by
 refine zcI Tryz.func137 rfl (n:=8) rfl rfl rfl ?_;refine gac ?_;refine oS (S.sliceNil (es:=l.map str) rfl λb hb=>?_) rfl;refine gaf ?_;refine zoC rfl (λhc=>?_) (λhc=>?_);have h0:=hb hc;refine gap ?_;exact qms rfl (rC (rT (v:=qab) rfl zsr) rN) (by rw[h0];exact Acc.nil) zhr;refine gak ?_;refine oS (S.litA [] rfl eN rfl rfl rfl λb4=>?_) rfl;refine gab ?_;refine oS (S.acc (es:=[]) (F:=[]) rfl Acc.row rfl (qnr l) (qvC l) (by simp;omega) λv' H' hacc=>?_) rfl;refine zQ19 ?_;refine gaf ?_;exact qms rfl (rC (rT (v:=v') rfl zsr) rN) hacc zhr
theorem qsE(k:Nat)(hk:k<=1000000000):LCalls (KC B0 w0) 177 [qab,int .i64 k] [] (qpr []):=by
 refine zcI Tryz.func177 rfl (n:=27) rfl rfl rfl ?_;refine gac ?_;refine zoC rfl (λhc=>?_) (λ_=>?_);have:=zt hc;omega;refine gac ?_;refine oP (Pure.rowCap rfl) rfl<|oP (pM (lv:=qab) rfl) rfl<|oP (Pure.rowLen rfl) rfl<|gaa ?_;refine zoC rfl (λhc=>?_) (λhc=>?_)
 have h0:0<k:=by
  have:=zt hc;simp at this;omega
 refine gag ?_;refine oP (Pure.rowCap rfl) rfl<|oP (Pure.rowSlice (n:=0) rfl rfl (zNr _)) rfl<|gaj ?_;refine oS (S.appZeros (n:=k) rfl (qap (by simp)) h0 zo λb cap hcap=>?_) rfl;refine gad ?_;refine oP (Pure.rowSlice (n:=0) rfl rfl zo) rfl<|LOps.rowOpen 25 1 pH rfl (by simp) ?_;refine oP (pA (lv:=.app b cap 1 []) rfl) rfl<|gaa ?_;exact qms rfl (rC (rT (v:=.app b cap 1 []) rfl zsr) rN) Acc.row zhr;refine gac ?_;exact qms rfl (rC (rT (v:=qab) rfl zsr) rN) Acc.nil zhr
def qef(l:List (List UInt8)):LV:=.list (l.map str)
theorem qvk(L:List (List (List UInt8)))(M:Nat)(h:∀ l∈L,l.length<=M):L.flatten.length<=L.length * M:=by
 induction L with
 |nil=>simp
 |cons a L ih=>
  rw[List.flatten_cons,zLa,zLc,Nat.add_mul];have h1:=h a zMs;have h2:=ih λl hl=>h l (zMo _ hl);omega
theorem qjE(L:List (List (List UInt8)))(hL:L.length<=4)(hl:∀ l∈L,l.length<=2000000):LCalls (KC B0 w0) 138 [.list (L.map qef)] [] (qpr (L.flatten.map str)):=by
 have hsum:=qvk L 2000000 hl;refine zcI Tryz.func138 rfl (n:=36) rfl rfl rfl ?_;refine gaa ?_
 refine zoL (λk ls H'=>∃ pre l1,L=pre++l1/\k=l1.length/\ls=[(0,.list (L.map qef)),(3,int .i64 (pre.flatten.length:Int)),(9,.list (L.map qef)),(10,int .i64 ((L.map qef).length:Int)),(11,int .i64 (pre.length:Int))]/\H'=[])
  ⟨L.length,_,_,⟨[],L,rfl,rfl,rfl,rfl⟩,⟨rfl,rfl,rfl,rfl,rfl,trivial⟩,zhR _⟩ ?_
 rintro k ls H' ⟨pre,l1,hLe,rfl,rfl,rfl⟩ j hj
 have hb1:pre.flatten.length<=8000000:=by
  have h1:=hsum;rw[hLe,List.flatten_append,zLa] at h1;rw[hLe] at hL;omega
 have hb2:pre.length<=4:=by
  rw[hLe,zLa] at hL;omega
 refine gai ?_;refine zoC rfl (λhc=>?_) (λhc=>?_);have hlen:=zt hc;rw[zLm,hLe,zLa] at hlen
 obtain⟨a,l2,rfl⟩:∃ a l2,l1=a::l2:=by
  cases l1 with
  |nil=>simp at hlen
  |cons a l2=>exact⟨a,l2,rfl⟩
 have ha:(a.map str).length<=2000000:=by
  rw[zLm];exact hl a (by rw[hLe];exact mem_append_right _ zMs)
 refine gak ?_;refine oP (xR (el':=qef a) (cs:=[qef a]) rfl rfl zo (by rw[hLe];exact get_mid qef pre a l2) rfl rfl) rfl<|gaa ?_;refine zoC rfl (λhd=>?_) (λ_=>?_);have:=zt hd;omega;refine gac ?_;exact⟨l2.length,_,_,lt_succ_self _,⟨pre++[a],l2,by rw[hLe];simp,rfl,rfl,rfl⟩,⟨rfl,qap (by simp),rfl,rfl,qap (by simp),trivial⟩,zhR _,hj⟩;have hlen:=zf hc;rw[zLm,hLe,zLa] at hlen
 obtain rfl:l1=[]:=by
  cases l1 with
  |nil=>rfl
  |cons a l2=>simp at hlen;omega
 rw[zLz] at hLe;subst hLe;refine gac ?_;have hfl:L.flatten.length<=8000000:=by omega
 refine oS (S.callH (H1:=[]) (F:=[]) [_,_] rfl zpr (qsE L.flatten.length zo) ?_ (by rintro ch H' ⟨v,h,_⟩;cases h)) rfl;rintro v Ha ⟨_,h,hacc⟩;cases h;rw[zLz];refine oP (pA (lv:=v) rfl) rfl<|gaa ?_
 refine zoL (λk ls H'=>∃ pre l1 v1 Ha1,L=pre++l1/\k=l1.length/\ls=[(6,v1),(25,.list (L.map qef)),(26,int .i64 ((L.map qef).length:Int)),(27,int .i64 (pre.length:Int))]/\H'=Ha1/\GL.Acc 1 v1 (pre.flatten.map str) Ha1 [])
  ⟨L.length,_,_,⟨[],L,v,Ha,rfl,rfl,rfl,rfl,hacc⟩,⟨rfl,rfl,rfl,rfl,trivial⟩,zhR _⟩ ?_
 rintro k ls H' ⟨pre,l1,v1,Ha1,hLe,rfl,rfl,rfl,hacc1⟩ j2 hj2
 have hb1:pre.flatten.length<=8000000:=by
  have h1:=hsum;rw[hLe,List.flatten_append,zLa] at h1;rw[hLe] at hL;omega
 have hb2:pre.length<=4:=by
  rw[hLe,zLa] at hL;omega
 refine gai ?_;refine zoC rfl (λhc=>?_) (λhc=>?_);have hlen:=zt hc;rw[zLm,hLe,zLa] at hlen
 obtain⟨a,l2,rfl⟩:∃ a l2,l1=a::l2:=by
  cases l1 with
  |nil=>simp at hlen
  |cons a l2=>exact⟨a,l2,rfl⟩
 have ha:a.length<=2000000:=hl a (by rw[hLe];exact mem_append_right _ zMs);refine gak ?_;refine oP (xR (el':=qef a) (cs:=[qef a]) rfl rfl zo (by rw[hLe];exact get_mid qef pre a l2) rfl rfl) rfl<|gaa ?_;refine oP (pM (lv:=v1) rfl) rfl<|gab ?_;refine oS (S.acc rfl hacc1 rfl (qnr a) (qvC a) (by rw[zLm,zLm];omega) λv' H' hacc=>?_) rfl;refine zQ19 ?_;refine gaq ?_
 exact⟨l2.length,_,_,lt_succ_self _,⟨pre++[a],l2,v',H',by rw[hLe];simp,rfl,rfl,rfl,by
  have e:((pre++[a]).flatten.map str)=pre.flatten.map str++a.map str:=by simp
  rw[e]
  exact hacc⟩,⟨rfl,rfl,rfl,qap (by simp),trivial⟩,zhR _,hj2⟩
 have hlen:=zf hc;rw[zLm,hLe,zLa] at hlen
 obtain rfl:l1=[]:=by
  cases l1 with
  |nil=>rfl
  |cons a l2=>simp at hlen;omega
 rw[zLz] at hLe;rw[<-hLe] at hacc1;refine gac ?_;refine oP (pM (lv:=v1) rfl) rfl<|oP (pA (lv:=v1) rfl) rfl<|gaf ?_;exact qms (hj2.trans hj) (rC (rT (v:=v1) rfl zsr) rN) hacc1 zhr
end
def ownS(f:FnD):List (List UInt8):=(f.params++f.locals).map λx=>f.name++[46]++x
section
variable{B0:Nat}{w0:World}
theorem scalars_specG{vars:List Nm}{fs:List FnD}(AL:LV)(hv6:vars.length<=2000000)(hf6:fs.length<=2000000)(hsm:∀ f∈fs,SmF f)(hn:∀ f∈fs,f.name.length<=1000/\∀ x∈f.params++f.locals,x.length<=1000):LCalls (KC B0 w0) 80 [.agg [.list (vars.map str),AL,.list (fs.map qbm)]] [] (Ret (.list ((qai vars fs).map str))):=by
 have hown:∀ f∈fs,(ownS f).length<=4000000:=λf hf=>by
  have h1:f.params.length<=2000000:=(hsm f hf).params;have h2:f.locals.length<=2000000:=(hsm f hf).locals;unfold ownS;rw[zLm,zLa];omega
 have hsum:∀ l:List FnD,(∀ f∈l,f∈fs)->((l.map ownS).flatten).length<=l.length * 4000000:=λl hl=>by
  have:=qvk (l.map ownS) 4000000 (λx hx=>by
   obtain⟨f,hf,rfl⟩:=List.mem_map.1 hx
   exact hown f (hl f hf))
  rwa [zLm] at this
 refine zcI Tryz.func80 rfl (n:=40) rfl rfl rfl ?_;refine gah ?_;refine oS (zsB rfl λb1=>?_) rfl;refine gaa ?_;refine oS (S.callH (H1:=[]) (F:=[_]) [_] rfl zpr (qqp vars hv6) ?_ (by rintro ch H' ⟨v,h,_⟩;cases h)) rfl;rintro v Ha ⟨_,h,hacc⟩;cases h;refine LOps.perm (zPc (l₂:=[_])) ?_;refine oP (pA (lv:=v) rfl) rfl<|gaa ?_
 refine zoL (λk ls H'=>∃ pre l1 v1 Ha1,fs=pre++l1/\k=l1.length/\ls=[(3,v1),(12,.list (fs.map qbm)),(13,int .i64 ((fs.map qbm).length:Int)),(14,int .i64 (pre.length:Int))]/\H'=Ha1/\GL.Acc 1 v1 ((vars++(pre.map ownS).flatten).map str) Ha1 [])
  ⟨fs.length,_,_,⟨[],fs,v,Ha,rfl,rfl,rfl,rfl,by simpa using hacc⟩,⟨rfl,rfl,rfl,rfl,trivial⟩,zhD zhr⟩ ?_
 rintro k ls Ha1 ⟨pre,l1,v1,_,hLe,rfl,rfl,rfl,hacc1⟩ j hj
 have hb2:pre.length<=2000000:=by
  rw[hLe,zLa] at hf6;omega
 have hb1:((pre.map ownS).flatten).length<=8000000000000:=by
  have:=hsum pre (λf hf=>by rw[hLe];exact List.mem_append_left _ hf);omega
 refine gai ?_;refine zoC rfl (λhc=>?_) (λhc=>?_);have hlen:=zt hc;rw[zLm,hLe,zLa] at hlen
 obtain⟨f,l2,rfl⟩:∃ a l2,l1=a::l2:=by
  cases l1 with
  |nil=>simp at hlen
  |cons a l2=>exact⟨a,l2,rfl⟩
 have hfm:f∈fs:=by rw[hLe];exact mem_append_right _ zMs
 obtain⟨hn1,hn2⟩:=hn f hfm;have hp6:f.params.length<=2000000:=(hsm f hfm).params;have hl6:f.locals.length<=2000000:=(hsm f hfm).locals;refine gak ?_;refine oP (xR (el':=qbm f) (cs:=[_,_,_,_]) rfl rfl zo (by rw[hLe];exact get_mid qbm pre f l2) rfl rfl) rfl<|gad ?_;refine oS (zsA λb5=>?_) rfl;refine gaa ?_;refine oS (sL (es:=[qef f.params,qef f.locals]) [_,_] rfl (eC rfl rfl (eC rfl rfl eN)) rfl rfl rfl ?_) rfl
 refine oS (S.callH (H1:=[]) (F:=(b5,.cells 110 [str f.name,qef f.params,qef f.locals,.list (f.body.map encS)])::Ha1) [_] rfl zpr (qjE [f.params,f.locals] (by simp) (by
  intro l hl;rcases zMi.1 hl with rfl|hl;exact hp6;rw[List.mem_singleton.1 hl]
  exact hl6)) ?_ (by rintro ch H' ⟨v,h,_⟩;cases h)) rfl
 rintro v2 Ha2 ⟨_,h,hacc2⟩;cases h;have hfl:[f.params,f.locals].flatten=f.params++f.locals:=by simp
 rw[hfl] at hacc2;refine LOps.sub 23 rfl hacc2.sub ?_;refine LOps.weak (H':=(b5,.cells 110 [str f.name,qef f.params,qef f.locals,.list (f.body.map encS)])::Ha1) ⟨Ha2,zPc⟩ ?_;refine gad ?_
 refine zoL (λk ls H'=>∃ pre2 l3 v3 Ha3,f.params++f.locals=pre2++l3/\k=l3.length/\ls=[(3,v3),(5,ptr b5 0),(12,.list (fs.map qbm)),(13,int .i64 ((fs.map qbm).length:Int)),(14,int .i64 (pre.length:Int)),(23,.list ((f.params++f.locals).map str)),(24,int .i64 (((f.params++f.locals).map str).length:Int)),(25,int .i64 (pre2.length:Int))] /\
   H'=(b5,.cells 110 [str f.name,qef f.params,qef f.locals,.list (f.body.map encS)])::Ha3/\GL.Acc 1 v3 ((vars++(pre.map ownS).flatten++pre2.map λx=>f.name++[46]++x).map str) Ha3 [])
  ⟨(f.params++f.locals).length,_,_,⟨[],f.params++f.locals,v1,Ha1,rfl,rfl,rfl,rfl,by simpa using hacc1⟩,⟨rfl,rfl,rfl,rfl,rfl,rfl,rfl,rfl,trivial⟩,zhR _⟩ ?_
 rintro k ls H' ⟨pre2,l3,v3,Ha3,hLe2,rfl,rfl,rfl,hacc3⟩ j2 hj2
 have hb3:pre2.length<=4000000:=by
  have:(f.params++f.locals).length<=4000000:=by rw[zLa];omega
  rw[hLe2,zLa] at this;omega
 refine gai ?_;refine zoC rfl (λhd=>?_) (λhd=>?_);have hlen2:=zt hd;rw[zLm,hLe2,zLa] at hlen2
 obtain⟨x,l4,rfl⟩:∃ a l2,l3=a::l2:=by
  cases l3 with
  |nil=>simp at hlen2
  |cons a l2=>exact⟨a,l2,rfl⟩
 have hx:x.length<=1000:=hn2 x (by rw[hLe2];exact mem_append_right _ zMs);refine gak ?_;refine oP (xR (el':=str x) (cs:=[str x]) rfl rfl zo (by rw[hLe2];exact get_mid str pre2 x l4) rfl rfl) rfl<|gaa ?_;refine oP (pM (lv:=v3) rfl) rfl<|gad ?_;refine oS (sL (es:=[str (f.name++[46]++x)]) [_] rfl (eC rfl rfl eN) rfl rfl rfl<|oS (S.acc1 rfl hacc3 rfl (qnr [f.name++[46]++x]) rfl (by rw[zLm,zLa,zLa,zLm,zLc,zLn];omega) λv' H' hacc'=>?_) rfl) rfl;refine zQ19 ?_;refine gaq ?_
 exact⟨l4.length,_,_,lt_succ_self _,⟨pre2++[x],l4,v',H',by rw[hLe2];simp,rfl,rfl,rfl,by
  have e:((vars++(pre.map ownS).flatten++(pre2++[x]).map λx=>f.name++[46]++x).map str)=((vars++(pre.map ownS).flatten++pre2.map λx=>f.name++[46]++x).map str)++[str (f.name++[46]++x)]:=by simp
  rw[e]
  exact hacc'⟩,⟨rfl,rfl,rfl,rfl,rfl,rfl,rfl,qap (by simp),trivial⟩,zhR _,hj2⟩
 have hlen2:=zf hd;rw[zLm,hLe2,zLa] at hlen2
 obtain rfl:l3=[]:=by
  cases l3 with
  |nil=>rfl
  |cons a l2=>simp at hlen2;omega
 rw[zLz] at hLe2;refine gac ?_
 exact⟨l2.length,_,_,lt_succ_self _,⟨pre++[f],l2,v3,Ha3,by rw[hLe];simp,rfl,rfl,rfl,by
  have e:((vars++((pre++[f]).map ownS).flatten).map str)=(vars++(pre.map ownS).flatten++pre2.map λx=>f.name++[46]++x).map str:=by
   rw[<-hLe2];simp[ownS]
  rw[e]
  exact hacc3⟩,⟨rfl,rfl,rfl,qap (by simp),trivial⟩,zhD zhr,hj2.trans hj⟩
 have hlen:=zf hc;rw[zLm,hLe,zLa] at hlen
 obtain rfl:l1=[]:=by
  cases l1 with
  |nil=>rfl
  |cons a l2=>simp at hlen;omega
 rw[zLz] at hLe;rw[<-hLe] at hacc1;refine gac ?_;refine oP (pM (lv:=v1) rfl) rfl<|oP (pA (lv:=v1) rfl) rfl<|gaf ?_;exact rR hj (rC (rT (v:=v1) rfl hacc1.sub) rN) zhn ⟨rfl,rfl⟩
end
end Go.Proofs.YtkihibnffkpnkaaGreatDoor.Chk
namespace Go.Stele.Wi.Wc.Rd
open Go.Lib
abbrev u(n:Nat):Ex:=.mk [110,117,109] n [] []
abbrev v(n:Nm):Ex:=.mk [118,97,114] 0 n []
abbrev l(n:Nm)(x:Ex):Ex:=.mk [101,108,101,109] 0 n [x]
abbrev c(n:Nm)(xs:List Ex):Ex:=.mk [99,97,108,108] 0 n xs
abbrev o(p:Nm)(x y:Ex):Ex:=.mk p 0 [] [x,y]
abbrev s(n:Nm)(x:Ex):Sm:=.mk 1 n [] [x] [] []
abbrev w(n:Nm)(y x:Ex):Sm:=.mk 2 n [y] [x] [] []
abbrev i(x:Ex)(a b:List Sm):Sm:=.mk 3 [] [] [x] a b
abbrev r(x:Ex)(a:List Sm):Sm:=.mk 4 [] [] [x] a []
abbrev t(x:Ex):Sm:=.mk 5 [] [] [x] [] []
abbrev p(x:Ex):Sm:=.mk 6 [] [] [x] [] []
abbrev oA:Nm:=[124,124]
abbrev oB:Nm:=[38,38]
abbrev oC:Nm:=[61,61]
abbrev oD:Nm:=[33,61]
abbrev oE:Nm:=[60]
abbrev oF:Nm:=[62]
abbrev oG:Nm:=[60,61]
abbrev oH:Nm:=[62,61]
abbrev oI:Nm:=[94]
abbrev oJ:Nm:=[43]
abbrev oK:Nm:=[45]
abbrev oL:Nm:=[42]
abbrev oM:Nm:=[47]
abbrev oN:Nm:=[37]
def kUb:Nm:=[103,102,116,97,98,108,101,115]
def kA:Nm:=[105]
def kH:Nm:=[120]
def kV:Nm:=[103,101,120,112]
def kDa:Nm:=[103,108,111,103]
def kBa:Nm:=[103,102,109,117,108]
def kG:Nm:=[97]
def kD:Nm:=[98]
def kMb:Nm:=[103,102,100,105,118]
def kJc:Nm:=[99,114,99,98,121,116,101]
def kJ:Nm:=[99]
def kN:Nm:=[116]
def kKc:Nm:=[101,120,116,114,97,99,116]
def kB:Nm:=[115]
def kEa:Nm:=[117]
def kLa:Nm:=[99,111,100,101,100]
def kLb:Nm:=[112,108,97,105,110]
def kIa:Nm:=[99,111,115,116]
def kP:Nm:=[119,111,114,100]
def kBb:Nm:=[98,114,97,110,99,104]
def kM:Nm:=[100]
def kUc:Nm:=[118,105,116,101,114,98,105]
def kLc:Nm:=[105,110,110,101,114]
def kF:Nm:=[107]
def kSb:Nm:=[115,121,110,100,114,111,109,101,115]
def kI:Nm:=[106]
def kKa:Nm:=[111,107]
def kDb:Nm:=[115,121,110]
def kGa:Nm:=[108,97,109]
def kFb:Nm:=[112,114,101,118]
def kZb:Nm:=[116,101,109,112]
def kBc:Nm:=[111,109,101,103,97]
def kHc:Nm:=[108,111,99,97,116,111,114]
def kC:Nm:=[110]
def kY:Nm:=[108]
def kR:Nm:=[109]
def kIb:Nm:=[102]
def kMc:Nm:=[101,118,97,108,117,97,116,101]
def kHa:Nm:=[118]
def kOc:Nm:=[109,97,103,110,105,116,117,100,101]
def kZ:Nm:=[101]
def kTc:Nm:=[114,101,112,97,105,114]
def kSa:Nm:=[121]
def kEb:Nm:=[102,105,120,101,100]
def kXc:Nm:=[109,97,114,107]
def kZa:Nm:=[112,105,101,99,101]
def kU:Nm:=[115,116,111,114,101]
def kIc:Nm:=[117,110,119,101,97,118,101]
def kO:Nm:=[114]
def kE:Nm:=[112]
def kPa:Nm:=[112,108,101,110]
def kRc:Nm:=[99,104,101,99,107,115,117,109]
def kPc:Nm:=[118,97,108,105,100]
def kGc:Nm:=[107,101,101,112]
def kTa:Nm:=[97,114,99,104,105,118,101]
def kS:Nm:=[110,115,116,111,114,101]
def kDc:Nm:=[100,101,99,111,100,101]
def kCc:Nm:=[115,99,97,110]
def kQb:Nm:=[112,105,101,99,101,115]
def kVa:Nm:=[105,110]
def kNc:Nm:=[99,111,109,98,105,110,101]
def kUa:Nm:=[98,108,111,99,107]
def kGb:Nm:=[115,104,97,114,101,105,110,100,101,120]
def kOb:Nm:=[115,104,97,114,101,97,116]
def kX:Nm:=[115,105,103,109,97,114,111,119]
def kL:Nm:=[104,115,105,103,109,97]
def kT:Nm:=[104,105,110,105,116]
def kOa:Nm:=[104,115,116,97,116,101]
def kK:Nm:=[104,119,111,114,107]
def kW:Nm:=[104,119,111,114,100]
def kQa:Nm:=[104,98,108,111,99,107]
def kAc:Nm:=[104,116,97,98,108,101,115]
def kJa:Nm:=[104,109,105,120]
def kRb:Nm:=[104,99,111,109,112,114,101,115,115]
def kAb:Nm:=[104,99,111,117,110,116]
def kFc:Nm:=[104,98,101,103,105,110]
def kFa:Nm:=[104,102,105,108,108]
def kWc:Nm:=[104,98,121,116,101]
def kEc:Nm:=[104,101,110,100]
def kVc:Nm:=[104,100,105,103,101,115,116]
def kHb:Nm:=[111,117,116,110,117,109]
def kWa:Nm:=[111,117,116]
def kNa:Nm:=[100,105,114]
def kVb:Nm:=[102,105,110,100]
def kXa:Nm:=[102,105,110,100,97,110,121]
def kSc:Nm:=[103,101,116,98,108,111,99,107]
def kKb:Nm:=[99,117,114,115,101,115,115,105,111,110]
def kYb:Nm:=[99,117,114,98,108,111,99,107]
def kMa:Nm:=[100,97,116,97]
def kPb:Nm:=[115,112,97,114,101]
def kTb:Nm:=[103,101,116,98,121,116,101]
def kCa:Nm:=[111]
def kRa:Nm:=[108,111,97,100,100,105,114]
def kYa:Nm:=[100,108,101,110]
def kAa:Nm:=[110,117,109,98,101,114]
def kQ:Nm:=[112,111,115]
def kXb:Nm:=[110,101,116,108,101,110]
def kJb:Nm:=[115,107,105,112]
def kQc:Nm:=[118,101,114,105,102,121]
def kCb:Nm:=[103]
def kYc:Nm:=[99,111,112,121]
def kNb:Nm:=[115,104,111,119]
def kWb:Nm:=[122]
def kZc:Nm:=[109,97,105,110]
def f_gftables:FnD:=⟨kUb,[],[kA,kH],[s kA (u 0),s kH (u 1),r (o oE (v kA) (u 255)) [w kV (v kA) (v kH),w kV (o oJ (v kA) (u 255)) (v kH),w kDa (v kH) (v kA),s kH (o oL (v kH) (u 2)),i (o oF (v kH) (u 255)) [s kH (o oI (v kH) (u 285))] [],s kA (o oJ (v kA) (u 1))]]⟩
def f_gfmul:FnD:=⟨kBa,[kG,kD],[],[i (o oA (o oC (v kG) (u 0)) (o oC (v kD) (u 0))) [t (u 0)] [],t (l kV (o oJ (l kDa (v kG)) (l kDa (v kD))))]⟩
def f_gfdiv:FnD:=⟨kMb,[kG,kD],[],[i (o oC (v kG) (u 0)) [t (u 0)] [],t (l kV (o oK (o oJ (l kDa (v kG)) (u 255)) (l kDa (v kD))))]⟩
def f_crcbyte:FnD:=⟨kJc,[kJ,kD],[kA,kN],[s kJ (o oI (v kJ) (o oL (v kD) (u 16777216))),s kA (u 0),r (o oE (v kA) (u 8)) [s kN (o oM (v kJ) (u 2147483648)),s kJ (o oL (v kJ) (u 2)),i (v kN) [s kJ (o oI (v kJ) (u 79764919))] [],s kA (o oJ (v kA) (u 1))],t (v kJ)]⟩
def f_extract:FnD:=⟨kKc,[],[kA,kB,kEa],[s kA (u 0),s kB (u 0),r (o oE (v kA) (u 418)) [i (o oA (o oF (l kLa (o oL (u 2) (v kA))) (u 1)) (o oF (l kLa (o oJ (o oL (u 2) (v kA)) (u 1))) (u 1))) [t (u 0)] [],s kEa (o oI (l kLa (o oJ (o oL (u 2) (v kA)) (u 1))) (o oN (v kB) (u 2))),i (o oD (l kLa (o oL (u 2) (v kA))) (o oI (o oI (v kEa) (o oM (v kB) (u 2))) (o oN (v kB) (u 2)))) [t (u 0)] [],w kLb (v kA) (v kEa),s kB (o oJ (o oL (u 2) (v kEa)) (o oM (v kB) (u 2))),s kA (o oJ (v kA) (u 1))],t (o oC (v kB) (u 0))]⟩
def f_branch:FnD:=⟨kBb,[kA,kB,kEa],[kJ,kM],[s kM (u 0),s kJ (l kLa (o oL (u 2) (v kA))),i (o oB (o oE (v kJ) (u 2)) (o oD (v kJ) (o oI (o oI (v kEa) (o oM (v kB) (u 2))) (o oN (v kB) (u 2))))) [s kM (u 1)] [],s kJ (l kLa (o oJ (o oL (u 2) (v kA)) (u 1))),i (o oB (o oE (v kJ) (u 2)) (o oD (v kJ) (o oI (v kEa) (o oN (v kB) (u 2))))) [s kM (o oJ (v kM) (u 1))] [],t (v kM)]⟩
def f_viterbi:FnD:=⟨kUc,[],[kA,kB,kG,kD,kEa],[w kIa (u 1672) (u 0),w kIa (u 1673) (u 100000),w kIa (u 1674) (u 100000),w kIa (u 1675) (u 100000),s kA (u 418),r (o oF (v kA) (u 0)) [s kA (o oK (v kA) (u 1)),s kB (u 0),r (o oE (v kB) (u 4)) [s kG (o oJ (l kIa (o oJ (o oJ (o oL (u 4) (v kA)) (u 4)) (o oM (v kB) (u 2)))) (c kBb [(v kA),(v kB),(u 0)])),i (o oE (v kA) (u 416)) [s kD (o oJ (l kIa (o oJ (o oJ (o oL (u 4) (v kA)) (u 6)) (o oM (v kB) (u 2)))) (c kBb [(v kA),(v kB),(u 1)])),i (o oE (v kD) (v kG)) [s kG (v kD)] []] [],w kIa (o oJ (o oL (u 4) (v kA)) (v kB)) (v kG),s kB (o oJ (v kB) (u 1))]],s kB (u 0),r (o oE (v kA) (u 418)) [s kEa (u 0),i (o oE (v kA) (u 416)) [s kG (o oJ (l kIa (o oJ (o oJ (o oL (u 4) (v kA)) (u 4)) (o oM (v kB) (u 2)))) (c kBb [(v kA),(v kB),(u 0)])),s kD (o oJ (l kIa (o oJ (o oJ (o oL (u 4) (v kA)) (u 6)) (o oM (v kB) (u 2)))) (c kBb [(v kA),(v kB),(u 1)])),i (o oE (v kD) (v kG)) [s kEa (u 1)] []] [],w kLb (v kA) (v kEa),s kB (o oJ (o oL (u 2) (v kEa)) (o oM (v kB) (u 2))),s kA (o oJ (v kA) (u 1))]]⟩
def f_inner:FnD:=⟨kLc,[],[kA,kF,kD],[i (o oC (c kKc []) (u 0)) [p (c kUc [])] [],s kA (u 0),r (o oE (v kA) (u 52)) [s kD (u 0),s kF (u 0),r (o oE (v kF) (u 8)) [s kD (o oJ (o oL (u 2) (v kD)) (l kLb (o oJ (o oL (u 8) (v kA)) (v kF)))),s kF (o oJ (v kF) (u 1))],w kP (v kA) (v kD),s kA (o oJ (v kA) (u 1))]]⟩
def f_syndromes:FnD:=⟨kSb,[],[kA,kI,kB,kKa],[s kKa (u 1),s kI (u 0),r (o oE (v kI) (u 8)) [s kB (u 0),s kA (u 0),r (o oE (v kA) (u 52)) [s kB (o oI (c kBa [(v kB),(l kV (v kI))]) (l kP (v kA))),s kA (o oJ (v kA) (u 1))],w kDb (v kI) (v kB),i (v kB) [s kKa (u 0)] [],s kI (o oJ (v kI) (u 1))],t (v kKa)]⟩
def f_locator:FnD:=⟨kHc,[],[kC,kY,kR,kD,kM,kIb,kA],[s kA (u 0),r (o oE (v kA) (u 9)) [w kGa (v kA) (u 0),w kFb (v kA) (u 0),s kA (o oJ (v kA) (u 1))],w kGa (u 0) (u 1),w kFb (u 0) (u 1),s kY (u 0),s kR (u 1),s kD (u 1),s kC (u 0),r (o oE (v kC) (u 8)) [s kM (l kDb (v kC)),s kA (u 1),r (o oG (v kA) (v kY)) [s kM (o oI (v kM) (c kBa [(l kGa (v kA)),(l kDb (o oK (v kC) (v kA)))])),s kA (o oJ (v kA) (u 1))],i (o oC (v kM) (u 0)) [s kR (o oJ (v kR) (u 1))] [s kIb (c kMb [(v kM),(v kD)]),s kA (u 0),r (o oE (v kA) (u 9)) [w kZb (v kA) (l kGa (v kA)),s kA (o oJ (v kA) (u 1))],s kA (u 0),r (o oE (o oJ (v kA) (v kR)) (u 9)) [w kGa (o oJ (v kA) (v kR)) (o oI (l kGa (o oJ (v kA) (v kR))) (c kBa [(v kIb),(l kFb (v kA))])),s kA (o oJ (v kA) (u 1))],i (o oG (o oL (u 2) (v kY)) (v kC)) [s kY (o oK (o oJ (v kC) (u 1)) (v kY)),s kD (v kM),s kR (u 1),s kA (u 0),r (o oE (v kA) (u 9)) [w kFb (v kA) (l kZb (v kA)),s kA (o oJ (v kA) (u 1))]] [s kR (o oJ (v kR) (u 1))]],s kC (o oJ (v kC) (u 1))],t (v kY)]⟩
def f_evaluate:FnD:=⟨kMc,[kH],[kA,kHa],[s kHa (u 0),s kA (u 9),r (o oF (v kA) (u 0)) [s kA (o oK (v kA) (u 1)),s kHa (o oI (c kBa [(v kHa),(v kH)]) (l kGa (v kA)))],t (v kHa)]⟩
def f_magnitude:FnD:=⟨kOc,[kZ,kH],[kA,kHa,kM],[s kHa (u 0),s kA (u 8),r (o oF (v kA) (u 0)) [s kA (o oK (v kA) (u 1)),s kHa (o oI (c kBa [(v kHa),(v kH)]) (l kBc (v kA)))],s kM (u 0),s kA (u 9),r (o oF (v kA) (u 1)) [s kA (o oK (v kA) (u 2)),s kM (o oI (c kBa [(c kBa [(v kM),(v kH)]),(v kH)]) (l kGa (v kA)))],i (o oC (v kM) (u 0)) [t (u 0)] [],t (c kMb [(c kBa [(l kV (v kZ)),(v kHa)]),(v kM)])]⟩
def f_repair:FnD:=⟨kTc,[],[kY,kA,kF,kB,kZ,kH,kSa],[s kEb (u 0),i (c kSb []) [t (u 1)] [],s kY (c kHc []),i (o oF (v kY) (u 4)) [t (u 0)] [],s kA (u 0),r (o oE (v kA) (u 8)) [s kB (u 0),s kF (u 0),r (o oG (v kF) (v kA)) [s kB (o oI (v kB) (c kBa [(l kGa (v kF)),(l kDb (o oK (v kA) (v kF)))])),s kF (o oJ (v kF) (u 1))],w kBc (v kA) (v kB),s kA (o oJ (v kA) (u 1))],s kZ (u 0),r (o oE (v kZ) (u 52)) [s kH (l kV (o oK (u 255) (v kZ))),i (o oC (c kMc [(v kH)]) (u 0)) [s kSa (c kOc [(v kZ),(v kH)]),i (o oC (v kSa) (u 0)) [t (u 0)] [],w kP (o oK (u 51) (v kZ)) (o oI (l kP (o oK (u 51) (v kZ))) (v kSa)),s kEb (o oJ (v kEb) (u 1))] [],s kZ (o oJ (v kZ) (u 1))],i (o oD (v kEb) (v kY)) [t (u 0)] [],t (c kSb [])]⟩
def f_mark:FnD:=⟨kXc,[kA],[kF,kM,kR],[s kM (u 0),s kF (u 0),s kR (u 63912),r (o oB (o oE (v kF) (u 16)) (o oE (v kM) (u 3))) [i (o oD (l kZa (o oJ (v kA) (v kF))) (o oM (v kR) (u 32768))) [s kM (o oJ (v kM) (u 1))] [],s kR (o oN (o oL (v kR) (u 2)) (u 65536)),s kF (o oJ (v kF) (u 1))],t (v kM)]⟩
def f_unweave:FnD:=⟨kIc,[kA],[kI,kO,kE,kC],[s kI (o oJ (v kA) (u 16)),s kC (u 0),s kO (u 0),r (o oE (v kO) (u 8)) [s kE (v kO),r (o oE (v kE) (u 836)) [i (o oE (v kI) (v kPa)) [w kLa (v kE) (l kZa (v kI)),i (o oE (l kZa (v kI)) (u 2)) [s kC (o oJ (v kC) (u 1))] []] [w kLa (v kE) (u 2)],s kI (o oJ (v kI) (u 1)),s kE (o oJ (v kE) (u 8))],s kO (o oJ (v kO) (u 1))],t (v kC)]⟩
def f_checksum:FnD:=⟨kRc,[],[kA,kJ],[s kJ (u 4294967295),s kA (u 0),r (o oE (v kA) (u 40)) [s kJ (c kJc [(v kJ),(l kP (v kA))]),s kA (o oJ (v kA) (u 1))],t (o oC (v kJ) (o oJ (o oL (o oJ (o oL (o oJ (o oL (l kP (u 40)) (u 256)) (l kP (u 41))) (u 256)) (l kP (u 42))) (u 256)) (l kP (u 43))))]⟩
def f_valid:FnD:=⟨kPc,[],[kA,kF,kR],[s kF (o oM (l kP (u 7)) (u 16)),s kR (o oN (l kP (u 7)) (u 16)),i (o oB (o oD (l kP (u 0)) (u 66)) (o oD (l kP (u 0)) (u 68))) [t (u 0)] [],i (o oA (o oA (o oA (o oE (v kF) (u 1)) (o oF (v kF) (u 8))) (o oF (v kR) (u 7))) (o oH (l kP (u 1)) (o oJ (v kF) (v kR)))) [t (u 0)] [],i (o oA (o oA (o oD (l kP (u 2)) (u 0)) (o oC (l kP (u 3)) (u 0))) (o oF (l kP (u 6)) (u 28))) [t (u 0)] [],s kA (l kP (u 6)),r (o oE (v kA) (u 28)) [i (l kP (o oJ (u 12) (v kA))) [t (u 0)] [],s kA (o oJ (v kA) (u 1))],t (u 1)]⟩
def f_keep:FnD:=⟨kGc,[],[kA],[i (o oD (o oJ (o oL (o oJ (o oL (o oJ (o oL (l kP (u 8)) (u 256)) (l kP (u 9))) (u 256)) (l kP (u 10))) (u 256)) (l kP (u 11))) (v kTa)) [t (u 0)] [],i (o oC (v kS) (u 1200)) [t (u 0)] [],s kA (u 0),r (o oE (v kA) (u 40)) [w kU (o oJ (o oL (u 40) (v kS)) (v kA)) (l kP (v kA)),s kA (o oJ (v kA) (u 1))],s kS (o oJ (v kS) (u 1)),t (u 1)]⟩
def f_decode:FnD:=⟨kDc,[kA],[],[i (o oE (c kIc [(v kA)]) (u 400)) [t (u 0)] [],p (c kLc []),i (o oC (c kTc []) (u 0)) [t (u 0)] [],i (o oC (c kRc []) (u 0)) [t (u 0)] [],i (o oC (c kPc []) (u 0)) [t (u 0)] [],p (c kGc []),t (u 1)]⟩
def f_scan:FnD:=⟨kCc,[],[kA,kC],[s kA (u 0),r (o oG (o oJ (v kA) (u 16)) (v kPa)) [s kC (u 1),i (o oE (c kXc [(v kA)]) (u 3)) [i (c kDc [(v kA)]) [s kC (u 852)] []] [],s kA (o oJ (v kA) (v kC))]]⟩
def f_pieces:FnD:=⟨kQb,[],[kJ],[s kJ (c kVa []),r (o oD (v kJ) (u 4294967295)) [s kPa (u 0),r (o oE (v kJ) (u 3)) [i (o oE (v kPa) (u 40000)) [w kZa (v kPa) (v kJ),s kPa (o oJ (v kPa) (u 1))] [],s kJ (c kVa [])],p (c kCc []),s kJ (c kVa [])]]⟩
def f_combine:FnD:=⟨kNc,[kO,kC],[kA,kI,kG,kD,kN],[s kA (u 0),r (o oE (v kA) (u 28)) [w kUa (v kA) (u 0),s kA (o oJ (v kA) (u 1))],s kA (u 0),r (o oE (v kA) (v kC)) [s kG (u 1),s kD (u 1),s kI (u 0),r (o oE (v kI) (v kC)) [i (o oD (v kI) (v kA)) [s kG (c kBa [(v kG),(o oI (v kO) (l kGb (v kI)))]),s kD (c kBa [(v kD),(o oI (l kGb (v kA)) (l kGb (v kI)))])] [],s kI (o oJ (v kI) (u 1))],s kN (c kMb [(v kG),(v kD)]),s kI (u 0),r (o oE (v kI) (u 28)) [w kUa (v kI) (o oI (l kUa (v kI)) (c kBa [(v kN),(l kU (o oJ (l kOb (v kA)) (v kI)))])),s kI (o oJ (v kI) (u 1))],s kA (o oJ (v kA) (u 1))]]⟩
def f_sigmarow:FnD:=⟨kX,[kO,kG,kD],[kA],[s kA (u 0),r (o oE (v kA) (u 8)) [w kL (o oJ (o oL (u 16) (v kO)) (v kA)) (o oM (v kG) (u 268435456)),w kL (o oJ (o oJ (o oL (u 16) (v kO)) (u 8)) (v kA)) (o oM (v kD) (u 268435456)),s kG (o oL (v kG) (u 16)),s kD (o oL (v kD) (u 16)),s kA (o oJ (v kA) (u 1))]]⟩
def f_htables:FnD:=⟨kAc,[],[],[w kT (u 0) (u 1779033703),w kT (u 1) (u 3144134277),w kT (u 2) (u 1013904242),w kT (u 3) (u 2773480762),w kT (u 4) (u 1359893119),w kT (u 5) (u 2600822924),w kT (u 6) (u 528734635),w kT (u 7) (u 1541459225),p (c kX [(u 0),(u 19088743),(u 2309737967)]),p (c kX [(u 1),(u 3930628054),(u 469940051)]),p (c kX [(u 2),(u 3099611901),(u 2922803604)]),p (c kX [(u 3),(u 2033310910),(u 643449080)]),p (c kX [(u 4),(u 2421630127),(u 3787221053)]),p (c kX [(u 5),(u 745147267),(u 1299578393)]),p (c kX [(u 6),(u 3307203914),(u 123966091)]),p (c kX [(u 7),(u 3682517305),(u 1358202410)]),p (c kX [(u 8),(u 1877586696),(u 3268875429)]),p (c kX [(u 9),(u 2726589973),(u 4221451472)])]⟩
def f_hmix:FnD:=⟨kJa,[kG,kD,kJ,kM,kH,kSa],[kN],[w kK (v kG) (o oJ (o oJ (l kK (v kG)) (l kK (v kD))) (v kH)),s kN (o oI (l kK (v kM)) (l kK (v kG))),w kK (v kM) (o oJ (o oM (v kN) (u 65536)) (o oL (v kN) (u 65536))),w kK (v kJ) (o oJ (l kK (v kJ)) (l kK (v kM))),s kN (o oI (l kK (v kD)) (l kK (v kJ))),w kK (v kD) (o oJ (o oM (v kN) (u 4096)) (o oL (v kN) (u 1048576))),w kK (v kG) (o oJ (o oJ (l kK (v kG)) (l kK (v kD))) (v kSa)),s kN (o oI (l kK (v kM)) (l kK (v kG))),w kK (v kM) (o oJ (o oM (v kN) (u 256)) (o oL (v kN) (u 16777216))),w kK (v kJ) (o oJ (l kK (v kJ)) (l kK (v kM))),s kN (o oI (l kK (v kD)) (l kK (v kJ))),w kK (v kD) (o oJ (o oM (v kN) (u 128)) (o oL (v kN) (u 33554432)))]⟩
def f_hcompress:FnD:=⟨kRb,[kIb],[kA,kO,kB],[s kA (u 0),r (o oE (v kA) (u 16)) [w kW (v kA) (o oJ (o oJ (o oJ (l kQa (o oL (u 4) (v kA))) (o oL (l kQa (o oJ (o oL (u 4) (v kA)) (u 1))) (u 256))) (o oL (l kQa (o oJ (o oL (u 4) (v kA)) (u 2))) (u 65536))) (o oL (l kQa (o oJ (o oL (u 4) (v kA)) (u 3))) (u 16777216))),s kA (o oJ (v kA) (u 1))],s kA (u 0),r (o oE (v kA) (u 8)) [w kK (v kA) (l kOa (v kA)),w kK (o oJ (v kA) (u 8)) (l kT (v kA)),s kA (o oJ (v kA) (u 1))],w kK (u 12) (o oI (l kK (u 12)) (v kAb)),i (v kIb) [w kK (u 14) (o oI (l kK (u 14)) (u 4294967295))] [],s kO (u 0),r (o oE (v kO) (u 10)) [s kB (o oL (u 16) (v kO)),p (c kJa [(u 0),(u 4),(u 8),(u 12),(l kW (l kL (v kB))),(l kW (l kL (o oJ (v kB) (u 1))))]),p (c kJa [(u 1),(u 5),(u 9),(u 13),(l kW (l kL (o oJ (v kB) (u 2)))),(l kW (l kL (o oJ (v kB) (u 3))))]),p (c kJa [(u 2),(u 6),(u 10),(u 14),(l kW (l kL (o oJ (v kB) (u 4)))),(l kW (l kL (o oJ (v kB) (u 5))))]),p (c kJa [(u 3),(u 7),(u 11),(u 15),(l kW (l kL (o oJ (v kB) (u 6)))),(l kW (l kL (o oJ (v kB) (u 7))))]),p (c kJa [(u 0),(u 5),(u 10),(u 15),(l kW (l kL (o oJ (v kB) (u 8)))),(l kW (l kL (o oJ (v kB) (u 9))))]),p (c kJa [(u 1),(u 6),(u 11),(u 12),(l kW (l kL (o oJ (v kB) (u 10)))),(l kW (l kL (o oJ (v kB) (u 11))))]),p (c kJa [(u 2),(u 7),(u 8),(u 13),(l kW (l kL (o oJ (v kB) (u 12)))),(l kW (l kL (o oJ (v kB) (u 13))))]),p (c kJa [(u 3),(u 4),(u 9),(u 14),(l kW (l kL (o oJ (v kB) (u 14)))),(l kW (l kL (o oJ (v kB) (u 15))))]),s kO (o oJ (v kO) (u 1))],s kA (u 0),r (o oE (v kA) (u 8)) [w kOa (v kA) (o oI (o oI (l kOa (v kA)) (l kK (v kA))) (l kK (o oJ (v kA) (u 8)))),s kA (o oJ (v kA) (u 1))]]⟩
def f_hbegin:FnD:=⟨kFc,[],[kA],[s kA (u 0),r (o oE (v kA) (u 8)) [w kOa (v kA) (l kT (v kA)),s kA (o oJ (v kA) (u 1))],w kOa (u 0) (o oI (l kOa (u 0)) (u 16842784)),s kFa (u 0),s kAb (u 0)]⟩
def f_hbyte:FnD:=⟨kWc,[kD],[],[i (o oC (v kFa) (u 64)) [p (c kRb [(u 0)]),s kFa (u 0)] [],w kQa (v kFa) (v kD),s kFa (o oJ (v kFa) (u 1)),s kAb (o oJ (v kAb) (u 1))]⟩
def f_hend:FnD:=⟨kEc,[],[],[r (o oE (v kFa) (u 64)) [w kQa (v kFa) (u 0),s kFa (o oJ (v kFa) (u 1))],p (c kRb [(u 1)])]⟩
def f_hdigest:FnD:=⟨kVc,[kA],[kF,kB],[s kB (u 1),s kF (o oN (v kA) (u 4)),r (v kF) [s kB (o oL (v kB) (u 256)),s kF (o oK (v kF) (u 1))],t (o oN (o oM (l kOa (o oM (v kA) (u 4))) (v kB)) (u 256))]⟩
def f_outnum:FnD:=⟨kHb,[kC],[kE],[s kE (u 1),r (o oH (o oM (v kC) (v kE)) (u 10)) [s kE (o oL (v kE) (u 10))],r (o oF (v kE) (u 0)) [p (c kWa [(o oJ (u 48) (o oN (o oM (v kC) (v kE)) (u 10)))]),s kE (o oM (v kE) (u 10))],p (c kWa [(u 32)])]⟩
def f_find:FnD:=⟨kVb,[kN,kB,kO,kC],[kA,kE],[s kA (u 0),r (o oE (v kA) (v kS)) [s kE (o oL (u 40) (v kA)),i (o oB (o oB (o oB (o oC (l kU (v kE)) (v kN)) (o oC (l kU (o oJ (v kE) (u 3))) (v kB))) (o oC (l kU (o oJ (v kE) (u 1))) (v kO))) (o oC (o oJ (o oL (l kU (o oJ (v kE) (u 4))) (u 256)) (l kU (o oJ (v kE) (u 5)))) (v kC))) [t (o oJ (v kA) (u 1))] [],s kA (o oJ (v kA) (u 1))],t (u 0)]⟩
def f_findany:FnD:=⟨kXa,[kN,kB,kC],[kA,kE],[s kA (u 0),r (o oE (v kA) (v kS)) [s kE (o oL (u 40) (v kA)),i (o oB (o oB (o oC (l kU (v kE)) (v kN)) (o oC (l kU (o oJ (v kE) (u 3))) (v kB))) (o oC (o oJ (o oL (l kU (o oJ (v kE) (u 4))) (u 256)) (l kU (o oJ (v kE) (u 5)))) (v kC))) [t (o oJ (v kA) (u 1))] [],s kA (o oJ (v kA) (u 1))],t (u 0)]⟩
def f_getblock:FnD:=⟨kSc,[kB,kD],[kE,kO,kC,kI],[i (o oB (o oC (v kKb) (v kB)) (o oC (v kYb) (v kD))) [t (u 1)] [],s kKb (u 0),s kO (o oN (v kD) (v kMa)),s kE (c kVb [(u 66),(v kB),(v kO),(o oM (v kD) (v kMa))]),i (v kE) [s kI (u 0),r (o oE (v kI) (u 28)) [w kUa (v kI) (l kU (o oJ (o oK (o oL (u 40) (v kE)) (u 28)) (v kI))),s kI (o oJ (v kI) (u 1))]] [s kC (u 0),s kI (u 0),r (o oB (o oE (v kI) (o oJ (v kMa) (v kPb))) (o oE (v kC) (v kMa))) [s kE (c kVb [(u 66),(v kB),(v kI),(o oM (v kD) (v kMa))]),i (v kE) [w kGb (v kC) (v kI),w kOb (v kC) (o oK (o oL (u 40) (v kE)) (u 28)),s kC (o oJ (v kC) (u 1))] [],s kI (o oJ (v kI) (u 1))],i (o oE (v kC) (v kMa)) [t (u 0)] [],p (c kNc [(v kO),(v kC)])],s kKb (v kB),s kYb (v kD),t (u 1)]⟩
def f_getbyte:FnD:=⟨kTb,[kB,kCa],[],[i (o oC (v kB) (u 0)) [t (u 0)] [],i (o oC (c kSc [(v kB),(o oM (v kCa) (u 28))]) (u 0)) [t (u 256)] [],t (l kUa (o oN (v kCa) (u 28)))]⟩
def f_loaddir:FnD:=⟨kRa,[kB],[kA,kC,kE,kF,kN],[s kE (c kXa [(u 68),(v kB),(u 0)]),i (o oC (v kE) (u 0)) [t (u 0)] [],s kE (o oK (o oL (u 40) (v kE)) (u 40)),s kMa (o oM (l kU (o oJ (v kE) (u 7))) (u 16)),s kPb (o oN (l kU (o oJ (v kE) (u 7))) (u 16)),s kN (u 0),s kF (u 0),r (o oE (v kF) (u 8)) [s kN (o oK (o oJ (o oL (u 10) (v kN)) (l kU (o oJ (o oJ (v kE) (u 12)) (v kF)))) (u 48)),s kF (o oJ (v kF) (u 1))],i (o oF (v kN) (u 20000)) [t (u 0)] [],s kYa (u 0),s kA (u 0),r (o oE (v kYa) (o oJ (v kN) (u 8))) [s kE (c kXa [(u 68),(v kB),(v kA)]),i (o oC (v kE) (u 0)) [t (u 0)] [],s kE (o oK (o oL (u 40) (v kE)) (u 40)),s kC (l kU (o oJ (v kE) (u 6))),i (o oC (v kC) (u 0)) [t (u 0)] [],s kF (u 0),r (o oE (v kF) (v kC)) [w kNa (v kYa) (l kU (o oJ (o oJ (v kE) (u 12)) (v kF))),s kYa (o oJ (v kYa) (u 1)),s kF (o oJ (v kF) (u 1))],s kA (o oJ (v kA) (u 1))],t (u 1)]⟩
def f_number:FnD:=⟨kAa,[],[kC],[s kC (u 0),r (o oD (l kNa (v kQ)) (u 32)) [s kC (o oK (o oJ (o oL (u 10) (v kC)) (l kNa (v kQ))) (u 48)),s kQ (o oJ (v kQ) (u 1))],s kQ (o oJ (v kQ) (u 1)),t (v kC)]⟩
def f_netlen:FnD:=⟨kXb,[],[kC],[s kC (u 0),r (o oD (l kNa (v kQ)) (u 58)) [s kC (o oK (o oJ (o oL (u 10) (v kC)) (l kNa (v kQ))) (u 48)),s kQ (o oJ (v kQ) (u 1))],s kQ (o oJ (v kQ) (u 1)),t (v kC)]⟩
def f_skip:FnD:=⟨kJb,[],[kC],[s kC (c kXb []),s kQ (o oJ (o oJ (v kQ) (v kC)) (u 1))]⟩
def f_verify:FnD:=⟨kQc,[kCb,kY],[kC,kB,kCa,kF,kJ,kKa],[s kKa (u 1),p (c kFc []),s kC (c kAa []),r (o oF (v kC) (u 0)) [s kB (c kAa []),s kCa (c kAa []),s kF (c kAa []),r (o oF (v kF) (u 0)) [s kJ (c kTb [(v kB),(v kCa)]),i (o oC (v kJ) (u 256)) [s kKa (u 0)] [],p (c kWc [(o oN (v kJ) (u 256))]),s kCa (o oJ (v kCa) (u 1)),s kF (o oK (v kF) (u 1))],s kC (o oK (v kC) (u 1))],p (c kEc []),i (o oC (v kY) (u 32)) [r (o oE (v kC) (u 32)) [i (o oD (c kVc [(v kC)]) (l kNa (o oJ (v kCb) (v kC)))) [s kKa (u 0)] [],s kC (o oJ (v kC) (u 1))]] [],t (v kKa)]⟩
def f_copy:FnD:=⟨kYc,[],[kC,kB,kCa,kF],[s kC (c kAa []),r (o oF (v kC) (u 0)) [s kB (c kAa []),s kCa (c kAa []),s kF (c kAa []),r (o oF (v kF) (u 0)) [p (c kWa [(c kTb [(v kB),(v kCa)])]),s kCa (o oJ (v kCa) (u 1)),s kF (o oK (v kF) (u 1))],s kC (o oK (v kC) (u 1))]]⟩
def f_show:FnD:=⟨kNb,[kB],[kC,kG,kWb,kCb,kY,kZ],[s kQ (u 8),p (c kAa []),p (c kHb [(v kB)]),p (c kHb [(c kAa [])]),p (c kJb []),p (c kAa []),p (c kJb []),s kC (c kAa []),p (c kHb [(v kC)]),r (o oF (v kC) (u 0)) [s kG (v kQ),p (c kJb []),r (o oE (v kG) (v kQ)) [p (c kWa [(l kNa (v kG))]),s kG (o oJ (v kG) (u 1))],s kWb (c kAa []),s kY (c kXb []),s kCb (v kQ),s kQ (o oJ (o oJ (v kQ) (v kY)) (u 1)),s kZ (v kQ),i (c kQc [(v kCb),(v kY)]) [s kQ (v kZ),p (c kWa [(u 43)]),p (c kHb [(v kWb)]),p (c kYc [])] [p (c kWa [(u 45)])],s kC (o oK (v kC) (u 1))]]⟩
def f_main:FnD:=⟨kZc,[],[kB],[p (c kUb []),p (c kAc []),s kTa (c kVa []),p (c kQb []),s kB (u 1),r (o oE (v kB) (u 256)) [i (c kRa [(v kB)]) [p (c kNb [(v kB)])] [],s kB (o oJ (v kB) (u 1))]]⟩
def P:Pr:=⟨[kEb,kPa,kS,kTa,kFa,kAb,kYa,kQ,kMa,kPb,kKb,kYb],[⟨kV,512⟩,⟨kDa,256⟩,⟨kLa,836⟩,⟨kLb,418⟩,⟨kIa,1676⟩,⟨kP,52⟩,⟨kDb,8⟩,⟨kGa,9⟩,⟨kFb,9⟩,⟨kZb,9⟩,⟨kBc,8⟩,⟨kZa,40000⟩,⟨kU,48000⟩,⟨kUa,28⟩,⟨kGb,16⟩,⟨kOb,16⟩,⟨kT,8⟩,⟨kOa,8⟩,⟨kK,16⟩,⟨kW,16⟩,⟨kL,160⟩,⟨kQa,64⟩,⟨kNa,20100⟩],[f_gftables,f_gfmul,f_gfdiv,f_crcbyte,f_extract,f_branch,f_viterbi,f_inner,f_syndromes,f_locator,f_evaluate,f_magnitude,f_repair,f_mark,f_unweave,f_checksum,f_valid,f_keep,f_decode,f_scan,f_pieces,f_combine,f_sigmarow,f_htables,f_hmix,f_hcompress,f_hbegin,f_hbyte,f_hend,f_hdigest,f_outnum,f_find,f_findany,f_getblock,f_getbyte,f_loaddir,f_number,f_netlen,f_skip,f_verify,f_copy,f_show,f_main]⟩
def Fm(ks:List Nm)(s s':IS):Prop:=(∀ k,k ∉ ks->s'.sc k=s.sc k)/\(∀ a,(s'.ar a).length=(s.ar a).length)/\s'.inp=s.inp/\s'.out=s.out
theorem Fm.refl(ks:List Nm)(s:IS):Fm ks s s:=⟨λ_ _=>rfl,λ_=>rfl,rfl,rfl⟩
theorem Fm.set{ks:List Nm}{s s':IS}(h:Fm ks s s'){k:Nm}(hk:k∈ks)(v:Nat):Fm ks s (qaJ s' k v):=
 ⟨λx hx=>by
  unfold qaJ;simp only;rw[zn (λe=>hx (by rw[e];exact hk))]
  exact h.1 x hx,h.2.1,h.2.2.1,h.2.2.2⟩
theorem Fm.setA{ks:List Nm}{s s':IS}(h:Fm ks s s')(a:Nm)(i v:Nat):Fm ks s (qmL s' a i v):=
 ⟨h.1,λb=>by
  show(if b=a then (s'.ar a).set i v else s'.ar b).length=_;split
  rename_i e
  rw[List.length_set,e];exact h.2.1 a
  exact h.2.1 b,h.2.2.1,h.2.2.2⟩
theorem Fm.trans{ks:List Nm}{s s1 s2:IS}(h:Fm ks s s1)(g:Fm ks s1 s2):Fm ks s s2:=
 ⟨λk hk=>(g.1 k hk).trans (h.1 k hk),λa=>(g.2.1 a).trans (h.2.1 a),g.2.2.1.trans h.2.2.1,g.2.2.2.trans h.2.2.2⟩
theorem Fm.sub{ks ks':List Nm}{s s':IS}(h:Fm ks s s')(hs:∀ k∈ks,k∈ks'):Fm ks' s s':=⟨λk hk=>h.1 k λe=>hk (hs k e),h.2⟩
theorem qrp{ks ks':List Nm}(h:(ks.all λk=>ks'.contains k)=true):∀ k∈ks,k∈ks':=λk hk=>by
 have:=List.all_eq_true.1 h k hk;simpa using this
theorem qiH(s:IS)(k:Nm)(v:Nat):(qaJ s k v).sc k=v:=zp rfl
theorem qeG(s:IS){k x:Nm}(v:Nat)(h:x≠k):(qaJ s k v).sc x=s.sc x:=zn h
abbrev gi:=keyI f_gftables kA
abbrev gx:=keyI f_gftables kH
def gB:List Sm:=[w kV (v kA) (v kH),w kV (o oJ (v kA) (u 255)) (v kH),w kDa (v kH) (v kA),s kH (o oL (v kH) (u 2)),i (o oF (v kH) (u 255)) [s kH (o oI (v kH) (u 285))] [],s kA (o oJ (v kA) (u 1))]
theorem qr6:∀ y,y<256->255<y * 2->(y * 2) ^^^ 285<256:=by decide +kernel
theorem qwc(s0:IS)(h1:s0.sc gi<255)(h2:s0.sc gx<256)(l1:(s0.ar kV).length=512)(l2:(s0.ar kDa).length=256) :
  ∃ s',Bl P f_gftables gB s0 210 none s'/\s'.sc gi=s0.sc gi+1/\s'.sc gx<256/\Fm [gi,gx] s0 s':=by
 have e1:(s0.sc gi+255) % 4294967296=s0.sc gi+255:=mod_eq_of_lt (by omega);have e2:s0.sc gx * 2 % 4294967296=s0.sc gx * 2:=mod_eq_of_lt (by omega);have e3:(s0.sc gi+1) % 4294967296=s0.sc gi+1:=mod_eq_of_lt (by omega);generalize ha:qmL s0 kV (s0.sc gi) (s0.sc gx)=a;have a0:a.sc=s0.sc:=by rw[<-ha];try rfl
 have aF:Fm [gi,gx] s0 a:=by rw[<-ha];exact(Fm.refl _ s0).setA _ _ _
 have a1:St P f_gftables (w kV (v kA) (v kH)) s0 25 none a:=by
  rw[<-ha];exact(St.elem (Ev.of zk rfl) (Ev.of zk rfl) (by rw[l1];show s0.sc gi<512;omega)).mono zDd
 generalize hb:qmL a kV (s0.sc gi+255) (s0.sc gx)=b;have b0:b.sc=s0.sc:=by rw[<-hb,<-a0];try rfl
 have bF:Fm [gi,gx] s0 b:=by rw[<-hb];exact aF.setA _ _ _
 have b1:St P f_gftables (w kV (o oJ (v kA) (u 255)) (v kH)) a 33 none b:=by
  rw[<-hb]
  have q:vE f_gftables a (o oJ (v kA) (u 255))=s0.sc gi+255:=by
   rw[qja,qc1,qdC,a0];exact e1
  exact(St.elem (v:=s0.sc gx) (Ev.of zk (by rw[<-a0];try rfl)) (Ev.of zk q) (by rw[aF.2.1,l1];omega)).mono zDd
 generalize hc:qmL b kDa (s0.sc gx) (s0.sc gi)=c;have c0:c.sc=s0.sc:=by rw[<-hc,<-b0];try rfl
 have cF:Fm [gi,gx] s0 c:=by rw[<-hc];exact bF.setA _ _ _
 have c1:St P f_gftables (w kDa (v kH) (v kA)) b 25 none c:=by
  rw[<-hc];exact(St.elem (v:=s0.sc gi) (i:=s0.sc gx) (Ev.of zk (by rw[<-b0];try rfl)) (Ev.of zk (by rw[<-b0];try rfl)) (by rw[bF.2.1,l2];omega)).mono zDd
 generalize hd:qaJ c gx (s0.sc gx * 2)=d;have dx:d.sc gx=s0.sc gx * 2:=by rw[<-hd];exact qiH _ _ _
 have di:d.sc gi=s0.sc gi:=by rw[<-hd,<-c0];exact qeG _ _ zDd
 have dF:Fm [gi,gx] s0 d:=by rw[<-hd];exact cF.set zDd _
 have d1:St P f_gftables (s kH (o oL (v kH) (u 2))) c 22 none d:=by
  rw[<-hd]
  have q:vE f_gftables c (o oL (v kH) (u 2))=s0.sc gx * 2:=by
   rw[qpo,qc1,qdC,c0];exact e2
  exact(St.asg (Ev.of zk q)).mono zDd
 obtain⟨x',e,eS,ex,ei,eF,hx⟩:∃ x' e,St P f_gftables (i (o oF (v kH) (u 255)) [s kH (o oI (v kH) (u 285))] []) d 80 none e/\e.sc gx=x'/\e.sc gi=s0.sc gi/\Fm [gi,gx] s0 e/\x'<256:=by
  have q:vE f_gftables d (o oF (v kH) (u 255))=b2n (decide (255<s0.sc gx * 2)):=by
   rw[vE_gt,qc1,qdC,<-dx]
  by_cases h:255<s0.sc gx * 2
  have q2:vE f_gftables d (o oI (v kH) (u 285))=(s0.sc gx * 2) ^^^ 285:=by
   rw[qu5,qc1,qdC,<-dx]
  rw[decide_eq_true h] at q;refine⟨(s0.sc gx * 2) ^^^ 285,qaJ d gx ((s0.sc gx * 2) ^^^ 285),(St.ift (Ev.of zk q) zDd (Bl.cons (St.asg (Ev.of zk q2)) Bl.nil)).mono zDd,?_,?_,dF.set zDd _,qr6 _ h2 h⟩;exact qiH _ _ _;rw[<-di];exact qeG _ _ zDd;rw[decide_eq_false h] at q;exact⟨s0.sc gx * 2,d,(St.iff (Ev.of zk q) Bl.nil).mono zDd,dx,di,dF,by omega⟩
 have q:vE f_gftables e (o oJ (v kA) (u 1))=s0.sc gi+1:=by
  rw[qja,qc1,qdC,show e.sc (keyI f_gftables kA)=s0.sc gi from ei];exact e3
 have f1:St P f_gftables (s kA (o oJ (v kA) (u 1))) e 22 none (qaJ e gi (s0.sc gi+1)):=(St.asg (Ev.of zk q)).mono zDd;refine⟨qaJ e gi (s0.sc gi+1),(Bl.cons a1 (Bl.cons b1 (Bl.cons c1 (Bl.cons d1 (Bl.cons eS (Bl.cons f1 Bl.nil)))))).mono zDd,?_,?_,eF.set zDd _⟩;exact qiH _ _ _;have:(qaJ e gi (s0.sc gi+1)).sc gx=e.sc gx:=qeG _ _ zDd;rw[this,ex];exact hx
theorem g_ev(s0:IS):Ev P f_gftables (o oE (v kA) (u 255)) s0 20 (b2n (decide (s0.sc gi<255))) s0:=(Ev.of zk (by
 rw[quh,qc1,qdC])).mono zDd
theorem qu8:∀ (j:Nat) (s0:IS),s0.sc gi+j=255->s0.sc gx<256->(s0.ar kV).length=512->(s0.ar kDa).length=256->∃ s',Wh P f_gftables (o oE (v kA) (u 255)) gB (b2n (decide (s0.sc gi<255))) s0 (250 * j) none s'/\Fm [gi,gx] s0 s'
 |0,s0,h,_,_,_=>⟨s0,by
  rw[show decide (s0.sc gi<255)=false from decide_eq_false (by omega)]
  exact Wh.done,Fm.refl _ s0⟩
 |j+1,s0,h,hx,l1,l2=>by
  obtain⟨s1,h1,h2,h3,h4⟩:=qwc s0 (by omega) hx l1 l2;obtain⟨s2,g1,g2⟩:=qu8 j s1 (by omega) h3 ((h4.2.1 _).trans l1) ((h4.2.1 _).trans l2);refine⟨s2,?_,h4.trans g2⟩;rw[show decide (s0.sc gi<255)=true from decide_eq_true (by omega)];exact(Wh.next zDd h1 (g_ev s1) g1).mono (by omega)
theorem qxr(s0:IS)(l1:(s0.ar kV).length=512)(l2:(s0.ar kDa).length=256):∃ s',Bl P f_gftables f_gftables.body s0 64000 none s'/\Fm [gi,gx] s0 s':=by
 generalize ha:qaJ s0 gi 0=a;generalize hb:qaJ a gx 1=b;have a1:St P f_gftables (s kA (u 0)) s0 10 none a:=by rw[<-ha];exact(St.asg (Ev.of zk rfl)).mono zDd
 have b1:St P f_gftables (s kH (u 1)) a 10 none b:=by rw[<-hb];exact(St.asg (Ev.of zk rfl)).mono zDd
 have bi:b.sc gi=0:=by
  rw[<-hb,<-ha];exact(qeG _ _ zDd).trans (qiH _ _ _)
 have bx:b.sc gx=1:=by
  rw[<-hb];exact qiH _ _ _
 have bF:Fm [gi,gx] s0 b:=by rw[<-hb,<-ha];exact((Fm.refl _ s0).set zDd _).set zDd _
 obtain⟨s',h1,h2⟩:=qu8 255 b (by rw[bi]) (by rw[bx];decide) ((bF.2.1 _).trans l1) ((bF.2.1 _).trans l2);exact⟨s',(Bl.cons a1 (Bl.cons b1 (Bl.cons (St.whl (g_ev b) h1) Bl.nil))).mono zDd,bF.trans h2⟩
theorem qtx(n:Nat):wN n<=12:=by
 unfold wN
 repeat' split
 all_goals omega
abbrev sR:=keyI f_sigmarow kO
abbrev sA:=keyI f_sigmarow kG
abbrev sB:=keyI f_sigmarow kD
abbrev sI:=keyI f_sigmarow kA
def sgB:List Sm:=[w kL (o oJ (o oL (u 16) (v kO)) (v kA)) (o oM (v kG) (u 268435456)),w kL (o oJ (o oJ (o oL (u 16) (v kO)) (u 8)) (v kA)) (o oM (v kD) (u 268435456)),s kG (o oL (v kG) (u 16)),s kD (o oL (v kD) (u 16)),s kA (o oJ (v kA) (u 1))]
theorem qwP(s0:IS)(h1:s0.sc sI<8)(h2:s0.sc sR<=9)(l1:(s0.ar kL).length=160) :
  ∃ s',Bl P f_sigmarow sgB s0 220 none s'/\s'.sc sI=s0.sc sI+1/\s'.sc sR=s0.sc sR/\Fm [sI,sA,sB] s0 s':=by
 have e1:(16 * s0.sc sR % 4294967296+s0.sc sI) % 4294967296=16 * s0.sc sR+s0.sc sI:=by omega
 have e2:((16 * s0.sc sR % 4294967296+8) % 4294967296+s0.sc sI) % 4294967296=16 * s0.sc sR+8+s0.sc sI:=by omega
 have e3:(s0.sc sI+1) % 4294967296=s0.sc sI+1:=mod_eq_of_lt (by omega)
 have q1:vE f_sigmarow s0 (o oJ (o oL (u 16) (v kO)) (v kA))=16 * s0.sc sR+s0.sc sI:=by
  rw[qja,qpo,qc1,qc1,qdC];exact e1
 generalize ha:qmL s0 kL (16 * s0.sc sR+s0.sc sI) (vE f_sigmarow s0 (o oM (v kG) (u 268435456)))=a;have a0:a.sc=s0.sc:=by rw[<-ha];try rfl
 have aF:Fm [sI,sA,sB] s0 a:=by rw[<-ha];exact(Fm.refl _ s0).setA _ _ _
 have a1:St P f_sigmarow (w kL (o oJ (o oL (u 16) (v kO)) (v kA)) (o oM (v kG) (u 268435456))) s0 70 none a:=by
  rw[<-ha];exact(St.elem (Ev.of zk rfl) (Ev.of zk q1) (by rw[l1];omega)).mono zDd
 have q2:vE f_sigmarow a (o oJ (o oJ (o oL (u 16) (v kO)) (u 8)) (v kA))=16 * s0.sc sR+8+s0.sc sI:=by
  rw[qja,qja,qpo,qc1,qc1,qdC,qdC,a0];exact e2
 generalize hb:qmL a kL (16 * s0.sc sR+8+s0.sc sI) (vE f_sigmarow a (o oM (v kD) (u 268435456)))=b;have b0:b.sc=s0.sc:=by rw[<-hb,<-a0];try rfl
 have bF:Fm [sI,sA,sB] s0 b:=by rw[<-hb];exact aF.setA _ _ _
 have b1:St P f_sigmarow (w kL (o oJ (o oJ (o oL (u 16) (v kO)) (u 8)) (v kA)) (o oM (v kD) (u 268435456))) a 76 none b:=by
  rw[<-hb];exact(St.elem (Ev.of zk rfl) (Ev.of zk q2) (by rw[aF.2.1,l1];omega)).mono zDd
 generalize hc:qaJ b sA (vE f_sigmarow b (o oL (v kG) (u 16)))=c;have c1:St P f_sigmarow (s kG (o oL (v kG) (u 16))) b 24 none c:=by rw[<-hc];exact(St.asg (Ev.of zk rfl)).mono zDd
 generalize hd:qaJ c sB (vE f_sigmarow c (o oL (v kD) (u 16)))=d;have d1:St P f_sigmarow (s kD (o oL (v kD) (u 16))) c 24 none d:=by rw[<-hd];exact(St.asg (Ev.of zk rfl)).mono zDd
 have di:d.sc sI=s0.sc sI:=by rw[<-hd,qeG _ _ zDd,<-hc,qeG _ _ zDd,b0]
 have dr:d.sc sR=s0.sc sR:=by rw[<-hd,qeG _ _ zDd,<-hc,qeG _ _ zDd,b0]
 have dF:Fm [sI,sA,sB] s0 d:=by rw[<-hd,<-hc];exact(bF.set zDd _).set zDd _
 have q:vE f_sigmarow d (o oJ (v kA) (u 1))=s0.sc sI+1:=by
  rw[qja,qc1,qdC,show d.sc (keyI f_sigmarow kA)=s0.sc sI from di];exact e3
 have f1:St P f_sigmarow (s kA (o oJ (v kA) (u 1))) d 22 none (qaJ d sI (s0.sc sI+1)):=(St.asg (Ev.of zk q)).mono zDd;refine⟨qaJ d sI (s0.sc sI+1),(Bl.cons a1 (Bl.cons b1 (Bl.cons c1 (Bl.cons d1 (Bl.cons f1 Bl.nil))))).mono zDd,qiH _ _ _,?_,dF.set zDd _⟩;rw[qeG _ _ zDd];exact dr
theorem s_ev(s0:IS):Ev P f_sigmarow (o oE (v kA) (u 8)) s0 20 (b2n (decide (s0.sc sI<8))) s0:=(Ev.of zk (by
 rw[quh,qc1,qdC])).mono zDd
theorem qvu:∀ (j:Nat) (s0:IS),s0.sc sI+j=8->s0.sc sR<=9->(s0.ar kL).length=160->∃ s',Wh P f_sigmarow (o oE (v kA) (u 8)) sgB (b2n (decide (s0.sc sI<8))) s0 (260 * j) none s'/\Fm [sI,sA,sB] s0 s'
 |0,s0,h,_,_=>⟨s0,by
  rw[show decide (s0.sc sI<8)=false from decide_eq_false (by omega)]
  exact Wh.done,Fm.refl _ s0⟩
 |j+1,s0,h,hr,l1=>by
  obtain⟨s1,h1,h2,h3,h4⟩:=qwP s0 (by omega) hr l1;obtain⟨s2,g1,g2⟩:=qvu j s1 (by omega) (by omega) ((h4.2.1 _).trans l1);refine⟨s2,?_,h4.trans g2⟩;rw[show decide (s0.sc sI<8)=true from decide_eq_true (by omega)];exact(Wh.next zDd h1 (s_ev s1) g1).mono (by omega)
theorem qxU(s0:IS)(hr:s0.sc sR<=9)(l1:(s0.ar kL).length=160):∃ s',Bl P f_sigmarow f_sigmarow.body s0 2150 none s'/\Fm [sI,sA,sB] s0 s':=by
 generalize ha:qaJ s0 sI 0=a;have a1:St P f_sigmarow (s kA (u 0)) s0 10 none a:=by rw[<-ha];exact(St.asg (Ev.of zk rfl)).mono zDd
 have ai:a.sc sI=0:=by rw[<-ha];exact qiH _ _ _
 have ar:a.sc sR<=9:=by rw[<-ha,qeG _ _ zDd];exact hr
 have aF:Fm [sI,sA,sB] s0 a:=by rw[<-ha];exact(Fm.refl _ s0).set zDd _
 obtain⟨s',h1,h2⟩:=qvu 8 a (by rw[ai]) ar ((aF.2.1 _).trans l1);exact⟨s',(Bl.cons a1 (Bl.cons (St.whl (s_ev a) h1) Bl.nil)).mono zDd,aF.trans h2⟩
abbrev sK:List Nm:=[sI,sA,sB,sR]
theorem qxP:fnI P kX=f_sigmarow:=by kernel_rfl
theorem qxu(f:FnD)(s0:IS)(r a b:Nat)(hr:r<=9)(l1:(s0.ar kL).length=160):∃ s',St P f (p (c kX [u r,u a,u b])) s0 2250 none s'/\Fm sK s0 s':=by
 obtain⟨s',h1,h2⟩:=qxU (qaJ (qaJ (qaJ s0 sR r) sA a) sB b) (by rw[qeG _ _ zDd,qeG _ _ zDd,qiH];exact hr) l1;have hop:=Op.call (P:=P) (f:=f) (num:=0) (name:=kX) (vs:=[r,a,b]) (s:=s0) (K:=2150) (r:=none) (s':=s') zDd zDd (by rw[qxP];exact h1);have hev:Evs P f [u r,u a,u b] s0 _ [r,a,b] s0:=Evs.pure [u r,u a,u b] rfl
 have hk:cEs [u r,u a,u b]<=36:=by
  show wN r+0+(wN a+0+(wN b+0+0))<=36;have:=qtx r;have:=qtx a;have:=qtx b;omega
 refine⟨s',(St.exp (Ev.mk hev hop)).mono ?_,(((Fm.refl _ s0).set zDd _).set zDd _).set zDd _ |>.trans (h2.sub (qrp zk))⟩;have:wE qbB 0 kX [u r,u a,u b].length=35:=rfl;show 8+(wE qbB 0 kX [u r,u a,u b].length+cEs [u r,u a,u b]+2150)<=2250;omega
theorem qxh(s0:IS)(i v:Nat)(hi:i<8)(l1:(s0.ar kT).length=8):∃ s',St P f_htables (w kT (u i) (u v)) s0 33 none s'/\Fm sK s0 s':=by
 refine⟨qmL s0 kT i v,(St.elem (v:=v) (i:=i) (Ev.of rfl rfl) (Ev.of rfl rfl) (by rw[l1];exact hi)).mono ?_,(Fm.refl _ s0).setA _ _ _⟩;have:=qtx i;have:=qtx v;show 9+(wN v+0)+(wN i+0)<=33;omega
theorem qrH:∀ (l:List (Nat×Nat)) (s0:IS),(∀ q∈l,q.1<8)->(s0.ar kT).length=8->∃ s',Bl P f_htables (l.map λq=>w kT (u q.1) (u q.2)) s0 (33 * l.length) none s'/\Fm sK s0 s'
 |[],s0,_,_=>⟨s0,Bl.nil,Fm.refl _ s0⟩
 |q::l,s0,h,l1=>by
  obtain⟨s1,h1,h2⟩:=qxh s0 q.1 q.2 (h q (by simp)) l1;obtain⟨s2,g1,g2⟩:=qrH l s1 (λx hx=>h x (by simp[hx])) ((h2.2.1 _).trans l1);exact⟨s2,(Bl.cons h1 g1).mono (by rw[zLc];omega),h2.trans g2⟩
theorem qs4:∀ (l:List (Nat×Nat×Nat)) (s0:IS),(∀ q∈l,q.1<=9)->(s0.ar kL).length=160->∃ s',Bl P f_htables (l.map λq=>p (c kX [u q.1,u q.2.1,u q.2.2])) s0 (2250 * l.length) none s'/\Fm sK s0 s'
 |[],s0,_,_=>⟨s0,Bl.nil,Fm.refl _ s0⟩
 |q::l,s0,h,l1=>by
  obtain⟨s1,h1,h2⟩:=qxu f_htables s0 q.1 q.2.1 q.2.2 (h q (by simp)) l1;obtain⟨s2,g1,g2⟩:=qs4 l s1 (λx hx=>h x (by simp[hx])) ((h2.2.1 _).trans l1);exact⟨s2,(Bl.cons h1 g1).mono (by rw[zLc];omega),h2.trans g2⟩
def hinL:List (Nat×Nat):=[(0,1779033703),(1,3144134277),(2,1013904242),(3,2773480762),(4,1359893119),(5,2600822924),(6,528734635),(7,1541459225)]
def sigL:List (Nat×Nat×Nat):=[(0,19088743,2309737967),(1,3930628054,469940051),(2,3099611901,2922803604),(3,2033310910,643449080),(4,2421630127,3787221053),(5,745147267,1299578393),(6,3307203914,123966091),(7,3682517305,1358202410),(8,1877586696,3268875429),(9,2726589973,4221451472)]
theorem h_eq:f_htables.body=(hinL.map λq=>w kT (u q.1) (u q.2))++(sigL.map λq=>p (c kX [u q.1,u q.2.1,u q.2.2])):=rfl
theorem qxt(s0:IS)(l1:(s0.ar kT).length=8)(l2:(s0.ar kL).length=160):∃ s',Bl P f_htables f_htables.body s0 22800 none s'/\Fm sK s0 s':=by
 obtain⟨s1,h1,h2⟩:=qrH hinL s0 zDd l1;obtain⟨s2,g1,g2⟩:=qs4 sigL s1 zDd ((h2.2.1 _).trans l2);rw[h_eq];exact⟨s2,(Bl.app h1 g1).mono zDd,h2.trans g2⟩
abbrev faI:=keyI f_findany kA
abbrev ldP:=keyI f_loaddir kE
abbrev ldS:=keyI f_loaddir kB
abbrev pcC:=keyI f_pieces kJ
abbrev faK:List Nm:=[faI,keyI f_findany kN,keyI f_findany kB,keyI f_findany kC]
theorem qwM(s0:IS)(hn:s0.sc kS=0):∃ s',Bl P f_findany f_findany.body s0 60 (some 0) s'/\Fm [faI] s0 s':=by
 generalize ha:qaJ s0 faI 0=a;have a1:St P f_findany (s kA (u 0)) s0 10 none a:=by rw[<-ha];exact(St.asg (Ev.of zk rfl)).mono zDd
 have hn2:a.sc kS=0:=by rw[<-ha,qeG _ _ zDd];exact hn
 have q:vE f_findany a (o oE (v kA) (v kS))=0:=by
  rw[quh,qc1,qc1,show keyI f_findany kS=kS by decide,hn2]
  try rfl
 exact⟨a,(Bl.cons a1 (Bl.cons (St.whl (Ev.of zk q) Wh.done) (Bl.ret (St.ret (v:=0) (Ev.of zk rfl))))).mono zDd,by rw[<-ha];exact(Fm.refl _ s0).set zDd _⟩
theorem fn_fa:fnI P kXa=f_findany:=by kernel_rfl
theorem fn_ld:fnI P kRa=f_loaddir:=by kernel_rfl
abbrev ldK:List Nm:=ldP::ldS::faK
theorem qwf(s0:IS)(hn:s0.sc kS=0):∃ s',Bl P f_loaddir f_loaddir.body s0 190 (some 0) s'/\Fm ldK s0 s':=by
 obtain⟨s1,h1,h2⟩:=qwM (qaJ (qaJ (qaJ s0 (keyI f_findany kN) 68) (keyI f_findany kB) (s0.sc ldS)) (keyI f_findany kC) 0) (by rw[qeG _ _ zDd,qeG _ _ zDd,qeG _ _ zDd];exact hn);have hop:=Op.call (P:=P) (f:=f_loaddir) (num:=0) (name:=kXa) (vs:=[68,s0.sc ldS,0]) (s:=s0) (K:=60) (r:=some 0) (s':=s1) zDd zDd (by rw[fn_fa];exact h1);have hev:Evs P f_loaddir [u 68,v kB,u 0] s0 _ [68,s0.sc ldS,0] s0:=Evs.pure [u 68,v kB,u 0] zk;have F1:Fm ldK s0 s1:=((((Fm.refl _ s0).set zDd _).set zDd _).set zDd _).trans (h2.sub (qrp zk));have a1:St P f_loaddir (s kE (c kXa [u 68,v kB,u 0])) s0 120 none (qaJ s1 ldP 0):=(St.asg (Ev.mk hev hop)).mono zDd
 have q:vE f_loaddir (qaJ s1 ldP 0) (o oC (v kE) (u 0))=1:=by
  rw[vE_eq,qc1,qdC,qiH]
  try rfl
 exact⟨qaJ s1 ldP 0,(Bl.cons a1 (Bl.ret (St.ift (Ev.of zk q) zDd (Bl.ret (St.ret (v:=0) (Ev.of zk rfl)))))).mono zDd,F1.set zDd _⟩
theorem qw2(s0:IS)(hi:s0.inp=[]):∃ s',Bl P f_pieces f_pieces.body s0 60 none s'/\Fm [pcC] s0 s':=by
 have e:({ s0 with inp:=s0.inp.tail }:IS)=s0:=by
  cases s0;simp only at hi ⊢;subst hi;rfl
 have e2:s0.inp.headD 4294967295=4294967295:=by rw[hi];try rfl
 have hop:=Op.inp (P:=P) (f:=f_pieces) (s:=s0) (num:=0);rw[e,e2] at hop;have a1:St P f_pieces (s kJ (c kVa [])) s0 9 none (qaJ s0 pcC 4294967295):=St.asg (Ev.mk Evs.nil hop)
 have q:vE f_pieces (qaJ s0 pcC 4294967295) (o oD (v kJ) (u 4294967295))=0:=by
  rw[vE_ne,qc1,qdC,qiH]
  try rfl
 exact⟨qaJ s0 pcC 4294967295,(Bl.cons a1 (Bl.cons (St.whl (Ev.of zk q) Wh.done) Bl.nil)).mono zDd,(Fm.refl _ s0).set zDd _⟩
abbrev mS:=keyI f_main kB
theorem call0{g:FnD}{name:Nm}{s0 s':IS}{K:Nat}(hg:fnI P name=g)(hp:g.params=[])(h1:name≠[105,110])(h2:name≠[111,117,116])(h:Bl P g g.body s0 K none s'):St P f_main (p (c name [])) s0 (K+19) none s':=by
 have hop:=Op.call (P:=P) (f:=f_main) (num:=0) (name:=name) (vs:=[]) (s:=s0) (K:=K) (r:=none) (s':=s') h1 h2 (by rw[hg,hp];exact h);refine(St.exp (Ev.mk Evs.nil hop)).mono ?_
 have:wE qbB 0 name ([]:List Ex).length=11:=by
  show(if name=[105,110] then 1 else if name=[111,117,116] then 3 else 8 * 0+11)=11;rw[zn h1,zn h2]
 show 8+(wE qbB 0 name ([]:List Ex).length+0+K)<=K+19;omega
def mB:List Sm:=[i (c kRa [v kB]) [p (c kNb [v kB])] [],s kB (o oJ (v kB) (u 1))]
abbrev mK:List Nm:=mS::ldK
theorem qwJ(s0:IS)(hn:s0.sc kS=0)(hs:s0.sc mS<256):∃ s',Bl P f_main mB s0 300 none s'/\s'.sc mS=s0.sc mS+1/\Fm mK s0 s':=by
 obtain⟨s1,h1,h2⟩:=qwf (qaJ s0 ldS (s0.sc mS)) (by rw[qeG _ _ zDd];exact hn);have hop:=Op.call (P:=P) (f:=f_main) (num:=0) (name:=kRa) (vs:=[s0.sc mS]) (s:=s0) (K:=190) (r:=some 0) (s':=s1) zDd zDd (by rw[fn_ld];exact h1);have hev:Evs P f_main [v kB] s0 _ [s0.sc mS] s0:=Evs.pure [v kB] zk;have F1:Fm mK s0 s1:=((Fm.refl _ s0).set zDd _).trans (h2.sub (qrp zk));have m1:s1.sc mS=s0.sc mS:=by rw[h2.1 mS zDd,qeG _ _ zDd]
 have a1:St P f_main (i (c kRa [v kB]) [p (c kNb [v kB])] []) s0 240 none s1:=(St.iff (Ev.mk hev hop) Bl.nil).mono zDd
 have q:vE f_main s1 (o oJ (v kB) (u 1))=s0.sc mS+1:=by
  rw[qja,qc1,qdC,show s1.sc (keyI f_main kB)=s0.sc mS from m1];exact mod_eq_of_lt (by omega)
 exact⟨qaJ s1 mS (s0.sc mS+1),(Bl.cons a1 (Bl.cons (St.asg (Ev.of zk q)) Bl.nil)).mono zDd,qiH _ _ _,F1.set zDd _⟩
theorem m_ev(s0:IS):Ev P f_main (o oE (v kB) (u 256)) s0 20 (b2n (decide (s0.sc mS<256))) s0:=(Ev.of zk (by
 rw[quh,qc1,qdC])).mono zDd
theorem qvA:∀ (j:Nat) (s0:IS),s0.sc mS+j=256->s0.sc kS=0->∃ s',Wh P f_main (o oE (v kB) (u 256)) mB (b2n (decide (s0.sc mS<256))) s0 (340 * j) none s'/\Fm mK s0 s'
 |0,s0,h,_=>⟨s0,by
  rw[show decide (s0.sc mS<256)=false from decide_eq_false (by omega)]
  exact Wh.done,Fm.refl _ s0⟩
 |j+1,s0,h,hn=>by
  obtain⟨s1,h1,h2,h3⟩:=qwJ s0 hn (by omega);obtain⟨s2,g1,g2⟩:=qvA j s1 (by omega) (by rw[h3.1 _ zDd];exact hn);refine⟨s2,?_,h3.trans g2⟩;rw[show decide (s0.sc mS<256)=true from decide_eq_true (by omega)];exact(Wh.next zDd h1 (m_ev s1) g1).mono (by omega)
theorem qjM(s0:IS)(l1:(s0.ar kV).length=512)(l2:(s0.ar kDa).length=256)(l3:(s0.ar kT).length=8)(l4:(s0.ar kL).length=160)(hi:s0.inp.tail=[])(hn:s0.sc kS=0) :
  ∃ s',Bl P f_main f_main.body s0 180000 none s'/\s'.out=s0.out:=by
 obtain⟨s1,h1,F1⟩:=qxr s0 l1 l2;obtain⟨s2,h2,F2⟩:=qxt s1 ((F1.2.1 _).trans l3) ((F1.2.1 _).trans l4);have hi2:s2.inp.tail=[]:=by rw[F2.2.2.1,F1.2.2.1];exact hi
 have hn2:s2.sc kS=0:=by rw[F2.1 _ zDd,F1.1 _ zDd];exact hn
 have a3:St P f_main (s kTa (c kVa [])) s2 9 none (qaJ { s2 with inp:=s2.inp.tail } (keyI f_main kTa) (s2.inp.headD 4294967295)):=St.asg (Ev.mk Evs.nil Op.inp);generalize hs3:qaJ { s2 with inp:=s2.inp.tail } (keyI f_main kTa) (s2.inp.headD 4294967295)=s3 at a3;have hi3:s3.inp=[]:=by rw[<-hs3];exact hi2
 have hn3:s3.sc kS=0:=by rw[<-hs3,qeG _ _ zDd];exact hn2
 have ho3:s3.out=s2.out:=by rw[<-hs3];try rfl
 obtain⟨s4,h4,F4⟩:=qw2 s3 hi3;generalize hs5:qaJ s4 mS 1=s5;have a5:St P f_main (s kB (u 1)) s4 10 none s5:=by rw[<-hs5];exact(St.asg (Ev.of zk rfl)).mono zDd
 have m5:s5.sc mS=1:=by rw[<-hs5];exact qiH _ _ _
 have hn5:s5.sc kS=0:=by rw[<-hs5,qeG _ _ zDd,F4.1 _ zDd];exact hn3
 have ho5:s5.out=s4.out:=by rw[<-hs5];try rfl
 obtain⟨s6,h6,F6⟩:=qvA 255 s5 (by rw[m5]) hn5;have b1:=call0 (name:=kUb) (g:=f_gftables) zk rfl zDd zDd h1;have b2:=call0 (name:=kAc) (g:=f_htables) zk rfl zDd zDd h2;have b4:=call0 (name:=kQb) (g:=f_pieces) zk rfl zDd zDd h4;refine⟨s6,(Bl.cons b1 (Bl.cons b2 (Bl.cons a3 (Bl.cons b4 (Bl.cons a5 (Bl.cons (St.whl (m_ev s5) h6) Bl.nil)))))).mono zDd,?_⟩;rw[F6.2.2.2,ho5,F4.2.2.2,ho3,F2.2.2.2,F1.2.2.2]
theorem qyi(a limit:Nat)(h:180000<=limit):∃ fuel s2,blkR (stC P fuel (qbS P)) (qbS P).body (qdE P [a] limit)=.ok none s2/\s2.out=[]:=by
 have hm:qbS P=f_main:=rfl;rw[hm];obtain⟨s',h1,h2⟩:=qjM (qdE P [a] 0) (by show(List.replicate 512 0).length=512;exact length_replicate) (by show(List.replicate 256 0).length=256;exact length_replicate) (by show(List.replicate 8 0).length=8;exact length_replicate) (by show(List.replicate 160 0).length=160;exact length_replicate) rfl rfl;obtain⟨fuel,s2,g1,g2⟩:=qvq (P:=P) (inp:=[a]) (limit:=limit) (h1.mono h);exact⟨fuel,s2,g1,g2.trans h2⟩
mutual
def nbE:Ex->Bool
 |.mk op num name args=>decide (num<4294967296) && nbEs args
def nbEs:List Ex->Bool
 |[]=>true
 |x::l=>nbE x && nbEs l
end
mutual
def nbS:Sm->Bool
 |.mk kind name index value thn els=>nbEs index && (nbEs value && (nbSs thn && nbSs els))
def nbSs:List Sm->Bool
 |[]=>true
 |x::l=>nbS x && nbSs l
end
mutual
theorem qvN:∀ x:Ex,nbE x=true->numE x
 |.mk op num name args,h=>by
  rw[nbE,zBa] at h;rw[numE];exact⟨(of_decide_eq_true h.1:num<4294967296),qiY args h.2⟩
theorem qiY:∀ l:List Ex,nbEs l=true->qcX l
 |[],_=>by rw[qcX];trivial
 |x::l,h=>by
  rw[nbEs,zBa] at h;rw[qcX];exact⟨qvN x h.1,qiY l h.2⟩
end
mutual
theorem qwl:∀ x:Sm,nbS x=true->numS x
 |.mk kind name index value thn els,h=>by
  rw[nbS,zBa,zBa,zBa] at h;rw[numS];exact⟨qiY index h.1,qiY value h.2.1,qi0 thn h.2.2.1,qi0 els h.2.2.2⟩
theorem qi0:∀ l:List Sm,nbSs l=true->qcu l
 |[],_=>by rw[qcu];trivial
 |x::l,h=>by
  rw[nbSs,zBa] at h;rw[qcu];exact⟨qwl x h.1,qi0 l h.2⟩
end
def O0:Org:=⟨10000,0,100000⟩
theorem rd_chk:qb9 P=0:=by kernel_rfl
theorem qvz:qfr P.vars (qbd P) P.funcs O0=true:=by kernel_rfl
theorem rd_sz:SzP P 6000:=by
 refine⟨of_decide_eq_true zk,of_decide_eq_true zk,?_,of_decide_eq_true zk,?_⟩;have h:(P.arrays.all λa=>decide (a.size<4294967296))=true:=by kernel_rfl
 exact λa ha=>of_decide_eq_true (List.all_eq_true.1 h a ha);have h:(P.funcs.all λf=>nbSs f.body)=true:=by kernel_rfl
 exact λf hf=>qi0 _ (List.all_eq_true.1 h f hf)
def okB(ds:List Wd)(w:Wd):Bool:=match defW w with
 |some _=>true
 |none=>match refW w with
  |some d=>ds.contains d
  |none=>qiJ w
theorem qyf{ds:List Wd}{w:Wd}(h:okB ds w=true):OkW ds w:=by
 unfold okB at h;unfold OkW;revert h
 cases defW w with
 |some _=>exact λ_=>trivial
 |none=>
  cases refW w with
  |some d=>exact λh=>List.contains_iff_mem.1 h
  |none=>exact λh=>h
theorem qx7:qgn (qaT P O0):=by
 have h1:decide ((defs (qaT P O0)).Nodup)=true:=by kernel_rfl
 have h2:((qaT P O0).all (okB (defs (qaT P O0))))=true:=by kernel_rfl
 exact⟨of_decide_eq_true h1,λw hw=>qyf (List.all_eq_true.1 h2 w hw)⟩
theorem qxi:lenW false (qaT P O0)<=40000:=by
 have h:decide (lenW false (qaT P O0)<=40000)=true:=by kernel_rfl
 exact of_decide_eq_true h
theorem rd_cmp:cmpP P.vars (qbd P) P.funcs O0=.ok (join (qaT P O0) [32]):=by
 have hc:qc3 P.vars (qbd P) P.funcs=0:=rd_chk;have hcl:∀ w∈qaT P O0,qbr w:=qjX rd_chk qvz;have h3:join (prW P.vars (qbd P) P.funcs O0) [32]=join (qaT P O0) [32]:=rfl;have h:=(qvl qx7 hcl (og:=O0.code) zDd zDd qxi).1;unfold cmpP;rw[zn (λh=>h hc),zn (by rw[qvz];decide),h3,h]
theorem rd_ends(a:Nat):∃ fuel,(runC P fuel [a] 180000).1=0/\(runC P fuel [a] 180000).2.out=[]:=by
 obtain⟨fuel,s2,h1,h2⟩:=qyi a 180000 (zNr _);refine⟨fuel,?_⟩;unfold runC;rw[h1];exact⟨rfl,h2⟩
end Go.Stele.Wi.Wc.Rd
