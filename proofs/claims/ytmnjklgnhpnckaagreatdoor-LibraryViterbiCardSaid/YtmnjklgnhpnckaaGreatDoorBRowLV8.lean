import Derived.Test.YtmnjklgnhpnckaaGreatDoorProg
import Derived.Test.YtmnjklgnhpnckaaGreatDoorBRowLV7
set_option linter.unusedVariables false
set_option linter.unusedSimpArgs false
set_option maxRecDepth 100000
set_option maxHeartbeats 4000000
open Go.GL (zk)
open List (all_cons mem_append_left mem_append_right)
open Nat (zero_le)
namespace Go.ia.Wi.Wc
open Go.Lib
def DL:IR (Option Nat)->Int×IS
 |.ok _ s=>(0,s)
 |.stop e s=>(e,s)
def Me(P:Pr)(Aa:Nat)(Ia:List Nat)(Ca:Nat):Int×IS:=DL (mg (Hg P Aa (Ig P)) (Ig P).body (xq P Ia Ca))
section
variable{X:Lf}
theorem qz5(hX:Zd X)(hW:X.C.Code 0 [[38,102,95,109,97,105,110],[58],decDigits X.S,[33],[36]])(hm:Ig X.P∈X.P.funcs)(Oq:(Ig X.P).name=[109,97,105,110])(rz:(Ig X.P).params=[])
  (Mg:ql (X.jb (Ig X.P)) (Ig X.P).body<=256) (Vn:vj (X.jb (Ig X.P)) (Ig X.P).body<=63) (Ia:List Nat) (Aa Ca:Nat) (he:(Me X.P Aa Ia Ca).1=0∨(Me X.P Aa Ia Ca).1=12) :
  ∃ k m',k<=Ca+100/\Hh X.C k (ET X.C Ia) m'/\gb X.C m'=.stop (Me X.P Aa Ia Ca).1.toNat (Me X.P Aa Ia Ca).2.out:=by
 have O3:=qsW hX Ia Ca;generalize vC:ET X.C Ia=m0 at *;have v0:X.Vw (xq X.P Ia Ca) 0 [] [] m0:=by subst vC;exact⟨PW.wh rfl,O3,rfl,rfl⟩
 have nR:Nb X.C (λ(_:Option Nat) s' m'=>∃ m2,Hh X.C 0 m' m2/\gb X.C m2=.stop 0 s'.out) 100 100 m0 (xq X.P Ia Ca) (mg (Hg X.P Aa (Ig X.P)) (Ig X.P).body (xq X.P Ia Ca)):=by
  generalize Ig X.P=k at *;obtain⟨nl,vf⟩:=hX.code k hm;obtain⟨b1,b2⟩:=hX.body k hm;have zI:=hX.mj k hm;have cm:=hX.Cz k hm;unfold lk at vf;simp only at vf;rw[rz] at vf;simp only[List.reverse_nil,List.flatMap_nil,de] at vf;obtain⟨vf,Gl⟩:=vf.app;obtain⟨rn,Hl⟩:=vf.app;obtain⟨wd,_⟩:=rn.cons;obtain⟨w0,hW⟩:=hW.cons;obtain⟨w1,hW⟩:=hW.cons;obtain⟨w2,hW⟩:=hW.cons;obtain⟨w3,hW⟩:=hW.cons;obtain⟨w4,_⟩:=hW.cons;rw[Oq] at cm zI wd;have t2:=PW.call v0.here w0 w1 cm (hX.label _ _ _ wd zI) (by rw[v0.data];decide) (by rw[v0.calls];decide);have v3:X.Vw (xq X.P Ia Ca) (X.fst k+1) [] [X.C.od (0+1+1)] { m0 with pc:=X.C.od (X.fst k+1),calls:=X.C.od (0+1+1)::m0.calls,digit:=false }:=
   ⟨PW.wh rfl,v0.rel.same rfl rfl rfl rfl rfl rfl rfl,v0.data,by simp only;rw[v0.calls]⟩
  have hb:=EJ (Z8 hX Aa).2 hm k.body (X.fst k+1) nl _ _ [] (X.C.od (0+1+1)) [] b2 b1 Hl v3 (by simpa using Mg) (by simp only[oc];omega);have hS:X.S+2<262144:=hX.low _ (.inr (.inl ⟨by omega,by omega⟩));have Px:∀ s' a m',X.Vw s' (0+1+1) [a] [] m'->∃ m2,Gf X.C 10 m' m2/\∃ m3,Hh X.C 0 m2 m3/\gb X.C m3=.stop 0 s'.out:=by intro s' a m' v5;obtain⟨m6,t6,v6,_⟩:=v5.addr w2 ga (by simp);obtain⟨m7,t7,v7,_⟩:=v6.Dy hX w3 ⟨by omega,by omega⟩;exact⟨m7,(t6.trans t7).mono fa,by rw[<-v7.rel.out];exact PW.halt v7.here w4⟩
  refine Nb.pre t2 (c1:=50) (d1:=50) ?_ ga ga;refine Nb.post (a:=20) hb ga ga λr s' m' h=>?_
  cases r with
  |some a=>obtain⟨g1,g2,g3,g4,g5⟩:=h;obtain⟨m2,t5,h5⟩:=Px s' a m' ⟨PW.wh g1,g3,g4,g5⟩;exact⟨m2,t5.mono fa,h5⟩
  |none=>
   have h:X.Vw s' _ [] [X.C.od (0+1+1)] m':=h;obtain⟨q2,Gl⟩:=Gl.cons;obtain⟨q3,_⟩:=Gl.cons;rw[Ga,<-Nat.add_assoc] at q2 q3;obtain⟨m6,t6,v6,_⟩:=h.Ew (n:=0) q2 fa rfl fa;have t7:=PW.back v6.here q3 v6.calls;have v7:X.Vw s' (0+1+1) [0] [] { m6 with pc:=X.C.od (0+1+1),calls:=[],digit:=false }:=
    ⟨PW.wh rfl,v6.rel.same rfl rfl rfl rfl rfl rfl rfl,v6.data,rfl⟩
   obtain⟨m8,t8,h8⟩:=Px s' 0 _ v7;exact⟨m8,(t6.trans (t7.trans t8)).mono fa,h8⟩
 unfold Me at he ⊢;revert nR he;cases mg (Hg X.P Aa (Ig X.P)) (Ig X.P).body (xq X.P Ia Ca) with
 |ok v s'=>rintro he ⟨h1,k,m',h2,h3,m2,h4,h5⟩;have hl:(xq X.P Ia Ca).left=Ca:=rfl;rw[hl] at h1 h2;exact⟨k+0,m2,by omega,h3.trans h4,h5⟩
 |stop e s'=>rintro he ⟨h1,h2⟩;have hl:(xq X.P Ia Ca).left=Ca:=rfl;rw[hl] at h1;obtain⟨k,m',k1,k2,k3⟩:=h1 he;exact⟨k,m',by omega,k2,k3⟩
end
theorem NS{P:Pr}{o:xk}{t:Wd}(ec:∀ f∈P.funcs,cj f.body)(h:pk P.vars (sf P) P.funcs o=.ok t)(Ia:List Nat)(Aa Ca:Nat)(he:(Me P Aa Ia Ca).1=0∨(Me P Aa Ia Ca).1=12) :
  ∃ k m',k<=Ca+100/\Hh ⟨Ug P o,TL o.code.toNat⟩ k (ET ⟨Ug P o,TL o.code.toNat⟩ Ia) m'/\gb ⟨Ug P o,TL o.code.toNat⟩ m'=.stop (Me P Aa Ia Ca).1.toNat (Me P Aa Ia Ca).2.out:=by
 obtain⟨hc,Be,_,_,ik,hX,na⟩:=yP ec h;have hv:=yH hc;have hF:=JD Be;have Vc:(P.funcs.map (·.name)).Nodup:=(Xm (Nv _ _ hv.names).1).2.1;have rh:(Ib (Ug P o)).Nodup:=by have h1:=(yP ec h).2.2.2.1;have h2:=(qmY ik).2.1;have h3:=(yP ec h).2.2.1;rw[h1] at h2;exact h2
 have hW:Go.ia.PW.Code (Hi P o).C 0 [[38,102,95,109,97,105,110],[58],decDigits (Hi P o).S,[33],[36]]:=by have h1:Go.ia.PW.Code (Hi P o).C 0 ([[38,102,95,109,97,105,110],[58],itoa o.scalars,[33],[36]]++(Oc (dq P.vars (sf P) P.funcs o) 0 P.funcs).1):=qpQ _ _ _;rw[Jv hF.s0] at h1;exact h1.app.1
 have Mg:ql ((Hi P o).jb (Ig P)) (Ig P).body<=200/\vj ((Hi P o).jb (Ig P)) (Ig P).body<=60:=by
  unfold Vp Jr at hc;have e1:(P.ba.map λa=>(a.name,(a.size:Int))).map (·.1)=P.ba.map (·.name):=by rw[List.map_map];try rfl
  rw[e1,qoo _ _ Vc,List.nil_append] at hc;have hm:=(Rc.1 (Rc.1 (Rc.1 hc).2).2).2;unfold aP at hm;rw[List.getLast?_map] at hm;have C4:Ig P=(P.funcs.getLast?).getD ⟨[],[],[],[]⟩:=rfl;cases hl:P.funcs.getLast? with
  |none=>rw[hl] at hm;cases hm
  |some f=>rw[hl] at hm C4;simp only[Option.map_some,Option.getD_some] at hm C4;rw[C4];split at hm;split at hm;rename_i hq;have hs:=WY (vars:=P.vars) (ba:=P.ba.map (·.name)) (later:=P.funcs.map (·.name)) (Xu P.vars (P.ba.map (·.name)) (P.funcs.map (·.name)) [] P.funcs f) f;exact⟨Qf hs.1 hq.2.1,Qf hs.2 hq.2.2⟩;cases hm;cases hm
 exact qz5 (X:=J7 (Hi P o) (TL o.code.toNat)) (qvm hX (qwh hc Be) rh) hW hv.main.1 hv.main.2.1 hv.main.2.2 (Qf Mg.1 fa) (Qf Mg.2 fa) Ia Aa Ca he
section
variable{P:Pr}{o:xk}{t:Wd}
theorem K0(ec:∀ f∈P.funcs,cj f.body)(h:pk P.vars (sf P) P.funcs o=.ok t){Ia:List Nat}(hi:∀ v∈Ia,v<4294967296)(Aa Ca:Nat)(he:(Me P Aa Ia Ca).1=0∨(Me P Aa Ia Ca).1=12) :
  ∃ x ub y VH K K',Gh t o.code=.ok (x,ub)/\Gh (join (qi (Nj t)) [32]) o.code=.ok (y,VH)/\x.length<=40000/\y.length<=x.length/\K<=Ca+101/\K'<=K /\
   ∀ N,K<=N->runM N (Dv x o.code.toNat Ia)=((Me P Aa Ia Ca).1.toNat,(Me P Aa Ia Ca).2.out,K)/\runM N (Dv y o.code.toNat Ia)=((Me P Aa Ia Ca).1.toNat,(Me P Aa Ia Ca).2.out,K'):=by
 obtain⟨hc,Be,ht,hw,ik,hX,na⟩:=yP ec h;have hF:=JD Be;have Ge:∀ w∈Ug P o,Xj w:=bZ hc Be;obtain⟨hA,hl⟩:=qto ik;rw[hw] at hA;rw[hw];have hty:=qAc hc Be ec hA hX;obtain⟨k,m',k1,k2,k3⟩:=NS ec h Ia Aa Ca he;have h99:(Me P Aa Ia Ca).1.toNat≠99:=by rcases he with e|e <;> rw[e] <;> decide
 obtain⟨n,hE⟩:=qwN k2 k3 h99;have qR:o.code.toNat+40000<=262144:=hF.c1;have hE:Ends ⟨Ug P o,TL o.code.toNat⟩ n ⟨λ_=>0,Ug P o,[],[],Ia,[],false⟩ (Me P Aa Ia Ca).1.toNat (Me P Aa Ia Ca).2.out (k+1):=hE;obtain⟨n',K',qq,hK⟩:=qvb hi hA hE;obtain⟨hA2,Zl⟩:=qx3 hA;have Aw:=quG Ge;have htx:=eZ (iH P o) (Ug P o) λw hw=>(Ge w hw).1;have hl:(ll (iH P o) (Ug P o)).length<=40000:=hl;obtain⟨b1,b2⟩:=S8 hA2 Aw (og:=o.code) hF.c0 ga ga;refine⟨_,_,_,_,k+1,K',ik,b1,hl,by rw[b2,htx];exact Zl,by omega,hK,λN hN=>⟨?_,?_⟩⟩;exact qlt hA (λw hw=>(Ge w hw).1) hty rfl hl qR hE N hN;exact qlt hA2 (λw hw=>(Aw w hw).1) (qzQ hty) rfl (by rw[b2];omega) qR qq N ga
end
end Go.ia.Wi.Wc
namespace Go.Proofs.YtmnjklgnhpnckaaGreatDoor
open Go.GL
noncomputable abbrev Tk:=Tryz.prog
abbrev Za:=Tb Tk
abbrev Xd:=Rk Tk
abbrev Tj:=Wq Tk
abbrev Sj:=Og Tk
abbrev zS:=rq Tk
abbrev Lo:=Ql Tk
abbrev Us:=Oa Tk
abbrev Iu:=ko Tk
abbrev Tz:=xh Tk
instance:Ss Tk:=⟨zk⟩
instance:Tj 3 1:=.of zk
instance:zS 3:=.of zk
instance:Nh Tk 3 .i64:=.of zk
instance:Sj 3 [.int .i64 0]:=.of (v:=.int .i64 0) (n:=1) zk rfl rfl
instance:Tz 3 1 8:=.of zk
instance:Tj 4 1:=.of zk
instance:zS 4:=.of zk
instance:Tj 5 1:=.of zk
instance:zS 5:=.of zk
instance:Nh Tk 5 .u8:=.of zk
instance:Sj 5 [.int .u8 0]:=.of (v:=.int .u8 0) (n:=1) zk rfl rfl
instance:Tz 5 1 1:=.of zk
instance:Tj 9 1:=.of zk
instance:zS 9:=.of zk
instance:Um Tk 9:=.of zk
instance:Sj 9 [.string ⟨#[]⟩]:=.of (v:=.string ⟨#[]⟩) (n:=1) zk rfl rfl
instance:Tz 9 1 16:=.of zk
instance:Tj 23 1:=.of zk
instance:zS 23:=.of zk
instance:Sj 23 [.int .i64 0]:=.of (v:=.int .i64 0) (n:=1) zk rfl rfl
instance:Tj 25 3:=.of zk
instance:Iu 25 3:=.of zk
instance:Xd 25 0 0:=.of zk
instance:Xd 25 1 1:=.of zk
instance:Lo 25 [(0,1),(1,1),(2,1)]:=.of zk
instance:Sj 25 [.string ⟨#[]⟩,.int .i64 0,.int .i64 0]:=.of (v:=.agg #[.string ⟨#[]⟩,.int .i64 0,.int .i64 0]) (n:=3) zk rfl rfl
instance:Tj 27 1:=.of zk
instance:zS 27:=.of zk
instance:Us 27 54 1:=.of zk
instance:Tj 30 1:=.of zk
instance:zS 30:=.of zk
instance:Us 30 9 1:=.of zk
instance:Sj 30 [.slice none 0 0]:=.of (v:=.slice none 0 0) (n:=1) zk rfl rfl
instance:zS 32:=.of zk
instance:Us 32 55 1:=.of zk
instance:Tj 33 1:=.of zk
instance:zS 33:=.of zk
instance:Us 33 5 1:=.of zk
instance:Iu 35 2:=.of zk
instance:Xd 35 0 0:=.of zk
instance:Xd 35 1 1:=.of zk
instance:Us 42 3 1:=.of zk
instance:Tj 48 3:=.of zk
instance:Iu 48 3:=.of zk
instance:Xd 48 0 0:=.of zk
instance:Xd 48 1 1:=.of zk
instance:Xd 48 2 2:=.of zk
instance:Lo 48 [(0,1),(1,1),(2,1)]:=.of zk
instance:Sj 48 [.int .i64 0,.int .i64 0,.int .i64 0]:=.of (v:=.agg #[.int .i64 0,.int .i64 0,.int .i64 0]) (n:=3) zk rfl rfl
instance:Tj 52 2:=.of zk
instance:Iu 52 2:=.of zk
instance:Xd 52 0 0:=.of zk
instance:Xd 52 1 1:=.of zk
instance:Lo 52 [(0,1),(1,1)]:=.of zk
instance:Sj 52 [.int .i64 0,.string ⟨#[]⟩]:=.of (v:=.agg #[.int .i64 0,.string ⟨#[]⟩]) (n:=2) zk rfl rfl
instance:Us 53 52 2:=.of zk
instance:Tj 54 1:=.of zk
instance:zS 54:=.of zk
instance:Nh Tk 54 .u32:=.of zk
instance:Sj 54 [.int .u32 0]:=.of (v:=.int .u32 0) (n:=1) zk rfl rfl
instance:Tz 54 1 4:=.of zk
instance:zS 55:=.of zk
instance:Nh Tk 55 .u16:=.of zk
instance:Us 57 63 8:=.of zk
instance:Tj 62 2:=.of zk
instance:Xd 62 0 0:=.of zk
instance:Xd 62 1 1:=.of zk
instance:Lo 62 [(0,1),(1,1)]:=.of zk
instance:Sj 62 [.int .i64 0,.int .i64 0]:=.of (v:=.agg #[.int .i64 0,.int .i64 0]) (n:=2) zk rfl rfl
instance:Tj 63 8:=.of zk
instance:Iu 63 8:=.of zk
instance:Sj 63 [.int .i64 0,.int .i64 0,.int .i64 0,.int .i64 0,.int .i64 0,.int .i64 0,.int .i64 0,.int .i64 0]:=.of (v:=.agg #[.int .i64 0,.int .i64 0,.int .i64 0,.int .i64 0,.int .i64 0,.int .i64 0,.int .i64 0,.int .i64 0]) (n:=8) zk rfl rfl
instance:Tz 63 8 64:=.of zk
instance:Tj 65 1:=.of zk
instance:zS 65:=.of zk
instance:Us 65 164 2:=.of zk
instance:Tj 66 1:=.of zk
instance:zS 66:=.of zk
instance:Us 66 168 4:=.of zk
instance:Tj 68 3:=.of zk
instance:Iu 68 3:=.of zk
instance:Xd 68 0 0:=.of zk
instance:Xd 68 1 1:=.of zk
instance:Xd 68 2 2:=.of zk
instance:Lo 68 [(0,1),(1,1),(2,1)]:=.of zk
instance:Sj 68 [.slice none 0 0,.slice none 0 0,.slice none 0 0]:=.of (v:=.agg #[.slice none 0 0,.slice none 0 0,.slice none 0 0]) (n:=3) zk rfl rfl
instance:Us 73 126 2:=.of zk
instance:zS 77:=.of zk
instance:Xd 80 0 0:=.of zk
instance:Xd 80 1 1:=.of zk
instance:Xd 80 2 2:=.of zk
instance:Xd 80 3 3:=.of zk
instance:Xd 80 4 4:=.of zk
instance:Xd 80 5 5:=.of zk
instance:Xd 80 6 6:=.of zk
instance:Xd 80 7 7:=.of zk
instance:Xd 80 8 8:=.of zk
instance:Xd 80 9 9:=.of zk
instance:Lo 80 [(0,1),(1,1),(2,1),(3,1),(4,1),(5,1),(6,1),(7,1),(8,1),(9,1)]:=.of zk
instance:Sj 80 [.slice none 0 0,.int .u32 0,.slice none 0 0,.slice none 0 0,.slice none 0 0,.slice none 0 0,.bool false,.int .i64 0,.bool false,.map none]:=.of (v:=.agg #[.slice none 0 0,.int .u32 0,.slice none 0 0,.slice none 0 0,.slice none 0 0,.slice none 0 0,.bool false,.int .i64 0,.bool false,.map none]) (n:=10) zk rfl rfl
instance:Nh Tk 86 .u64:=.of zk
instance:Xd 92 1 1:=.of zk
instance:Sj 92 [.pointer none,.slice none 0 0]:=.of (v:=.agg #[.pointer none,.slice none 0 0]) (n:=2) zk rfl rfl
instance:zS 97:=.of zk
instance:zS 98:=.of zk
instance:Us 98 157 3:=.of zk
instance:Tj 102 2:=.of zk
instance:Ye Tk 102:=.of zk
instance:Xd 102 0 0:=.of zk
instance:Xd 102 1 1:=.of zk
instance:Lo 102 [(0,1),(1,1)]:=.of zk
instance:Sj 102 [.int .i64 0,.int .i64 0]:=.of (v:=.agg #[.int .i64 0,.int .i64 0]) (n:=2) zk rfl rfl
instance:zS 104:=.of zk
instance:Xd 106 0 0:=.of zk
instance:Xd 106 1 1:=.of zk
instance:Xd 106 2 2:=.of zk
instance:Lo 106 [(0,1),(1,1),(2,1)]:=.of zk
instance:Sj 106 [.slice none 0 0,.int .i64 0,.int .i64 0]:=.of (v:=.agg #[.slice none 0 0,.int .i64 0,.int .i64 0]) (n:=3) zk rfl rfl
instance:Tj 109 2:=.of zk
instance:Ye Tk 109:=.of zk
instance:Xd 109 0 0:=.of zk
instance:Xd 109 1 1:=.of zk
instance:Lo 109 [(0,1),(1,1)]:=.of zk
instance:Sj 109 [.string ⟨#[]⟩,.int .i64 0]:=.of (v:=.agg #[.string ⟨#[]⟩,.int .i64 0]) (n:=2) zk rfl rfl
instance:Tj 112 1:=.of zk
instance:zS 112:=.of zk
instance:zS 113:=.of zk
instance:Xd 115 0 0:=.of zk
instance:Xd 115 1 1:=.of zk
instance:Xd 115 2 2:=.of zk
instance:Xd 115 3 3:=.of zk
instance:Xd 115 4 4:=.of zk
instance:Xd 115 5 5:=.of zk
instance:Xd 115 6 6:=.of zk
instance:Lo 115 [(0,1),(1,1),(2,1),(3,1),(4,1),(5,1),(6,1)]:=.of zk
instance:Sj 115 [.map none,.map none,.map none,.map none,.string ⟨#[]⟩,.map none,.int .i64 0]:=.of (v:=.agg #[.map none,.map none,.map none,.map none,.string ⟨#[]⟩,.map none,.int .i64 0]) (n:=7) zk rfl rfl
instance:zS 118:=.of zk
instance:zS 119:=.of zk
instance:Xd 121 0 0:=.of zk
instance:Xd 121 1 1:=.of zk
instance:Xd 121 2 2:=.of zk
instance:Xd 121 3 3:=.of zk
instance:Xd 121 4 4:=.of zk
instance:Xd 121 5 5:=.of zk
instance:Lo 121 [(0,1),(1,1),(2,1),(3,1),(4,1),(5,1)]:=.of zk
instance:Sj 121 [.slice none 0 0,.int .i64 0,.int .i64 0,.map none,.map none,.string ⟨#[]⟩]:=.of (v:=.agg #[.slice none 0 0,.int .i64 0,.int .i64 0,.map none,.map none,.string ⟨#[]⟩]) (n:=6) zk rfl rfl
instance:Tj 126 2:=.of zk
instance:Iu 126 2:=.of zk
instance:Xd 126 0 0:=.of zk
instance:Xd 126 1 1:=.of zk
instance:Lo 126 [(0,1),(1,1)]:=.of zk
instance:Sj 126 [.string ⟨#[]⟩,.int .i64 0]:=.of (v:=.agg #[.string ⟨#[]⟩,.int .i64 0]) (n:=2) zk rfl rfl
instance:Tz 126 2 24:=.of zk
instance:Us 130 185 2:=.of zk
instance:Tj 139 0:=.of zk
instance:Ye Tk 139:=.of zk
instance:Lo 139 []:=.of zk
instance:Sj 139 []:=.of (v:=.agg #[]) (n:=0) zk rfl rfl
instance:Us 148 152 2:=.of zk
instance:Iu 152 2:=.of zk
instance:Xd 152 0 0:=.of zk
instance:Xd 152 1 1:=.of zk
instance:Lo 152 [(0,1),(1,1)]:=.of zk
instance:Sj 152 [.string ⟨#[]⟩,.nilFunc]:=.of (v:=.agg #[.string ⟨#[]⟩,.nilFunc]) (n:=2) zk rfl rfl
instance:Tj 157 3:=.of zk
instance:Iu 157 3:=.of zk
instance:Xd 157 0 0:=.of zk
instance:Xd 157 1 1:=.of zk
instance:Xd 157 2 2:=.of zk
instance:Lo 157 [(0,1),(1,1),(2,1)]:=.of zk
instance:Sj 157 [.int .i64 0,.string ⟨#[]⟩,.int .i64 0]:=.of (v:=.agg #[.int .i64 0,.string ⟨#[]⟩,.int .i64 0]) (n:=3) zk rfl rfl
instance:Tz 157 3 32:=.of zk
instance:Tj 164 2:=.of zk
instance:Iu 164 2:=.of zk
instance:Xd 164 0 0:=.of zk
instance:Xd 164 1 1:=.of zk
instance:Lo 164 [(0,1),(1,1)]:=.of zk
instance:Sj 164 [.string ⟨#[]⟩,.int .i64 0]:=.of (v:=.agg #[.string ⟨#[]⟩,.int .i64 0]) (n:=2) zk rfl rfl
instance:Tz 164 2 24:=.of zk
instance:Tj 166 1:=.of zk
instance:zS 166:=.of zk
instance:Us 166 217 6:=.of zk
instance:Tj 168 4:=.of zk
instance:Iu 168 4:=.of zk
instance:Xd 168 0 0:=.of zk
instance:Xd 168 1 1:=.of zk
instance:Xd 168 2 2:=.of zk
instance:Xd 168 3 3:=.of zk
instance:Lo 168 [(0,1),(1,1),(2,1),(3,1)]:=.of zk
instance:Sj 168 [.string ⟨#[]⟩,.slice none 0 0,.slice none 0 0,.slice none 0 0]:=.of (v:=.agg #[.string ⟨#[]⟩,.slice none 0 0,.slice none 0 0,.slice none 0 0]) (n:=4) zk rfl rfl
instance:Tz 168 4 88:=.of zk
instance:Tj 175 3:=.of zk
instance:Xd 175 0 0:=.of zk
instance:Xd 175 1 1:=.of zk
instance:Xd 175 2 2:=.of zk
instance:Lo 175 [(0,1),(1,1),(2,1)]:=.of zk
instance:Sj 175 [.int .i64 0,.int .i64 0,.int .i64 0]:=.of (v:=.agg #[.int .i64 0,.int .i64 0,.int .i64 0]) (n:=3) zk rfl rfl
instance:Tj 177 2:=.of zk
instance:Iu 177 2:=.of zk
instance:Xd 177 0 0:=.of zk
instance:Xd 177 1 1:=.of zk
instance:Lo 177 [(0,1),(1,1)]:=.of zk
instance:Sj 177 [.int .i64 0,.int .i64 0]:=.of (v:=.agg #[.int .i64 0,.int .i64 0]) (n:=2) zk rfl rfl
instance:Us 178 177 2:=.of zk
instance:Tj 185 2:=.of zk
instance:Iu 185 2:=.of zk
instance:Xd 185 0 0:=.of zk
instance:Xd 185 1 1:=.of zk
instance:Lo 185 [(0,1),(1,1)]:=.of zk
instance:Sj 185 [.string ⟨#[]⟩,.int .i64 0]:=.of (v:=.agg #[.string ⟨#[]⟩,.int .i64 0]) (n:=2) zk rfl rfl
instance:Tz 185 2 24:=.of zk
instance:Us 189 190 1:=.of zk
instance:zS 190:=.of zk
instance:Sj 190 [.nilFunc]:=.of (v:=.nilFunc) (n:=1) zk rfl rfl
instance:Iu 193 2:=.of zk
instance:Xd 193 0 0:=.of zk
instance:Xd 193 1 1:=.of zk
instance:Lo 193 [(0,1),(1,1)]:=.of zk
instance:Sj 193 [.slice none 0 0,.map none]:=.of (v:=.agg #[.slice none 0 0,.map none]) (n:=2) zk rfl rfl
instance:zS 212:=.of zk
instance:Us 212 30 1:=.of zk
instance:Tj 215 1:=.of zk
instance:zS 215:=.of zk
instance:Us 215 220 4:=.of zk
instance:Tj 217 6:=.of zk
instance:Iu 217 6:=.of zk
instance:Xd 217 0 0:=.of zk
instance:Xd 217 1 1:=.of zk
instance:Xd 217 2 2:=.of zk
instance:Xd 217 3 3:=.of zk
instance:Xd 217 4 4:=.of zk
instance:Xd 217 5 5:=.of zk
instance:Lo 217 [(0,1),(1,1),(2,1),(3,1),(4,1),(5,1)]:=.of zk
instance:Sj 217 [.int .i64 0,.string ⟨#[]⟩,.slice none 0 0,.slice none 0 0,.slice none 0 0,.slice none 0 0]:=.of (v:=.agg #[.int .i64 0,.string ⟨#[]⟩,.slice none 0 0,.slice none 0 0,.slice none 0 0,.slice none 0 0]) (n:=6) zk rfl rfl
instance:Tz 217 6 120:=.of zk
instance:Tj 220 4:=.of zk
instance:Iu 220 4:=.of zk
instance:Xd 220 0 0:=.of zk
instance:Xd 220 1 1:=.of zk
instance:Xd 220 2 2:=.of zk
instance:Xd 220 3 3:=.of zk
instance:Lo 220 [(0,1),(1,1),(2,1),(3,1)]:=.of zk
instance:Sj 220 [.string ⟨#[]⟩,.int .u32 0,.string ⟨#[]⟩,.slice none 0 0]:=.of (v:=.agg #[.string ⟨#[]⟩,.int .u32 0,.string ⟨#[]⟩,.slice none 0 0]) (n:=4) zk rfl rfl
instance:Tz 220 4 64:=.of zk
instance:Tj 249 1:=.of zk
instance:zS 249:=.of zk
instance:Sj 249 [.nilFunc]:=.of (v:=.nilFunc) (n:=1) zk rfl rfl
instance:Za 5:=.of zk
instance:Za 6:=.of zk
instance:Za 7:=.of zk
instance:Za 9:=.of zk
instance:Za 10:=.of zk
instance:Za 11:=.of zk
instance:Za 12:=.of zk
instance:Za 13:=.of zk
instance:Za 14:=.of zk
instance:Za 15:=.of zk
instance:Za 16:=.of zk
instance:Za 17:=.of zk
instance:Za 18:=.of zk
instance:Za 20:=.of zk
instance:Za 21:=.of zk
instance:Za 22:=.of zk
instance:Za 23:=.of zk
instance:Za 24:=.of zk
instance:Za 25:=.of zk
instance:Za 26:=.of zk
instance:Za 27:=.of zk
instance:Za 28:=.of zk
instance:Za 29:=.of zk
instance:Za 30:=.of zk
instance:Za 31:=.of zk
instance:Za 32:=.of zk
instance:Za 35:=.of zk
instance:Za 36:=.of zk
instance:Za 37:=.of zk
instance:Za 38:=.of zk
instance:Za 39:=.of zk
instance:Za 40:=.of zk
instance:Za 41:=.of zk
instance:Za 42:=.of zk
instance:Za 43:=.of zk
instance:Za 44:=.of zk
instance:Za 45:=.of zk
instance:Za 46:=.of zk
instance:Za 47:=.of zk
instance:Za 48:=.of zk
instance:Za 49:=.of zk
instance:Za 50:=.of zk
instance:Za 51:=.of zk
instance:Za 52:=.of zk
instance:Za 53:=.of zk
instance:Za 54:=.of zk
instance:Za 55:=.of zk
instance:Za 56:=.of zk
instance:Za 57:=.of zk
instance:Za 58:=.of zk
instance:Za 59:=.of zk
instance:Za 60:=.of zk
instance:Za 61:=.of zk
instance:Za 62:=.of zk
instance:Za 63:=.of zk
instance:Za 64:=.of zk
instance:Za 69:=.of zk
instance:Za 70:=.of zk
instance:Za 71:=.of zk
instance:Za 72:=.of zk
instance:Za 73:=.of zk
instance:Za 74:=.of zk
instance:Za 75:=.of zk
instance:Za 76:=.of zk
instance:Za 77:=.of zk
instance:Za 78:=.of zk
instance:Za 79:=.of zk
instance:Za 80:=.of zk
instance:Za 81:=.of zk
instance:Za 82:=.of zk
instance:Za 83:=.of zk
instance:Za 84:=.of zk
instance:Za 85:=.of zk
instance:Za 86:=.of zk
instance:Za 87:=.of zk
instance:Za 88:=.of zk
instance:Za 89:=.of zk
instance:Za 90:=.of zk
instance:Za 91:=.of zk
instance:Za 92:=.of zk
instance:Za 94:=.of zk
instance:Za 95:=.of zk
instance:Za 96:=.of zk
instance:Za 97:=.of zk
instance:Za 98:=.of zk
instance:Za 99:=.of zk
instance:Za 100:=.of zk
instance:Za 101:=.of zk
instance:Za 102:=.of zk
instance:Za 103:=.of zk
instance:Za 104:=.of zk
instance:Za 105:=.of zk
instance:Za 106:=.of zk
instance:Za 107:=.of zk
instance:Za 108:=.of zk
instance:Za 109:=.of zk
instance:Za 110:=.of zk
instance:Za 111:=.of zk
instance:Za 112:=.of zk
instance:Za 113:=.of zk
instance:Za 114:=.of zk
instance:Za 115:=.of zk
instance:Za 117:=.of zk
instance:Za 118:=.of zk
instance:Za 119:=.of zk
instance:Za 120:=.of zk
instance:Za 121:=.of zk
instance:Za 122:=.of zk
instance:Za 123:=.of zk
instance:Za 124:=.of zk
instance:Za 125:=.of zk
instance:Za 126:=.of zk
instance:Za 127:=.of zk
instance:Za 128:=.of zk
instance:Za 129:=.of zk
instance:Za 130:=.of zk
instance:Za 131:=.of zk
instance:Za 133:=.of zk
instance:Za 134:=.of zk
instance:Za 135:=.of zk
instance:Za 136:=.of zk
instance:Za 137:=.of zk
instance:Za 138:=.of zk
instance:Za 139:=.of zk
instance:Za 140:=.of zk
instance:Za 141:=.of zk
instance:Za 142:=.of zk
instance:Za 146:=.of zk
instance:Za 147:=.of zk
instance:Za 148:=.of zk
instance:Za 149:=.of zk
instance:Za 150:=.of zk
instance:Za 151:=.of zk
instance:Za 152:=.of zk
instance:Za 153:=.of zk
instance:Za 154:=.of zk
instance:Za 155:=.of zk
instance:Za 156:=.of zk
instance:Za 157:=.of zk
instance:Za 158:=.of zk
instance:Za 159:=.of zk
instance:Za 160:=.of zk
instance:Za 162:=.of zk
instance:Za 163:=.of zk
instance:Za 164:=.of zk
instance:Za 165:=.of zk
instance:Za 166:=.of zk
instance:Za 167:=.of zk
instance:Za 168:=.of zk
instance:Za 169:=.of zk
instance:Za 172:=.of zk
instance:Za 173:=.of zk
instance:Za 174:=.of zk
instance:Za 175:=.of zk
instance:Za 176:=.of zk
instance:Za 177:=.of zk
instance:Za 178:=.of zk
instance:Za 179:=.of zk
instance:Za 180:=.of zk
instance:Za 181:=.of zk
instance:Za 182:=.of zk
instance:Za 183:=.of zk
instance:Za 184:=.of zk
instance:Za 185:=.of zk
instance:Za 186:=.of zk
instance:Za 187:=.of zk
instance:Za 188:=.of zk
instance:Za 189:=.of zk
instance:Za 190:=.of zk
instance:Za 191:=.of zk
instance:Za 192:=.of zk
instance:Za 194:=.of zk
instance:Za 195:=.of zk
instance:Za 196:=.of zk
instance:Za 197:=.of zk
instance:Za 199:=.of zk
instance:Za 200:=.of zk
instance:Za 201:=.of zk
instance:Za 203:=.of zk
instance:Za 204:=.of zk
instance:Za 205:=.of zk
instance:Za 208:=.of zk
instance:Za 220:=.of zk
instance:Za 225:=.of zk
instance:Za 226:=.of zk
instance:Za 227:=.of zk
instance:Za 228:=.of zk
instance:Za 229:=.of zk
instance:Za 230:=.of zk
instance:Za 231:=.of zk
instance:Za 233:=.of zk
instance:Za 234:=.of zk
instance:Za 252:=.of zk
instance:Za 253:=.of zk
instance:Za 254:=.of zk
instance:Za 255:=.of zk
instance:Za 256:=.of zk
instance:Za 257:=.of zk
instance:Za 258:=.of zk
instance:Za 259:=.of zk
instance:Za 270:=.of zk
instance:Za 271:=.of zk
instance:Za 272:=.of zk
open Go.GL Go.RowKit Go.ia
noncomputable abbrev KC(B0:Nat)(w0:World):Ctx:=⟨Tryz.prog,B0,w0⟩
attribute [local irreducible] Ea fb Ya ca Go.GL.Pure ve Oe Kd
variable{B0:Nat}{w0:World}
theorem YZ(c:UInt8):ca (KC B0 w0) 137 [int .u8 c.toNat] [] (Qb (bool (me c))):=by refine kb Tryz.func137 rfl (n:=9) rfl rfl rfl ?_;refine wa ?_;refine oB 5 rfl (λht=>?_) λht=>?_;refine Na ?_;exact qb rfl (eb rfl) (by simp[Dh,me,ht]);refine Da ?_;exact qb rfl (eb rfl) (by simp[Dh,me,ht])
theorem D0(c:UInt8):ca (KC B0 w0) 139 [int .u8 c.toNat] [] (Qb (bool (tl c))):=by refine kb Tryz.func139 rfl (n:=9) rfl rfl rfl ?_;refine wa ?_;refine oB 5 rfl (λht=>?_) λht=>?_;refine Na ?_;exact qb rfl (eb rfl) (by simp[Dh,tl,ht]);refine Da ?_;exact qb rfl (eb rfl) (by simp[Dh,tl,ht])
theorem qrv(c:UInt8):ca (KC B0 w0) 135 [int .u8 c.toNat] [] (Qb (bool (pX c))):=by refine kb Tryz.func135 rfl (n:=5) rfl rfl rfl ?_;refine wa ?_;exact qb rfl (eb rfl) rfl
theorem qrK(c:UInt8):ca (KC B0 w0) 196 [int .u8 c.toNat] [] (Qb (bool (Ni c))):=by refine kb Tryz.func196 rfl (n:=13) rfl rfl rfl ?_;refine di ?_;refine oS (sF [_] rfl (D0 c) ?_);refine fi ?_;refine oB 5 rfl (λht=>?_) λht=>?_;refine Da ?_;exact qb rfl (eb rfl) (by simp[Dh,Ni,ht]);refine fi ?_;refine oS (sF [_] rfl (YZ c) ?_);refine Da ?_;refine oB 9 rfl (λhd=>?_) λhd=>?_;refine Da ?_;exact qb rfl (eb rfl) (by simp[Dh,Ni,ht,hd]);refine Da ?_;exact qb rfl (eb rfl) (by simp[Dh,Ni,ht,hd])
theorem qr1(c:UInt8):ca (KC B0 w0) 136 [int .u8 c.toNat] [] (Qb (bool (sM c))):=by refine kb Tryz.func136 rfl (n:=13) rfl rfl rfl ?_;refine xa ?_;refine oB 5 rfl (λht=>?_) λht=>?_;refine Da ?_;exact qb rfl (eb rfl) (by simp[Dh,sM,ht]);refine Da ?_;refine oB 9 rfl (λhd=>?_) λhd=>?_;refine Da ?_;exact qb rfl (eb rfl) (by simp[Dh,sM,ht,hd]);refine Da ?_;exact qb rfl (eb rfl) (by simp[Dh,sM,ht,hd])
end Go.Proofs.YtmnjklgnhpnckaaGreatDoor
namespace Go.Proofs.YtmnjklgnhpnckaaGreatDoor
open Go.GL Go.RowKit Go.ia
mutual
def jq:Ex->List LV
 |.mk _ _ _ a=>fP a
def fP:List Ex->List LV
 |[]=>[]
 |e::r=>.agg [str (vi e),int .u32 (Hr e),str (Lr e),.list (jq e)]::fP r
end
def Ab(e:Ex):LV:=.agg [str (vi e),int .u32 (Hr e),str (Lr e),.list (jq e)]
theorem qn6:∀ l:List Ex,fP l=l.map Ab
 |[]=>by simp[fP]
 |e::r=>by rw[fP,qn6 r];try rfl
theorem qj7(o:List UInt8)(n:Nat)(nm:List UInt8)(a:List Ex):jq (.mk o n nm a)=a.map Ab:=by rw[jq,qn6]
theorem uB(o:List UInt8)(n:Nat)(nm:List UInt8)(a:List Ex):Ab (.mk o n nm a)=.agg [str o,int .u32 n,str nm,.list (a.map Ab)]:=by rw[Ab,qj7];try rfl
mutual
def KX:Sm->List LV
 |.mk _ _ _ _ t _=>SL t
def WX:Sm->List LV
 |.mk _ _ _ _ _ e=>SL e
def SL:List Sm->List LV
 |[]=>[]
 |s::r=>.agg [int .i64 (I8 s),str (R8 s),.list ((V' s).map Ab),.list ((E9 s).map Ab),.list (KX s),.list (WX s)]::SL r
end
def lc(s:Sm):LV:=.agg [int .i64 (I8 s),str (R8 s),.list ((V' s).map Ab),.list ((E9 s).map Ab),.list (KX s),.list (WX s)]
theorem pZ:∀ l:List Sm,SL l=l.map lc
 |[]=>by simp[SL]
 |e::r=>by rw[SL,pZ r];try rfl
theorem Mv(k:Int)(n:List UInt8)(i v:List Ex)(t e:List Sm):lc (.mk k n i v t e)=.agg [int .i64 k,str n,.list (i.map Ab),.list (v.map Ab),.list (t.map lc),.list (e.map lc)]:=by rw[lc,KX,WX,pZ,pZ];try rfl
def zJ(a:Ar):LV:=.agg [str a.name,int .i64 a.size]
def pg(f:Pb):LV:=.agg [str f.name,.list (f.params.map str),.list (f.locals.map str),.list (f.body.map lc)]
def Av(p:Pr):LV:=.agg [.list (p.vars.map str),.list (p.ba.map zJ),.list (p.funcs.map pg)]
end Go.Proofs.YtmnjklgnhpnckaaGreatDoor
namespace Go.ia.Wi.Wc.Q
open Go.Lib
variable{K a b c n num v:Nat}{P:Pr}{X Y:List Nm}{name op:Nm}{s s':IS}{vs:List Nat}{x:Ex}
abbrev eN(n:Nat):Ex:=.mk [110,117,109] n [] []
abbrev eV(n:Nm):Ex:=.mk [118,97,114] 0 n []
abbrev eE(n:Nm)(x:Ex):Ex:=.mk [101,108,101,109] 0 n [x]
abbrev eC(n:Nm)(xs:List Ex):Ex:=.mk [99,97,108,108] 0 n xs
abbrev eB(p:Nm)(x y:Ex):Ex:=.mk p 0 [] [x,y]
abbrev sA(n:Nm)(x:Ex):Sm:=.mk 1 n [] [x] [] []
abbrev sE(n:Nm)(y x:Ex):Sm:=.mk 2 n [y] [x] [] []
abbrev sI(x:Ex)(a b:List Sm):Sm:=.mk 3 [] [] [x] a b
abbrev sW(x:Ex)(a:List Sm):Sm:=.mk 4 [] [] [x] a []
abbrev sR(x:Ex):Sm:=.mk 5 [] [] [x] [] []
abbrev sX(x:Ex):Sm:=.mk 6 [] [] [x] [] []
abbrev ky(f x:Nm):Nm:=f++[46]++x
abbrev Ms{A:Type}(c:Bool)(x y:A):A:=match c with
 |true=>x
 |false=>y
theorem CJ{A:Type}(c:Prop) [Decidable c](x y:A):Ms (decide c) x y=if c then x else y:=by by_cases h:c;rw[zp h,Nf h];rw[zn h,decide_eq_false h]
def Wb(a b:Nat):Nat:=(a+b) % 4294967296
def zy(a b:Nat):Nat:=(a+4294967296-b) % 4294967296
def fc(a b:Nat):Nat:=a * b % 4294967296
def Bn(a b:Nat):Nat:=a ^^^ b
def mJ(a b:Nat):Nat:=kf (decide (a=b))
def lJ(a b:Nat):Nat:=kf (decide (a≠b))
def Zh(a b:Nat):Nat:=kf (decide (a<b))
def OL(a b:Nat):Nat:=kf (decide (b<a))
def wle(a b:Nat):Nat:=kf (decide (a<=b))
def wge(a b:Nat):Nat:=kf (decide (b<=a))
def QA(a b:Nat):Nat:=kf (decide (a≠0/\b≠0))
def OW(a b:Nat):Nat:=kf (decide (a≠0∨b≠0))
def cg(a b:Nat):Nat:=a / b
def lr(a b:Nat):Nat:=a % b
def RW(a:Nat):Nat:=(4294967296-a) % 4294967296
def QW(a:Nat):Nat:=kf (decide (a=0))
def bin(op:Nm)(a b:Nat):Nat:=
 Ms (decide (op=[43])) (Wb a b) (Ms (decide (op=[45])) (zy a b) (Ms (decide (op=[42])) (fc a b) (Ms (decide (op=[94])) (Bn a b) (Ms (decide (op=[61,61])) (mJ a b) (Ms (decide (op=[33,61])) (lJ a b) (Ms (decide (op=[60])) (Zh a b) (Ms (decide (op=[62])) (OL a b) (Ms (decide (op=[60,61])) (wle a b) (Ms (decide (op=[62,61])) (wge a b) (Ms (decide (op=[38,38])) (QA a b) (Ms (decide (op=[124,124])) (OW a b) (Ms (decide (op=[47])) (cg a b) (lr a b)))))))))))))
def IG(op:Nm):Bool:=!(op∈[[43],[45],[42],[94],[61,61],[33,61],[60],[62],[60,61],[62,61],[38,38],[124,124]]:Bool)
theorem Xp{c:Prop} [Decidable c]{x y:Nat}{o:Option Nat}(h:¬c->o=some y):(if c then some x else o)=some (if c then x else y):=by split;rfl;rename_i hc;exact h hc
theorem qv8(h:IG op=true->b≠0):pj op a b=some (bin op a b):=by unfold pj bin;simp only[CJ];refine Xp λh1=>Xp λh2=>Xp λh3=>Xp λh4=>Xp λh5=>Xp λh6=>Xp λh7=>Xp λh8=>Xp λh9=>Xp λha=>Xp λhb=>Xp λhc=>?_;rw[zn (h (by simp[IG,h1,h2,h3,h4,h5,h6,h7,h8,h9,ha,hb,hc]))];exact Xp λ_=>rfl
def Mi(c a b:Nat):Nat:=if c=0 then b else a
theorem tP(h:c≠0):Mi c a b=a:=zn h
def look{A:Type}(k:Nm):List (Nm×A)->Option A
 |[]=>none
 |p::l=>if p.1=k then some p.2 else look k l
def Kc{A:Type}(k:Nm)(x:A):List (Nm×A)->List (Nm×A)
 |[]=>[(k,x)]
 |p::l=>if p.1=k then (k,x)::l else p::Kc k x l
theorem OP{A:Type}(j k:Nm)(x:A):∀ l:List (Nm×A),look j (Kc k x l)=if k=j then some x else look j l
 |[]=>by show(if k=j then some x else none)=_;split <;> rfl
 |p::l=>by
  unfold Kc;by_cases h:p.1=k;rw[zp h];show(if k=j then some x else look j l)=(if k=j then some x else if p.1=j then some p.2 else look j l);split;rfl;rw[zn (by rw[h];assumption)];rw[zn h];show(if p.1=j then some p.2 else look j (Kc k x l))=if k=j then some x else if p.1=j then some p.2 else look j l
  rw[OP j k x l];by_cases h2:p.1=j;rw[zp h2,zp h2,zn (λe=>h (h2.trans e.symm))];rw[zn h2,zn h2]
abbrev Li(g:Nat->Nat)(i x:Nat):Nat->Nat:=λj=>Ms (decide (j=i)) x (g j)
theorem qv3(n:Nat)(g:Nat->Nat)(i x:Nat):((List.range n).map g).set i x=(List.range n).map (Li g i x):=by apply List.ext_getElem;simp only[List.length_set,Db];intro j h1 h2;simp only[List.getElem_set,List.getElem_map,List.getElem_range,Li,CJ];by_cases e:i=j;rw[zp e,zp e.symm];rw[zn e,zn (λh=>e h.symm)]
abbrev Fa:=Nat×(Nat->Nat)
structure Tt where
 v:List (Nm×Nat)
 a:List (Nm×Fa)
 i:List Nat
 o:List UInt8
def my(o:Option Fa)(l:List Nat):List Nat:=match o with
 |some p=>(List.range p.1).map p.2
 |none=>l
def put(s:IS)(t:Tt):IS:=⟨λk=>(look k t.v).getD (s.sc k),λk=>my (look k t.a) (s.ar k),t.i,t.o,s.left⟩
theorem gF(h1:∀ k,s.sc k=s'.sc k)(h2:∀ k,s.ar k=s'.ar k)(h3:s.Ia=s'.Ia)(h4:s.out=s'.out)(h5:s.left=s'.left):s=s':=by obtain⟨a,b,c,d,e⟩:=s;obtain⟨a',b',c',d',e'⟩:=s';simp only at h1 h2 h3 h4 h5;obtain rfl:=funext h1;obtain rfl:=funext h2;rw[h3,h4,h5]
theorem qye(s:IS)(t:Tt)(k:Nm)(x:Nat):Sf (put s t) k x=put s { t with v:=Kc k x t.v }:=by
 refine gF (λj=>?_) (λ_=>rfl) rfl rfl rfl;show(if j=k then x else (look j t.v).getD (s.sc j))=(look j (Kc k x t.v)).getD (s.sc j);rw[OP];by_cases h:j=k
 ·rw[zp h,zp h.symm];try rfl
 rw[zn h,zn (λe=>h e.symm)]
theorem qwp(s:IS)(t:Tt)(k:Nm)(n:Nat)(g:Nat->Nat)(i x:Nat)(h:look k t.a=some (n,g)):dX (put s t) k i x=put s { t with a:=Kc k (n,Li g i x) t.a }:=by
 refine gF (λ_=>rfl) (λj=>?_) rfl rfl rfl;show(if j=k then (my (look k t.a) (s.ar k)).set i x else my (look j t.a) (s.ar j))=my (look j (Kc k (n,Li g i x) t.a)) (s.ar j);rw[OP]
 by_cases hj:j=k;rw[zp hj,zp hj.symm,h];exact qv3 n g i x;rw[zn hj,zn (λe=>hj e.symm)]
theorem Z7{t:Tt}{k:Nm}{g:Nat->Nat}(h:look k t.a=some (n,g)):(put s t).ar k=(List.range n).map g:=by show my (look k t.a) (s.ar k)=_;rw[h];try rfl
def Fr(X:List Nm)(s s':IS):Prop:=(∀ k,k ∉ X->s'.sc k=s.sc k)/\s'.ar=s.ar
theorem Fr.refl(X:List Nm)(s:IS):Fr X s s:=⟨λ_ _=>rfl,rfl⟩
theorem Fr.trans{X:List Nm}{s s1 s2:IS}(h:Fr X s s1)(g:Fr X s1 s2):Fr X s s2:=⟨λk hk=>(g.1 k hk).trans (h.1 k hk),g.2.trans h.2⟩
theorem Fr.sub{X:List Nm}(h:Fr X s s')(hs:∀ k∈X,k∈Y):Fr Y s s':=⟨λk hk=>h.1 k λe=>hk (hs k e),h.2⟩
section
variable(P:Pr)(X:List Nm)
def Ox(f:Pb)(name:Nm)(vs:List Nat)(t:Tt)(K v:Nat)(t':Tt):Prop:=∀ (num:Nat) (s:IS),∃ s',Op P f eg num name vs (put s t) K v (put s' t')/\Fr X s s'
def Ex'(f:Pb)(x:Ex)(t:Tt)(K v:Nat)(t':Tt):Prop:=∀ s,∃ s',Ev P f x (put s t) K v (put s' t')/\Fr X s s'
def Sx(f:Pb)(a:Sm)(t:Tt)(K:Nat)(r:Option Nat)(t':Tt):Prop:=∀ s,∃ s',St P f a (put s t) K r (put s' t')/\Fr X s s'
def Bx(f:Pb)(b:List Sm)(t:Tt)(K:Nat)(r:Option Nat)(t':Tt):Prop:=∀ s,∃ s',Bl P f b (put s t) K r (put s' t')/\Fr X s s'
def Wx(f:Pb)(x:Ex)(b:List Sm)(v:Nat)(t:Tt)(K:Nat)(r:Option Nat)(t':Tt):Prop:=∀ s,∃ s',Wh P f x b v (put s t) K r (put s' t')/\Fr X s s'
end
def Fh(X:List Nm)(l:List (Nm×Nat)):Bool:=l.all λp=>!decide (p.1∈X)
theorem sU{X:List Nm}{k:Nm}(hk:k∈X):∀ {l:List (Nm×Nat)},Fh X l=true->look k l=none
 |[],_=>rfl
 |p::l,h=>by unfold Fh at h;rw[all_cons,sd] at h;show(if p.1=k then some p.2 else look k l)=none;rw[zn,sU hk h.2];intro e;rw[e] at h;simp only[hk,decide_true,Bool.not_true,Uk,false_and] at h
def over{A:Type}(l:List (Nm×A)):List (Nm×A)->List (Nm×A)
 |[]=>l
 |p::m=>Kc p.1 p.2 (over l m)
theorem kZ{A:Type}(k:Nm)(l:List (Nm×A)):∀ m:List (Nm×A),look k (over l m)=(look k m).or (look k l)
 |[]=>rfl
 |p::m=>by show look k (Kc p.1 p.2 (over l m))=(if p.1=k then some p.2 else look k m).or (look k l);rw[OP,kZ k l m];try split <;> rfl
def pick{A:Type}(l:List (Nm×A)):List Nm->List (Nm×Option A)
 |[]=>[]
 |k::ks=>(k,look k l)::pick l ks
theorem qZ{A:Type}{l:List (Nm×A)}:∀ {m:List (Nm×A)},pick l (m.map (·.1))=m.map (λp=>(p.1,some p.2))->∀ k x,look k m=some x->look k l=some x
 |[],_,k,x,h=>by cases h
 |p::m,e,k,x,h=>by rw[jd,jd,pick,List.cons.injEq,Prod.mk.injEq] at e;by_cases hp:p.1=k;rw[look,zp hp] at h;rw[<-hp,e.1.2,h];rw[look,zn hp] at h;exact qZ e.2 k x h
theorem Ox.frame{f:Pb}{t0 Rl t:Tt}(h:Ox P X f name vs t0 K v Rl)(hd:Fh X t.v=true)(hv:∀ k x,look k t0.v=some x->look k t.v=some x)(ha:∀ k x,look k t0.a=some x->look k t.a=some x)(hi:t.i=t0.i)(ho:t.o=t0.o) :
  Ox P X f name vs t K v ⟨over t.v Rl.v,over t.a Rl.a,Rl.i,Rl.o⟩:=by
 intro num s;have e1:put (put s t) t0=put s t:=by
  refine gF (λk=>?_) (λk=>?_) hi.symm ho.symm rfl
  ·show(look k t0.v).getD ((look k t.v).getD (s.sc k))=(look k t.v).getD (s.sc k)
   cases hk:look k t0.v with
   |none=>rfl
   |some x=>rw[hv k x hk];try rfl
  show my (look k t0.a) (my (look k t.a) (s.ar k))=my (look k t.a) (s.ar k);cases hk:look k t0.a with
  |none=>rfl
  |some x=>rw[ha k x hk];try rfl
 obtain⟨s1,h1,h2⟩:=h num (put s t);rw[e1] at h1;refine⟨⟨λk=>if k∈X then s1.sc k else s.sc k,s.ar,s1.Ia,s1.out,s1.left⟩,?_,λk hk=>zn hk,rfl⟩
 have e2:put s1 Rl=put ⟨λk=>if k∈X then s1.sc k else s.sc k,s.ar,s1.Ia,s1.out,s1.left⟩ ⟨over t.v Rl.v,over t.a Rl.a,Rl.i,Rl.o⟩:=by
  refine gF (λk=>?_) (λk=>?_) rfl rfl rfl
  ·show(look k Rl.v).getD (s1.sc k)=(look k (over t.v Rl.v)).getD (if k∈X then s1.sc k else s.sc k);rw[kZ]
   cases look k Rl.v with
   |some x=>rfl
   |none=>
    show s1.sc k=(look k t.v).getD _;by_cases hk:k∈X
    ·rw[zp hk,sU hk hd];try rfl
    rw[zn hk,h2.1 k hk];try rfl
  show my (look k Rl.a) (s1.ar k)=my (look k (over t.a Rl.a)) (s.ar k);rw[kZ,h2.2];cases look k Rl.a with
  |some x=>rfl
  |none=>rfl
 rw[e2] at h1;exact h1
structure Ph where
 val:List Nat->Tt->Nat
 tr:List Nat->Tt->Tt
 cond:List Nat->Tt->List Prop
 pure:Bool
def Ph.nx(e:Ph)(vs:List Nat)(t:Tt):Tt:=if e.pure=true then t else e.tr vs t
abbrev SI:=List (Nm×Ph)
abbrev Ks:=List (Nm×Nat)
def rj:List Prop->Prop
 |[]=>True
 |p::l=>p/\rj l
theorem Kv:∀ {l m:List Prop},rj (l++m)->rj l/\rj m
 |[],m,h=>⟨trivial,h⟩
 |p::l,m,h=>⟨⟨h.1,(Kv h.2).1⟩,(Kv h.2).2⟩
abbrev Pf:=List { p:Prop // p }
abbrev pf{p:Prop}(h:p):{ p:Prop // p }:=⟨p,h⟩
abbrev pb{p:Prop} [Decidable p](h:p):{ p:Prop // p }:=⟨decide p=true,Nf h⟩
theorem IP:∀ l:Pf,rj (l.map Subtype.val)
 |[]=>trivial
 |p::l=>⟨p.2,IP l⟩
def Mf(P:Pr)(X:List Nm)(κ:Ks)(Φ:SI):Prop:=∀ name e,look name Φ=some e->name≠[105,110]/\name≠[111,117,116]/\∀ f vs t,Fh X t.v=true->rj (e.cond vs t)->Ox P X f name vs t ((look name κ).getD 0) (e.val vs t) (e.nx vs t)/\Fh X (e.nx vs t).v=true
section
variable(Φ:SI)(f:Pb)
def GV:Ex->Bool
 |.mk o _ _ l=>decide (o=tf) && l.isEmpty
def Lu:Ex->Nat
 |.mk _ k _ _=>k
def vJ(op:Nm)(name:Nm)(args:List Ex)(t:Tt):Bool:=match args with
 |[x]=>decide (op=Bj) && GV x && (match look name t.a with
  |some p=>decide (Lu x<p.1)
  |none=>false)
 |[_,y]=>decide (op≠tf/\op≠Uf/\op≠Bj/\op≠Ag/\op≠jg/\op≠eg) && GV y && decide (Lu y≠0)
 |_=>false
abbrev h0(l:List Nat):Nat:=match l with
 |[]=>0
 |x::_=>x
abbrev h1(l:List Nat):Nat:=match l with
 |_::y::_=>y
 |_=>0
theorem uS(l:List Nat):h0 l=l.headD 0:=by cases l <;> rfl
theorem tS(l:List Nat):h1 l=l.tail.headD 0:=by
 match l with
 |[]=>rfl
 |[_]=>rfl
 |_::_::_=>rfl
abbrev XR:=Nat×Tt×List Prop
def OE(op:Nm)(num:Nat)(name:Nm)(vs:List Nat)(t:Tt):XR:=
 if op=tf then (num,t,[])
 else if op=Uf then (match look (dc f name) t.v with
  |some x=>(x,t,[])
  |none=>(0,t,[False]))
 else if op=Bj then (match look name t.a with
  |some p=>(p.2 (h0 vs),t,[decide (h0 vs<p.1)=true])
  |none=>(0,t,[False]))
 else if op=Ag then (RW (h0 vs),t,[])
 else if op=jg then (QW (h0 vs),t,[])
 else if op=eg then
  if name=[105,110] then (match vs with
   |[]=>(t.i.headD 4294967295,{ t with i:=t.i.tail },[])
   |_=>(0,t,[False]))
  else if name=[111,117,116] then (match vs with
   |[x]=>(0,{ t with o:=t.o++[UInt8.ofNat x] },[])
   |_=>(0,t,[False]))
  else (match look name Φ with
   |some e=>(e.val vs t,e.nx vs t,e.cond vs t)
   |none=>(0,t,[False]))
 else (bin op (h0 vs) (h1 vs),t,if IG op=true then [decide (h1 vs≠0)=true] else [])
mutual
def xE:Ex->Tt->XR
 |.mk op num name args,t=>
  let r:=um args t
  let q:=OE Φ f op num name r.1 r.2.1
  (q.1,q.2.1,r.2.2++if vJ op name args r.2.1=true then [] else q.2.2)
def um:List Ex->Tt->List Nat×Tt×List Prop
 |[],t=>([],t,[])
 |x::l,t=>
  let r:=xE x t
  let q:=um l r.2.1
  (r.1::q.1,q.2.1,r.2.2++q.2.2)
end
def rep{A:Type}(k:Nm)(x:A):List (Nm×A)->List (Nm×A)
 |[]=>[]
 |p::l=>if p.1=k then (k,x)::l else p::rep k x l
def Gk{A:Type}(se:A->A->A)(ks:List Nm):List (Nm×A)->List (Nm×A)->List (Nm×A)
 |p::l,q::m=>(if p.1∈ks then (p.1,se p.2 q.2) else p)::Gk se ks l m
 |l,_=>l
def So(c:Nat)(p q:Fa):Fa:=(p.1,λj=>Mi c (p.2 j) (q.2 j))
mutual
def Uv:Sm->List Nm×List Nm
 |.mk kind name ix val th el=>if kind=1 then ([dc f name],[]) else if kind=2 then ([],[name]) else if kind=3 then ((uf th).1++(uf el).1,(uf th).2++(uf el).2) else ([],[])
def uf:List Sm->List Nm×List Nm
 |[]=>([],[])
 |a::l=>((Uv a).1++(uf l).1,(Uv a).2++(uf l).2)
end
mutual
def lK:Ex->Bool
 |.mk op num name args=>WG args && (decide (op≠eg) || (decide (name≠[105,110]) && decide (name≠[111,117,116]) && match look name Φ with
  |some e=>e.pure
  |none=>false))
def WG:List Ex->Bool
 |[]=>true
 |x::l=>lK x && WG l
end
mutual
def mK:Sm->Bool
 |.mk kind name ix val th el=>WG Φ ix && WG Φ val && (Fm th && Fm el)
def Fm:List Sm->Bool
 |[]=>true
 |a::l=>mK a && Fm l
end
mutual
def xS:Sm->Tt->Tt×List Prop
 |.mk kind name ix val th el,t=>match val with
  |[]=>(t,[False])
  |x::_=>
   let r:=xE Φ f x t
   if kind=1 then ({ r.2.1 with v:=rep (dc f name) r.1 r.2.1.v },r.2.2++match look (dc f name) r.2.1.v with
    |some _=>[]
    |none=>[False])
   else if kind=2 then (match ix with
    |[]=>(t,[False])
    |y::_=>
     let q:=xE Φ f y r.2.1
     match look name q.2.1.a with
     |some p=>({ q.2.1 with a:=rep name (p.1,Li p.2 q.1 r.1) q.2.1.a },r.2.2++q.2.2++if vJ Bj name [y] q.2.1=true then [] else [decide (q.1<p.1)=true])
     |none=>(t,[False]))
   else if kind=6 then (r.2.1,r.2.2)
   else if kind=3 then
    let p:=xB th r.2.1
    let q:=xB el r.2.1
    (⟨Gk (Mi r.1) ((uf f th).1++(uf f el).1) p.1.v q.1.v,Gk (So r.1) ((uf f th).2++(uf f el).2) p.1.a q.1.a,r.2.1.i,r.2.1.o⟩,r.2.2++(p.2.map λw=>r.1≠0->w)++(q.2.map λw=>r.1=0->w)++if Fm Φ th && Fm Φ el then [] else [False])
   else (t,[False])
def xB:List Sm->Tt->Tt×List Prop
 |[],t=>(t,[])
 |a::l,t=>
  let r:=xS a t
  let q:=xB l r.1
  (q.1,r.2++q.2)
end
def xW(x:Ex)(th:List Sm):Nat->Tt->Tt×List Prop
 |0,t=>
  let r:=xE Φ f x t
  (r.2.1,r.2.2++if r.1=0 then [] else [False])
 |n+1,t=>
  let r:=xE Φ f x t
  let q:=xB Φ f th r.2.1
  let z:=xW x th n q.1
  (z.1,r.2.2++(if r.1=0 then [False] else [])++q.2++z.2)
end
mutual
def cX(κ:Ks):Ex->Nat
 |.mk op num name args=>wE op num name args.length+QS κ args+(if op=eg then (look name κ).getD 0 else 0)
def QS(κ:Ks):List Ex->Nat
 |[]=>0
 |x::l=>cX κ x+QS κ l
end
mutual
def cS(κ:Ks):Sm->Nat
 |.mk kind name ix val th el=>wS kind el+cX κ (val.headD default)+if kind=2 then cX κ (ix.headD default) else if kind=3 then max (cB κ th) (cB κ el) else 0
def cB(κ:Ks):List Sm->Nat
 |[]=>0
 |a::l=>cS κ a+cB κ l
end
theorem FY{c:Prop}(hc:c):∀ {l:List Prop},rj (l.map λw=>c->w)->rj l
 |[],_=>trivial
 |p::l,h=>⟨h.1 hc,FY hc h.2⟩
theorem EY{A:Type}(j k:Nm)(x:A):∀ l:List (Nm×A),look k l≠none->look j (rep k x l)=if k=j then some x else look j l
 |[],h=>absurd rfl h
 |p::l,h=>by
  unfold rep;by_cases hp:p.1=k;rw[zp hp];show(if k=j then some x else look j l)=(if k=j then some x else if p.1=j then some p.2 else look j l);split;rfl;rw[zn (by rw[hp];assumption)];rw[look,zn hp] at h;rw[zn hp];show(if p.1=j then some p.2 else look j (rep k x l))=if k=j then some x else if p.1=j then some p.2 else look j l
  rw[EY j k x l h];by_cases h2:p.1=j;rw[zp h2,zp h2,zn (λe=>hp (h2.trans e.symm))];rw[zn h2,zn h2]
theorem D'{X:List Nm}(k:Nm)(x:Nat):∀ {l:List (Nm×Nat)},Fh X l=true->Fh X (rep k x l)=true
 |[],_=>rfl
 |p::l,h=>by unfold Fh at h;rw[all_cons,sd] at h;unfold rep Fh;split;rename_i hp;rw[all_cons,sd];exact⟨by rw[<-hp];exact h.1,h.2⟩;rw[all_cons,sd];exact⟨h.1,D' k x h.2⟩
def Ih{A:Type}(R:A->A->Prop)(ks:List Nm):List (Nm×A)->List (Nm×A)->Prop
 |[],[]=>True
 |p::l,q::m=>p.1=q.1/\R p.2 q.2/\(p.1 ∉ ks->p.2=q.2)/\Ih R ks l m
 |_,_=>False
section
variable{A:Type}{R:A->A->Prop}{ks XH:List Nm}
theorem Ih.refl(hR:∀ a,R a a):∀ l:List (Nm×A),Ih R ks l l
 |[]=>trivial
 |p::l=>⟨rfl,hR _,λ_=>rfl,Ih.refl hR l⟩
theorem Ih.trans(hR:∀ a b c,R a b->R b c->R a c):∀ {l m n:List (Nm×A)},Ih R ks l m->Ih R ks m n->Ih R ks l n
 |[],[],[],_,_=>trivial
 |p::l,q::m,r::n,h,g=>⟨h.1.trans g.1,hR _ _ _ h.2.1 g.2.1,λhk=>(h.2.2.1 hk).trans (g.2.2.1 (h.1▸hk)),Ih.trans hR h.2.2.2 g.2.2.2⟩
 |[],_::_,_,h,_=>h.elim
 |_::_,[],_,h,_=>h.elim
 |[],[],_::_,_,g=>g.elim
 |_::_,_::_,[],_,g=>g.elim
theorem Ih.symm(hR:∀ a b,R a b->R b a):∀ {l m:List (Nm×A)},Ih R ks l m->Ih R ks m l
 |[],[],_=>trivial
 |p::l,q::m,h=>⟨h.1.symm,hR _ _ h.2.1,λhk=>(h.2.2.1 (h.1▸hk)).symm,Ih.symm hR h.2.2.2⟩
 |[],_::_,h=>h.elim
 |_::_,[],h=>h.elim
theorem Ih.sub(hs:∀ k∈ks,k∈XH):∀ {l m:List (Nm×A)},Ih R ks l m->Ih R XH l m
 |[],[],_=>trivial
 |p::l,q::m,h=>⟨h.1,h.2.1,λhk=>h.2.2.1 λe=>hk (hs _ e),Ih.sub hs h.2.2.2⟩
 |[],_::_,h=>h.elim
 |_::_,[],h=>h.elim
theorem Ih.rep(hR:∀ a,R a a){k:Nm}(hk:k∈ks)(x:A):∀ {l:List (Nm×A)},(∀ y,look k l=some y->R y x)->Ih R ks l (Q.rep k x l)
 |[],_=>trivial
 |p::l,h=>by unfold Q.rep;by_cases hp:p.1=k;rw[zp hp];exact⟨hp,h _ (by rw[look,zp hp]),λe=>absurd (hp▸hk) e,Ih.refl hR l⟩;rw[zn hp];exact⟨rfl,hR _,λ_=>rfl,Ih.rep hR hk x λy hy=>h y (by rw[look,zn hp];exact hy)⟩
theorem YO{se:A->A->A}(hs:∀ a b,R a b->se a b=a):∀ {l m:List (Nm×A)},Ih R ks l m->Gk se ks l m=l
 |[],[],_=>rfl
 |p::l,q::m,h=>by rw[Gk,YO hs h.2.2.2,hs _ _ h.2.1];try split <;> rfl
 |[],_::_,h=>h.elim
 |_::_,[],h=>h.elim
theorem ZO{se:A->A->A}(hs:∀ a b,R a b->se a b=b):∀ {l m:List (Nm×A)},Ih R ks l m->Gk se ks l m=m
 |[],[],_=>rfl
 |p::l,q::m,h=>by rw[Gk,ZO hs h.2.2.2,hs _ _ h.2.1];split;rw[h.1];rename_i hk;rw[show p=q from Prod.ext h.1 (h.2.2.1 hk)]
 |[],_::_,h=>h.elim
 |_::_,[],h=>h.elim
end
def RV(_ _:Nat):Prop:=True
def RA(p q:Fa):Prop:=p.1=q.1
theorem RA.refl(p:Fa):RA p p:=rfl
theorem RA.symm(p q:Fa)(h:RA p q):RA q p:=Eq.symm h
theorem RA.trans(p q r:Fa)(h:RA p q)(g:RA q r):RA p r:=Eq.trans h g
theorem RV.refl(p:Nat):RV p p:=trivial
theorem RV.symm(p q:Nat)(h:RV p q):RV q p:=trivial
theorem RV.trans(p q r:Nat)(h:RV p q)(g:RV q r):RV p r:=trivial
theorem Z'(h:c≠0)(p q:Fa):So c p q=p:=Prod.ext rfl (funext λj=>tP h)
theorem K8(h:c=0){p q:Fa}(hr:RA p q):So c p q=q:=by subst h;exact Prod.ext hr rfl
def Hu(ks js:List Nm)(t t':Tt):Prop:=Ih RV ks t.v t'.v/\Ih RA js t.a t'.a/\t'.i=t.i/\t'.o=t.o
theorem Hu.refl(ks js:List Nm)(t:Tt):Hu ks js t t:=⟨Ih.refl RV.refl _,Ih.refl RA.refl _,rfl,rfl⟩
theorem Hu.trans{ks js:List Nm}{t t1 t2:Tt}(h:Hu ks js t t1)(g:Hu ks js t1 t2):Hu ks js t t2:=⟨Ih.trans RV.trans h.1 g.1,Ih.trans RA.trans h.2.1 g.2.1,g.2.2.1.trans h.2.2.1,g.2.2.2.trans h.2.2.2⟩
theorem Hu.sub{ks js XH js':List Nm}{t t1:Tt}(h:Hu ks js t t1)(h1:∀ k∈ks,k∈XH)(h2:∀ k∈js,k∈js'):Hu XH js' t t1:=⟨h.1.sub h1,h.2.1.sub h2,h.2.2⟩
section
variable{Φ:SI}{f:Pb}
theorem zQ{t:Tt}(h:(decide (op≠eg) || (decide (name≠[105,110]) && decide (name≠[111,117,116]) && match look name Φ with
  |some e=>e.pure
  |none=>false))=true):(OE Φ f op num name vs t).2.1=t:=by
 unfold OE;split;rfl;split;split <;> rfl;split;split <;> rfl;split;rfl;split;rfl;split
 rename_i ho;rw[ho] at h;simp only[ne_eq,not_true_eq_false,decide_false,Bool.false_or,sd,Gg] at h;rw[zn h.1.1,zn h.1.2];have h2:=h.2;split;rename_i e he;rw[he] at h2;show e.nx vs t=t;unfold Ph.nx;exact zp h2;rfl;rfl
mutual
theorem nK:∀ (x:Ex) (t:Tt),lK Φ x=true->(xE Φ f x t).2.1=t
 |.mk op num name args,t,h=>by rw[lK,sd] at h;rw[xE];have:=M7 args t h.1;simp only[this];exact zQ h.2
theorem M7:∀ (l:List Ex) (t:Tt),WG Φ l=true->(um Φ f l t).2.1=t
 |[],t,_=>by rw[um]
 |x::l,t,h=>by rw[WG,sd] at h;rw[um];have h1:=nK x t h.1;have h2:=M7 l t h.2;simp only[h1,h2]
end
mutual
theorem agS:∀ (a:Sm) (t:Tt),mK Φ a=true->Hu (Uv f a).1 (Uv f a).2 t (xS Φ f a t).1
 |.mk kind name ix val th el,t,h=>by
  rw[mK,sd,sd,sd] at h;rw[xS.eq_def];simp only;cases val with
  |nil=>exact Hu.refl _ _ _
  |cons x vr=>
   have hx:=h.1.2;rw[WG,sd] at hx;have e1:=nK (f:=f) x t hx.1;simp only[e1];by_cases k1:kind=1;subst k1;rw[Uv,zp rfl,zp rfl];exact⟨Ih.rep RV.refl (List.mem_singleton.mpr rfl) _ λ_ _=>trivial,Ih.refl RA.refl _,rfl,rfl⟩
   by_cases k2:kind=2;subst k2;rw[Uv,zn fa,zp rfl,zn fa,zp rfl];cases ix with
   |nil=>exact Hu.refl _ _ _
   |cons y yr=>
    have hy:=h.1.1;rw[WG,sd] at hy;have e2:=nK (f:=f) y t hy.1;simp only[e2];cases hp:look name t.a with
    |none=>exact Hu.refl _ _ _
    |some p=>exact⟨Ih.refl RV.refl _,Ih.rep RA.refl (List.mem_singleton.mpr rfl) _ λz hz=>by rw[hp] at hz;cases hz;rfl,rfl,rfl⟩
   rw[zn k1,zn k2];by_cases k6:kind=6;rw[zp k6];exact Hu.refl _ _ _;rw[zn k6];by_cases k3:kind=3
   ·subst k3;rw[Uv,zn fa,zn fa,zp rfl,zp rfl];have a1:=(WS th t h.2.1).sub (λk hk=>mem_append_left (uf f el).1 hk) λk hk=>mem_append_left (uf f el).2 hk;have a2:=(WS el t h.2.2).sub (λk hk=>mem_append_right (uf f th).1 hk) λk hk=>mem_append_right (uf f th).2 hk;have b1:=Ih.trans RV.trans (Ih.symm RV.symm a1.1) a2.1;have b2:=Ih.trans RA.trans (Ih.symm RA.symm a1.2.1) a2.2.1
    by_cases hc:(xE Φ f x t).1=0
    ·refine⟨?_,?_,rfl,rfl⟩
     ·show Ih RV _ t.v (Gk (Mi (xE Φ f x t).1) _ _ _);rw[ZO (se:=Mi _) (λa b _=>by rw[hc];try rfl) b1];exact a2.1
     show Ih RA _ t.a (Gk (So (xE Φ f x t).1) _ _ _);rw[ZO (se:=So _) (λa b hr=>K8 hc hr) b2];exact a2.2.1
    refine⟨?_,?_,rfl,rfl⟩;show Ih RV _ t.v (Gk (Mi (xE Φ f x t).1) _ _ _);rw[YO (se:=Mi _) (λa b _=>tP hc) b1];exact a1.1;show Ih RA _ t.a (Gk (So (xE Φ f x t).1) _ _ _);rw[YO (se:=So _) (λa b _=>Z' hc a b) b2];exact a1.2.1
   rw[zn k3];exact Hu.refl _ _ _
theorem WS:∀ (b:List Sm) (t:Tt),Fm Φ b=true->Hu (uf f b).1 (uf f b).2 t (xB Φ f b t).1
 |[],t,_=>by rw[xB];exact Hu.refl _ _ _
 |a::l,t,h=>by rw[Fm,sd] at h;rw[xB,uf];exact((agS a t h.1).sub (λk hk=>mem_append_left _ hk) λk hk=>mem_append_left _ hk).trans ((WS l _ h.2).sub (λk hk=>mem_append_right _ hk) λk hk=>mem_append_right _ hk)
end
end
theorem _root_.Go.ia.Wi.Wc.Op.mono{f:Pb}{K1:Nat}(h:Op P f op num name vs s K v s')(hk:K<=K1):Op P f op num name vs s K1 v s':=by obtain⟨k,h1,h2⟩:=h;exact⟨k,by omega,h2⟩
section
variable{P:Pr}{X:List Nm}{κ:Ks}{Φ:SI}{f:Pb}
theorem qAi(hΦ:Mf P X κ Φ){t:Tt}(hd:Fh X t.v=true):∀ q,OE Φ f op num name vs t=q->rj q.2.2 ->
  (∀ s,∃ s',Op P f op num name vs (put s t) (if op=eg then (look name κ).getD 0 else 0) q.1 (put s' q.2.1)/\Fr X s s')/\Fh X q.2.1.v=true:=by
 intro q hq h;unfold OE at hq;simp only[uS,tS] at hq;by_cases h1:op=tf;rw[zp h1] at hq;subst hq h1;exact⟨λs=>⟨s,(Op.pure rfl).mono (zero_le _),Fr.refl _ _⟩,hd⟩;rw[zn h1] at hq
 by_cases h2:op=Uf
 ·rw[zp h2] at hq;subst h2
  cases hl:look (dc f name) t.v with
  |none=>rw[hl] at hq;subst hq;exact h.1.elim
  |some x=>rw[hl] at hq;subst hq;refine⟨λs=>⟨s,?_,Fr.refl _ _⟩,hd⟩;have hp:Op P f Uf num name vs (put s t) 0 ((put s t).sc (dc f name)) (put s t):=Op.pure rfl;rw[show(put s t).sc (dc f name)=x by show(look (dc f name) t.v).getD _=x;rw[hl];try rfl] at hp;exact hp.mono (zero_le _)
 rw[zn h2] at hq;by_cases h3:op=Bj
 ·rw[zp h3] at hq;subst h3
  cases hl:look name t.a with
  |none=>rw[hl] at hq;subst hq;exact h.1.elim
  |some p=>
   rw[hl] at hq;subst hq;refine⟨λs=>⟨s,?_,Fr.refl _ _⟩,hd⟩;have Ja:vs.headD 0<p.1:=ag h.1;have ha:=Z7 (s:=s) hl
   have hp:Op P f Bj num name vs (put s t) 0 (((put s t).ar name).getD (vs.headD 0) 0) (put s t):=Op.pure (by
    show decide (vs.headD 0<((put s t).ar name).length)=true;rw[ha,Db,List.length_range];exact Nf Ja)
   rw[show((put s t).ar name).getD (vs.headD 0) 0=p.2 (vs.headD 0) by
    rw[ha,List.getD_eq_getElem?_getD,List.getElem?_map,List.getElem?_range Ja];try rfl] at hp
   exact hp.mono (zero_le _)
 rw[zn h3] at hq;by_cases h4:op=Ag;rw[zp h4] at hq;subst hq h4;exact⟨λs=>⟨s,(Op.pure rfl).mono (zero_le _),Fr.refl _ _⟩,hd⟩;rw[zn h4] at hq
 by_cases h5:op=jg;rw[zp h5] at hq;subst hq h5;exact⟨λs=>⟨s,(Op.pure rfl).mono (zero_le _),Fr.refl _ _⟩,hd⟩;rw[zn h5] at hq
 by_cases h6:op=eg;rw[zp h6] at hq;subst h6;by_cases n1:name=[105,110];rw[zp n1] at hq;subst n1;cases vs with
 |nil=>subst hq;exact⟨λs=>⟨s,Op.Ia.mono (zero_le _),Fr.refl _ _⟩,hd⟩
 |cons a l=>subst hq;exact h.1.elim
 rw[zn n1] at hq;by_cases n2:name=[111,117,116];rw[zp n2] at hq;subst n2;cases vs with
 |nil=>subst hq;exact h.1.elim
 |cons a l=>
  cases l with
  |nil=>subst hq;exact⟨λs=>⟨s,Op.out.mono (zero_le _),Fr.refl _ _⟩,hd⟩
  |cons b l=>subst hq;exact h.1.elim
 rw[zn n2] at hq;cases hl:look name Φ with
 |none=>rw[hl] at hq;subst hq;exact h.1.elim
 |some e=>rw[hl] at hq;subst hq;obtain⟨_,_,g⟩:=hΦ name e hl;obtain⟨g1,g2⟩:=g f vs t hd h;refine⟨λs=>?_,g2⟩;rw[zp rfl];exact g1 num s
 rw[zn h6] at hq;subst hq;refine⟨λs=>⟨s,?_,Fr.refl _ _⟩,hd⟩
 have hb:pj op (vs.headD 0) (vs.tail.headD 0)=some (bin op (vs.headD 0) (vs.tail.headD 0)):=qv8 λhdv=>by simp only at h;rw[zp hdv] at h;exact ag h.1
 have hp:Op P f op num name vs (put s t) 0 (MO f (put s t) op num name vs) (put s t):=Op.pure (by
  unfold GF;rw[zn h1,zn h2,zn h3,zn h4,zn h5,zn h6,hb];rfl)
 unfold MO at hp;rw[zn h1,zn h2,zn h3,zn h4,zn h5,hb] at hp;exact hp.mono (zero_le _)
theorem xX(k:Nat)(n:Nm)(t:Tt):(xE Φ f (.mk tf k n []) t).1=k/\(xE Φ f (.mk tf k n []) t).2.1=t:=by rw[xE,um];exact⟨rfl,rfl⟩
theorem rY(h:GV x=true):∃ n,x=.mk tf (Lu x) n []:=by obtain⟨o,k,n,l⟩:=x;have h':(decide (o=tf) && l.isEmpty)=true:=h;rw[sd,List.isEmpty_iff] at h';exact⟨n,by rw[ag h'.1,h'.2];try rfl⟩
theorem qvR{args:List Ex}{t:Tt}(h:vJ op name args (um Φ f args t).2.1=true):rj (OE Φ f op num name (um Φ f args t).1 (um Φ f args t).2.1).2.2:=by
 unfold vJ at h;split at h
 ·rename_i x
  rw[sd,sd] at h;have ho:=ag h.1.1;obtain⟨n,hx⟩:=rY h.1.2;have h3:=h.2;subst ho;have e1:(um Φ f [x] t).1=[Lu x]:=by rw[um];simp only;rw[um,hx,(xX _ n t).1];try rfl
  revert h3;generalize (um Φ f [x] t).2.1=t1;intro h3;rw[e1]
  cases hl:look name t1.a with
  |none=>rw[hl] at h3;cases h3
  |some p=>
   rw[hl] at h3;have:OE Φ f Bj num name [Lu x] t1=(match look name t1.a with
    |some p=>(p.2 (Lu x),t1,[decide (Lu x<p.1)=true])
    |none=>(0,t1,[False])):=rfl
   rw[this,hl];exact⟨h3,trivial⟩
 ·rename_i x y
  rw[sd,sd] at h;have ho:=ag h.1.1;obtain⟨n,hy⟩:=rY h.1.2;have h3:=h.2;have e1:(um Φ f [x,y] t).1=[(xE Φ f x t).1,Lu y]:=by rw[um];simp only;rw[um];simp only;rw[um,hy,(xX _ n _).1];try rfl
  generalize (um Φ f [x,y] t).2.1=t1;rw[e1];unfold OE;rw[zn ho.1,zn ho.2.1,zn ho.2.2.1,zn ho.2.2.2.1,zn ho.2.2.2.2.1,zn ho.2.2.2.2.2];show rj (if IG op=true then [decide (Lu y≠0)=true] else []);split;exact⟨h3,trivial⟩;trivial
 cases h
mutual
theorem WL(hΦ:Mf P X κ Φ):∀ (x:Ex) (t:Tt),Fh X t.v=true->rj (xE Φ f x t).2.2->(∀ s,∃ s',Ev P f x (put s t) (cX κ x) (xE Φ f x t).1 (put s' (xE Φ f x t).2.1)/\Fr X s s')/\Fh X (xE Φ f x t).2.1.v=true
 |.mk op num name args,t,hd,h=>by
  rw[xE] at h ⊢;simp only at h ⊢;obtain⟨ha,hb⟩:=Kv h;obtain⟨h1,h2⟩:=o8 hΦ args t hd ha;have hc:rj (OE Φ f op num name (um Φ f args t).1 (um Φ f args t).2.1).2.2:=by by_cases hl:vJ op name args (um Φ f args t).2.1=true;exact qvR hl;rw[zn hl] at hb;exact hb
  obtain⟨g1,g2⟩:=qAi (f:=f) hΦ h2 _ rfl hc;refine⟨λs=>?_,g2⟩;obtain⟨s1,a1,a2⟩:=h1 s;obtain⟨s2,b1,b2⟩:=g1 s1;refine⟨s2,?_,a2.trans b2⟩;rw[cX];exact Ev.mk a1 b1
theorem o8(hΦ:Mf P X κ Φ):∀ (l:List Ex) (t:Tt),Fh X t.v=true->rj (um Φ f l t).2.2->(∀ s,∃ s',Hp P f l (put s t) (QS κ l) (um Φ f l t).1 (put s' (um Φ f l t).2.1)/\Fr X s s')/\Fh X (um Φ f l t).2.1.v=true
 |[],t,hd,_=>by rw[um,QS];exact⟨λs=>⟨s,Hp.nil,Fr.refl _ _⟩,hd⟩
 |x::l,t,hd,h=>by rw[um] at h ⊢;simp only at h ⊢;obtain⟨ha,hb⟩:=Kv h;obtain⟨h1,h2⟩:=WL hΦ x t hd ha;obtain⟨g1,g2⟩:=o8 hΦ l _ h2 hb;refine⟨λs=>?_,g2⟩;obtain⟨s1,a1,a2⟩:=h1 s;obtain⟨s2,b1,b2⟩:=g1 s1;refine⟨s2,?_,a2.trans b2⟩;rw[QS];exact Hp.cons a1 b1
end
mutual
theorem DO(hΦ:Mf P X κ Φ):∀ (a:Sm) (t:Tt),Fh X t.v=true->rj (xS Φ f a t).2->Sx P X f a t (cS κ a) none (xS Φ f a t).1/\Fh X (xS Φ f a t).1.v=true
 |.mk kind name ix val th el,t,hd,h=>by
  rw[xS.eq_def] at h ⊢;simp only at h ⊢;rw[cS];cases val with
  |nil=>exact h.1.elim
  |cons x vr=>
   simp only at h ⊢;have hx:=WL (f:=f) hΦ x t hd;generalize xE Φ f x t=r at h hx ⊢;rw[show(x::vr).headD default=x from rfl];by_cases k1:kind=1
   ·subst k1;rw[zp rfl] at h ⊢;obtain⟨ha,hb⟩:=Kv h;obtain⟨h1,h2⟩:=hx ha;refine⟨λs=>?_,D' _ _ h2⟩;obtain⟨s1,a1,a2⟩:=h1 s;refine⟨s1,?_,a2⟩
    have Fb:look (dc f name) r.2.1.v≠none:=by intro e;rw[e] at hb;exact hb.1
    have q:=St.ly (P:=P) (f:=f) (name:=name) (ix:=ix) (vr:=vr) (th:=th) (el:=el) a1;have e:Sf (put s1 r.2.1) (dc f name) r.1=put s1 { r.2.1 with v:=rep (dc f name) r.1 r.2.1.v }:=by
     refine gF (λj=>?_) (λ_=>rfl) rfl rfl rfl;show(if j=dc f name then r.1 else (look j r.2.1.v).getD (s1.sc j))=(look j (rep (dc f name) r.1 r.2.1.v)).getD (s1.sc j);rw[EY _ _ _ _ Fb];by_cases hj:j=dc f name
     ·rw[zp hj,zp hj.symm];try rfl
     rw[zn hj,zn (λe=>hj e.symm)]
    rw[e] at q;exact q.mono (by show 8+cX κ x<=8+cX κ x+_;omega)
   rw[zn k1] at h ⊢;by_cases k2:kind=2;subst k2;rw[zp rfl] at h ⊢;rw[zp rfl];cases ix with
   |nil=>exact h.1.elim
   |cons y yr=>
    simp only at h ⊢;have hy:=WL (f:=f) hΦ y r.2.1;have ER:vJ Bj name [y] (xE Φ f y r.2.1).2.1=true->∀ p,look name (xE Φ f y r.2.1).2.1.a=some p->(xE Φ f y r.2.1).1<p.1:=by
     intro e p hp;have e':(decide (Bj=Bj) && GV y && (match look name (xE Φ f y r.2.1).2.1.a with
      |some p=>decide (Lu y<p.1)
      |none=>false))=true:=e
     rw[sd,sd,hp] at e';obtain⟨n,hn⟩:=rY e'.1.2;rw[hn,(xX _ n _).1];exact ag e'.2
    generalize xE Φ f y r.2.1=q at h hy ER ⊢;cases hl:look name q.2.1.a with
    |none=>rw[hl] at h;exact h.1.elim
    |some p=>
     rw[hl] at h;simp only at h ⊢;obtain⟨yz,hc⟩:=Kv h;obtain⟨ha,hb⟩:=Kv yz;obtain⟨h1,h2⟩:=hx ha;obtain⟨g1,g2⟩:=hy h2 hb;refine⟨λs=>?_,g2⟩;obtain⟨s1,a1,a2⟩:=h1 s;obtain⟨s2,b1,b2⟩:=g1 s1;refine⟨s2,?_,a2.trans b2⟩
     have Ja:q.1<p.1:=by by_cases Ja:vJ Bj name [y] q.2.1=true;exact ER Ja p hl;rw[zn Ja] at hc;exact ag hc.1
     have z:=St.elem (P:=P) (f:=f) (name:=name) (yr:=yr) (xr:=vr) (th:=th) (el:=el) a1 b1 (by rw[Z7 hl,Db,List.length_range];exact Ja);have e:dX (put s2 q.2.1) name q.1 r.1=put s2 { q.2.1 with a:=rep name (p.1,Li p.2 q.1 r.1) q.2.1.a }:=by rw[qwp s2 q.2.1 name p.1 p.2 q.1 r.1 hl];refine gF (λ_=>rfl) (λj=>?_) rfl rfl rfl;show my (look j (Kc name _ q.2.1.a)) _=my (look j (rep name _ q.2.1.a)) _;rw[OP,EY _ _ _ _ (by rw[hl];exact λe=>by cases e)]
     rw[e] at z;exact z.mono (by show 9+cX κ x+cX κ y<=9+cX κ x+cX κ y;omega)
   rw[zn k2] at h ⊢;rw[zn k2];by_cases k6:kind=6;subst k6;rw[zp rfl] at h ⊢;obtain⟨h1,h2⟩:=hx h;refine⟨λs=>?_,h2⟩;obtain⟨s1,a1,a2⟩:=h1 s;exact⟨s1,(St.exp a1).mono (by show 8+cX κ x<=8+cX κ x+_;omega),a2⟩;rw[zn k6] at h ⊢
   by_cases k3:kind=3
   ·subst k3;rw[zp rfl] at h ⊢;rw[zp rfl];obtain⟨jL,hp⟩:=Kv h;obtain⟨yz,hc⟩:=Kv jL;obtain⟨ha,hb⟩:=Kv yz;obtain⟨h1,h2⟩:=hx ha
    have mR:Fm Φ th=true/\Fm Φ el=true:=by by_cases e:(Fm Φ th && Fm Φ el)=true;exact(sd _ _▸e:Fm Φ th=true/\Fm Φ el=true);rw[zn e] at hp;exact hp.1.elim
    have a1:=(WS (f:=f) th r.2.1 mR.1).sub (λk hk=>mem_append_left (uf f el).1 hk) λk hk=>mem_append_left (uf f el).2 hk;have a2:=(WS (f:=f) el r.2.1 mR.2).sub (λk hk=>mem_append_right (uf f th).1 hk) λk hk=>mem_append_right (uf f th).2 hk;have b1:=Ih.trans RV.trans (Ih.symm RV.symm a1.1) a2.1;have b2:=Ih.trans RA.trans (Ih.symm RA.symm a1.2.1) a2.2.1
    by_cases hz:r.1=0
    ·obtain⟨g1,g2⟩:=ZL hΦ el r.2.1 h2 (FY hz hc)
     have e:(⟨Gk (Mi r.1) ((uf f th).1++(uf f el).1) (xB Φ f th r.2.1).1.v (xB Φ f el r.2.1).1.v,Gk (So r.1) ((uf f th).2++(uf f el).2) (xB Φ f th r.2.1).1.a (xB Φ f el r.2.1).1.a,r.2.1.i,r.2.1.o⟩:Tt)=(xB Φ f el r.2.1).1:=by rw[ZO (se:=Mi _) (λa b _=>by rw[hz];try rfl) b1,ZO (se:=So _) (λa b hr=>K8 hz hr) b2,<-a2.2.2.1,<-a2.2.2.2]
     rw[e];refine⟨λs=>?_,g2⟩;obtain⟨s1,c1,c2⟩:=h1 s;obtain⟨s2,d1,d2⟩:=g1 s1;rw[hz] at c1;exact⟨s2,(St.iff c1 d1).mono ga,c2.trans d2⟩
    obtain⟨g1,g2⟩:=ZL hΦ th r.2.1 h2 (FY hz hb);have e:(⟨Gk (Mi r.1) ((uf f th).1++(uf f el).1) (xB Φ f th r.2.1).1.v (xB Φ f el r.2.1).1.v,Gk (So r.1) ((uf f th).2++(uf f el).2) (xB Φ f th r.2.1).1.a (xB Φ f el r.2.1).1.a,r.2.1.i,r.2.1.o⟩:Tt)=(xB Φ f th r.2.1).1:=by rw[YO (se:=Mi _) (λa b _=>tP hz) b1,YO (se:=So _) (λa b _=>Z' hz a b) b2,<-a1.2.2.1,<-a1.2.2.2]
    rw[e];refine⟨λs=>?_,g2⟩;obtain⟨s1,c1,c2⟩:=h1 s;obtain⟨s2,d1,d2⟩:=g1 s1;exact⟨s2,(St.tN c1 hz d1).mono ga,c2.trans d2⟩
   rw[zn k3] at h;exact h.1.elim
theorem ZL(hΦ:Mf P X κ Φ):∀ (b:List Sm) (t:Tt),Fh X t.v=true->rj (xB Φ f b t).2->Bx P X f b t (cB κ b) none (xB Φ f b t).1/\Fh X (xB Φ f b t).1.v=true
 |[],t,hd,_=>by rw[xB,cB];exact⟨λs=>⟨s,Bl.nil,Fr.refl _ _⟩,hd⟩
 |a::l,t,hd,h=>by rw[xB] at h ⊢;simp only at h ⊢;obtain⟨ha,hb⟩:=Kv h;obtain⟨h1,h2⟩:=DO hΦ a t hd ha;obtain⟨g1,g2⟩:=ZL hΦ l _ h2 hb;refine⟨λs=>?_,g2⟩;obtain⟨s1,a1,a2⟩:=h1 s;obtain⟨s2,b1,b2⟩:=g1 s1;refine⟨s2,?_,a2.trans b2⟩;rw[cB];exact Bl.cons a1 b1
end
def zG(k:Int)(b:List Sm):Bool:=match b with
 |.mk k' _ _ (_::_) _ _::_=>decide (k'=k)
 |_=>false
def Cg(b:List Sm):Ex:=match b with
 |.mk _ _ _ (x::_) _ _::_=>x
 |_=>default
def Zu(b:List Sm):List Sm:=match b with
 |.mk _ _ _ _ th _::_=>th
 |_=>[]
def hEl(b:List Sm):List Sm:=match b with
 |.mk _ _ _ _ _ el::_=>el
 |_=>[]
variable{b:List Sm}{t t1 t2 t':Tt}{K K1 K2:Nat}{r:Option Nat}
theorem Bx.mono(h:Bx P X f b t K r t')(hk:K<=K1):Bx P X f b t K1 r t':=λs=>by obtain⟨s',h1,h2⟩:=h s;exact⟨s',h1.mono hk,h2⟩
theorem Bx.nil:Bx P X f [] t 0 none t:=λs=>⟨s,Bl.nil,Fr.refl _ _⟩
theorem Bx.app{c:List Sm}(h:Bx P X f b t K none t1)(g:Bx P X f c t1 K1 r t'):Bx P X f (b++c) t (K+K1) r t':=λs=>by obtain⟨s1,h1,h2⟩:=h s;obtain⟨s2,g1,g2⟩:=g s1;exact⟨s2,Bl.app h1 g1,h2.trans g2⟩
theorem Bx.cut(n:Nat)(h:Bx P X f (b.take n) t K none t1)(k:Bx P X f (b.drop n) t1 K1 r t'):Bx P X f b t (K+K1) r t':=by have:=Bx.app h k;rwa [List.take_append_drop] at this
theorem Bx.run(hΦ:Mf P X κ Φ)(n:Nat)(t1:Tt)(l:Pf)(e:(Fh X t.v,xB Φ f (b.take n) t)=(true,t1,l.map Subtype.val))(k:Bx P X f (b.drop n) t1 K r t'):Bx P X f b t (cB κ (b.take n)+K) r t':=by rw[Prod.mk.injEq,Prod.ext_iff] at e;obtain⟨e1,e2,e3⟩:=e;have h:=(ZL (f:=f) hΦ (b.take n) t e1 (by rw[e3];exact IP l)).1;rw[e2] at h;have:=Bx.app h k;rwa [List.take_append_drop] at this
theorem Bx.fin(hΦ:Mf P X κ Φ)(l:Pf)(e:(Fh X t.v,xB Φ f b t)=(true,t',l.map Subtype.val)):Bx P X f b t (cB κ b) none t':=by rw[Prod.mk.injEq,Prod.ext_iff] at e;obtain⟨e1,e2,e3⟩:=e;have h:=(ZL (f:=f) hΦ b t e1 (by rw[e3];exact IP l)).1;rwa [e2] at h
theorem jP(hΦ:Mf P X κ Φ)(l:Pf)(e:(Fh X t.v,xE Φ f x t)=(true,v,t',l.map Subtype.val)):Ex' P X f x t (cX κ x) v t':=by rw[Prod.mk.injEq,Prod.ext_iff,Prod.ext_iff] at e;obtain⟨e1,e2,e3,e4⟩:=e;have h:=(WL (f:=f) hΦ x t e1 (by rw[e4];exact IP l)).1;rw[e2,e3] at h;exact h
theorem Bx.ret(hΦ:Mf P X κ Φ){v:Nat}(l:Pf)(hb:zG 5 b=true)(e:(Fh X t.v,xE Φ f (Cg b) t)=(true,v,t',l.map Subtype.val)):Bx P X f b t (1+cX κ (Cg b)) (some v) t':=λs=>by
 obtain⟨s',h1,h2⟩:=jP hΦ l e s;refine⟨s',?_,h2⟩;match b,hb with
 |.mk k' _ _ (x::_) _ _::_,hb=>have hk:=ag hb;subst hk;exact Bl.ret (St.ret h1)
theorem SW(el:List Sm):wS 3 el<=18:=by
 cases el with
 |nil=>decide
 |cons _ _=>exact Jb 18
theorem Bx.YW(hΦ:Mf P X κ Φ)(l:Pf)(hb:zG 5 b=true)(e:(Fh X t.v,(xE Φ f (Cg b) t).1,(xE Φ f (Cg b) t).2.2)=(true,v,l.map Subtype.val)):Bx P X f b t (1+cX κ (Cg b)) (some v) (xE Φ f (Cg b) t).2.1:=by rw[Prod.mk.injEq,Prod.mk.injEq] at e;exact Bx.ret hΦ l hb (Prod.ext e.1 (Prod.ext e.2.1 (Prod.ext rfl e.2.2)))
theorem Bx.tN(hΦ:Mf P X κ Φ){v:Nat}(l:Pf)(hb:zG 3 b=true)(e:(Fh X t.v,xE Φ f (Cg b) t)=(true,v,t1,l.map Subtype.val))(hv:v≠0)(g:Bx P X f (Zu b) t1 K1 none t2)(k:Bx P X f (b.drop 1) t2 K r t'):Bx P X f b t (18+cX κ (Cg b)+K1+K) r t':=λs=>by
 obtain⟨s1,h1,h2⟩:=jP hΦ l e s;obtain⟨s2,g1,g2⟩:=g s1;obtain⟨s3,k1,k2⟩:=k s2;refine⟨s3,?_,(h2.trans g2).trans k2⟩;match b,hb with
 |.mk k' _ _ (x::_) _ el::_,hb=>have hk:=ag hb;subst hk;refine(Bl.cons (St.tN h1 hv g1) k1).mono ?_;have:=SW el;show wS 3 el+cX κ x+K1+K<=_;show wS 3 el+cX κ x+K1+K<=18+cX κ x+K1+K;omega
theorem Bx.iff(hΦ:Mf P X κ Φ)(l:Pf)(hb:zG 3 b=true){v:Nat}(e:(Fh X t.v,xE Φ f (Cg b) t)=(true,v,t1,l.map Subtype.val))(hv:v=0)(g:Bx P X f (hEl b) t1 K1 none t2)(k:Bx P X f (b.drop 1) t2 K r t'):Bx P X f b t (18+cX κ (Cg b)+K1+K) r t':=λs=>by
 subst hv;obtain⟨s1,h1,h2⟩:=jP hΦ l e s;obtain⟨s2,g1,g2⟩:=g s1;obtain⟨s3,k1,k2⟩:=k s2;refine⟨s3,?_,(h2.trans g2).trans k2⟩;match b,hb with
 |.mk k' _ _ (x::_) _ el::_,hb=>have hk:=ag hb;subst hk;refine(Bl.cons (St.iff h1 g1) k1).mono ?_;have:=SW el;show wS 3 el+cX κ x+K1+K<=18+cX κ x+K1+K;omega
theorem Bx.RQ(hΦ:Mf P X κ Φ){u:Nat}(l:Pf)(hb:zG 3 b=true)(e:(Fh X t.v,xE Φ f (Cg b) t)=(true,v,t1,l.map Subtype.val))(hv:v≠0)(g:Bx P X f (Zu b) t1 K1 (some u) t'):Bx P X f b t (18+cX κ (Cg b)+K1) (some u) t':=λs=>by
 obtain⟨s1,h1,h2⟩:=jP hΦ l e s;obtain⟨s2,g1,g2⟩:=g s1;refine⟨s2,?_,h2.trans g2⟩;match b,hb with
 |.mk k' _ _ (x::_) _ el::_,hb=>have hk:=ag hb;subst hk;refine(Bl.ret (St.tN h1 hv g1)).mono ?_;have:=SW el;show wS 3 el+cX κ x+K1<=18+cX κ x+K1;omega
def Cd(P:Pr)(X:List Nm)(f:Pb)(x:Ex)(t:Tt)(c v:Nat):Prop:=Ex' P X f x t c v t
theorem Cd.of(hΦ:Mf P X κ Φ)(l:Pf)(e:(Fh X t.v,xE Φ f x t)=(true,v,t,l.map Subtype.val)):Cd P X f x t (cX κ x) v:=jP hΦ l e
theorem Wx.loop{x:Ex}{th:List Sm}{c:Nat}(S:Nat->Tt)(n:Nat)(c0 d D:Nat->Nat)(hx:∀ i,i<=n->Cd P X f x (S i) c (c0 i))(h1:∀ i,i<n->c0 i≠0)(hs:∀ i,i<n->Bx P X f th (S i) (d i) none (S (i+1)))(hD:∀ i,i<n->d i+18+c+D (i+1)<=D i)(hw:Wx P X f x th (c0 n) (S n) (D n) r t') :
  ∀ j i,i+j=n->Wx P X f x th (c0 i) (S i) (D i) r t'
 |0,i,e=>by
  obtain rfl:i=n:=by omega
  exact hw
 |j+1,i,e=>λs=>by obtain⟨s1,g1,g2⟩:=hs i ga s;obtain⟨s2,k1,k2⟩:=hx (i+1) ga s1;obtain⟨s3,w1,w2⟩:=Wx.loop S n c0 d D hx h1 hs hD hw j (i+1) ga s2;exact⟨s3,(Wh.next (h1 i ga) g1 k1 w1).mono (hD i ga),(g2.trans k2).trans w2⟩
theorem Wx.done{x:Ex}{th:List Sm}{v:Nat}(h:v=0):Wx P X f x th v t 0 none t:=λs=>⟨s,by rw[h];exact Wh.done,Fr.refl _ _⟩
theorem Wx.ret{x:Ex}{th:List Sm}{v u:Nat}(h:v≠0)(g:Bx P X f th t K (some u) t'):Wx P X f x th v t K (some u) t':=λs=>by obtain⟨s',g1,g2⟩:=g s;exact⟨s',Wh.ret h g1,g2⟩
theorem Wx.mono{x:Ex}{th:List Sm}{v:Nat}(h:Wx P X f x th v t K r t')(hk:K<=K1):Wx P X f x th v t K1 r t':=λs=>by obtain⟨s',g1,g2⟩:=h s;exact⟨s',g1.mono hk,g2⟩
theorem Bx.JQ(S:Nat->Tt)(n:Nat)(c0 d D:Nat->Nat)(hb:zG 4 b=true)(hx:∀ i,i<=n->Cd P X f (Cg b) (S i) c (c0 i))(h1:∀ i,i<n->c0 i≠0)(h0:c0 n=0)(hs:∀ i,i<n->Bx P X f (Zu b) (S i) (d i) none (S (i+1)))(hD:∀ i,i<n->d i+18+c+D (i+1)<=D i)(k:Bx P X f (b.drop 1) (S n) K r t') :
  Bx P X f b (S 0) (8+c+D 0+K) r t':=λs=>by
 obtain⟨s1,a1,a2⟩:=hx 0 (zero_le _) s;obtain⟨s2,g1,g2⟩:=Wx.loop S n c0 d D hx h1 hs hD ((Wx.done h0).mono (zero_le _)) n 0 (Nat.zero_add _) s1;obtain⟨s3,k1,k2⟩:=k s2;refine⟨s3,?_,(a2.trans g2).trans k2⟩;match b,hb with
 |.mk k' _ _ (x::_) _ _::_,hb=>have hk:=ag hb;subst hk;exact(Bl.cons (St.EO a1 g1) k1).mono ga
theorem V9{i e:Nat}(h:i<n):e+(n-(i+1)) * e<=(n-i) * e:=by
 have:n-i=(n-(i+1))+1:=by omega
 rw[this,Nat.succ_mul];omega
theorem Bx.loop{d:Nat}(S:Nat->Tt)(n:Nat)(c0:Nat->Nat)(hb:zG 4 b=true)(hx:∀ i,i<=n->Cd P X f (Cg b) (S i) c (c0 i))(h1:∀ i,i<n->c0 i≠0)(h0:c0 n=0)(hs:∀ i,i<n->Bx P X f (Zu b) (S i) d none (S (i+1)))(k:Bx P X f (b.drop 1) (S n) K r t') :
  Bx P X f b (S 0) (8+c+n * (d+18+c)+K) r t':=
 Bx.JQ S n c0 (λ_=>d) (λi=>(n-i) * (d+18+c)) hb hx h1 h0 hs (λi hi=>V9 hi) k
theorem Bx.KQ{d u:Nat}(S:Nat->Tt)(n:Nat)(c0:Nat->Nat)(hb:zG 4 b=true)(hx:∀ i,i<=n->Cd P X f (Cg b) (S i) c (c0 i))(h1:∀ i,i<=n->c0 i≠0)(hs:∀ i,i<n->Bx P X f (Zu b) (S i) d none (S (i+1)))(k:Bx P X f (Zu b) (S n) K (some u) t') :
  Bx P X f b (S 0) (8+c+n * (d+18+c)+K) (some u) t':=λs=>by
 obtain⟨s1,a1,a2⟩:=hx 0 (zero_le _) s;obtain⟨s2,g1,g2⟩:=Wx.loop S n c0 (λ_=>d) (λi=>(n-i) * (d+18+c)+K) hx (λi hi=>h1 i (Nat.le_of_lt hi)) hs (λi hi=>by have:=V9 (e:=d+18+c) hi;omega) ((Wx.ret (h1 n (Jb _)) k).mono ga) n 0 (Nat.zero_add _) s1;refine⟨s2,?_,a2.trans g2⟩
 match b,hb with
 |.mk k' _ _ (x::_) _ _::_,hb=>have hk:=ag hb;subst hk;exact(Bl.ret (St.EO a1 g1)).mono (by show 8+c+((n-0) * (d+18+c)+K)<=_;rw[Nat.sub_zero];omega)
theorem RP{i:Nat}(hn:n<4294967296)(hi:i<n):Wb i 1=i+1:=Nat.mod_eq_of_lt ga
theorem ID{b:Nat}(h:a<b):Zh a b=1:=by unfold Zh;rw[Nf h];try rfl
theorem iU{b:Nat}(h:¬a<b):Zh a b=0:=by unfold Zh;rw[decide_eq_false h];try rfl
theorem qAm(hΦ:Mf P X κ Φ){x:Ex}{th:List Sm}:∀ (n:Nat) (t:Tt),Fh X t.v=true->rj (xW Φ f x th n t).2->∃ v,∀ s,∃ s1 s',Ev P f x (put s t) (cX κ x) v (put s1 (xE Φ f x t).2.1)/\Wh P f x th v (put s1 (xE Φ f x t).2.1) (n * (cB κ th+18+cX κ x)) none (put s' (xW Φ f x th n t).1)/\Fr X s s'
 |0,t,hd,h=>by
  rw[xW] at h ⊢;simp only at h ⊢;obtain⟨ha,hb⟩:=Kv h;obtain⟨h1,h2⟩:=WL (f:=f) hΦ x t hd ha;have hz:(xE Φ f x t).1=0:=by by_cases e:(xE Φ f x t).1=0;exact e;rw[zn e] at hb;exact hb.1.elim
  refine⟨0,λs=>?_⟩;obtain⟨s1,a1,a2⟩:=h1 s;rw[hz] at a1
  exact⟨s1,s1,a1,by rw[Nat.zero_mul];exact Wh.done,a2⟩
 |n+1,t,hd,h=>by
  rw[xW] at h ⊢;simp only at h ⊢;obtain⟨jL,hz⟩:=Kv h;obtain⟨hac,hb⟩:=Kv jL;obtain⟨ha,hc⟩:=Kv hac;obtain⟨h1,h2⟩:=WL (f:=f) hΦ x t hd ha;obtain⟨g1,g2⟩:=ZL (f:=f) hΦ th _ h2 hb;obtain⟨v,k⟩:=qAm hΦ n _ g2 hz;have Fb:(xE Φ f x t).1≠0:=λe=>by rw[zp e] at hc;exact hc.1
  refine⟨(xE Φ f x t).1,λs=>?_⟩;obtain⟨s1,a1,a2⟩:=h1 s;obtain⟨s2,b1,b2⟩:=g1 s1;obtain⟨s3,s4,c1,c2,c3⟩:=k s2;exact⟨s1,s4,a1,(Wh.next Fb b1 c1 c2).mono (by rw[Nat.succ_mul];omega),(a2.trans b2).trans c3⟩
theorem Bx.o7(hΦ:Mf P X κ Φ)(n:Nat)(t1:Tt)(l:Pf)(hb:zG 4 b=true)(e:(Fh X t.v,xW Φ f (Cg b) (Zu b) n t)=(true,t1,l.map Subtype.val))(k:Bx P X f (b.drop 1) t1 K r t'):Bx P X f b t (8+cX κ (Cg b)+n * (cB κ (Zu b)+18+cX κ (Cg b))+K) r t':=λs=>by
 rw[Prod.mk.injEq,Prod.ext_iff] at e;obtain⟨e1,e2,e3⟩:=e;obtain⟨v,h⟩:=qAm (f:=f) hΦ n t e1 (by rw[e3];exact IP l);obtain⟨s1,s2,a1,a2,a3⟩:=h s;rw[e2] at a2;obtain⟨s3,k1,k2⟩:=k s2;refine⟨s3,?_,a3.trans k2⟩;match b,hb with
 |.mk k' _ _ (x::_) _ _::_,hb=>have hk:=ag hb;subst hk;exact(Bl.cons (St.EO a1 a2) k1).mono ga
theorem Bx.run'(hΦ:Mf P X κ Φ)(n:Nat)(l:Pf)(e:(Fh X t.v,(xB Φ f (b.take n) t).2)=(true,l.map Subtype.val))(k:Bx P X f (b.drop n) (xB Φ f (b.take n) t).1 K r t'):Bx P X f b t (cB κ (b.take n)+K) r t':=by rw[Prod.mk.injEq] at e;exact Bx.run hΦ n _ l (Prod.ext e.1 (Prod.ext rfl e.2)) k
theorem bj:Mf P X [] []:=λname e h=>by cases h
def Jx(g:Pb):List Nm:=(g.params++g.locals).map (dc g)
def uD(g:Pb)(z:Nm->Nat):List (Nm×Nat):=(g.params++g.locals).map λl=>(dc g l,z (dc g l))
def oK(g:Pb):List Nm->List Nat->List (Nm×Nat)->List (Nm×Nat)
 |p::ps,v::vs,l=>oK g ps vs (Kc (dc g p) v l)
 |_,_,l=>l
theorem qnv(g:Pb)(s:IS):∀ (ps:List Nm) (vs:List Nat) (t:Tt),iq g ps vs (put s t)=put s { t with v:=oK g ps vs t.v }
 |[],vs,t=>by cases vs <;> rfl
 |p::ps,[],t=>rfl
 |p::ps,v::vs,t=>by rw[iq,qye];exact qnv g s ps vs _
theorem IY{A:Type}(k:Nm):∀ (l m:List (Nm×A)),look k (l++m)=(look k l).or (look k m)
 |[],m=>rfl
 |p::l,m=>by show(if p.1=k then some p.2 else look k (l++m))=(if p.1=k then some p.2 else look k l).or (look k m);rw[IY k l m];try split <;> rfl
theorem zU{A:Type}{k:Nm}{x:A}:∀ {l:List (Nm×A)},look k l=some x->(k,x)∈l
 |p::l,h=>by unfold look at h;by_cases e:p.1=k;rw[zp e] at h;cases h;rw[<-e];exact List.mem_cons_self ..;rw[zn e] at h;exact Pc _ (zU h)
def sub(Y X:List Nm):Bool:=Y.all λk=>decide (k∈X)
theorem AP{Y:List Nm}(h:sub Y X=true):∀ k∈Y,k∈X:=λk hk=>ag (List.all_eq_true.mp h k hk)
theorem Ox.of{g:Pb}(hg:Lh P name=g)(hn:(decide (name=[105,110]) || decide (name=[111,117,116]) || !sub (Jx g) X || !sub Y X || !Fh X t.v || !Fh X t'.v)=false)
  (h:∀ z:Nm->Nat,∃ t1,Bx P Y g g.body ⟨oK g g.params vs (uD g z++t.v),t.a,t.i,t.o⟩ K r t1/\(sub ((t1.v.take (Jx g).length).map (·.1)) X,t1.v.drop (Jx g).length,t1.a,t1.i,t1.o)=(true,t'.v,t'.a,t'.i,t'.o)):Ox P X f name vs t K (r.getD 0) t':=λnum s=>by
 simp only[Bool.or_eq_false_iff,Bool.not_eq_false',decide_eq_false_iff_not] at hn;obtain⟨⟨⟨⟨⟨n1,n2⟩,n3⟩,n4⟩,n5⟩,n6⟩:=hn;obtain⟨t1,hB,hE⟩:=h s.sc;rw[Prod.mk.injEq,Prod.mk.injEq,Prod.mk.injEq,Prod.mk.injEq] at hE;obtain⟨hW,pS,qq,hE3,hE4⟩:=hE;have nL:t1=⟨t1.v.take (Jx g).length++t'.v,t'.a,t'.i,t'.o⟩:=by obtain⟨a,b,c,d⟩:=t1;simp only at pS qq hE3 hE4 ⊢;rw[<-pS,List.take_append_drop,qq,hE3,hE4]
 generalize t1.v.take (Jx g).length=W at hW nL;subst nL;have e1:put s t=put s ⟨uD g s.sc++t.v,t.a,t.i,t.o⟩:=by
  refine gF (λk=>?_) (λ_=>rfl) rfl rfl rfl;show(look k t.v).getD (s.sc k)=(look k (uD g s.sc++t.v)).getD (s.sc k);rw[IY];cases hk:look k (uD g s.sc) with
  |none=>rfl
  |some x=>
   have hm:=zU hk;unfold uD at hm;rw[List.mem_map] at hm;obtain⟨l,hl,he⟩:=hm;rw[Prod.mk.injEq] at he;have N4:k∈X:=by refine AP n3 k ?_;rw[<-he.1];exact List.mem_map.mpr ⟨l,hl,rfl⟩
   rw[sU N4 n5,<-he.2,he.1];try rfl
 obtain⟨s',h1,h2⟩:=hB s;refine⟨put s' ⟨W,[],[],[]⟩,?_,?_⟩
 ·have e2:put s' ⟨W++t'.v,t'.a,t'.i,t'.o⟩=put (put s' ⟨W,[],[],[]⟩) t':=by
   refine gF (λk=>?_) (λ_=>rfl) rfl rfl rfl;show(look k (W++t'.v)).getD (s'.sc k)=(look k t'.v).getD ((look k W).getD (s'.sc k));rw[IY];cases hk:look k W with
   |none=>rfl
   |some x=>have N4:k∈X:=AP hW k (List.mem_map.mpr ⟨_,zU hk,rfl⟩);rw[sU N4 n6];try rfl
  rw[<-e2];refine Op.call n1 n2 ?_;rw[hg,e1,qnv];exact h1
 refine⟨λk hk=>?_,h2.2⟩;show(look k W).getD (s'.sc k)=s.sc k
 have:look k W=none:=by
  cases hl:look k W with
  |none=>rfl
  |some x=>exact absurd (AP hW k (List.mem_map.mpr ⟨_,zU hl,rfl⟩)) hk
 rw[this];exact h2.1 k λe=>hk (AP n4 k e)
end
theorem Mq(h:Nat.ble a b=true):a<=b:=Nat.le_of_ble_eq_true h
theorem Y7{n:Nm}{e:Ph}(K:Nat)(hn:n≠[105,110]/\n≠[111,117,116])(h:∀ f vs t,Fh X t.v=true->rj (e.cond vs t)->Ox P X f n vs t K (e.val vs t) (e.nx vs t)/\Fh X (e.nx vs t).v=true){κ:Ks}{Φ:SI}(k:Mf P X κ Φ):Mf P X ((n,K)::κ) ((n,e)::Φ):=λname e' he=>by unfold look at he;by_cases hh:n=name;rw[zp hh] at he;cases he;subst hh;refine⟨hn.1,hn.2,?_⟩;rw[look,zp rfl];exact h;rw[zn hh] at he;rw[look,zn hh];exact k name e' he
theorem B9{X:List Nm}{k:Nm}(hk:k ∉ X)(x:Nat):∀ {l:List (Nm×Nat)},Fh X l=true->Fh X (Kc k x l)=true
 |[],_=>by unfold Kc Fh;rw[all_cons,sd];exact⟨by rw[decide_eq_false hk];try rfl,rfl⟩
 |p::l,h=>by unfold Fh at h;rw[all_cons,sd] at h;unfold Kc Fh;split;rename_i hp;rw[all_cons,sd];exact⟨by rw[<-hp];exact h.1,h.2⟩;rw[all_cons,sd];exact⟨h.1,B9 hk x h.2⟩
theorem qqG{X:List Nm}{l:List (Nm×Nat)}(h:Fh X l=true):∀ {m:List (Nm×Nat)},Fh X m=true->Fh X (over l m)=true
 |[],_=>h
 |p::m,g=>by unfold Fh at g;rw[all_cons,sd] at g;exact B9 (λe=>by rw[Nf e] at g;cases g.1) _ (qqG h g.2)
theorem qq0{A:Type}{k:Nm}{x:A}:∀ {l:List (Nm×A)},look k l=some x->Kc k x l=l
 |[],h=>by cases h
 |p::l,h=>by unfold look at h;unfold Kc;by_cases e:p.1=k;rw[zp e] at h ⊢;cases h;rw[<-e];rw[zn e] at h ⊢;rw[qq0 h]
def ZZ(vs:List Nat)(t0:Tt):=(vs,t0.v.map λp=>(p.1,some p.2),t0.a.map λp=>(p.1,some p.2),t0.i,t0.o)
def DF(vs:List Nat)(t0 Rl:Tt)(v:Nat):Ph:=⟨λ_ _=>v,λ_ t=>⟨over t.v Rl.v,over t.a Rl.a,Rl.i,Rl.o⟩,λus t=>[(us,pick t.v (t0.v.map (·.1)),pick t.a (t0.a.map (·.1)),t.i,t.o)=ZZ vs t0],false⟩
abbrev pE(vs:List Nat)(t0:Tt):{ p:Prop // p }:=⟨ZZ vs t0=ZZ vs t0,rfl⟩
theorem bY{n:Nm}{t0 Rl:Tt}(ho:∀ f,Ox P X f n vs t0 K v Rl)(hn:(n≠[105,110]/\n≠[111,117,116])/\Fh X Rl.v=true){κ:Ks}{Φ:SI}(k:Mf P X κ Φ):Mf P X ((n,K)::κ) ((n,DF vs t0 Rl v)::Φ):=
 Y7 K hn.1 (λf us t hd h=>by
  have h1:(us,pick t.v (t0.v.map (·.1)),pick t.a (t0.a.map (·.1)),t.i,t.o)=ZZ vs t0:=h.1;unfold ZZ at h1;rw[Prod.mk.injEq,Prod.mk.injEq,Prod.mk.injEq,Prod.mk.injEq] at h1;obtain⟨h1,h2,h3,h4,h5⟩:=h1;subst h1;exact⟨(ho f).frame hd (qZ h2) (qZ h3) h4 h5,qqG hd hn.2⟩) k
theorem Ox.sub{P:Pr}{X Y:List Nm}{f:Pb}{n:Nm}{vs:List Nat}{t0 Rl:Tt}{K v:Nat}(h:Ox P X f n vs t0 K v Rl)(hs:sub X Y=true):Ox P Y f n vs t0 K v Rl:=λnum s=>by obtain⟨s',h1,h2⟩:=h num s;exact⟨s',h1,h2.sub (AP hs)⟩
def Iw:List (Nm×Nat)->List (Nat->Nat)->List (Nm×Fa)
 |p::ns,g::fs=>(p.1,(p.2,g))::Iw ns fs
 |_,_=>[]
def yu(a:List (Nm×Fa)):List (Nm×Nat)->List (Nat->Nat)
 |[]=>[]
 |p::ns=>(match look p.1 a with
  |some q=>q.2
  |none=>λ_=>0)::yu a ns
def oT(a:List (Nm×Fa)):List (Nm×Nat)->Bool
 |[]=>true
 |p::ns=>(match look p.1 a with
  |some q=>decide (q.1=p.2)
  |none=>false) && oT a ns
theorem qqK{a:List (Nm×Fa)}:∀ {ns:List (Nm×Nat)},oT a ns=true->(∀ k x,look k (Iw ns (yu a ns))=some x->look k a=some x)/\over a (Iw ns (yu a ns))=a
 |[],_=>⟨λk x e=>(by cases e),rfl⟩
 |p::ns,h=>by
  unfold oT at h;rw[sd] at h;obtain⟨h1,h2⟩:=qqK h.2;have h3:=h.1;have hp:look p.1 a=some (p.2,match look p.1 a with
   |some q=>q.2
   |none=>λ_=>0):=by
   cases hl:look p.1 a with
   |none=>rw[hl] at h3;cases h3
   |some q=>rw[hl] at h3;rw[<-ag h3]
  refine⟨λk x e=>?_,?_⟩;unfold yu Iw look at e
  by_cases hh:p.1=k;rw[zp hh] at e;cases e;rw[<-hh];exact hp;rw[zn hh] at e;exact h1 k x e;unfold yu Iw over;rw[h2];exact qq0 hp
def phP(ns:List (Nm×Nat))(g:List Nat->List (Nat->Nat)->Nat)(c:List Nat->List (Nat->Nat)->Bool):Ph:=⟨λvs t=>g vs (yu t.a ns),λ_ t=>t,λvs t=>[(oT t.a ns && c vs (yu t.a ns))=true],true⟩
theorem qzz{n:Nm}{ns:List (Nm×Nat)}{g:List Nat->List (Nat->Nat)->Nat}{c:List Nat->List (Nat->Nat)->Bool}(hn:n≠[105,110]/\n≠[111,117,116])(h:∀ f vs fs ip op,c vs fs=true->Ox P X f n vs ⟨[],Iw ns fs,ip,op⟩ K (g vs fs) ⟨[],Iw ns fs,ip,op⟩){κ:Ks}{Φ:SI}(k:Mf P X κ Φ):Mf P X ((n,K)::κ) ((n,phP ns g c)::Φ):=
 Y7 K hn (λf vs t hd hc=>by
  have hc:=hc.1;rw[sd] at hc;obtain⟨h1,h2⟩:=qqK hc.1;have q:=(h f vs (yu t.a ns) t.i t.o hc.2).frame hd (λk x e=>by cases e) h1 rfl rfl;rw[h2] at q;exact⟨q,hd⟩) k
theorem qhQ{A:Type}(k:Nm)(c:A):∀ l:List Nm,look k (l.map λx=>(x,c))=if k∈l then some c else none
 |[]=>rfl
 |x::l=>by
  show(if x=k then some c else look k (l.map λx=>(x,c)))=_;rw[qhQ k c l]
  by_cases h:x=k;rw[zp h,zp (by rw[h];exact List.mem_cons_self ..)];rw[zn h];by_cases hm:k∈l;rw[zp hm,zp (Pc _ hm)];rw[zn hm,zn (λe=>(zc.mp e).elim (λe=>h e.symm) hm)]
theorem quU(P:Pr)(Ia:List Nat)(ks:List Nm):xq P Ia 0=put (xq P Ia 0) ⟨ks.map λx=>(x,0),P.ba.map λa=>(a.name,(a.size,λ_=>0)),Ia,[]⟩:=by
 refine gF (λk=>?_) (λk=>?_) rfl rfl rfl
 ·show 0=(look k (ks.map λx=>(x,0))).getD 0;rw[qhQ]
  try split <;> rfl
 have key:∀ (l:List Ar) (z:List Nat),(match l.find? λa=>decide (a.name=k) with
  |some a=>List.replicate a.size 0
  |none=>z)=my (look k (l.map λa=>(a.name,((a.size,λ_=>0):Fa)))) z:=by
  intro l z;induction l with
  |nil=>rfl
  |cons a l ih=>rw[List.find?_cons,jd,look];by_cases h:a.name=k;rw[Nf h,zp h];show List.replicate a.size 0=(List.range a.size).map λ_=>0;rw[List.map_const',List.length_range];rw[decide_eq_false h,zn h];exact ih
 have e:=key P.ba [];show(match P.ba.find? λa=>decide (a.name=k) with
  |some a=>List.replicate a.size 0
  |none=>[])=my _ (match P.ba.find? λa=>decide (a.name=k) with
  |some a=>List.replicate a.size 0
  |none=>[])
 rw[e];try cases look k (P.ba.map λa=>(a.name,((a.size,λ_=>0):Fa))) <;> rfl
theorem VO{Ia:List Nat}{Ca:Nat}{r:Option Nat}{t':Tt}(ks:List Nm)(h:Bx P X (Ig P) (Ig P).body ⟨ks.map λx=>(x,0),P.ba.map λa=>(a.name,(a.size,λ_=>0)),Ia,[]⟩ K r t')(hk:K<=Ca):∃ Aa s2,mg (Hg P Aa (Ig P)) (Ig P).body (xq P Ia Ca)=.ok r s2/\s2.out=t'.o:=by obtain⟨s',h1,_⟩:=h (xq P Ia 0);rw[<-quU] at h1;obtain⟨Aa,s2,e1,e2⟩:=z8 (h1.mono hk);exact⟨Aa,s2,e1,e2⟩
mutual
def S1:Ex->Bool
 |.mk op num name args=>decide (num<4294967296) && jz args
def jz:List Ex->Bool
 |[]=>true
 |x::l=>S1 x && jz l
end
mutual
def R1:Sm->Bool
 |.mk kind name index value Ua Cb=>jz index && (jz value && (gz Ua && gz Cb))
def gz:List Sm->Bool
 |[]=>true
 |x::l=>R1 x && gz l
end
mutual
theorem qxF:∀ x:Ex,S1 x=true->Ji x
 |.mk op num name args,h=>by rw[S1,sd] at h;rw[Ji];exact⟨(ag h.1:num<4294967296),vU args h.2⟩
theorem vU:∀ l:List Ex,jz l=true->Ck l
 |[],_=>by rw[Ck];trivial
 |x::l,h=>by rw[jz,sd] at h;rw[Ck];exact⟨qxF x h.1,vU l h.2⟩
end
mutual
theorem qyr:∀ x:Sm,R1 x=true->ep x
 |.mk kind name index value Ua Cb,h=>by rw[R1,sd,sd,sd] at h;rw[ep];exact⟨vU index h.1,vU value h.2.1,rU Ua h.2.2.1,rU Cb h.2.2.2⟩
theorem rU:∀ l:List Sm,gz l=true->cj l
 |[],_=>by rw[cj];trivial
 |x::l,h=>by rw[gz,sd] at h;rw[cj];exact⟨qyr x h.1,rU l h.2⟩
end
def O0:xk:=⟨10000,0,100000⟩
def GG(P:Pr)(n:Nat):Bool:=decide (P.vars.length<=n) && decide (P.ba.length<=n) && (P.ba.all λa=>decide (a.size<4294967296)) && decide (je P.funcs<=n) && (P.funcs.all λf=>gz f.body) && decide (Vp P=0) && zr P.vars (sf P) P.funcs O0 && decide (bc false (Ug P O0)<=40000) && decide (n<=3100)
theorem FG(h:GG P n=true):NG P n/\n<=3100/\Vp P=0/\∃ x,pk P.vars (sf P) P.funcs O0=.ok x:=by unfold GG at h;simp only[sd] at h;obtain⟨⟨⟨⟨⟨⟨⟨⟨h1,h2⟩,h3⟩,h4⟩,h5⟩,h6⟩,h7⟩,h8⟩,h9⟩:=h;have h1:=ag h1;have h2:=ag h2;have h4:=ag h4;have vz:=ag h6;have h8:=ag h8;have h9:=ag h9;have ld:NG P n:=⟨h1,h2,λa ha=>ag (List.all_eq_true.1 h3 a ha),h4,λf hf=>rU _ (List.all_eq_true.1 h5 f hf)⟩;refine⟨ld,h9,vz,join (Ug P O0) [32],?_⟩;have hc:Jr P.vars (sf P) P.funcs=0:=vz;have ik:Et (Ug P O0):=qxM vz ld.dz h7 ga;have Ge:∀ w∈Ug P O0,Xj w:=bZ vz h7;have e3:join (EB P.vars (sf P) P.funcs O0) [32]=join (Ug P O0) [32]:=rfl;have e:=(S8 ik Ge (og:=O0.code) fa fa h8).1;unfold pk;rw[zn λh=>h hc,zn (by rw[h7];decide),e3,e]
theorem A'{l:List Nat}{Ca:Nat}{r:Option Nat}{o:List UInt8}(h:∃ Aa s2,mg (Hg P Aa (Ig P)) (Ig P).body (xq P l Ca)=.ok r s2/\s2.out=o):∃ Aa,(Me P Aa l Ca).1=0/\(Me P Aa l Ca).2.out=o:=by obtain⟨Aa,s2,h1,h2⟩:=h;refine⟨Aa,?_⟩;unfold Me;rw[h1];exact⟨rfl,h2⟩
end Go.ia.Wi.Wc.Q
namespace Go.ia.Wi.Wc.Q.Lb
open Go.Lib
def Cm:Nm:=[99,111,100,101,100]
def Bq:Nm:=[112,108,97,105,110]
def Kr:Nm:=[99,111,115,116]
def bM:Nm:=[119,111,114,100]
def bf:Nm:=[105]
def TD:Nm:=[97]
def Zp:Nm:=[98]
def vK:Nm:=[99]
def Uu:Nm:=[101,120,116,114,97,99,116]
def Pj:Nm:=[115]
def Hm:Nm:=[117]
def rB:Nm:=[98,114,97,110,99,104]
def oN:Nm:=[100]
def Mn:Nm:=[118,105,116,101,114,98,105]
def Ul:Nm:=[105,110,110,101,114]
def Cx:Nm:=[107]
def T1:Nm:=[105,110]
def UM:List Sm:=[sA bf (eN 0),sA Pj (eN 0),sW (eB [60] (eV bf) (eN 418)) [sI (eB [124,124] (eB [62] (eE Cm (eB [42] (eN 2) (eV bf))) (eN 1)) (eB [62] (eE Cm (eB [43] (eB [42] (eN 2) (eV bf)) (eN 1))) (eN 1))) [sR (eN 0)] [],sA Hm (eB [94] (eE Cm (eB [43] (eB [42] (eN 2) (eV bf)) (eN 1))) (eB [37] (eV Pj) (eN 2))),sI (eB [33,61] (eE Cm (eB [42] (eN 2) (eV bf))) (eB [94] (eB [94] (eV Hm) (eB [47] (eV Pj) (eN 2))) (eB [37] (eV Pj) (eN 2)))) [sR (eN 0)] [],sE Bq (eV bf) (eV Hm),sA Pj (eB [43] (eB [42] (eN 2) (eV Hm)) (eB [47] (eV Pj) (eN 2))),sA bf (eB [43] (eV bf) (eN 1))],sR (eB [61,61] (eV Pj) (eN 0))]
def vB:Pb:=⟨Uu,[],[bf,Pj,Hm],UM⟩
def qwE:List Sm:=[sA oN (eN 0),sA vK (eE Cm (eB [42] (eN 2) (eV bf))),sI (eB [38,38] (eB [60] (eV vK) (eN 2)) (eB [33,61] (eV vK) (eB [94] (eB [94] (eV Hm) (eB [47] (eV Pj) (eN 2))) (eB [37] (eV Pj) (eN 2))))) [sA oN (eN 1)] [],sA vK (eE Cm (eB [43] (eB [42] (eN 2) (eV bf)) (eN 1))),sI (eB [38,38] (eB [60] (eV vK) (eN 2)) (eB [33,61] (eV vK) (eB [94] (eV Hm) (eB [37] (eV Pj) (eN 2))))) [sA oN (eB [43] (eV oN) (eN 1))] [],sR (eV oN)]
def WJ:Pb:=⟨rB,[bf,Pj,Hm],[vK,oN],qwE⟩
def yF:List Sm:=[sE Kr (eN 1672) (eN 0),sE Kr (eN 1673) (eN 100000),sE Kr (eN 1674) (eN 100000),sE Kr (eN 1675) (eN 100000),sA bf (eN 418),sW (eB [62] (eV bf) (eN 0)) [sA bf (eB [45] (eV bf) (eN 1)),sA Pj (eN 0),sW (eB [60] (eV Pj) (eN 4)) [sA TD (eB [43] (eE Kr (eB [43] (eB [43] (eB [42] (eN 4) (eV bf)) (eN 4)) (eB [47] (eV Pj) (eN 2)))) (eC rB [eV bf,eV Pj,eN 0])),sI (eB [60] (eV bf) (eN 416)) [sA Zp (eB [43] (eE Kr (eB [43] (eB [43] (eB [42] (eN 4) (eV bf)) (eN 6)) (eB [47] (eV Pj) (eN 2)))) (eC rB [eV bf,eV Pj,eN 1])),sI (eB [60] (eV Zp) (eV TD)) [sA TD (eV Zp)] []] [],sE Kr (eB [43] (eB [42] (eN 4) (eV bf)) (eV Pj)) (eV TD),sA Pj (eB [43] (eV Pj) (eN 1))]],sA Pj (eN 0),sW (eB [60] (eV bf) (eN 418)) [sA Hm (eN 0),sI (eB [60] (eV bf) (eN 416)) [sA TD (eB [43] (eE Kr (eB [43] (eB [43] (eB [42] (eN 4) (eV bf)) (eN 4)) (eB [47] (eV Pj) (eN 2)))) (eC rB [eV bf,eV Pj,eN 0])),sA Zp (eB [43] (eE Kr (eB [43] (eB [43] (eB [42] (eN 4) (eV bf)) (eN 6)) (eB [47] (eV Pj) (eN 2)))) (eC rB [eV bf,eV Pj,eN 1])),sI (eB [60] (eV Zp) (eV TD)) [sA Hm (eN 1)] []] [],sE Bq (eV bf) (eV Hm),sA Pj (eB [43] (eB [42] (eN 2) (eV Hm)) (eB [47] (eV Pj) (eN 2))),sA bf (eB [43] (eV bf) (eN 1))]]
def zx:Pb:=⟨Mn,[],[bf,Pj,TD,Zp,Hm],yF⟩
def CM:List Sm:=[sI (eB [61,61] (eC Uu []) (eN 0)) [sX (eC Mn [])] [],sA bf (eN 0),sW (eB [60] (eV bf) (eN 52)) [sA Zp (eN 0),sA Cx (eN 0),sW (eB [60] (eV Cx) (eN 8)) [sA Zp (eB [43] (eB [42] (eN 2) (eV Zp)) (eE Bq (eB [43] (eB [42] (eN 8) (eV bf)) (eV Cx)))),sA Cx (eB [43] (eV Cx) (eN 1))],sE bM (eV bf) (eV Zp),sA bf (eB [43] (eV bf) (eN 1))]]
def kF:Pb:=⟨Ul,[],[bf,Cx,Zp],CM⟩
def CX:Nm:=[109,97,105,110]
def FQ:Nm:=[111,117,116]
def jf(cd:Nat->Nat)(i s u:Nat):Nat:=
 let c0:=cd (fc 2 i)
 let d0:=Mi (QA (Zh c0 2) (lJ c0 (Bn (Bn u (cg s 2)) (lr s 2)))) 1 0
 let c1:=cd (Wb (fc 2 i) 1)
 Mi (QA (Zh c1 2) (lJ c1 (Bn u (lr s 2)))) (Wb d0 1) d0
section
variable{P:Pr}(hB:Lh P rB=WJ)
include hB
theorem qyp(f:Pb)(i s u:Nat)(hi:i<418)(cd:Nat->Nat)(ip:List Nat)(op:List UInt8):Ox P (Jx WJ) f rB [i,s,u] ⟨[],[(Cm,(836,cd))],ip,op⟩ 400 (jf cd i s u) ⟨[],[(Cm,(836,cd))],ip,op⟩:=by
 have h1:fc 2 i<836:=by unfold fc;omega
 have h2:Wb (fc 2 i) 1<836:=by unfold Wb fc;omega
 exact Ox.of (r:=some (jf cd i s u)) (Y:=[]) hB zk λz=>⟨_,Bx.mono (Bx.run' bj 5 [pb h1,pb h2] zk (Bx.YW bj [] zk zk)) (Mq zk),zk⟩
def brG(vs:List Nat)(fs:List (Nat->Nat)):Nat:=match vs,fs with
 |[i,s,u],[cd]=>jf cd i s u
 |_,_=>0
def brC(vs:List Nat)(fs:List (Nat->Nat)):Bool:=match vs,fs with
 |[i,_,_],[_]=>decide (i<418)
 |_,_=>false
abbrev N1:SI:=[(rB,phP [(Cm,836)] brG brC)]
theorem qs9:Mf P (Jx WJ) [(rB,400)] N1:=qzz fa (λf vs fs ip op hc=>by
 unfold brC at hc;split at hc;exact qyp hB f _ _ _ (ag hc) _ ip op;cases hc) bj
end
def Dw(cd:Nat->Nat)(i s:Nat):Nat:=Bn (cd (Wb (fc 2 i) 1)) (lr s 2)
def Mh(cd:Nat->Nat):Nat->Nat
 |0=>0
 |i+1=>Wb (fc 2 (Dw cd i (Mh cd i))) (cg (Mh cd i) 2)
def dm(cd pl:Nat->Nat):Nat->Nat->Nat
 |0=>pl
 |i+1=>Li (dm cd pl i) i (Dw cd i (Mh cd i))
def BL(cd:Nat->Nat)(i:Nat):Nat:=OW (OL (cd (fc 2 i)) 1) (OL (cd (Wb (fc 2 i) 1)) 1)
def Ez(cd:Nat->Nat)(i:Nat):Nat:=lJ (cd (fc 2 i)) (Bn (Bn (Dw cd i (Mh cd i)) (cg (Mh cd i) 2)) (lr (Mh cd i) 2))
def gD(cd:Nat->Nat)(i:Nat):Prop:=BL cd i=0/\Ez cd i=0
instance(cd:Nat->Nat)(i:Nat):Decidable (gD cd i):=inferInstanceAs (Decidable (_/\_))
def rv(cd:Nat->Nat)(z:Nat):Nat->Nat
 |0=>z
 |i+1=>Dw cd i (Mh cd i)
def TE(i s u:Nat)(cd pl:Nat->Nat)(ip:List Nat)(op:List UInt8):Tt:=⟨[(ky Uu bf,i),(ky Uu Pj,s),(ky Uu Hm,u)],[(Cm,(836,cd)),(Bq,(418,pl))],ip,op⟩
abbrev bE:List Sm:=Zu (UM.drop 2)
theorem P8{i:Nat}(hi:i<418):fc 2 i<836/\Wb (fc 2 i) 1<836:=by unfold Wb fc;omega
variable{P:Pr}
theorem qqR(cd pl:Nat->Nat)(z:Nat)(ip:List Nat)(op:List UInt8)(i:Nat)(hi:i<418)(Dc:gD cd i):Bx P [] vB bE (TE i (Mh cd i) (rv cd z i) cd (dm cd pl i) ip op) 400 none (TE (i+1) (Mh cd (i+1)) (rv cd z (i+1)) cd (dm cd pl (i+1)) ip op):=by
 obtain⟨h1,h2⟩:=P8 hi;have h:=Bx.mono (Bx.iff (P:=P) (f:=vB) (X:=[]) (b:=bE) (t:=TE i (Mh cd i) (rv cd z i) cd (dm cd pl i) ip op) (t1:=TE i (Mh cd i) (rv cd z i) cd (dm cd pl i) ip op) bj [pb h1,pb h2] zk (v:=BL cd i) zk Dc.1 Bx.nil
  (Bx.run bj 1 (TE i (Mh cd i) (Dw cd i (Mh cd i)) cd (dm cd pl i) ip op) [pb h2] zk
  (Bx.iff (t1:=TE i (Mh cd i) (Dw cd i (Mh cd i)) cd (dm cd pl i) ip op) bj [pb h1] zk (v:=Ez cd i) zk Dc.2 Bx.nil
  (Bx.fin (t':=TE (Wb i 1) (Mh cd (i+1)) (rv cd z (i+1)) cd (dm cd pl (i+1)) ip op) bj [pb hi] zk)))) (K1:=400) (Mq zk)
 rw[RP (n:=418) fa hi] at h;exact h
theorem qyg(cd pl:Nat->Nat)(z:Nat)(ip:List Nat)(op:List UInt8)(i:Nat)(hi:i<418)(Dc:¬gD cd i):∃ u,Bx P [] vB bE (TE i (Mh cd i) (rv cd z i) cd (dm cd pl i) ip op) 400 (some 0) (TE i (Mh cd i) u cd (dm cd pl i) ip op):=by
 obtain⟨h1,h2⟩:=P8 hi;by_cases ha:BL cd i=0;have hb:Ez cd i≠0:=λe=>Dc ⟨ha,e⟩
 exact⟨Dw cd i (Mh cd i),Bx.mono (Bx.iff (P:=P) (f:=vB) (X:=[]) (b:=bE) (t:=TE i (Mh cd i) (rv cd z i) cd (dm cd pl i) ip op) (t1:=TE i (Mh cd i) (rv cd z i) cd (dm cd pl i) ip op) bj [pb h1,pb h2] zk (v:=BL cd i) zk ha Bx.nil
  (Bx.run bj 1 (TE i (Mh cd i) (Dw cd i (Mh cd i)) cd (dm cd pl i) ip op) [pb h2] zk
  (Bx.RQ (t1:=TE i (Mh cd i) (Dw cd i (Mh cd i)) cd (dm cd pl i) ip op) bj [pb h1] zk (v:=Ez cd i) zk hb
  (Bx.ret bj [] zk zk)))) (Mq zk)⟩
 exact⟨rv cd z i,Bx.mono (Bx.RQ (P:=P) (f:=vB) (X:=[]) (b:=bE) (t:=TE i (Mh cd i) (rv cd z i) cd (dm cd pl i) ip op) (t1:=TE i (Mh cd i) (rv cd z i) cd (dm cd pl i) ip op) bj [pb h1,pb h2] zk (v:=BL cd i) zk ha
  (Bx.ret bj [] zk zk)) (Mq zk)⟩
def zL(cd:Nat->Nat):Prop:=(∀ i,i<418->gD cd i)/\Mh cd 418=0
theorem qAn{p:Nat->Prop} [DecidablePred p]:∀ n:Nat,(∀ i,i<n->p i)∨∃ m,m<n/\(∀ i,i<m->p i)/\¬p m
 |0=>.inl λi h=>absurd h (Nat.not_lt_zero i)
 |n+1=>by rcases qAn (p:=p) n with h|⟨m,h1,h2,h3⟩;by_cases hp:p n;exact .inl λi hi=>(Nat.lt_succ_iff_lt_or_eq.mp hi).elim (h i) λe=>e▸hp;exact .inr ⟨n,Nat.lt_succ_self n,h,hp⟩;exact .inr ⟨m,Nat.lt_succ_of_lt h1,h2,h3⟩
theorem qvn(hX:Lh P Uu=vB)(cd pl:Nat->Nat)(ip:List Nat)(op:List UInt8):∃ v Vg,(∀ f,Ox P (Jx vB) f Uu [] ⟨[],[(Cm,(836,cd)),(Bq,(418,pl))],ip,op⟩ 200000 v ⟨[],[(Cm,(836,cd)),(Bq,(418,Vg))],ip,op⟩)/\(zL cd->v≠0/\Vg=dm cd pl 418)/\(¬zL cd->v=0):=by
 have yp:∀ z,∀ i,i<=418->Cd P [] vB (Cg (UM.drop 2)) (TE i (Mh cd i) (rv cd z i) cd (dm cd pl i) ip op) (cX [] (Cg (UM.drop 2))) (Zh i 418):=λz i _=>Cd.of bj [] zk;rcases qAn (p:=gD cd) 418 with h|⟨m,h1,h2,h3⟩
 ·refine⟨mJ (Mh cd 418) 0,dm cd pl 418,λf=>Ox.of (r:=some (mJ (Mh cd 418) 0)) (Y:=[]) hX zk λz=>⟨TE 418 (Mh cd 418) (rv cd (z (ky Uu Hm)) 418) cd (dm cd pl 418) ip op,Bx.mono (Bx.run bj 2 (TE 0 0 (z (ky Uu Hm)) cd pl ip op) [] zk (Bx.loop (b:=UM.drop 2) (λi=>TE i (Mh cd i) (rv cd (z (ky Uu Hm)) i) cd (dm cd pl i) ip op) 418 (λi=>Zh i 418) zk (yp _) (λi hi=>by rw[ID hi];decide) fa (λi hi=>qqR cd pl _ ip op i hi (h i hi)) (Bx.ret bj [] zk zk))) (Mq zk),zk⟩,λhv=>⟨?_,rfl⟩,λhv=>?_⟩;rw[hv.2];decide;unfold mJ;rw[decide_eq_false λe=>hv ⟨h,e⟩]
  try rfl
 refine⟨0,dm cd pl m,λf=>Ox.of (r:=some 0) (Y:=[]) hX zk λz=>?_,λhv=>absurd (hv.1 m h1) h3,λ_=>rfl⟩;obtain⟨u,hu⟩:=qyg (P:=P) cd pl (z (ky Uu Hm)) ip op m h1 h3;refine⟨TE m (Mh cd m) u cd (dm cd pl m) ip op,Bx.mono (Bx.run bj 2 (TE 0 0 (z (ky Uu Hm)) cd pl ip op) [] zk (Bx.KQ (b:=UM.drop 2) (λi=>TE i (Mh cd i) (rv cd (z (ky Uu Hm)) i) cd (dm cd pl i) ip op) m (λi=>Zh i 418) zk (λi hi=>yp _ i ga) (λi hi=>by rw[ID (by omega)];decide) (λi hi=>qqR cd pl _ ip op i ga (h2 i hi)) hu)) ?_,zk⟩;exact Qf (Nat.add_le_add_left (Nat.add_le_add_right (Nat.add_le_add_left (Nat.mul_le_mul_right _ (show m<=418 by omega)) _) _) _) (Mq zk)
end Go.ia.Wi.Wc.Q.Lb
