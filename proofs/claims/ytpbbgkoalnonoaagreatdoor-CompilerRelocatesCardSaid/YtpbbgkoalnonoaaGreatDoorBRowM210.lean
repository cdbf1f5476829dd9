/- Texts joined: ParS5, InpW9, GlGrow, ChkW1, ChkW2, InpX1, InpX2, ChkSize, ChkW3, GlMax. -/
import Derived.Deep.WholeRow
import Derived.Test.YtpbbgkoalnonoaaGreatDoorBRowM22
import Derived.Test.YtpbbgkoalnonoaaGreatDoorBRowM23
import Derived.Test.YtpbbgkoalnonoaaGreatDoorBRowM24
import Derived.Test.YtpbbgkoalnonoaaGreatDoorBRowM25
import Derived.Test.YtpbbgkoalnonoaaGreatDoorBRowM28
import Derived.Test.YtpbbgkoalnonoaaGreatDoorBRowM29
set_option linter.unusedVariables false
set_option linter.unusedSimpArgs false
set_option maxRecDepth 100000
set_option maxHeartbeats 4000000
namespace Go.Proofs.YtpbbgkoalnonoaaGreatDoor
open Go.GL Go.RowKit Go.Stele
theorem tok_lex {s:List UInt8} {T:List Tok} (h:lexAllP s=.ok T):TOK T:=by
 unfold lexAllP at h
 split at h
 ·cases h
 ·obtain ⟨h1,h2⟩:=lexP_ok _ _ _ _ h
  exact ⟨by omega,fun t ht=>by have:=(h2 t ht).1;omega,fun t ht hk=>by
   obtain ⟨u,h3,h4,_⟩:=(h2 t ht).2 hk
   exact ⟨u,h3,h4⟩⟩
instance:TIface Tryz.prog 20:=.of zk
def noPr:Pr:=⟨[],[],[]⟩
def parseP (s:List UInt8):Pr×Int×Int:=match lexAllP s with
 |.error (l,e)=>(noPr,l,e)
 |.ok T=>match sProg T (10 * T.length+20) noPr 0 0 with
  |some (.ok p _ _)=>(p,0,0)
  |some (.err l e)=>(noPr,l,e)
  |none=>(noPr,0,0)
def encParse (r:Pr×Int×Int):LV:=.tuple [encPr r.1,int .i64 r.2.1,int .i64 r.2.2]
theorem RetPostD.ret1 {C:Ctx} {n:Nat} {e:Env} {H H' H1 H2 F:Heap} {R:LRes→Heap→Prop} {rs:List ResultVar} {vs:List LV} {f:FuncId} {caps:Array Value} [hen:TEnter C.P f] (hd:e.ds=[{ target:=.fn (.func f) caps,args:=#[] }]) (hp:H.Perm (H1++F))
  (hc:LCallsD C f (caps.toList.map .atom) .returning H1 (fun u H'=>u=.returning∧H'=H2)) (h:AllRes C n e (H2++F) rs vs) (hH:HSub H' (H2++F)) (hR:R (.ret (resLV vs)) H'):RetPostD C n rs R .ret e H:=by
 unfold RetPostD
 simp only[hd]
 refine ⟨by simp,f,caps,H1,F,rfl,hen,hp,LCallsD.mono hc ?_⟩
 rintro u H'' ⟨rfl,rfl⟩
 exact ⟨vs,H',h,hH,hR⟩
theorem RetPostD.panic1 {C:Ctx} {n:Nat} {e:Env} {H H' H1 H2 F:Heap} {R:LRes→Heap→Prop} {rs:List ResultVar} {vs:List LV} {f:FuncId} {caps:Array Value} {ch:List PanicEntry} [hen:TEnter C.P f] (hd:e.ds=[{ target:=.fn (.func f) caps,args:=#[] }]) (hp:H.Perm (H1++F))
  (hc:LCallsD C f (caps.toList.map .atom) (.panicking ch) H1 (fun u H'=>settle u=.returning∧H'=H2)) (h:AllRes C n e (H2++F) rs vs) (hH:HSub H' (H2++F)) (hR:R (.ret (resLV vs)) H'):RetPostD C n rs R (.panic ch) e H:=by
 unfold RetPostD
 simp only[hd]
 refine ⟨by simp,f,caps,H1,F,rfl,hen,hp,LCallsD.mono hc ?_⟩
 rintro u H'' ⟨hu,rfl⟩
 rw[hu]
 exact ⟨vs,H',h,hH,hR⟩
def resP:Res Pr→Pr×Int×Int
 |.ok p _ _=>(p,0,0)
 |.err l e=>(noPr,l,e)
theorem lexP_err:∀ (f:Nat) (s:List UInt8) (line l e:Int),lexP f s line=.error (l,e)→¬ e=0
 |0,s,line,l,e,h=>by
  rw[lexP] at h
  cases h
 |f+1,s,line,l,e,h=>by
  rw[lexP] at h
  split at h
  ·cases h
  ·split at h
   ·split at h
    ·rename_i he
     cases h
     exact he
    ·cases hx:lexP f (s.drop (lexToken s).2.1) (line+((s.take (lexToken s).2.1).count 10:Nat)) with
     |ok T=>rw[hx] at h;cases h
     |error p=>
      rw[hx] at h
      cases h
      exact lexP_err f _ _ _ _ hx
   ·exact lexP_err f _ _ _ _ h
theorem lexAllP_err {s:List UInt8} {l e:Int} (h:lexAllP s=.error (l,e)):¬ e=0:=by
 unfold lexAllP at h
 split at h
 ·cases h
  decide
 ·exact lexP_err _ _ _ _ _ h
theorem memA {A:Type} {p:A} {H:List A} (h:p∈H:=by first|exact List.Mem.head _|exact List.Mem.tail _ zm0|exact List.Mem.tail _ zm1|exact List.Mem.tail _ zm2|exact List.Mem.tail _ zm3|exact List.Mem.tail _ zm4|exact List.Mem.tail _ zm5):p∈H:=h
attribute [local irreducible] LOps LCode LStep LCalls Go.GL.Pure QThen QBlock RetPost LQ LAny LLate LLateOp LOpsP LCodeP LCodeS LCallsD
section
variable {B0:Nat} {w0:World}
theorem rec_ret (b2 b3 b4:Nat) (cs:List LV) (c d:LV):LCallsD (KC B0 w0) 69 [ptr b2 0,ptr b3 0,ptr b4 0] .returning [(b2,.cells 26 cs),(b3,.cells 3 [c]),(b4,.cells 31 [d])]
  (fun u H=>u=.returning∧H=[(b2,.cells 26 cs),(b3,.cells 3 [c]),(b4,.cells 31 [d])]):=by
 refine LCallsD.intro Tryz.func69 rfl (n:=22) rfl rfl rfl ?_
 refine LCodeS.seq (LCodeS.recover rfl rfl ?_)
 refine LCodeS.of ?_
 refine gac ?_
 refine oC rfl (fun hc=>?_) (fun hc=>?_)
 ·cases hc
 ·refine gaa ?_
  exact ⟨rfl,_,zhR _,rfl,rfl⟩
theorem rec_pan (b2 b3 b4:Nat) (c1 c2 c3 c d:LV) (l er:Int):LCallsD (KC B0 w0) 69 [ptr b2 0,ptr b3 0,ptr b4 0] (.panicking (pan l er)) [(b2,.cells 26 [c1,c2,c3]),(b3,.cells 3 [c]),(b4,.cells 31 [d])]
  (fun u H=>settle u=.returning∧H=[(b2,.cells 26 [nilSlice,nilSlice,nilSlice]),(b3,.cells 3 [int .i64 l]),(b4,.cells 31 [int .i64 er])]):=by
 refine LCallsD.intro Tryz.func69 rfl (n:=22) rfl rfl rfl ?_
 refine LCodeS.seq (LCodeS.recover rfl rfl ?_)
 refine LCodeS.of ?_
 refine gac ?_
 refine oC rfl (fun hc=>?_) (fun hc=>?_)
 ·refine gaf ?_
  refine oP (Pure.assertOk (vs:=[.int .i64 l,.int .i64 er]) rfl) rfl ?_
  refine gad ?_
  refine oS (sA fun b5=>?_) rfl
  refine gac ?_
  refine oC rfl (fun hd=>?_) (fun hd=>?_)
  ·cases hd
  ·refine gaa ?_
   refine LCode.draw (m:=8) rfl [(b5,.cells 155 [int .i64 l,int .i64 er])] ?_
   refine aT 0 rfl rfl (Pure.bld _ (cs:=[_,_,_]) rfl) ?_
   refine aT 1 rfl rfl (pF rfl) ?_
   refine aT 2 rfl rfl (pL (c:=.atom _) rfl zm0 rfl) ?_
   refine aT 3 rfl rfl (pF rfl) ?_
   refine aT 4 rfl rfl (pL (c:=.atom _) rfl zm0 rfl) ?_
   refine LAny.late ?_ zhp
   refine lO 5 (lS (H1:=[(b2,.cells 26 [c1,c2,c3])]) (F:=[(b5,.cells 155 [int .i64 l,int .i64 er]),(b3,.cells 3 [c]),(b4,.cells 31 [d])]) rfl (.inl rfl) rfl zp1 zhp (sS (cs':=[_,_,_]) rfl pH rfl rfl rfl rfl rfl ?_))
   refine lO 6 (lS (H1:=[(b3,.cells 3 [c])]) (F:=[(b2,.cells 26 [nilSlice,nilSlice,nilSlice]),(b5,.cells 155 [int .i64 l,int .i64 er]),(b4,.cells 31 [d])]) rfl (.inl rfl) rfl zp2 (zhP zp1 zhn) (sS (cs':=[_]) rfl pH rfl rfl rfl rfl rfl ?_))
   refine lO 7 (lS (H1:=[(b4,.cells 31 [d])]) (F:=[(b3,.cells 3 [int .i64 l]),(b2,.cells 26 [nilSlice,nilSlice,nilSlice]),(b5,.cells 155 [int .i64 l,int .i64 er])]) rfl (.inl rfl) rfl zp3 (zhP zp2 zhn) (sS (cs':=[_]) rfl pH rfl rfl rfl rfl rfl ?_))
   refine lD zk ?_
   exact ⟨rfl,_,zhP zp2 (zhP zp1 zhp),rfl,rfl⟩
 ·cases hc
theorem parse_any (hG:GW B0 w0) (s:List UInt8):LCalls (KC B0 w0) 33 [str s] [] (Ret (encParse (parseP s))):=by
 refine LCalls.introD Tryz.func33 rfl (n:=24) rfl rfl rfl ?_
 refine LCodeP.seq (LCodeP.of ?_)
 refine gag ?_
 refine oS (sA fun b2=>?_) rfl
 refine oS (sA fun b3=>?_) rfl
 refine oS (sA fun b4=>?_) rfl
 refine gap ?_
 refine LCodeP.seq (LCodeP.of ?_)
 refine gaf ?_
 refine oS (sF [_] rfl (Tokens_any hG s) ?_) rfl
 cases hL:lexAllP s with
 |error le=>
  obtain ⟨l,er⟩:=le
  have he0:¬ er=0:=lexAllP_err hL
  simp only[encLex]
  refine gad ?_
  refine LCodeP.seq (LCodeP.of ?_)
  refine gab ?_
  refine oC rfl (fun hc=>?_) (fun hc=>?_)
  ·refine gaa ?_
   refine LCode.draw (m:=6) rfl [] ?_
   refine aT 0 rfl rfl (Pure.bld _ (cs:=[_,_,_]) rfl) ?_
   refine LAny.late ?_ zhn
   refine LLate.three (i:=1) (j:=2) (k:=3) zk ?_ ?_ ?_
   ·refine lH rfl rfl (pL (c:=.atom _) rfl zm1 rfl) ?_
    refine LLate.two (i:=2) (j:=3) zk ?_ ?_
    ·refine lH rfl rfl (pL (c:=.atom _) rfl zm0 rfl) ?_
     refine zl1 (i:=3) zk ?_
     refine lW rfl (.inl rfl) rfl (sS (cs':=[_,_,_]) rfl zp2 rfl rfl rfl rfl rfl ?_)
     exact zT8
    ·refine lW rfl (.inl rfl) rfl (sS (cs':=[_,_,_]) rfl zp2 rfl rfl rfl rfl rfl ?_)
     refine LLate.two (i:=2) (j:=4) zk ?_ ?_
     ·refine lH rfl rfl (pL (c:=.atom _) rfl zm1 rfl) ?_
      exact zT8
     ·refine lW rfl (.inl rfl) rfl (sS (cs':=[_]) rfl zp2 rfl rfl rfl rfl rfl ?_)
      refine zl1 (i:=2) zk ?_
      refine lH rfl rfl (pL (c:=.atom _) rfl zm2 rfl) ?_
      exact zT2
   ·refine lH rfl rfl (pL (c:=.atom _) rfl zm0 rfl) ?_
    refine LLate.two (i:=1) (j:=3) zk ?_ ?_
    ·refine lH rfl rfl (pL (c:=.atom _) rfl zm1 rfl) ?_
     refine zl1 (i:=3) zk ?_
     refine lW rfl (.inl rfl) rfl (sS (cs':=[_,_,_]) rfl zp2 rfl rfl rfl rfl rfl ?_)
     exact zT8
    ·refine lW rfl (.inl rfl) rfl (sS (cs':=[_,_,_]) rfl zp2 rfl rfl rfl rfl rfl ?_)
     refine zl1 (i:=1) zk ?_
     refine lH rfl rfl (pL (c:=.atom _) rfl zm2 rfl) ?_
     exact zT8
   ·refine lW rfl (.inl rfl) rfl (sS (cs':=[_,_,_]) rfl zp2 rfl rfl rfl rfl rfl ?_)
    refine LLate.two (i:=1) (j:=2) zk ?_ ?_
    ·refine lH rfl rfl (pL (c:=.atom _) rfl zm2 rfl) ?_
     refine LLate.two (i:=2) (j:=4) zk ?_ ?_
     ·refine lH rfl rfl (pL (c:=.atom _) rfl zm1 rfl) ?_
      exact zT8
     ·refine lW rfl (.inl rfl) rfl (sS (cs':=[_]) rfl zp2 rfl rfl rfl rfl rfl ?_)
      refine zl1 (i:=2) zk ?_
      refine lH rfl rfl (pL (c:=.atom _) rfl zm2 rfl) ?_
      exact zT2
    ·refine lH rfl rfl (pL (c:=.atom _) rfl zm1 rfl) ?_
     refine zl1 (i:=1) zk ?_
     refine lH rfl rfl (pL (c:=.atom _) rfl zm2 rfl) ?_
     exact zT8
  ·have:er=0:=by simpa using hc
   exact absurd this he0
 |ok T=>
  have hT:=tok_lex hL
  simp only[encLex]
  refine gad ?_
  refine LCodeP.seq (LCodeP.of ?_)
  refine gab ?_
  refine oC rfl (fun hc=>?_) (fun hc=>?_)
  ·cases hc
  ·refine gaa ?_
   refine LCodeP.seq (LCodeP.region ?_)
   refine gad ?_
   refine LOpsP.defer rfl rfl ?_
   refine LOpsP.nil ?_
   refine qN ?_
   refine LCodeP.seq (LCodeP.of ?_)
   refine gac ?_
   refine oS (S.box rfl fun sb=>?_) rfl
   refine gau ?_
   refine LCodeP.seq (LCodeP.region ?_)
   refine gad ?_
   obtain ⟨r,hr⟩:=sProg_ends T (10 * T.length+20) noPr 0 0 (Nat.zero_le _) zo
   have hp:parseP s=resP r:=by
    rw[parseP,hL]
    simp only[hr]
    cases r <;> rfl
   rw[hp]
   refine LOpsP.step (S.callP (T:=T) (i:=0) (op:=0) [_] rfl pH (program_spec hG sb T hT _ r hr) (fun v i1 op1 h1=>?_) (fun l er i1 op1 h1=>?_)) rfl
   ·subst h1
    refine LOpsP.step (sS (cs':=[_,_,_]) rfl zp3 rfl rfl rfl rfl rfl ?_) rfl
    refine LOpsP.step (sS (cs':=[_]) rfl zp3 rfl rfl rfl rfl rfl ?_) rfl
    refine LOpsP.step (sS (cs':=[_]) rfl zp3 rfl rfl rfl rfl rfl ?_) rfl
    refine LOpsP.nil ?_
    refine qN ?_
    refine LCodeP.ret ?_
    exact RetPostD.ret1 (vs:=[encPr v,int .i64 0,int .i64 0]) (H2:=[(b2,.cells 26 [.list (v.vars.map str),.list (v.arrays.map encAr),.list (v.funcs.map encFn)]),(b3,.cells 3 [int .i64 0]),(b4,.cells 31 [int .i64 0])]) rfl (zp2.trans (List.Perm.cons _ (zp1.trans (List.Perm.cons _ zpr)))) (rec_ret b2 b3 b4 _ _ _)
     (rC (rA (k:=3) rfl zm0 rfl zsr) (rC (ResIs.cellOne rfl zm1 rfl zsr) (rC (ResIs.cellOne rfl zm2 rfl zsr) rN))) zhn ⟨rfl,rfl⟩
   ·subst h1
    refine QThen.panic ?_
    exact RetPostD.panic1 (vs:=[encPr noPr,int .i64 l,int .i64 er]) (H2:=[(b2,.cells 26 [nilSlice,nilSlice,nilSlice]),(b3,.cells 3 [int .i64 l]),(b4,.cells 31 [int .i64 er])]) rfl (zp3.trans (List.Perm.cons _ (zp2.trans (List.Perm.cons _ (zp1.trans zpr))))) (rec_pan b2 b3 b4 _ _ _ _ _ l er)
     (rC (rA (k:=3) rfl zm0 rfl (LV.Sub.agg (bs:=[.list [],.list [],.list []]) ⟨LV.Sub.nil,LV.Sub.nil,LV.Sub.nil,trivial⟩)) (rC (ResIs.cellOne rfl zm1 rfl zsr) (rC (ResIs.cellOne rfl zm2 rfl zsr) rN))) zhn ⟨rfl,rfl⟩
theorem parse_spec (hG:GW B0 w0) (s:List UInt8) (hs:s.length≤1000000000):LCalls (KC B0 w0) 33 [str s] [] (Ret (encParse (parseP s))):=parse_any hG s
end
end Go.Proofs.YtpbbgkoalnonoaaGreatDoor
namespace Go.Proofs.YtpbbgkoalnonoaaGreatDoor.Inp
open Go.GL Go.RowKit Go.Stele
def irErr {A:Type}:IR A→Int
 |.ok _ _=>0
 |.stop e _=>e
attribute [local irreducible] LOps LCode LStep LCalls Go.GL.Pure QThen QBlock RetPost LQ LAny LLate LLateOp LS LOpsP LCodeP LCodeS LCallsD
section
variable {B0:Nat} {w0:World}
theorem mrec_ret (b2:Nat) (d:LV):LCallsD (KC B0 w0) 161 [ptr b2 0] .returning [(b2,.cells 31 [d])]
  (fun u H=>u=.returning∧H=[(b2,.cells 31 [d])]):=by
 refine LCallsD.intro Tryz.func161 rfl (n:=17) rfl rfl rfl ?_
 refine LCodeS.seq (LCodeS.recover rfl rfl ?_)
 refine LCodeS.of ?_
 refine gac ?_
 refine oC rfl (fun hc=>?_) (fun hc=>?_)
 ·cases hc
 ·refine gaa ?_
  exact ⟨rfl,_,zhR _,rfl,rfl⟩
theorem mrec_pan (b2:Nat) (d:LV) (er:Int):LCallsD (KC B0 w0) 161 [ptr b2 0] (.panicking (panI er)) [(b2,.cells 31 [d])]
  (fun u H=>settle u=.returning∧H=[(b2,.cells 31 [int .i64 er])]):=by
 refine LCallsD.intro Tryz.func161 rfl (n:=17) rfl rfl rfl ?_
 refine LCodeS.seq (LCodeS.recover rfl rfl ?_)
 refine LCodeS.of ?_
 refine gac ?_
 refine oC rfl (fun hc=>?_) (fun hc=>?_)
 ·refine gaf ?_
  refine oP (Pure.assertOk (vs:=[.int .i64 er]) rfl) rfl ?_
  refine gad ?_
  refine oS (sA fun b5=>?_) rfl
  refine gac ?_
  refine oC rfl (fun hd=>?_) (fun hd=>?_)
  ·cases hd
  ·refine gac ?_
   exact ⟨rfl,_,zhP pH zhn,rfl,rfl⟩
 ·cases hc
theorem pick_last {p q:Nat×LObj} {H:Heap}:Pick p (H++[q,p]) (q::H):=(List.perm_append_comm (l₂:=[q,p])).trans (List.Perm.swap p q H)
theorem last_get {A B:Type} (g:A→B) {l:List A} {a:A} (h:l.getLast? = some a):(l.map g)[(((l.map g).length:Int)-1).toNat]? = some (g a):=by
 rw[List.getLast?_eq_getElem?] at h
 rw[zLm,List.getElem?_map,show ((l.length:Int)-1).toNat=l.length-1 by omega,h]
 try rfl
theorem last_main {p:Pr} (h:mainI p∈p.funcs):p.funcs.getLast? = some (mainI p):=by
 unfold mainI
 cases hl:p.funcs.getLast? with
 |none=>rw[List.getLast?_eq_none_iff.1 hl] at h;cases h
 |some a=>rfl
theorem main_spec {c:Cfg} (hC:CfgOk c) {s:IS} {H:Heap} (hg:Good c c.lim s) (hs:St c s H):LCalls (KC B0 w0) 91 [ptr c.rb 0] H
  (fun r H'=>St c (blkR (stI c.p c.lim (mainI c.p)) (mainI c.p).body s).st H'∧r=.ret (int .i64 (irErr (blkR (stI c.p c.lim (mainI c.p)) (mainI c.p).body s)))):=by
 obtain ⟨hm1,hm2,hm3⟩:=hC.valid.main
 have hlast:=last_main hm1
 obtain ⟨kn,hvb,hkn⟩:=hC.valid.bodies _ hm1
 have hsm:=hC.small.each _ hm1
 have hB:=block_spec (B0:=B0) (w0:=w0) hC (run_all hC c.lim).2
 have hfl:c.p.funcs.length≤2000000:=hC.small.funcs
 generalize hI:blkR (stI c.p c.lim (mainI c.p)) (mainI c.p).body s=R
 have hs1:=hs
 obtain ⟨hl,hle,v,Ha,hacc,rfl⟩:=hs
 refine LCalls.introD Tryz.func91 rfl (n:=24) rfl rfl rfl ?_
 refine LCodeP.seq (LCodeP.of ?_)
 refine gag ?_
 refine oS (sA fun b2=>?_) rfl
 refine gap ?_
 refine LCodeP.seq (LCodeP.region ?_)
 refine gad ?_
 refine LOpsP.defer rfl rfl ?_
 refine LOpsP.nil ?_
 refine qN ?_
 refine LCodeP.seq (LCodeP.of ?_)
 have hfl2:(c.p.funcs.map encFn).length≤2000000:=by rw[zLm];exact hfl
 have hfl3:1≤(c.p.funcs.map encFn).length:=by
  rw[zLm]
  exact List.length_pos_of_mem hm1
 refine LCode.draw (m:=16) rfl [(c.rb,.cells 185 (runC c s v))] ?_
 refine aT 0 rfl rfl (pM (lv:=.atom _) rfl) ?_
 refine aT 1 rfl rfl (pN rfl) ?_
 refine aT 2 rfl rfl (pF rfl) ?_
 refine aT 3 rfl rfl (pF rfl) ?_
 refine aT 4 rfl rfl (pL (c:=.list _) rfl zm0 rfl) ?_
 refine aT 5 rfl rfl (pM (lv:=.atom _) rfl) ?_
 refine aT 6 rfl rfl (pN rfl) ?_
 refine aT 7 rfl rfl (pF rfl) ?_
 refine aT 8 rfl rfl (pF rfl) ?_
 refine aT 9 rfl rfl (pL (c:=.list _) rfl zm0 rfl) ?_
 refine aT 10 rfl rfl (Pure.llen rfl) ?_
 refine aT 11 rfl rfl (Pure.sub rfl rfl zo) ?_
 refine LAny.take (i:=12) (zhP zp1 zhn) rfl zk zk zk rfl (xR (el':=encFn (mainI c.p)) (cs:=[_,_,_,_]) rfl rfl zo (last_get encFn hlast) rfl rfl) ?_
 refine aT 13 rfl rfl (Pure.ldRefAgg (cs':=[_,_,_,_]) rfl rfl rfl) ?_
 refine LAny.late ?_ (zhP zp1 zhn)
 refine lO 14 (lS (H1:=[]) rfl (.inl rfl) rfl zpr (zhP zp1 zhn) (LStep.alloc fun b3=>?_))
 refine lO 15 (lS (H1:=[_]) rfl (.inl rfl) rfl zpr (zhP zp1 zhn) (sS (n:=4) (cs':=[_,_,_,_]) rfl pH rfl rfl rfl rfl rfl ?_))
 refine lD zk ?_
 refine QNo.normal ?_
 refine LCodeP.seq (LCodeP.region ?_)
 refine gad ?_
 refine LOpsP.step (S.callI [_,_,_] rfl (List.perm_append_comm (l₁:=[_,_])) (hB (mainI c.p) kn (mainI c.p).body s _ hm1 hkn hvb (hC.nums _ hm1) hsm.body hsm.stmts hg hs1) (fun r s2 H2 hr hs2=>?_) (fun er s2 H2 hr hs2=>?_)) rfl
 ·rw[hr] at hI
  subst hI
  refine LOpsP.nil ?_
  refine qN ?_
  refine LCodeP.seq (LCodeP.region ?_)
  refine LOpsP.step (sS (cs':=[_]) rfl pick_last rfl rfl rfl rfl rfl ?_) rfl
  refine LOpsP.nil ?_
  refine qN ?_
  refine LCodeP.ret ?_
  exact RetPostD.ret1 (vs:=[int .i64 0]) (H2:=[(b2,.cells 31 [int .i64 0])]) rfl zpr (mrec_ret b2 _)
   (rC (ResIs.cellOne rfl zm0 rfl zsr) rN) (zhD (zhD zhr)) ⟨hs2,rfl⟩
 ·rw[hr] at hI
  subst hI
  refine QThen.panic ?_
  exact RetPostD.panic1 (H1:=[(b2,.cells 31 [int .i64 0])]) (F:=_::H2) (vs:=[int .i64 er]) (H2:=[(b2,.cells 31 [int .i64 er])]) rfl pick_last (mrec_pan b2 _ er)
   (rC (ResIs.cellOne rfl zm0 rfl zsr) rN) (zhD (zhD zhr)) ⟨hs2,rfl⟩
end
end Go.Proofs.YtpbbgkoalnonoaaGreatDoor.Inp
namespace Go.GL
open Go.RowKit
section
variable {C:Ctx} {e:Env} {H:Heap} {dst:Option Nat} {ty:TypeId} {pos:String} {aft:Array Edge} {g:Option (Nat×Bool)} {K:LV→Heap→Prop} {X:List PanicEntry→Heap→Prop} {x y:Operand}
theorem run_equal_slice {P:Program} {t el s:Nat} [h:TSlice P t el s] (a:Option Addr) (n m:Nat) (w:World):(Op.equal t (.slice a n m) (.slice none 0 0)).run P w=.ok a.isNone w:=by
 rw[equal_step,Op.equalIn]
 cases a <;> simp only[Sem.run_bind,run_underlying' h.und,Result.andThen_ok,Sem.run_pure] <;> rfl
theorem S.sliceNil {t el s yT:Nat} [ht:TSlice C.P t el s] {es:List LV} (hx:elems (e.ev x)=some es) (hk:∀ b,(b=true→es=[])→K (bool b) H):LStep C ⟨dst,.binOp .eql t x (.const (.slice none 0 0)) yT,ty,pos,aft,g⟩ e H K X:=fun ρ w L h hH=>by
 obtain ⟨a,cap,hv,hc,hr⟩:=(h x).elems hx
 have h2:=atom_of h (x:=.const (.slice none 0 0)) rfl
 have he:eqGuard .eql t x (.const (.slice none 0 0)) (.slice a es.length cap) (.slice none 0 0)=Pure.pure ():=by simp[eqGuard]
 have hb:binOp .eql t (.slice a es.length cap) (.slice none 0 0)=(do Pure.pure (.bool (←Op.equal t (.slice a es.length cap) (.slice none 0 0)))):=rfl
 have hrun:(execOp ρ ⟨dst,.binOp .eql t x (.const (.slice none 0 0)) yT,ty,pos,aft,g⟩).run C.P w=.ok (.value (.bool a.isNone)) w:=by
  simp only[execOp,hv,h2,he,hb,Sem.run_bind,Sem.run_pure,Result.andThen_ok,run_equal_slice]
 rw[hrun]
 refine ⟨bool a.isNone,H,L,Fr.refl _ _ _,hH,rep_atom,hk _ fun hn=>?_⟩
 cases a with
 |some a=>cases hn
 |none=>
  cases es with
  |nil=>rfl
  |cons v es=>
   obtain ⟨b,off,k,h3,_⟩:=hr (by simp)
   cases h3
theorem Pure.rowCap {t el s:Nat} [TSlice C.P t el s] {a:Option Addr} {m cap:Nat} (hx:e.ev x=.atom (.slice a m cap)):Pure C ⟨dst,.call { callee:=.builtin .cap,args:=#[x],argTypes:=#[t] },ty,pos,aft,g⟩ e H (int .i64 cap):=
 .of_any fun ρ _ _ h=>⟨_,rep_atom,fun w'=>by
  have hu:=run_underlying' (P:=C.P) (TSlice.und (t:=t)) w'
  have h0:∀ (cs:Array Bool) (args:Array Value),builtin .cap #[t] ty cs args=(do Pure.pure (.value (←Builtin.cap_ #[t] ty args))):=fun _ _=>rfl
  rw[execOp_builtin',h0]
  simp[Builtin.cap_,hu,goInt,atom_of h hx]⟩
theorem Pure.rowSlice {t el s:Nat} [ht:TSlice C.P t el s] {a:Option Addr} {m cap n:Nat} {hi:Operand} {k:IntKind} (hx:e.ev x=.atom (.slice a m cap)) (hh:e.ev hi=int k n) (hn:n≤cap) :
  Pure C ⟨dst,.slice t x none (some hi) none,ty,pos,aft,g⟩ e H (.atom (.slice a n cap)):=.of_any fun ρ w L h=>by
 obtain ⟨ti,hti,hsz⟩:=ht.size
 refine ⟨_,rep_atom,fun w'=>?_⟩
 have hb:=run_sliceBounds (P:=C.P) (w':=w') (len:=m) (cap:=cap) (lo:=none) (hi:=some hi) (i:=0) (j:=n) h true rfl ⟨k,hh⟩ zo zo zo
 have h3:execOp ρ ⟨dst,.slice t x none (some hi) none,ty,pos,aft,g⟩=(do Pure.pure (.value (←Instr.sliceAt t (ρ x) none (some (ρ hi)) none))):=rfl
 rw[h3,atom_of h hx]
 simp only[Option.map_none,Option.map_some] at hb
 simp only[Instr.sliceAt,Instr.slice,Sem.run_bind,run_underlying' (P:=C.P) ht.und w',Result.andThen_ok,Sem.run_pure,hb,run_sizeOf' hti,hsz]
 have ha:∀ a:Addr,a.add 0=a:=fun a=>by
  obtain ⟨b,o,sp⟩:=a
  unfold Addr.add
  cases sp <;> simp
 simp[ha]
theorem S.appZeros {sT xT el bytes:Nat} {zv:Value} [ht:TSlice C.P sT el 1] [hr:TRow C.P el 1 bytes] [hz:TZero C.P el [zv]] [hk0:TKind C.P xT .i64] {n:Nat} (hx:e.ev x=nilSlice) (hy:e.ev y=int .i64 n) (hn:0<n) (hroom:n * bytes≤140737488355328)
  (hk:∀ b cap,n≤cap→K (.atom (.slice (some ⟨b,0,none⟩) n cap)) ((b,.cells el (List.replicate cap (.atom zv)))::H)) :
  LStep C ⟨dst,.call { callee:=.builtin .append,args:=#[x,y],argTypes:=#[sT,xT] },ty,pos,aft,g⟩ e H K X:=by
 refine LStep.at0 fun ρ w L h hH=>?_
 have h0:∀ (cs:Array Bool) (args:Array Value),builtin .append #[sT,xT] ty cs args=(do Pure.pure (.value (←Builtin.append_ #[sT,xT] ty args))):=fun _ _=>rfl
 obtain ⟨i,z,hi,hs,hb,hb0,hzz,hzs⟩:=hr.out
 obtain ⟨i',z',hi',hz',hc',hs'⟩:=hz.out
 rw[hi] at hi'
 obtain rfl:=Option.some.inj hi'
 rw[hzz] at hz'
 obtain rfl:=Option.some.inj hz'
 have hmul:n≤n * bytes:=Nat.le_mul_of_pos_right _ hb0
 have wn:IntKind.i64.wrap (n:Int)=n:=wrap_i64 zo
 have n1:¬ ((n:Int)<0):=by omega
 have n2:¬ ((281474976710656:Int)<(n:Int) * (i.bytes:Int)):=by
  rw[hb]
  have:((n * bytes:Nat):Int)≤140737488355328:=by omega
  rw[Int.natCast_mul] at this
  omega
 have h63':¬ (9223372036854775807<(n:Int)):=by omega
 have hfit:=growslice_fits (bytes:=bytes) (need:=n) (old:=0) hn hroom
 have h48':¬ (281474976710656<Builtin.nextslicecap n 0 * i.bytes):=by
  rw[hb]
  omega
 have hn0:¬ n=0:=by omega
 have hz1:∀ m,(Builtin.zeroCells #[zv] m)=(List.replicate m zv).toArray:=fun m=>by
  unfold Builtin.zeroCells
  apply Array.ext
  ·simp
  ·intro j h1 h2
   simp[Nat.mod_one]
 have hcap:n≤grownCap w n 0 el:=by simp[grownCap,Question.cut]
 have hrun:(Builtin.append_ #[sT,xT] ty #[.slice none 0 0,.int .i64 n]).run C.P w=.ok (.slice (some ⟨w.heap.size,0,none⟩) n (grownCap w n 0 el)) (World.push w.drew (.cells (List.replicate (grownCap w n 0 el) zv).toArray el)):=by
  simp[Builtin.append_,run_underlying' ht.und,run_underlying' hk0.und,sizeOf,typeInfo,zeroValue,hi,hs,hzz,hc',asInt,asIntOf,wn,n1,n2,hn0,h63',h48',Question.forced,newRow,grownCap,Builtin.firstCells,hz1]
  show World.push w.drew _=World.push w.drew _
  congr 2
  apply Array.ext'
  have:=hcap
  unfold grownCap at this
  congr 2
  omega
 rw[execOp_builtin',h0]
 simp only[List.map_toArray,zMc,List.map_nil,Sem.run_bind,atom_of h hx,atom_of h hy,hrun,Result.andThen_ok,Sem.run_pure]
 have hHd:=hH.drew
 have hrep:RepL w.drew L (List.replicate (grownCap w n 0 el) (.atom zv)) (List.replicate (grownCap w n 0 el) zv):=by
  have:=repL_atoms (w:=w.drew) (L:=L) (List.replicate (grownCap w n 0 el) zv)
  rwa [List.map_replicate] at this
 have hx':=ext_push hHd.wf (.cells (List.replicate (grownCap w n 0 el) zv).toArray el) 0
 have:=fr_push hHd (.cells (List.replicate (grownCap w n 0 el) zv).toArray el) 0 [(w.heap.size,.cells el (List.replicate (grownCap w n 0 el) (.atom zv)))] (fun p hp=>by
  simp only[List.mem_singleton] at hp
  subst hp
  exact ⟨rfl,by simp[Live.upd],List.replicate (grownCap w n 0 el) zv,heap_push_self,hrep.mono hx' _ _⟩) (by simp)
 exact ⟨_,_,_,this.1.of_drew,this.2,rep_atom,hk _ _ hcap⟩
end
section opened
variable {C:Ctx} {n:Nat} {Q:Post} {e:Env} {H F:Heap}
theorem row_open {w:World} {L:Live} {b el:Nat} {cs:List LV} (hp:Pick (b,.cells el cs) H F) (hH:RelH C w L H) (hl:∀ k cap,cap * k≤cs.length→∃ e s,w.shape? b=some (e,s)∧cap * k≤s):RelH C w L ((b,.row 0)::F):=by
 have hH1:=hH.perm hp
 obtain ⟨hb0,hbs,hlb,xs,hx1,hx2⟩:=hH1.objs _ List.mem_cons_self
 simp only at hb0 hbs hlb hx1 hx2
 refine ⟨hH1.base,hH1.lbase,hH1.b0,hH1.wf,hH1.nodup,fun p hp'=>?_⟩
 rcases zMi.1 hp' with rfl|hp'
 ·exact ⟨hb0,hbs,hlb,_,_,_,hx1,Nat.zero_le _,Nat.zero_le _⟩
 ·exact hH1.objs p (zMo _ hp')
theorem shape_cells {w:World} {L:Live} {b el:Nat} {cs:List LV} (hp:Pick (b,.cells el cs) H F) (hH:RelH C w L H):w.shape? b=some (el,cs.length):=by
 have hH1:=hH.perm hp
 obtain ⟨hb0,hbs,hlb,xs,hx1,hx2⟩:=hH1.objs _ List.mem_cons_self
 simp only at hx1
 simp only[World.shape?,hx1]
 rw[List.size_toArray,hx2.length]
theorem LOps.rowOpen {ops:Array Oper} {rest:List Oper} (d k:Nat) {b el cap:Nat} {cs:List LV} (hp:Pick (b,.cells el cs) H F) (hd:e.s d=.atom (.slice (some ⟨b,0,none⟩) 0 cap)) (hc:cap * k≤cs.length) (h:LOps C n ops Q rest (e.upd d (.app b cap k [])) ((b,.row 0)::F)):LOps C n ops Q rest e H:=fun a w L hE hH=>by
 have hs:=shape_cells hp hH
 have hk:∀ x,x∈keys ((b,LObj.row 0)::F)→x∈keys H:=fun x hx=>by
  have:=((hp.map (·.1)).mem_iff (a:=x)).2 (by simpa using hx)
  exact this
 refine wpList_mono (fun _ _ _=>lift_weak hk) _ _ _ (h a w L ⟨hE.size,hE.ds,fun i=>?_⟩ (row_open hp hH fun k2 cap2 h2=>⟨_,_,hs,h2⟩))
 have hv:=hE.vals i
 simp only[Env.upd]
 cases hb:Nat.beq i d with
 |false=>exact hv
 |true=>
  have hi:=Nat.eq_of_beq_eq_true hb
  subst hi
  rw[hd] at hv
  simp only[Rep] at hv
  rw[hv]
  show Rep w L (.app b cap k []) _
  simp only[Rep]
  refine ⟨rfl,Nat.zero_le _,?_,_,_,hs,hc⟩
  simp only[RepRows]
end opened
end Go.GL
namespace Go.Proofs.YtpbbgkoalnonoaaGreatDoor.Chk
open Go.GL Go.RowKit Go.Stele
def RetAcc (es:List LV) (r:LRes) (H:Heap):Prop:=∃ v,r=.ret v∧GL.Acc 1 v es H []
theorem get_mid {A B:Type} (g:A→B) (pre:List A) (a:A) (l:List A):((pre++a::l).map g)[((pre.length:Nat):Int).toNat]? = some (g a):=by
 rw[Int.toNat_natCast,List.getElem?_map,List.getElem?_append_right (zNr _),Nat.sub_self]
 try rfl
theorem hsub_left {H F:Heap}:HSub H (H++F):=⟨F,List.Perm.refl _⟩
theorem str_len (l:List (List UInt8)):∀ v∈l.map str,v.cells.length=1:=fun v hv=>by
 obtain ⟨a,_,rfl⟩:=List.mem_map.1 hv
 rfl
theorem str_ok (l:List (List UInt8)):((l.map str).flatMap LV.cells).all cellOk=true:=by
 induction l with
 |nil=>rfl
 |cons a l ih=>
  simp only[zMc,List.flatMap_cons,List.all_append,ih,Bool.and_true]
  rfl
section
variable {C:Ctx} {n:Nat} {e:Env} {H H':Heap} {rs:List ResultVar} {vs:List LV} {es:List LV} {v:LV}
theorem retAcc (hd:e.ds=[]) (h:AllRes C n e H rs [v]) (hv:GL.Acc 1 v es H' []) (hH:HSub H' H):RetPost C n rs (RetAcc es) .ret e H:=rR hd h hH ⟨v,rfl,hv⟩
end
attribute [local irreducible] LOps LCode LStep LCalls Go.GL.Pure QThen QBlock RetPost LQ LAny LLate LLateOp LS
section
variable {B0:Nat} {w0:World}
theorem clone_spec (l:List (List UInt8)) (hl:l.length≤2000000):LCalls (KC B0 w0) 48 [.list (l.map str)] [] (RetAcc (l.map str)):=by
 refine cI Tryz.func48 rfl (n:=8) rfl rfl rfl ?_
 refine gab ?_
 refine oS (S.sliceNil (es:=l.map str) rfl fun b hb=>?_) rfl
 refine gap ?_
 refine oC rfl (fun hc=>?_) (fun hc=>?_)
 ·have h0:=hb hc
  refine gas ?_
  exact retAcc rfl (rC (rT (v:=nilSlice) rfl zsr) rN) (by rw[h0];exact Acc.nil) zhr
 ·refine gam ?_
  refine oS (S.litA [] rfl eN rfl rfl rfl fun b4=>?_) rfl
  refine gaa ?_
  refine oS (S.acc (es:=[]) (F:=[]) rfl Acc.row rfl (str_len l) (str_ok l) (by simp;omega) fun v' H' hacc=>?_) rfl
  refine oP (pA (lv:=v') rfl) rfl ?_
  refine gak ?_
  exact retAcc rfl (rC (rT (v:=v') rfl zsr) rN) hacc zhr
theorem grow_spec (k:Nat) (hk:k≤1000000000):LCalls (KC B0 w0) 105 [nilSlice,int .i64 k] [] (RetAcc []):=by
 refine cI Tryz.func105 rfl (n:=27) rfl rfl rfl ?_
 refine gab ?_
 refine oC rfl (fun hc=>?_) (fun _=>?_)
 ·have:=zt hc
  omega
 refine gab ?_
 refine oP (Pure.rowCap rfl) rfl ?_
 refine oP (pM (lv:=nilSlice) rfl) rfl ?_
 refine oP (Pure.rowLen rfl) rfl ?_
 refine gac ?_
 refine oC rfl (fun hc=>?_) (fun hc=>?_)
 ·have h0:0<k:=by
   have:=zt hc
   simp at this
   omega
  refine gaf ?_
  refine oP (Pure.rowCap rfl) rfl ?_
  refine oP (Pure.rowSlice (n:=0) rfl rfl (zNr _)) rfl ?_
  refine gaa ?_
  refine oS (S.appZeros (n:=k) rfl (int_eq (by simp)) h0 zo fun b cap hcap=>?_) rfl
  refine gad ?_
  refine oP (Pure.rowSlice (n:=0) rfl rfl zo) rfl ?_
  refine LOps.rowOpen 25 1 pH rfl (by simp) ?_
  refine oP (pA (lv:=.app b cap 1 []) rfl) rfl ?_
  refine gac ?_
  exact retAcc rfl (rC (rT (v:=.app b cap 1 []) rfl zsr) rN) Acc.row zhr
 ·refine gab ?_
  exact retAcc rfl (rC (rT (v:=nilSlice) rfl zsr) rN) Acc.nil zhr
def strsV (l:List (List UInt8)):LV:=.list (l.map str)
theorem sum_le (L:List (List (List UInt8))) (M:Nat) (h:∀ l∈L,l.length≤M):L.flatten.length≤L.length * M:=by
 induction L with
 |nil=>simp
 |cons a L ih=>
  rw[List.flatten_cons,zLa,zLc,Nat.add_mul]
  have h1:=h a zMs
  have h2:=ih fun l hl=>h l (zMo _ hl)
  omega
theorem concat_spec (L:List (List (List UInt8))) (hL:L.length≤4) (hl:∀ l∈L,l.length≤2000000):LCalls (KC B0 w0) 49 [.list (L.map strsV)] [] (RetAcc (L.flatten.map str)):=by
 have hsum:=sum_le L 2000000 hl
 refine cI Tryz.func49 rfl (n:=36) rfl rfl rfl ?_
 refine gac ?_
 refine oL (fun k ls H'=>∃ pre l1,L=pre++l1∧k=l1.length∧ls=[(0,.list (L.map strsV)),(3,int .i64 (pre.flatten.length:Int)),(9,.list (L.map strsV)),(10,int .i64 ((L.map strsV).length:Int)),(11,int .i64 (pre.length:Int))]∧H'=[])
  ⟨L.length,_,_,⟨[],L,rfl,rfl,rfl,rfl⟩,⟨rfl,rfl,rfl,rfl,rfl,trivial⟩,zhR _⟩ ?_
 rintro k ls H' ⟨pre,l1,hLe,rfl,rfl,rfl⟩ j hj
 have hb1:pre.flatten.length≤8000000:=by
  have h1:=hsum
  rw[hLe,List.flatten_append,zLa] at h1
  rw[hLe] at hL
  omega
 have hb2:pre.length≤4:=by
  rw[hLe,zLa] at hL
  omega
 refine gal ?_
 refine oC rfl (fun hc=>?_) (fun hc=>?_)
 ·have hlen:=zt hc
  rw[zLm,hLe,zLa] at hlen
  obtain ⟨a,l2,rfl⟩:∃ a l2,l1=a::l2:=by
   cases l1 with
   |nil=>simp at hlen
   |cons a l2=>exact ⟨a,l2,rfl⟩
  have ha:(a.map str).length≤2000000:=by
   rw[zLm]
   exact hl a (by rw[hLe];exact List.mem_append_right _ zMs)
  refine gam ?_
  refine oP (xR (el':=strsV a) (cs:=[strsV a]) rfl rfl zo (by rw[hLe];exact get_mid strsV pre a l2) rfl rfl) rfl ?_
  refine gac ?_
  refine oC rfl (fun hd=>?_) (fun _=>?_)
  ·have:=zt hd
   omega
  ·refine gab ?_
   exact ⟨l2.length,_,_,Nat.lt_succ_self _,⟨pre++[a],l2,by rw[hLe];simp,rfl,rfl,rfl⟩,⟨rfl,int_eq (by simp),rfl,rfl,int_eq (by simp),trivial⟩,zhR _,hj⟩
 ·have hlen:=zf hc
  rw[zLm,hLe,zLa] at hlen
  obtain rfl:l1=[]:=by
   cases l1 with
   |nil=>rfl
   |cons a l2=>simp at hlen;omega
  rw[zLz] at hLe
  subst hLe
  refine gab ?_
  have hfl:L.flatten.length≤8000000:=by omega
  refine oS (S.callH (H1:=[]) (F:=[]) [_,_] rfl zpr (grow_spec L.flatten.length zo) ?_ (by rintro ch H' ⟨v,h,_⟩;cases h)) rfl
  rintro v Ha ⟨_,h,hacc⟩
  cases h
  rw[zLz]
  refine oP (pA (lv:=v) rfl) rfl ?_
  refine gac ?_
  refine oL (fun k ls H'=>∃ pre l1 v1 Ha1,L=pre++l1∧k=l1.length∧ls=[(6,v1),(25,.list (L.map strsV)),(26,int .i64 ((L.map strsV).length:Int)),(27,int .i64 (pre.length:Int))]∧H'=Ha1∧GL.Acc 1 v1 (pre.flatten.map str) Ha1 [])
   ⟨L.length,_,_,⟨[],L,v,Ha,rfl,rfl,rfl,rfl,hacc⟩,⟨rfl,rfl,rfl,rfl,trivial⟩,zhR _⟩ ?_
  rintro k ls H' ⟨pre,l1,v1,Ha1,hLe,rfl,rfl,rfl,hacc1⟩ j2 hj2
  have hb1:pre.flatten.length≤8000000:=by
   have h1:=hsum
   rw[hLe,List.flatten_append,zLa] at h1
   rw[hLe] at hL
   omega
  have hb2:pre.length≤4:=by
   rw[hLe,zLa] at hL
   omega
  refine gal ?_
  refine oC rfl (fun hc=>?_) (fun hc=>?_)
  ·have hlen:=zt hc
   rw[zLm,hLe,zLa] at hlen
   obtain ⟨a,l2,rfl⟩:∃ a l2,l1=a::l2:=by
    cases l1 with
    |nil=>simp at hlen
    |cons a l2=>exact ⟨a,l2,rfl⟩
   have ha:a.length≤2000000:=hl a (by rw[hLe];exact List.mem_append_right _ zMs)
   refine gam ?_
   refine oP (xR (el':=strsV a) (cs:=[strsV a]) rfl rfl zo (by rw[hLe];exact get_mid strsV pre a l2) rfl rfl) rfl ?_
   refine gac ?_
   refine oP (pM (lv:=v1) rfl) rfl ?_
   refine gaa ?_
   refine oS (S.acc rfl hacc1 rfl (str_len a) (str_ok a) (by rw[zLm,zLm];omega) fun v' H' hacc=>?_) rfl
   refine oP (pA (lv:=v') rfl) rfl ?_
   refine gaq ?_
   exact ⟨l2.length,_,_,Nat.lt_succ_self _,⟨pre++[a],l2,v',H',by rw[hLe];simp,rfl,rfl,rfl,by
    have e:((pre++[a]).flatten.map str)=pre.flatten.map str++a.map str:=by simp
    rw[e]
    exact hacc⟩,⟨rfl,rfl,rfl,int_eq (by simp),trivial⟩,zhR _,hj2⟩
  ·have hlen:=zf hc
   rw[zLm,hLe,zLa] at hlen
   obtain rfl:l1=[]:=by
    cases l1 with
    |nil=>rfl
    |cons a l2=>simp at hlen;omega
   rw[zLz] at hLe
   rw[←hLe] at hacc1
   refine gab ?_
   refine oP (pM (lv:=v1) rfl) rfl ?_
   refine oP (pA (lv:=v1) rfl) rfl ?_
   refine gak ?_
   exact retAcc (hj2.trans hj) (rC (rT (v:=v1) rfl zsr) rN) hacc1 zhr
end
end Go.Proofs.YtpbbgkoalnonoaaGreatDoor.Chk
namespace Go.Proofs.YtpbbgkoalnonoaaGreatDoor.Chk
open Go.GL Go.RowKit Go.Stele
def ownS (f:FnD):List (List UInt8):=(f.params++f.locals).map fun x=>f.name++[46]++x
attribute [local irreducible] LOps LCode LStep LCalls Go.GL.Pure QThen QBlock RetPost LQ LAny LLate LLateOp LS
section
variable {B0:Nat} {w0:World}
theorem scalars_specG {vars:List Nm} {fs:List FnD} (AL:LV) (hv6:vars.length≤2000000) (hf6:fs.length≤2000000) (hsm:∀ f∈fs,SmF f) (hn:∀ f∈fs,f.name.length≤1000∧∀ x∈f.params++f.locals,x.length≤1000):LCalls (KC B0 w0) 26 [.agg [.list (vars.map str),AL,.list (fs.map encFn)]] [] (Ret (.list ((scalarsP vars fs).map str))):=by
 have hown:∀ f∈fs,(ownS f).length≤4000000:=fun f hf=>by
  have h1:f.params.length≤2000000:=(hsm f hf).params
  have h2:f.locals.length≤2000000:=(hsm f hf).locals
  unfold ownS
  rw[zLm,zLa]
  omega
 have hsum:∀ l:List FnD,(∀ f∈l,f∈fs)→((l.map ownS).flatten).length≤l.length * 4000000:=fun l hl=>by
  have:=sum_le (l.map ownS) 4000000 (fun x hx=>by
   obtain ⟨f,hf,rfl⟩:=List.mem_map.1 hx
   exact hown f (hl f hf))
  rwa [zLm] at this
 refine cI Tryz.func26 rfl (n:=40) rfl rfl rfl ?_
 refine gag ?_
 refine oS (S.box rfl fun b1=>?_) rfl
 refine gac ?_
 refine oS (S.callH (H1:=[]) (F:=[_]) [_] rfl zpr (clone_spec vars hv6) ?_ (by rintro ch H' ⟨v,h,_⟩;cases h)) rfl
 rintro v Ha ⟨_,h,hacc⟩
 cases h
 refine LOps.perm (List.perm_append_comm (l₂:=[_])) ?_
 refine oP (pA (lv:=v) rfl) rfl ?_
 refine gac ?_
 refine oL (fun k ls H'=>∃ pre l1 v1 Ha1,fs=pre++l1∧k=l1.length∧ls=[(3,v1),(12,.list (fs.map encFn)),(13,int .i64 ((fs.map encFn).length:Int)),(14,int .i64 (pre.length:Int))]∧H'=Ha1∧GL.Acc 1 v1 ((vars++(pre.map ownS).flatten).map str) Ha1 [])
  ⟨fs.length,_,_,⟨[],fs,v,Ha,rfl,rfl,rfl,rfl,by simpa using hacc⟩,⟨rfl,rfl,rfl,rfl,trivial⟩,zhD zhr⟩ ?_
 rintro k ls Ha1 ⟨pre,l1,v1,_,hLe,rfl,rfl,rfl,hacc1⟩ j hj
 have hb2:pre.length≤2000000:=by
  rw[hLe,zLa] at hf6
  omega
 have hb1:((pre.map ownS).flatten).length≤8000000000000:=by
  have:=hsum pre (fun f hf=>by rw[hLe];exact List.mem_append_left _ hf)
  omega
 refine gal ?_
 refine oC rfl (fun hc=>?_) (fun hc=>?_)
 ·have hlen:=zt hc
  rw[zLm,hLe,zLa] at hlen
  obtain ⟨f,l2,rfl⟩:∃ a l2,l1=a::l2:=by
   cases l1 with
   |nil=>simp at hlen
   |cons a l2=>exact ⟨a,l2,rfl⟩
  have hfm:f∈fs:=by rw[hLe];exact List.mem_append_right _ zMs
  obtain ⟨hn1,hn2⟩:=hn f hfm
  have hp6:f.params.length≤2000000:=(hsm f hfm).params
  have hl6:f.locals.length≤2000000:=(hsm f hfm).locals
  refine gam ?_
  refine oP (xR (el':=encFn f) (cs:=[_,_,_,_]) rfl rfl zo (by rw[hLe];exact get_mid encFn pre f l2) rfl rfl) rfl ?_
  refine gat ?_
  refine oS (sA fun b5=>?_) rfl
  refine gac ?_
  refine oS (sL (es:=[strsV f.params,strsV f.locals]) [_,_] rfl (eC rfl rfl (eC rfl rfl eN)) rfl rfl rfl ?_) rfl
  refine oS (S.callH (H1:=[]) (F:=(b5,.cells 59 [str f.name,strsV f.params,strsV f.locals,.list (f.body.map encS)])::Ha1) [_] rfl zpr (concat_spec [f.params,f.locals] (by simp) (by
   intro l hl
   rcases zMi.1 hl with rfl|hl
   ·exact hp6
   ·rw[List.mem_singleton.1 hl]
    exact hl6)) ?_ (by rintro ch H' ⟨v,h,_⟩;cases h)) rfl
  rintro v2 Ha2 ⟨_,h,hacc2⟩
  cases h
  have hfl:[f.params,f.locals].flatten=f.params++f.locals:=by simp
  rw[hfl] at hacc2
  refine LOps.sub 23 rfl hacc2.sub ?_
  refine LOps.weak (H':=(b5,.cells 59 [str f.name,strsV f.params,strsV f.locals,.list (f.body.map encS)])::Ha1) ⟨Ha2,zPc⟩ ?_
  refine gad ?_
  refine oL (fun k ls H'=>∃ pre2 l3 v3 Ha3,f.params++f.locals=pre2++l3∧k=l3.length∧ls=[(3,v3),(5,ptr b5 0),(12,.list (fs.map encFn)),(13,int .i64 ((fs.map encFn).length:Int)),(14,int .i64 (pre.length:Int)),(23,.list ((f.params++f.locals).map str)),(24,int .i64 (((f.params++f.locals).map str).length:Int)),(25,int .i64 (pre2.length:Int))] ∧
    H'=(b5,.cells 59 [str f.name,strsV f.params,strsV f.locals,.list (f.body.map encS)])::Ha3∧GL.Acc 1 v3 ((vars++(pre.map ownS).flatten++pre2.map fun x=>f.name++[46]++x).map str) Ha3 [])
   ⟨(f.params++f.locals).length,_,_,⟨[],f.params++f.locals,v1,Ha1,rfl,rfl,rfl,rfl,by simpa using hacc1⟩,⟨rfl,rfl,rfl,rfl,rfl,rfl,rfl,rfl,trivial⟩,zhR _⟩ ?_
  rintro k ls H' ⟨pre2,l3,v3,Ha3,hLe2,rfl,rfl,rfl,hacc3⟩ j2 hj2
  have hb3:pre2.length≤4000000:=by
   have:(f.params++f.locals).length≤4000000:=by rw[zLa];omega
   rw[hLe2,zLa] at this
   omega
  refine gal ?_
  refine oC rfl (fun hd=>?_) (fun hd=>?_)
  ·have hlen2:=zt hd
   rw[zLm,hLe2,zLa] at hlen2
   obtain ⟨x,l4,rfl⟩:∃ a l2,l3=a::l2:=by
    cases l3 with
    |nil=>simp at hlen2
    |cons a l2=>exact ⟨a,l2,rfl⟩
   have hx:x.length≤1000:=hn2 x (by rw[hLe2];exact List.mem_append_right _ zMs)
   refine gam ?_
   refine oP (xR (el':=str x) (cs:=[str x]) rfl rfl zo (by rw[hLe2];exact get_mid str pre2 x l4) rfl rfl) rfl ?_
   refine gab ?_
   refine oP (pM (lv:=v3) rfl) rfl ?_
   refine gad ?_
   refine oS (sL (es:=[str (f.name++[46]++x)]) [_] rfl (eC rfl rfl eN) rfl rfl rfl ?_) rfl
   refine oS (S.acc1 rfl hacc3 rfl (str_len [f.name++[46]++x]) rfl (by rw[zLm,zLa,zLa,zLm,zLc,zLn];omega) fun v' H' hacc'=>?_) rfl
   refine oP (pA (lv:=v') rfl) rfl ?_
   refine gaq ?_
   exact ⟨l4.length,_,_,Nat.lt_succ_self _,⟨pre2++[x],l4,v',H',by rw[hLe2];simp,rfl,rfl,rfl,by
    have e:((vars++(pre.map ownS).flatten++(pre2++[x]).map fun x=>f.name++[46]++x).map str)=((vars++(pre.map ownS).flatten++pre2.map fun x=>f.name++[46]++x).map str)++[str (f.name++[46]++x)]:=by simp
    rw[e]
    exact hacc'⟩,⟨rfl,rfl,rfl,rfl,rfl,rfl,rfl,int_eq (by simp),trivial⟩,zhR _,hj2⟩
  ·have hlen2:=zf hd
   rw[zLm,hLe2,zLa] at hlen2
   obtain rfl:l3=[]:=by
    cases l3 with
    |nil=>rfl
    |cons a l2=>simp at hlen2;omega
   rw[zLz] at hLe2
   refine gab ?_
   exact ⟨l2.length,_,_,Nat.lt_succ_self _,⟨pre++[f],l2,v3,Ha3,by rw[hLe];simp,rfl,rfl,rfl,by
    have e:((vars++((pre++[f]).map ownS).flatten).map str)=(vars++(pre.map ownS).flatten++pre2.map fun x=>f.name++[46]++x).map str:=by
     rw[←hLe2]
     simp[ownS]
    rw[e]
    exact hacc3⟩,⟨rfl,rfl,rfl,int_eq (by simp),trivial⟩,zhD zhr,hj2.trans hj⟩
 ·have hlen:=zf hc
  rw[zLm,hLe,zLa] at hlen
  obtain rfl:l1=[]:=by
   cases l1 with
   |nil=>rfl
   |cons a l2=>simp at hlen;omega
  rw[zLz] at hLe
  rw[←hLe] at hacc1
  refine gab ?_
  refine oP (pM (lv:=v1) rfl) rfl ?_
  refine oP (pA (lv:=v1) rfl) rfl ?_
  refine gak ?_
  exact rR hj (rC (rT (v:=v1) rfl hacc1.sub) rN) zhn ⟨rfl,rfl⟩
theorem scalars_spec {p:Pr} (hsm:SmP p) (hn:∀ f∈p.funcs,f.name.length≤1000∧∀ x∈f.params++f.locals,x.length≤1000):LCalls (KC B0 w0) 26 [encPr p] [] (Ret (.list ((scalarsP p.vars p.funcs).map str))):=
 scalars_specG _ hsm.vars hsm.funcs hsm.each hn
end
end Go.Proofs.YtpbbgkoalnonoaaGreatDoor.Chk
namespace Go.Proofs.YtpbbgkoalnonoaaGreatDoor.Inp
open Go.GL Go.RowKit Go.Stele
section
variable {C:Ctx} {e:Env} {H:Heap} {dst:Option Nat} {ty:TypeId} {pos:String} {aft:Array Edge} {g:Option (Nat×Bool)} {x:Operand}
theorem Pure.bytesStr0 {s d el:TypeId} [hs:TSlice C.P s el 1] [he:TKind C.P el .u8] [hd:TStr C.P d] (hx:elems (e.ev x)=some []):Pure C ⟨dst,.convert s d x,ty,pos,aft,g⟩ e H (str []):=fun ρ w L h _=>by
 obtain ⟨a,cap,hv,hcap,hr⟩:=(h x).elems hx
 refine ⟨_,rep_atom,fun w' ha=>?_⟩
 have h0:execOp ρ ⟨dst,.convert s d x,ty,pos,aft,g⟩=(do Pure.pure (.value (←convert s d (ρ x)))):=rfl
 cases a with
 |none=>
  have:=run_convert_bytes_string (P:=C.P) w' s d el none 0 cap hs.und he.und hd.und
  rw[h0,hv,Sem.run_bind]
  show ((convert s d (.slice none 0 cap)).run C.P w').andThen _=_
  rw[this]
  simp[Conv.bytesToString]
  rfl
 |some a=>
  have:=run_convert_bytes_back (P:=C.P) w' s d el a cap [] hs.und he.und hd.und (fun j hj=>by simp at hj)
  rw[h0,hv,Sem.run_bind]
  show ((convert s d (.slice (some a) ([]:List UInt8).length cap)).run C.P w').andThen _=_
  rw[this]
  try rfl
end
attribute [local irreducible] LOps LCode LStep LCalls Go.GL.Pure QThen QBlock RetPost LQ LAny LLate LLateOp LS
section
variable {B0:Nat} {w0:World}
theorem operators_spec:LCalls (KC B0 w0) 90 [] [] (fun r H=>∃ om db oc,r=.ret (.atom (.map (some om)))∧H=[(om,.map (kvs (opsKV db)) oc),divH db]):=by
 refine cI Tryz.func90 rfl (n:=6) rfl rfl rfl ?_
 refine gai ?_
 refine oS (sA fun db=>?_) rfl
 refine gac ?_
 refine oS (S.kvNew fun om=>?_) rfl
 refine oS (S.kvIns (k:=[43]) rfl rfl rfl pH fun c0=>?_) rfl
 refine oS (S.kvIns (k:=[45]) rfl rfl rfl pH fun c1=>?_) rfl
 refine oS (S.kvIns (k:=[42]) rfl rfl rfl pH fun c2=>?_) rfl
 refine oP (Pure.makeFunc rfl rfl) rfl ?_
 refine oS (S.kvIns (k:=[47]) rfl rfl rfl pH fun c3=>?_) rfl
 refine oP (Pure.makeFunc rfl rfl) rfl ?_
 refine oS (S.kvIns (k:=[37]) rfl rfl rfl pH fun c4=>?_) rfl
 refine oS (S.kvIns (k:=[94]) rfl rfl rfl pH fun c5=>?_) rfl
 refine oS (S.kvIns (k:=[61,61]) rfl rfl rfl pH fun c6=>?_) rfl
 refine oS (S.kvIns (k:=[33,61]) rfl rfl rfl pH fun c7=>?_) rfl
 refine oS (S.kvIns (k:=[60]) rfl rfl rfl pH fun c8=>?_) rfl
 refine oS (S.kvIns (k:=[62]) rfl rfl rfl pH fun c9=>?_) rfl
 refine oS (S.kvIns (k:=[60,61]) rfl rfl rfl pH fun c10=>?_) rfl
 refine oS (S.kvIns (k:=[62,61]) rfl rfl rfl pH fun c11=>?_) rfl
 refine oS (S.kvIns (k:=[38,38]) rfl rfl rfl pH fun c12=>?_) rfl
 refine oS (S.kvIns (k:=[124,124]) rfl rfl rfl pH fun c13=>?_) rfl
 refine gaa ?_
 exact rR rfl (zra rfl) zhr ⟨om,db,c13,rfl,rfl⟩
end
end Go.Proofs.YtpbbgkoalnonoaaGreatDoor.Inp
namespace Go.Proofs.YtpbbgkoalnonoaaGreatDoor.Inp
open Go.GL Go.RowKit Go.Stele
def encO (o:OutI):LV:=.agg [str o.out,int .i64 o.err,int .i64 (o.steps:Int)]
def runQ (p:Pr) (inp:List Nat) (steps:Int):OutI:=if checkPr p=0 then limitI p inp steps else ⟨[],1,0⟩
@[reducible] def progH (b:Nat) (p:Pr):Nat×LObj:=(b,.cells 26 [.list (p.vars.map str),.list (p.arrays.map encAr),.list (p.funcs.map encFn)])
@[reducible] def outH (b:Nat):Nat×LObj:=(b,.cells 44 [str [],int .i64 0,int .i64 0])
@[reducible] def runH (rb om sm am fm:Nat) (p:Pr) (inp:List Nat) (steps:Int):Nat×LObj:=(rb,.cells 185 [.list (p.vars.map str),.list (p.arrays.map encAr),.list (p.funcs.map encFn),.atom (.map (some om)),.list (inp.map u32),nilSlice,int .i64 0,int .i64 steps,.atom (.map (some sm)),.atom (.map (some am)),.atom (.map (some fm))])
structure NewRun where
 rb:Nat
 om:Nat
 db:Nat
 oc:Nat
 sm:Nat
 am:Nat
 fm:Nat
def startH (a:NewRun) (b3 b6:Nat) (p:Pr) (inp:List Nat) (steps:Int):Heap:=[runH a.rb a.om a.sm a.am a.fm p inp steps,progH b3 p,(a.sm,.map (kvs []) 0),(a.am,.map (kvs []) 0),(a.fm,.map (kvs []) 0),(a.om,.map (kvs (opsKV a.db)) a.oc),divH a.db,outH b6]
theorem perm_new {s b r q:Nat×LObj} {X S:Heap}:List.Perm (s::b::r::q::(X++S)) (r::q::s::(X++(S++[b]))):=by
 refine ((List.perm_append_comm (l₁:=[s,b]) (l₂:=[r,q])).append_right (X++S)).trans (List.Perm.cons _ (List.Perm.cons _ (List.Perm.cons _ ?_)))
 rw[←zAs]
 exact swap1
theorem perm_new2 {t b r q s:Nat×LObj} {X S:Heap}:List.Perm (t::b::r::q::s::(X++S)) (r::q::s::t::(X++(S++[b]))):=by
 refine ((List.perm_append_comm (l₁:=[t,b]) (l₂:=[r,q,s])).append_right (X++S)).trans (List.Perm.cons _ (List.Perm.cons _ (List.Perm.cons _ (List.Perm.cons _ ?_))))
 rw[←zAs]
 exact swap1
theorem perm_new3 {t b d r q s:Nat×LObj} {X S:Heap}:List.Perm (t::b::d::r::q::s::(X++S)) ((r::q::s::t::(X++(S++[b])))++[d]):=
 (List.Perm.cons t (List.Perm.cons b (swap1 (x:=d) (H:=r::q::s::(X++S))))).trans (perm_new2.append_right [d])
theorem perm_main {r q s a f o d u:Nat×LObj} {S A:Heap}:List.Perm (r::q::s::a::f::(([o,d,u]++S)++A)) (([r,s,a,f,o,d]++(S++A))++[q,u]):=by
 refine List.Perm.cons r ?_
 have h1:List.Perm (q::s::a::f::o::d::u::(S++A)) (q::u::s::a::f::o::d::(S++A)):=
  List.Perm.cons q ((List.perm_append_comm (l₁:=[s,a,f,o,d]) (l₂:=[u])).append_right (S++A))
 exact h1.trans swap2
def scH0 (sb:List (List UInt8×Nat)):Heap:=sb.map fun q=>(q.2,LObj.cells 93 [u32 0])
def arH0 (ab:List (List UInt8×Nat×Nat)):Heap:=ab.map fun q=>(q.2.1,LObj.cells 93 (List.replicate q.2.2 (u32 0)))
theorem arH_start {p:Pr} (hnd:(p.arrays.map (·.name)).Nodup) {ab:List (List UInt8×Nat×Nat)} (hab:ab.map (fun q=>(q.1,q.2.2))=p.arrays.map (fun a=>(a.name,a.size))) (inp:List Nat) (lim:Nat):arH ab (startI p inp lim)=arH0 ab∧∀ q∈ab,((startI p inp lim).ar q.1).length=q.2.2:=by
 have key:∀ q∈ab,(startI p inp lim).ar q.1=List.replicate q.2.2 0:=fun q hq=>by
  have h1:(q.1,q.2.2)∈p.arrays.map (fun a=>(a.name,a.size)):=by rw[←hab];exact List.mem_map.2 ⟨q,hq,rfl⟩
  obtain ⟨a,ha,he⟩:=List.mem_map.1 h1
  injection he with e1 e2
  show (match p.arrays.find? fun a=>decide (a.name=q.1) with
   |some a=>List.replicate a.size 0
   |none=>[])=_
  cases hf:p.arrays.find? fun a=>decide (a.name=q.1) with
  |none=>
   have:=List.find?_eq_none.1 hf a ha
   simp[e1] at this
  |some a2=>
   have h2:a2.name=q.1:=by simpa using List.find?_some hf
   have h3:a2=a:=by
    have hm2:=List.mem_of_find?_eq_some hf
    clear hf h1 hab
    have:∀ (L:List Ar),(L.map (·.name)).Nodup→∀ {x y:Ar},x∈L→y∈L→x.name=y.name→x=y:=fun L=>by
     induction L with
     |nil=>intro _ x y hx;cases hx
     |cons z L ih=>
      intro hn x y hx hy he
      rw[zMc,List.nodup_cons] at hn
      rcases zMi.1 hx with hx1|hx1
      ·rcases zMi.1 hy with hy1|hy1
       ·rw[hx1,hy1]
       ·exact absurd (by rw[←hx1,he];exact List.mem_map_of_mem (f:=Ar.name) hy1) hn.1
      ·rcases zMi.1 hy with hy1|hy1
       ·exact absurd (by rw[←hy1,←he];exact List.mem_map_of_mem (f:=Ar.name) hx1) hn.1
       ·exact ih hn.2 hx1 hy1 he
    exact this p.arrays hnd hm2 ha (h2.trans e1.symm)
   simp only[h3,e2]
 refine ⟨List.map_congr_left fun q hq=>?_,fun q hq=>by rw[key q hq,List.length_replicate]⟩
 rw[key q hq,List.map_replicate]
theorem endI_eq {A:Type} (lim:Nat) (r:IR A):endI lim r=⟨r.st.out,irErr r,lim-r.st.left⟩:=by cases r <;> rfl
theorem lz {C:Ctx} {n:Nat} {ops:Array Oper} {Q:Post} {HF H:Heap} {fuel:Nat} {listed:Array Bool} {e:Env} {i:Nat} {dst:Option Nat} {op:Op} {ty:TypeId} {pos:String} {aft:Array Edge} (hi:ops[i]? = some ⟨dst,op,ty,pos,aft,none⟩) (hd:dstOk n dst)
  (h:LStep C ⟨dst,op,ty,pos,aft,none⟩ e [] (fun lv H'=>LLate C n ops Q HF fuel (listed.setIfInBounds i true) (e.put dst lv) (H'++H)) (fun ch H'=>∀ e',e'.ds=e.ds→Q (.panic ch) e' (H'++H)))
  (hHF:HSub HF H:=by first|exact zhP pH zhn|exact zhP zp1 zhn|exact zhP zp2 zhn|exact zhP zp3 zhn|exact zhP zp4 zhn|exact zhP zp5 zhn|exact zhP zp6 zhn|exact zhP zp7 zhn|exact zhP zp8 zhn):LLateOp C n ops Q HF fuel listed e H i:=lS hi (.inl rfl) hd zpr hHF h
theorem hz {X H:Heap} (h:HSub X H:=by
 repeat first
  |exact HSub.nil _
  |refine zhP (by first|exact pH|exact pT pH|exact pT zp1|exact pT zp2|exact pT zp3|exact pT zp4|exact pT zp5|exact pT zp6|exact pT zp7) ?_):HSub X H:=h
attribute [local irreducible] LOps LCode LStep LCalls Go.GL.Pure QThen QBlock RetPost LQ LAny LLate LLateOp LS
section
variable {B0:Nat} {w0:World}
theorem run_spec {p:Pr} (hsm:SmP p) (hnum:∀ f∈p.funcs,numSs f.body) (hchk:LCalls (KC B0 w0) 24 [encPr p] [] (fun r H=>H=[]∧∃ nm,r=.ret (.tuple [str nm,int .i64 (checkPr p)]))) {inp:List Nat} (hin:∀ v∈inp,Lt v) (steps:Int) :
  LCalls (KC B0 w0) 39 [encPr p,.list (inp.map u32),int .i64 steps] [] (Ret (encO (runQ p inp steps))):=by
 refine cI Tryz.func39 rfl (n:=101) rfl rfl rfl ?_
 refine gag ?_
 refine oS (S.box rfl fun b3=>?_) rfl
 refine oS (sA fun b6=>?_) rfl
 refine gaj ?_
 refine oS (S.callH (H1:=[]) (F:=[_,_]) [_] rfl zpr hchk ?_ (by rintro ch H' ⟨_,nm,h⟩;cases h)) rfl
 rintro lv H' ⟨rfl,nm,h⟩
 cases h
 refine gab ?_
 by_cases hc0:checkPr p=0
 rotate_left
 ·refine oC rfl (fun hc=>?_) (fun hc=>?_)
  ·refine gac ?_
   exact retRet rfl (rC (rA rfl zm0 rfl zsr) rN) (by unfold runQ;rw[if_neg hc0];try rfl)
  ·have h2:(!decide (checkPr p=0))=false:=hc
   simp at h2
   exact absurd h2 hc0
 refine oC rfl (fun hc=>?_) (fun _=>?_)
 ·have h2:(!decide (checkPr p=0))=true:=hc
  simp[hc0] at h2
 have hq:runQ p inp steps=limitI p inp steps:=by unfold runQ;rw[if_pos hc0]
 rw[hq]
 unfold limitI
 refine gac ?_
 refine oC rfl (fun hc=>?_) (fun hc=>?_)
 ·have h1:100000000<steps:=zt hc
  rw[if_pos h1]
  refine gac ?_
  exact retRet rfl (rC (rA rfl zm0 rfl zsr) rN) rfl
 have h1:¬ 100000000<steps:=zf hc
 rw[if_neg h1]
 refine gac ?_
 refine oC rfl (fun hc=>?_) (fun hc=>?_)
 ·have h2:steps≤0:=zt hc
  rw[if_pos h2]
  refine gac ?_
  exact retRet rfl (rC (rA rfl zm0 rfl zsr) rN) rfl
 have h2:¬ steps≤0:=zf hc
 rw[if_neg h2]
 refine gaa ?_
 refine LCode.midC (A:=NewRun) (fun a=>[(3,ptr b3 0),(6,ptr b6 0),(9,ptr a.rb 0)]) (fun a=>startH a b3 b6 p inp steps) (fun _=>True) ?_ (fun a _ j hj=>?_)
 ·refine LCode.draw (m:=10) rfl [progH b3 p] ?_
  refine aT 0 rfl rfl (Pure.ldHAgg (cs':=[_,_,_]) rfl zm0 rfl rfl) ?_
  refine aT 2 rfl rfl (pM (lv:=.list _) rfl) ?_
  refine aT 3 rfl rfl (pM (lv:=.atom _) rfl) ?_
  refine LAny.late ?_ (zhP zp1 zhn)
  refine LLate.four (i:=1) (j:=4) (k:=5) (l:=6) zk ?_ ?_ ?_ ?_
  ·refine lz rfl rfl (LStep.call (args:=[]) operators_spec ?_ (by rintro ch H' ⟨_,_,_,h,_⟩;cases h))
   rintro lv H' ⟨om,db,oc,h,rfl⟩
   cases h
   refine LLate.three (i:=4) (j:=5) (k:=6) zk ?_ ?_ ?_
   ·refine lz rfl rfl (S.kvNew fun sm=>?_)
    refine LLate.two (i:=5) (j:=6) zk ?_ ?_
    ·refine lz rfl rfl (S.kvNew fun am=>?_)
     exact zT11
    ·refine lz rfl rfl (S.kvNew fun fm=>?_)
     exact zT12
   ·refine lz rfl rfl (S.kvNew fun am=>?_)
    refine LLate.two (i:=4) (j:=6) zk ?_ ?_
    ·refine lz rfl rfl (S.kvNew fun sm=>?_)
     exact zT11
    ·refine lz rfl rfl (S.kvNew fun fm=>?_)
     exact zT13
   ·refine lz rfl rfl (S.kvNew fun fm=>?_)
    refine LLate.two (i:=4) (j:=5) zk ?_ ?_
    ·refine lz rfl rfl (S.kvNew fun sm=>?_)
     exact zT12
    ·refine lz rfl rfl (S.kvNew fun am=>?_)
     exact zT13
  ·refine lz rfl rfl (S.kvNew fun sm=>?_)
   refine LLate.three (i:=1) (j:=5) (k:=6) zk ?_ ?_ ?_
   ·refine lz rfl rfl (LStep.call (args:=[]) operators_spec ?_ (by rintro ch H' ⟨_,_,_,h,_⟩;cases h))
    rintro lv H' ⟨om,db,oc,h,rfl⟩
    cases h
    refine LLate.two (i:=5) (j:=6) zk ?_ ?_
    ·refine lz rfl rfl (S.kvNew fun am=>?_)
     exact zT11
    ·refine lz rfl rfl (S.kvNew fun fm=>?_)
     exact zT12
   ·refine lz rfl rfl (S.kvNew fun am=>?_)
    refine LLate.two (i:=1) (j:=6) zk ?_ ?_
    ·refine lz rfl rfl (LStep.call (args:=[]) operators_spec ?_ (by rintro ch H' ⟨_,_,_,h,_⟩;cases h))
     rintro lv H' ⟨om,db,oc,h,rfl⟩
     cases h
     exact zT11
    ·refine lz rfl rfl (S.kvNew fun fm=>?_)
     exact zT6
   ·refine lz rfl rfl (S.kvNew fun fm=>?_)
    refine LLate.two (i:=1) (j:=5) zk ?_ ?_
    ·refine lz rfl rfl (LStep.call (args:=[]) operators_spec ?_ (by rintro ch H' ⟨_,_,_,h,_⟩;cases h))
     rintro lv H' ⟨om,db,oc,h,rfl⟩
     cases h
     exact zT12
    ·refine lz rfl rfl (S.kvNew fun am=>?_)
     exact zT6
  ·refine lz rfl rfl (S.kvNew fun am=>?_)
   refine LLate.three (i:=1) (j:=4) (k:=6) zk ?_ ?_ ?_
   ·refine lz rfl rfl (LStep.call (args:=[]) operators_spec ?_ (by rintro ch H' ⟨_,_,_,h,_⟩;cases h))
    rintro lv H' ⟨om,db,oc,h,rfl⟩
    cases h
    refine LLate.two (i:=4) (j:=6) zk ?_ ?_
    ·refine lz rfl rfl (S.kvNew fun sm=>?_)
     exact zT11
    ·refine lz rfl rfl (S.kvNew fun fm=>?_)
     exact zT13
   ·refine lz rfl rfl (S.kvNew fun sm=>?_)
    refine LLate.two (i:=1) (j:=6) zk ?_ ?_
    ·refine lz rfl rfl (LStep.call (args:=[]) operators_spec ?_ (by rintro ch H' ⟨_,_,_,h,_⟩;cases h))
     rintro lv H' ⟨om,db,oc,h,rfl⟩
     cases h
     exact zT11
    ·refine lz rfl rfl (S.kvNew fun fm=>?_)
     exact zT6
   ·refine lz rfl rfl (S.kvNew fun fm=>?_)
    refine LLate.two (i:=1) (j:=4) zk ?_ ?_
    ·refine lz rfl rfl (LStep.call (args:=[]) operators_spec ?_ (by rintro ch H' ⟨_,_,_,h,_⟩;cases h))
     rintro lv H' ⟨om,db,oc,h,rfl⟩
     cases h
     exact zT13
    ·refine lz rfl rfl (S.kvNew fun sm=>?_)
     exact zT6
  ·refine lz rfl rfl (S.kvNew fun fm=>?_)
   refine LLate.three (i:=1) (j:=4) (k:=5) zk ?_ ?_ ?_
   ·refine lz rfl rfl (LStep.call (args:=[]) operators_spec ?_ (by rintro ch H' ⟨_,_,_,h,_⟩;cases h))
    rintro lv H' ⟨om,db,oc,h,rfl⟩
    cases h
    refine LLate.two (i:=4) (j:=5) zk ?_ ?_
    ·refine lz rfl rfl (S.kvNew fun sm=>?_)
     exact zT12
    ·refine lz rfl rfl (S.kvNew fun am=>?_)
     exact zT13
   ·refine lz rfl rfl (S.kvNew fun sm=>?_)
    refine LLate.two (i:=1) (j:=5) zk ?_ ?_
    ·refine lz rfl rfl (LStep.call (args:=[]) operators_spec ?_ (by rintro ch H' ⟨_,_,_,h,_⟩;cases h))
     rintro lv H' ⟨om,db,oc,h,rfl⟩
     cases h
     exact zT12
    ·refine lz rfl rfl (S.kvNew fun am=>?_)
     exact zT6
   ·refine lz rfl rfl (S.kvNew fun am=>?_)
    refine LLate.two (i:=1) (j:=4) zk ?_ ?_
    ·refine lz rfl rfl (LStep.call (args:=[]) operators_spec ?_ (by rintro ch H' ⟨_,_,_,h,_⟩;cases h))
     rintro lv H' ⟨om,db,oc,h,rfl⟩
     cases h
     exact zT13
    ·refine lz rfl rfl (S.kvNew fun sm=>?_)
     exact zT6
 ·obtain ⟨rb,om,db,oc,sm,am,fm⟩:=a
  have hv:=valid_of hc0
  have hshort:=short_of hc0
  have hnd:=hv.keys
  have hand:(p.arrays.map (·.name)).Nodup:=(List.nodup_append.1 (List.nodup_append.1 (fresh_zero _ _ hv.names).1).1).2.1
  have hfnd:(p.funcs.map (·.name)).Nodup:=(List.nodup_append.1 (fresh_zero _ _ hv.names).1).2.1
  have hvars6:p.arrays.length≤2000000:=hsm.arrays
  have hfun6:p.funcs.length≤2000000:=hsm.funcs
  have hsc8:=hv.few
  change LCode (KC B0 w0) 101 _ _ _ [runH rb om sm am fm p inp steps,progH b3 p,(sm,.map (kvs (scKV [])) 0),(am,.map (kvs []) 0),(fm,.map (kvs []) 0),(om,.map (kvs (opsKV db)) oc),divH db,outH b6]
  refine gaj ?_
  refine oS (sF [_] rfl (Chk.scalars_spec hsm (own_short hc0)) ?_) rfl
  refine gad ?_
  refine oL (fun k ls H'=>∃ (pre l1:List (List UInt8)) (sb:List (List UInt8×Nat)) (ck:Nat),scalarsP p.vars p.funcs=pre++l1∧k=l1.length∧sb.map (·.1)=pre∧ls=[(3,ptr b3 0),(6,ptr b6 0),(9,ptr rb 0),(43,.list ((scalarsP p.vars p.funcs).map str)),(44,int .i64 (((scalarsP p.vars p.funcs).map str).length:Int)),(45,int .i64 (pre.length:Int))] ∧
    H'=runH rb om sm am fm p inp steps::progH b3 p::(sm,.map (kvs (scKV sb)) ck)::([(am,.map (kvs []) 0),(fm,.map (kvs []) 0),(om,.map (kvs (opsKV db)) oc),divH db,outH b6]++scH0 sb))
   ⟨_,_,_,⟨[],scalarsP p.vars p.funcs,[],0,rfl,rfl,rfl,rfl,rfl⟩,⟨rfl,rfl,rfl,rfl,rfl,rfl,trivial⟩,zhR _⟩ ?_
  rintro k ls H' ⟨pre,l1,sb,ck,hLe,rfl,hsb,rfl,rfl⟩ j2 hj2
  have hb2:pre.length≤8000:=by
   rw[hLe,zLa] at hsc8
   omega
  refine gal ?_
  refine oC rfl (fun hd=>?_) (fun hd=>?_)
  ·have hlen:=zt hd
   rw[zLm,hLe,zLa] at hlen
   obtain ⟨x,l2,rfl⟩:∃ a l2,l1=a::l2:=by
    cases l1 with
    |nil=>simp at hlen
    |cons a l2=>exact ⟨a,l2,rfl⟩
   have hnew:x ∉ (scKV sb).map (·.1):=by
    have e:(scKV sb).map (·.1)=pre:=by
     rw[←hsb]
     unfold scKV
     rw[List.map_map]
     try rfl
    rw[e]
    rw[hLe] at hnd
    intro hm
    exact (List.nodup_append.1 hnd).2.2 x hm x zMs rfl
   refine gam ?_
   refine oP (xR (el':=str x) (cs:=[str x]) rfl rfl zo (by rw[hLe];exact get_mid str pre x l2) rfl rfl) rfl ?_
   refine gab ?_
   refine oS (sA fun b=>?_) rfl
   refine oS (S.kvSet (k:=x) rfl rfl rfl zp3 fun ck2=>?_) rfl
   rw[kv_new hnew]
   refine gaq ?_
   exact ⟨l2.length,_,_,Nat.lt_succ_self _,⟨pre++[x],l2,sb++[(x,b)],ck2,by rw[hLe];simp,rfl,by rw[zMa,hsb];try rfl,rfl,rfl⟩,⟨rfl,rfl,rfl,rfl,rfl,int_eq (by simp),trivial⟩,⟨[],by
    rw[zLz]
    have e1:scKV (sb++[(x,b)])=scKV sb++[(x,ptr b 0)]:=by unfold scKV;rw[zMa];try rfl
    have e2:scH0 (sb++[(x,b)])=scH0 sb++[(b,LObj.cells 93 [u32 0])]:=by unfold scH0;rw[zMa];try rfl
    rw[e1,e2]
    exact perm_new⟩,hj2⟩
  have hlen:=zf hd
  rw[zLm,hLe,zLa] at hlen
  obtain rfl:l1=[]:=by
   cases l1 with
   |nil=>rfl
   |cons a l2=>simp at hlen;omega
  rw[zLz] at hLe
  rw[←hLe] at hsb
  refine gac ?_
  refine oL (fun k ls H'=>∃ (pre l1:List Ar) (ab:List (List UInt8×Nat×Nat)) (ca:Nat),p.arrays=pre++l1∧k=l1.length∧ab.map (fun q=>(q.1,q.2.2))=pre.map (fun a=>(a.name,a.size))∧ls=[(3,ptr b3 0),(6,ptr b6 0),(9,ptr rb 0),(57,.list (p.arrays.map encAr)),(58,int .i64 ((p.arrays.map encAr).length:Int)),(59,int .i64 (pre.length:Int))] ∧
    H'=runH rb om sm am fm p inp steps::progH b3 p::(sm,.map (kvs (scKV sb)) ck)::(am,.map (kvs (arKV ab)) ca)::(([(fm,.map (kvs []) 0),(om,.map (kvs (opsKV db)) oc),divH db,outH b6]++scH0 sb)++arH0 ab))
   ⟨_,_,_,⟨[],p.arrays,[],0,rfl,rfl,rfl,rfl,rfl⟩,⟨rfl,rfl,rfl,rfl,rfl,rfl,trivial⟩,⟨[],by
    rw[zLz]
    refine List.Perm.cons _ (List.Perm.cons _ (List.Perm.cons _ (List.Perm.cons _ ?_)))
    show List.Perm _ (_++([]:Heap))
    rw[zLz]
    exact List.Perm.refl _⟩⟩ ?_
  rintro k ls H' ⟨pre,l1,ab,ca,hLe,rfl,hab,rfl,rfl⟩ j3 hj3
  have hb2:pre.length≤2000000:=by
   rw[hLe,zLa] at hvars6
   omega
  refine gal ?_
  refine oC rfl (fun hd=>?_) (fun hd=>?_)
  ·have hlen:=zt hd
   rw[zLm,hLe,zLa] at hlen
   obtain ⟨x,l2,rfl⟩:∃ a l2,l1=a::l2:=by
    cases l1 with
    |nil=>simp at hlen
    |cons a l2=>exact ⟨a,l2,rfl⟩
   have hxs:=hv.sizes x (by rw[hLe];exact List.mem_append_right _ zMs)
   have hnew:x.name ∉ (arKV ab).map (·.1):=by
    have e:(arKV ab).map (·.1)=pre.map (·.name):=by
     have h1:(ab.map (fun q=>(q.1,q.2.2))).map (·.1)=(pre.map (fun a=>(a.name,a.size))).map (·.1):=by rw[hab]
     rw[List.map_map,List.map_map] at h1
     unfold arKV
     rw[List.map_map]
     exact h1
    rw[e]
    rw[hLe,zMa] at hand
    intro hm
    exact (List.nodup_append.1 hand).2.2 x.name hm x.name zMs rfl
   refine gam ?_
   refine oP (xR (el':=encAr x) (cs:=[_,_]) rfl rfl zo (by rw[hLe];exact get_mid encAr pre x l2) rfl rfl) rfl ?_
   refine gad ?_
   refine oS (sA fun b13=>?_) rfl
   refine gad ?_
   refine LCode.draw (m:=10) rfl [(b13,.cells 56 [str x.name,int .i64 (x.size:Int)]),runH rb om sm am fm p inp steps] ?_
   refine aT 0 rfl rfl (pM (lv:=.atom _) rfl) ?_
   refine aT 1 rfl rfl (pN rfl) ?_
   refine aT 2 rfl rfl (pF rfl) ?_
   refine aT 3 rfl rfl (pL (c:=.atom _) rfl zm1 rfl) ?_
   refine aT 4 rfl rfl (pF rfl) ?_
   refine aT 5 rfl rfl (pL (c:=.atom _) rfl zm0 rfl) ?_
   refine aT 6 rfl rfl (pF rfl) ?_
   refine aT 7 rfl rfl (pL (c:=.atom _) rfl zm0 rfl) ?_
   refine LAny.late ?_ (zhP pH zhp)
   refine lO 8 (lS (H1:=[]) rfl (.inl rfl) rfl zpr (zhP pH zhp) (S.makeRow (n:=x.size) rfl rfl zo zo fun b=>?_))
   refine lO 9 (lS (H1:=[_]) rfl (.inl rfl) rfl (show Pick (am,.map (kvs (arKV ab)) ca) _ _ from pT zp4) (zhD (zhP pH zhp)) (S.kvSet (k:=x.name) rfl rfl rfl pH fun ca2=>?_))
   rw[kv_new hnew]
   refine lD zk ?_
   refine gaq ?_
   exact ⟨l2.length,_,_,Nat.lt_succ_self _,⟨pre++[x],l2,ab++[(x.name,b,x.size)],ca2,by rw[hLe];simp,rfl,by rw[zMa,zMa,hab];try rfl,rfl,rfl⟩,⟨rfl,rfl,rfl,rfl,rfl,int_eq (by simp),trivial⟩,⟨[(b13,.cells 56 [str x.name,int .i64 (x.size:Int)])],by
    have e1:arKV (ab++[(x.name,b,x.size)])=arKV ab++[(x.name,rowV b x.size)]:=by unfold arKV;rw[zMa];try rfl
    have e2:arH0 (ab++[(x.name,b,x.size)])=arH0 ab++[(b,LObj.cells 93 (List.replicate x.size (u32 0)))]:=by unfold arH0;rw[zMa];try rfl
    rw[e1,e2]
    exact perm_new3⟩,hj3⟩
  have hlen:=zf hd
  rw[zLm,hLe,zLa] at hlen
  obtain rfl:l1=[]:=by
   cases l1 with
   |nil=>rfl
   |cons a l2=>simp at hlen;omega
  rw[zLz] at hLe
  rw[←hLe] at hab
  refine gac ?_
  refine oL (fun k ls H'=>∃ (pre l1:List FnD) (cf:Nat),p.funcs=pre++l1∧k=l1.length∧ls=[(3,ptr b3 0),(6,ptr b6 0),(9,ptr rb 0),(74,.list (p.funcs.map encFn)),(75,int .i64 ((p.funcs.map encFn).length:Int)),(76,int .i64 (pre.length:Int))] ∧
    H'=runH rb om sm am fm p inp steps::progH b3 p::(sm,.map (kvs (scKV sb)) ck)::(am,.map (kvs (arKV ab)) ca)::(fm,.map (kvs (fnKV pre)) cf)::(([(om,.map (kvs (opsKV db)) oc),divH db,outH b6]++scH0 sb)++arH0 ab))
   ⟨_,_,_,⟨[],p.funcs,0,rfl,rfl,rfl,rfl⟩,⟨rfl,rfl,rfl,rfl,rfl,rfl,trivial⟩,zhR _⟩ ?_
  rintro k ls H' ⟨pre,l1,cf,hLe,rfl,rfl,rfl⟩ j4 hj4
  have hb2:pre.length≤2000000:=by
   rw[hLe,zLa] at hfun6
   omega
  refine gal ?_
  refine oC rfl (fun hd=>?_) (fun hd=>?_)
  ·have hlen:=zt hd
   rw[zLm,hLe,zLa] at hlen
   obtain ⟨x,l2,rfl⟩:∃ a l2,l1=a::l2:=by
    cases l1 with
    |nil=>simp at hlen
    |cons a l2=>exact ⟨a,l2,rfl⟩
   have hnew:x.name ∉ (fnKV pre).map (·.1):=by
    have e:(fnKV pre).map (·.1)=pre.map (·.name):=by
     unfold fnKV
     rw[List.map_map]
     try rfl
    rw[e]
    rw[hLe,zMa] at hfnd
    intro hm
    exact (List.nodup_append.1 hfnd).2.2 x.name hm x.name zMs rfl
   refine gam ?_
   refine oP (xR (el':=encFn x) (cs:=[_,_,_,_]) rfl rfl zo (by rw[hLe];exact get_mid encFn pre x l2) rfl rfl) rfl ?_
   refine gat ?_
   refine oS (sA fun b15=>?_) rfl
   refine gad ?_
   refine LCode.tail 7 zk ?_
   refine gad ?_
   refine oS (S.kvSet (k:=x.name) (lv:=encFn x) rfl rfl rfl zp5 fun cf2=>?_) rfl
   rw[kv_new hnew]
   refine gaq ?_
   exact ⟨l2.length,_,_,Nat.lt_succ_self _,⟨pre++[x],l2,cf2,by rw[hLe];simp,rfl,rfl,rfl⟩,⟨rfl,rfl,rfl,rfl,rfl,int_eq (by simp),trivial⟩,⟨[(b15,.cells 59 [str x.name,.list (x.params.map str),.list (x.locals.map str),.list (x.body.map encS)])],by
    have e1:fnKV (pre++[x])=fnKV pre++[(x.name,encFn x)]:=by unfold fnKV;rw[zMa];try rfl
    rw[e1]
    exact ((List.perm_append_comm (l₁:=[_,_]) (l₂:=[_,_,_,_])).append_right _).trans (((List.Perm.refl [_,_,_,_,_]).append swap1).trans zpr)⟩,hj4⟩
  have hlen:=zf hd
  rw[zLm,hLe,zLa] at hlen
  obtain rfl:l1=[]:=by
   cases l1 with
   |nil=>rfl
   |cons a l2=>simp at hlen;omega
  rw[zLz] at hLe
  subst hLe
  obtain ⟨lim,rfl⟩:∃ lim:Nat,steps=(lim:Int):=⟨steps.toNat,by omega⟩
  have hlim:lim≤100000000:=by omega
  rw[Int.toNat_natCast]
  obtain ⟨har,hal⟩:=arH_start hand hab inp lim
  have hC:CfgOk ⟨p,rb,db,om,sm,am,fm,oc,ck,ca,cf,sb,ab,lim⟩:=⟨hv,hnum,hsb,by
   have h1:(ab.map (fun q=>(q.1,q.2.2))).map (·.1)=(p.arrays.map (fun a=>(a.name,a.size))).map (·.1):=by rw[hab]
   rw[List.map_map,List.map_map] at h1
   exact h1,hsm,fun q hq=>by
   have h1:(q.1,q.2.2)∈p.arrays.map (fun a=>(a.name,a.size)):=by rw[←hab];exact List.mem_map.2 ⟨q,hq,rfl⟩
   obtain ⟨a,ha,he⟩:=List.mem_map.1 h1
   injection he with e1 e2
   rw[←e2]
   exact (hv.sizes a ha).2,hlim,hshort.1,hshort.2⟩
  generalize hcdef:(⟨p,rb,db,om,sm,am,fm,oc,ck,ca,cf,sb,ab,lim⟩:Cfg)=c at hC
  have hcp:c.p=p:=by rw[←hcdef]
  have hcl:c.lim=lim:=by rw[←hcdef]
  have hcr:c.rb=rb:=by rw[←hcdef]
  have hst:St c (startI p inp lim) (stH c (startI p inp lim) nilSlice []):=by
   refine ⟨?_,?_,nilSlice,[],Acc.nil,rfl⟩
   ·rw[←hcdef];exact hal
   ·rw[hcl];exact zNr _
  have hgood:Good c c.lim (startI p inp lim):=by
   rw[hcl]
   refine ⟨⟨fun k=>by show Lt 0;unfold Lt;decide,fun x v hv=>?_,hin⟩,zNr _,by rw[hcl];show 0+lim≤lim;omega⟩
   have h1:v∈(match p.arrays.find? fun a=>decide (a.name=x) with
    |some a=>List.replicate a.size 0
    |none=>[]):=hv
   split at h1
   ·rw[(List.mem_replicate.1 h1).2]
    unfold Lt;decide
   ·cases h1
  have hmain:=main_spec (B0:=B0) (w0:=w0) hC hgood hst
  rw[hcl,hcp,hcr] at hmain
  have ehd:hdH ⟨p,rb,db,om,sm,am,fm,oc,ck,ca,cf,sb,ab,lim⟩ (startI p inp lim) nilSlice=[runH rb om sm am fm p inp lim,(sm,.map (kvs (scKV sb)) ck),(am,.map (kvs (arKV ab)) ca),(fm,.map (kvs (fnKV p.funcs)) cf),(om,.map (kvs (opsKV db)) oc),divH db]:=by
   have e0:lim-(startI p inp lim).left=0:=Nat.sub_self lim
   unfold hdH runC
   simp only[e0]
   rfl
  refine gab ?_
  refine LOps.perm (H':=stH c (startI p inp lim) nilSlice []++[progH b3 p,outH b6]) (by
   rw[←hcdef,stH_eq]
   show List.Perm _ ((hdH _ _ _++(scH sb (startI p inp lim)++(arH ab (startI p inp lim)++[])))++[progH b3 p,outH b6])
   rw[har,zLz,ehd]
   exact perm_main) ?_
  refine oS (S.callH (H1:=stH c (startI p inp lim) nilSlice []) (F:=[progH b3 p,outH b6]) [_] rfl zpr hmain ?_ (by rintro ch H' ⟨_,h⟩;cases h)) rfl
  rintro lv H' ⟨hs2,h⟩
  cases h
  have hfin:runI p inp lim=⟨(blkR (stI p lim (mainI p)) (mainI p).body (startI p inp lim)).st.out,irErr (blkR (stI p lim (mainI p)) (mainI p).body (startI p inp lim)),lim-(blkR (stI p lim (mainI p)) (mainI p).body (startI p inp lim)).st.left⟩:=by
   unfold runI
   exact endI_eq _ _
  rw[hfin]
  generalize blkR (stI p lim (mainI p)) (mainI p).body (startI p inp lim)=R at hs2 ⊢
  obtain ⟨_,hle,v,Ha,hacc,rfl⟩:=hs2
  refine LOps.perm (H':=outH b6::progH b3 p::stH c R.st v Ha) ((List.perm_append_comm (l₂:=[_,_])).trans (List.Perm.swap _ _ _)) ?_
  refine gaa ?_
  refine LCode.tail 11 zk ?_
  have hmem:(rb,LObj.cells 185 (runC c R.st v))∈outH b6::progH b3 p::stH c R.st v Ha:=by
   rw[←hcr]
   exact List.Mem.tail _ zm1
  refine gad ?_
  refine LS.pure (pL (c:=v) rfl hmem rfl) rfl ?_
  have hconv:∀ (e:Env) (H:Heap) (dst:Option Nat) (ty:TypeId) (pos:String) (aft:Array Edge) (g:Option (Nat×Bool)) (x:Operand),e.ev x=v→GL.Pure (KC B0 w0) ⟨dst,.convert 96 9 x,ty,pos,aft,g⟩ e H (str R.st.out):=fun e H dst ty pos aft g x hx=>by
   have he:=hacc.elems
   by_cases h0:R.st.out=[]
   ·rw[h0] at he ⊢
    exact Pure.bytesStr0 (by rw[hx,he];try rfl)
   ·exact Pure.bytesStr (by rw[hx,he];try rfl) h0
  refine LS.pure (hconv _ _ _ _ _ _ _ _ rfl) rfl ?_
  refine gad ?_
  refine LS.pure (pL (c:=int .i64 ((c.lim-R.st.left:Nat):Int)) rfl hmem rfl) rfl ?_
  refine gad ?_
  refine retRet ((hj4.trans hj3).trans (hj2.trans hj)) (rC (rA (k:=3) rfl zm0 rfl zsr) rN) ?_
  rw[hcl]
  try rfl
end
end Go.Proofs.YtpbbgkoalnonoaaGreatDoor.Inp
namespace Go.Stele
mutual
def ndE:Ex→Nat
 |.mk op num name args=>1+ndEs args
def ndEs:List Ex→Nat
 |[]=>0
 |x::l=>ndE x+ndEs l
end
mutual
def ndS:Sm→Nat
 |.mk kind name index value thn els=>1+(ndEs index+ndEs value+ndSs thn+ndSs els)
def ndSs:List Sm→Nat
 |[]=>0
 |x::l=>ndS x+ndSs l
end
def ndF (f:FnD):Nat:=1+f.params.length+f.locals.length+ndSs f.body
def ndFs:List FnD→Nat
 |[]=>0
 |f::l=>ndF f+ndFs l
theorem ndE_pos (x:Ex):1≤ndE x:=by
 obtain ⟨op,num,name,args⟩:=x
 rw[ndE]
 omega
theorem ndS_pos (x:Sm):1≤ndS x:=by
 obtain ⟨k,n,i,v,t,e⟩:=x
 rw[ndS]
 omega
theorem ndEs_len:∀ l:List Ex,l.length≤ndEs l
 |[]=>zNr _
 |x::l=>by
  have h1:=ndE_pos x
  have h2:=ndEs_len l
  rw[ndEs,zLc]
  omega
theorem ndSs_len:∀ l:List Sm,l.length≤ndSs l
 |[]=>zNr _
 |x::l=>by
  have h1:=ndS_pos x
  have h2:=ndSs_len l
  rw[ndSs,zLc]
  omega
theorem ndFs_len:∀ l:List FnD,l.length≤ndFs l
 |[]=>zNr _
 |x::l=>by
  have h2:=ndFs_len l
  rw[ndFs,zLc]
  unfold ndF
  omega
theorem ndFs_mem:∀ {l:List FnD} {f:FnD},f∈l→ndF f≤ndFs l
 |g::l,f,h=>by
  rw[ndFs]
  rcases zMi.1 h with rfl|h
  ·omega
  ·have:=ndFs_mem h
   omega
theorem ndEs_mem:∀ {l:List Ex} {f:Ex},f∈l→ndE f≤ndEs l
 |g::l,f,h=>by
  rw[ndEs]
  rcases zMi.1 h with rfl|h
  ·omega
  ·have:=ndEs_mem h
   omega
mutual
theorem smE_of:∀ x:Ex,ndE x≤2000000→smE x
 |.mk op num name args,h=>by
  rw[ndE] at h
  have:=ndEs_len args
  exact ⟨show args.length≤2000000 by omega,smEs_of args (by omega)⟩
theorem smEs_of:∀ l:List Ex,ndEs l≤2000000→smEs l
 |[],_=>trivial
 |x::l,h=>by
  rw[ndEs] at h
  exact ⟨smE_of x (by omega),smEs_of l (by omega)⟩
end
mutual
theorem smS_of:∀ x:Sm,ndS x≤2000000→smS x
 |.mk k n i v t e,h=>by
  rw[ndS] at h
  have h1:=ndEs_len i
  have h2:=ndEs_len v
  have h3:=ndSs_len t
  have h4:=ndSs_len e
  exact ⟨show i.length≤2000000 by omega,show v.length≤2000000 by omega,show t.length≤2000000 by omega,show e.length≤2000000 by omega,smEs_of i (by omega),smEs_of v (by omega),smSs_of t (by omega),smSs_of e (by omega)⟩
theorem smSs_of:∀ l:List Sm,ndSs l≤2000000→smSs l
 |[],_=>trivial
 |x::l,h=>by
  rw[ndSs] at h
  exact ⟨smS_of x (by omega),smSs_of l (by omega)⟩
end
theorem smF_of {f:FnD} (h:ndF f≤2000000):SmF f:=by
 unfold ndF at h
 have:=ndSs_len f.body
 exact ⟨show f.params.length≤2000000 by omega,show f.locals.length≤2000000 by omega,show f.body.length≤2000000 by omega,smSs_of _ (by omega)⟩
/-! ### Needs and depths -/
def KnB (B D:Nat) (known:List FSum):Prop:=∀ k∈known,k.need≤B∧k.params+1≤B∧k.depth≤D
theorem stair_le (B:Nat) (c:CEnv):∀ (l:List Ex) (i m:Nat),(∀ x∈l,needE c x≤4 * ndE x+B)→stair i (needEs c l) m≤max m (4 * ndEs l+i+B)
 |[],i,m,_=>by rw[needEs,stair];exact Nat.le_max_left _ _
 |x::l,i,m,h=>by
  rw[needEs,stair,ndEs]
  have h1:=h x zMs
  have h2:=stair_le B c l (i+1) (max m (i+needE c x)) (fun y hy=>h y (zMo _ hy))
  have h3:=ndE_pos x
  omega
mutual
theorem needE_le (B D:Nat) (c:CEnv) (hB:KnB B D c.funcs):∀ x:Ex,needE c x≤4 * ndE x+B
 |.mk op num name args=>by
  rw[needE,ndE]
  have ha:=needEs_le B D c hB args
  have h0:(needEs c args).headD 0≤4 * ndEs args+B:=by
   cases args with
   |nil=>rw[needEs];exact Nat.zero_le _
   |cons x l=>
    have:=ha x zMs
    rw[needEs,ndEs]
    show needE c x≤_
    omega
  have h1:(needEs c args).tail.headD 0≤4 * ndEs args+B:=by
   cases args with
   |nil=>rw[needEs];exact Nat.zero_le _
   |cons x l=>
    cases l with
    |nil=>rw[needEs,needEs];exact Nat.zero_le _
    |cons y l=>
     have:=ha y (zMo _ zMs)
     rw[needEs,needEs,ndEs,ndEs]
     show needE c y≤_
     omega
  have hc:callN c name (needEs c args)≤4 * (1+ndEs args)+B:=by
   unfold callN
   split
   ·omega
   split
   ·omega
   ·unfold CEnv.fn
    split
    ·rename_i k hk
     have hkb:=hB k (List.mem_of_find?_eq_some hk)
     have:=stair_le B c args 0 (max (k.params+1) k.need) ha
     omega
    ·omega
  unfold opN
  split
  ·omega
  split
  ·omega
  split
  ·exact hc
  split
  ·omega
  split
  ·omega
  split
  ·omega
  split
  ·omega
  split
  ·omega
  ·omega
theorem needEs_le (B D:Nat) (c:CEnv) (hB:KnB B D c.funcs):∀ (l:List Ex),∀ x∈l,needE c x≤4 * ndE x+B
 |[],x,h=>(List.not_mem_nil h).elim
 |a::l,x,h=>by
  rcases zMi.1 h with h1|h1
  ·rw[h1]
   exact needE_le B D c hB a
  ·exact needEs_le B D c hB l x h1
end
theorem callD_le {B D:Nat} {c:CEnv} (hB:KnB B D c.funcs) (op name:Nm):callD c op name≤D+1:=by
 unfold callD
 split
 ·unfold CEnv.fn
  split
  ·rename_i k hk
   have:=hB k (List.mem_of_find?_eq_some hk)
   omega
  ·omega
 ·omega
mutual
theorem depE_le (B D:Nat) (c:CEnv) (hB:KnB B D c.funcs):∀ x:Ex,depE c x≤D+1
 |.mk op num name args=>by
  rw[depE]
  have h1:=depEs_le B D c hB args
  have h2:=callD_le hB op name
  omega
theorem depEs_le (B D:Nat) (c:CEnv) (hB:KnB B D c.funcs):∀ l:List Ex,depEs c l≤D+1
 |[]=>Nat.zero_le _
 |x::l=>by
  rw[depEs]
  have h1:=depE_le B D c hB x
  have h2:=depEs_le B D c hB l
  omega
end
theorem headNeed_le {B D:Nat} {c:CEnv} (hB:KnB B D c.funcs) (l:List Ex):needE c (l.headD default)≤4 * (ndEs l+1)+B:=by
 cases l with
 |nil=>
  have:=needE_le B D c hB (default:Ex)
  have h1:ndE (default:Ex)=1:=by
   show ndE (.mk [] 0 [] [])=1
   rw[ndE,ndEs]
  show needE c default≤_
  rw[ndEs]
  omega
 |cons x l=>
  have:=needE_le B D c hB x
  show needE c x≤_
  rw[ndEs]
  omega
mutual
theorem needS_le (B D:Nat) (c:CEnv) (hB:KnB B D c.funcs):∀ x:Sm,needS c x≤8 * ndS x+B
 |.mk k n i v t e=>by
  rw[needS,ndS]
  have h1:=headNeed_le hB v
  have h2:=headNeed_le hB i
  have h3:=needSs_le B D c hB t
  have h4:=needSs_le B D c hB e
  split
  ·omega
  split
  ·omega
  split
  ·omega
  ·omega
theorem needSs_le (B D:Nat) (c:CEnv) (hB:KnB B D c.funcs):∀ l:List Sm,needSs c l≤8 * ndSs l+B
 |[]=>by rw[needSs];exact Nat.zero_le _
 |x::l=>by
  rw[needSs,ndSs]
  have h1:=needS_le B D c hB x
  have h2:=needSs_le B D c hB l
  omega
end
mutual
theorem depS_le (B D:Nat) (c:CEnv) (hB:KnB B D c.funcs):∀ x:Sm,depS c x≤D+1
 |.mk k n i v t e=>by
  rw[depS]
  have h1:=depEs_le B D c hB v
  have h2:=depEs_le B D c hB i
  have h3:=depSs_le B D c hB t
  have h4:=depSs_le B D c hB e
  omega
theorem depSs_le (B D:Nat) (c:CEnv) (hB:KnB B D c.funcs):∀ l:List Sm,depSs c l≤D+1
 |[]=>by rw[depSs];exact Nat.zero_le _
 |x::l=>by
  rw[depSs]
  have h1:=depS_le B D c hB x
  have h2:=depSs_le B D c hB l
  omega
end
theorem sumF_le {B D:Nat} {vars arrays later:List Nm} {known:List FSum} {f:FnD} (hB:KnB B D known):(sumF vars arrays later known f).need≤8 * ndF f+B∧(sumF vars arrays later known f).params+1≤8 * ndF f+B∧(sumF vars arrays later known f).depth≤D+1:=by
 have h1:=needSs_le B D (envF vars arrays later known f) hB f.body
 have h2:=depSs_le B D (envF vars arrays later known f) hB f.body
 unfold sumF ndF
 simp only
 omega
end Go.Stele
namespace Go.Proofs.YtpbbgkoalnonoaaGreatDoor.Chk
open Go.GL Go.RowKit Go.Stele
def vio (nm:List UInt8) (e:Int):List PanicEntry:=[{ v:=.iface 107 (.agg #[.string ⟨nm.toArray⟩,.int .i64 e]),recovered:=false }]
def chkN:Nat→List UInt8→Bool
 |_,[]=>true
 |i,c::r=>(if i=0 then isLetter c else isInner c) && chkN (i+1) r
theorem chkN_inner:∀ (r:List UInt8) (i:Nat),i≠0→chkN i r=r.all isInner
 |[],_,_=>rfl
 |c::r,i,h=>by rw[chkN,if_neg h,chkN_inner r (i+1) zo];try rfl
theorem isNm_eq {s:List UInt8} (h0:s≠[]) (h1:s.length≤24) (h2:noName.contains s=false):isNm s=chkN 0 s:=by
 unfold isNm
 rw[decide_eq_true h1,h2]
 cases s with
 |nil=>exact absurd rfl h0
 |cons c r=>
  rw[chkN,if_pos rfl,chkN_inner r 1 zDd]
  try rfl
theorem noName_eq (s:List UInt8):noName.contains s=(keywords.contains s || decide (s=[105,110]) || decide (s=[111,117,116])):=by
 have h:noName.contains s=(keywords.contains s || (decide (s=[105,110]) || decide (s=[111,117,116]))):=by
  unfold noName
  rw[Bool.eq_iff_iff]
  simp
 rw[h,Bool.or_assoc]
instance:TMap Tryz.prog 62 3 (.int .i64 0) (int .i64 0):=⟨⟨9,by kernel_rfl,by kernel_rfl⟩,fun w=>(Go.zero_of_info (P:=Tryz.prog) (n:=1) zk).1 w,fun _ _=>rep_atom⟩
instance:TMap Tryz.prog 110 4 (.bool false) (bool false):=⟨⟨9,by kernel_rfl,by kernel_rfl⟩,fun w=>(Go.zero_of_info (P:=Tryz.prog) (n:=1) zk).1 w,fun _ _=>rep_atom⟩
instance:TMap Tryz.prog 111 197 (.agg [.int .i64 0,.int .i64 0,.int .i64 0].toArray) (.agg ([.int .i64 0,.int .i64 0,.int .i64 0].map .atom)):=⟨⟨9,by kernel_rfl,by kernel_rfl⟩,fun w=>(Go.zero_of_info (P:=Tryz.prog) (n:=3) zk).1 w,fun w L=>rep_aggs w L _⟩
def opKV:KV:=[([110,117,109],int .i64 0),([118,97,114],int .i64 0),([101,108,101,109],int .i64 1),([110,101,103],int .i64 1),([110,111,116],int .i64 1),([99,97,108,108],int .i64 (-1)),([124,124],int .i64 2),([38,38],int .i64 2),([61,61],int .i64 2),([33,61],int .i64 2),([60],int .i64 2),([62],int .i64 2),([60,61],int .i64 2),([62,61],int .i64 2),([94],int .i64 2),([43],int .i64 2),([45],int .i64 2),([42],int .i64 2),([47],int .i64 2),([37],int .i64 2)]
theorem opKV_get (op:List UInt8):GL.kvGet opKV op=if opnds op = -2 then none else some (int .i64 (opnds op)):=by
 have key:∀ x∈[[110,117,109],[118,97,114],[101,108,101,109],[110,101,103],[110,111,116],[99,97,108,108],[124,124],[38,38],[61,61],[33,61],[60],[62],[60,61],[62,61],[94],[43],[45],[42],[47],[37]],GL.kvGet opKV x=if opnds x = -2 then none else some (int .i64 (opnds x)):=by
  intro x hx
  simp only[zMi,List.not_mem_nil,or_false] at hx
  rcases hx with rfl|rfl|rfl|rfl|rfl|rfl|rfl|rfl|rfl|rfl|rfl|rfl|rfl|rfl|rfl|rfl|rfl|rfl|rfl|rfl <;> rfl
 by_cases h:op∈[[110,117,109],[118,97,114],[101,108,101,109],[110,101,103],[110,111,116],[99,97,108,108],[124,124],[38,38],[61,61],[33,61],[60],[62],[60,61],[62,61],[94],[43],[45],[42],[47],[37]]
 ·exact key op h
 ·simp only[zMi,List.not_mem_nil,or_false,not_or] at h
  have h2:opnds op = -2:=by
   obtain ⟨a1,a2,a3,a4,a5,a6,a7,a8,a9,a10,a11,a12,a13,a14,a15,a16,a17,a18,a19,a20⟩:=h
   unfold opnds
   rw[if_neg (fun h=>h.elim a1 a2),if_neg (fun h=>h.elim a3 (fun h=>h.elim a4 a5)),if_neg (show ¬ op=nCall from a6),if_neg]
   unfold binOps
   simp only[zMi,List.not_mem_nil,or_false,not_or]
   exact ⟨a7,a8,a9,a10,a11,a12,a13,a14,a15,a16,a17,a18,a19,a20⟩
  rw[if_pos h2]
  obtain ⟨a1,a2,a3,a4,a5,a6,a7,a8,a9,a10,a11,a12,a13,a14,a15,a16,a17,a18,a19,a20⟩:=h
  unfold opKV
  simp only[GL.kvGet]
  rw[if_neg (Ne.symm a1),if_neg (Ne.symm a2),if_neg (Ne.symm a3),if_neg (Ne.symm a4),if_neg (Ne.symm a5),if_neg (Ne.symm a6),if_neg (Ne.symm a7),if_neg (Ne.symm a8),if_neg (Ne.symm a9),if_neg (Ne.symm a10),if_neg (Ne.symm a11),if_neg (Ne.symm a12),if_neg (Ne.symm a13),if_neg (Ne.symm a14),if_neg (Ne.symm a15),if_neg (Ne.symm a16),if_neg (Ne.symm a17),if_neg (Ne.symm a18),if_neg (Ne.symm a19),if_neg (Ne.symm a20)]
attribute [local irreducible] LOps LCode LStep LCalls Go.GL.Pure QThen QBlock RetPost LQ LAny LLate LLateOp LS
section
variable {B0:Nat} {w0:World} {H:Heap}
theorem require_spec (b:Bool) (nm:List UInt8) (e:Int):LCalls (KC B0 w0) 103 [bool b,str nm,int .i64 e] H (fun r H'=>H'=H∧r=if b=true then .ret (.tuple []) else .panic (vio nm e)):=by
 refine cI Tryz.func103 rfl (n:=12) rfl rfl rfl ?_
 refine gab ?_
 refine oC rfl (fun hc=>?_) (fun hc=>?_)
 ·have hb:b=false:=by simpa using hc
  subst hb
  refine gac ?_
  refine oS (LStep.panic rfl fun e' he'=>?_) rfl
  exact RetPost.panic (he'.trans rfl) zhr ⟨rfl,rfl⟩
 ·have hb:b=true:=by simpa using hc
  subst hb
  refine gaa ?_
  exact rO rfl rN zhr ⟨rfl,rfl⟩
theorem operands_spec (op:List UInt8):LCalls (KC B0 w0) 272 [str op] [] (Ret (int .i64 (opnds op))):=by
 refine cI Tryz.func272 rfl (n:=15) rfl rfl rfl ?_
 refine gai ?_
 refine oS (S.kvNew fun om=>?_) rfl
 refine oS (S.kvInsE (m:=opKV.take 0) (k:=[110,117,109]) (lv:=int .i64 (0)) (opKV.take 1) rfl rfl rfl pH zk fun c0=>?_) rfl
 refine oS (S.kvInsE (m:=opKV.take 1) (k:=[118,97,114]) (lv:=int .i64 (0)) (opKV.take 2) rfl rfl rfl pH zk fun c1=>?_) rfl
 refine oS (S.kvInsE (m:=opKV.take 2) (k:=[101,108,101,109]) (lv:=int .i64 (1)) (opKV.take 3) rfl rfl rfl pH zk fun c2=>?_) rfl
 refine oS (S.kvInsE (m:=opKV.take 3) (k:=[110,101,103]) (lv:=int .i64 (1)) (opKV.take 4) rfl rfl rfl pH zk fun c3=>?_) rfl
 refine oS (S.kvInsE (m:=opKV.take 4) (k:=[110,111,116]) (lv:=int .i64 (1)) (opKV.take 5) rfl rfl rfl pH zk fun c4=>?_) rfl
 refine oS (S.kvInsE (m:=opKV.take 5) (k:=[99,97,108,108]) (lv:=int .i64 (-1)) (opKV.take 6) rfl rfl rfl pH zk fun c5=>?_) rfl
 refine oS (S.kvInsE (m:=opKV.take 6) (k:=[124,124]) (lv:=int .i64 (2)) (opKV.take 7) rfl rfl rfl pH zk fun c6=>?_) rfl
 refine oS (S.kvInsE (m:=opKV.take 7) (k:=[38,38]) (lv:=int .i64 (2)) (opKV.take 8) rfl rfl rfl pH zk fun c7=>?_) rfl
 refine oS (S.kvInsE (m:=opKV.take 8) (k:=[61,61]) (lv:=int .i64 (2)) (opKV.take 9) rfl rfl rfl pH zk fun c8=>?_) rfl
 refine oS (S.kvInsE (m:=opKV.take 9) (k:=[33,61]) (lv:=int .i64 (2)) (opKV.take 10) rfl rfl rfl pH zk fun c9=>?_) rfl
 refine oS (S.kvInsE (m:=opKV.take 10) (k:=[60]) (lv:=int .i64 (2)) (opKV.take 11) rfl rfl rfl pH zk fun c10=>?_) rfl
 refine oS (S.kvInsE (m:=opKV.take 11) (k:=[62]) (lv:=int .i64 (2)) (opKV.take 12) rfl rfl rfl pH zk fun c11=>?_) rfl
 refine oS (S.kvInsE (m:=opKV.take 12) (k:=[60,61]) (lv:=int .i64 (2)) (opKV.take 13) rfl rfl rfl pH zk fun c12=>?_) rfl
 refine oS (S.kvInsE (m:=opKV.take 13) (k:=[62,61]) (lv:=int .i64 (2)) (opKV.take 14) rfl rfl rfl pH zk fun c13=>?_) rfl
 refine oS (S.kvInsE (m:=opKV.take 14) (k:=[94]) (lv:=int .i64 (2)) (opKV.take 15) rfl rfl rfl pH zk fun c14=>?_) rfl
 refine oS (S.kvInsE (m:=opKV.take 15) (k:=[43]) (lv:=int .i64 (2)) (opKV.take 16) rfl rfl rfl pH zk fun c15=>?_) rfl
 refine oS (S.kvInsE (m:=opKV.take 16) (k:=[45]) (lv:=int .i64 (2)) (opKV.take 17) rfl rfl rfl pH zk fun c16=>?_) rfl
 refine oS (S.kvInsE (m:=opKV.take 17) (k:=[42]) (lv:=int .i64 (2)) (opKV.take 18) rfl rfl rfl pH zk fun c17=>?_) rfl
 refine oS (S.kvInsE (m:=opKV.take 18) (k:=[47]) (lv:=int .i64 (2)) (opKV.take 19) rfl rfl rfl pH zk fun c18=>?_) rfl
 refine oS (S.kvInsE (m:=opKV.take 19) (k:=[37]) (lv:=int .i64 (2)) (opKV.take 20) rfl rfl rfl pH zk fun c19=>?_) rfl
 refine LOps.weak (H':=[(om,.map (kvs opKV) c19)]) zhr ?_
 refine gaa ?_
 have hg:=opKV_get op
 by_cases h0:opnds op = -2
 ·rw[if_pos h0] at hg
  refine oP (Pure.kvMiss2 rfl rfl zm0 (show GL.kvGet opKV op=none from hg)) rfl ?_
  refine gab ?_
  refine oC rfl (fun _=>?_) (fun hc=>by cases hc)
  refine gas ?_
  exact rR rfl (zra rfl) zhn ⟨by rw[h0];try rfl,rfl⟩
 ·rw[if_neg h0] at hg
  refine oP (Pure.kvHit2 rfl rfl zm0 (show GL.kvGet opKV op=some (int .i64 (opnds op)) from hg)) rfl ?_
  refine gab ?_
  refine oC rfl (fun hc=>by cases hc) (fun _=>?_)
  refine gab ?_
  exact rR rfl (zra rfl) zhn ⟨rfl,rfl⟩
theorem isName_spec (s:List UInt8):LCalls (KC B0 w0) 166 [str s] [] (Ret (bool (isNm s))):=by
 refine cI Tryz.func166 rfl (n:=65) rfl rfl rfl ?_
 refine gab ?_
 have retF:∀ (h:isNm s=false) {e:Env} {C:Ctx} {n:Nat},e.ds=[]→e.s 2=bool false→RetPost C n [ResultVar.tmp 2] (Ret (bool (isNm s))) .ret e []:=fun h {e C n} hd he=>by
  rw[h]
  exact retRet hd (rC (rT he zsr) rN) rfl
 refine oB 7 rfl (fun h1=>?_) (fun h1=>?_)
 ·have h0:s=[]:=zt h1
  refine gaa ?_
  refine oC rfl (fun _=>?_) (fun hc=>by cases hc)
  refine gas ?_
  exact retF (by rw[h0];try rfl) rfl rfl
 have h0:s≠[]:=zf h1
 refine gad ?_
 refine oB 12 rfl (fun h2=>?_) (fun h2=>?_)
 ·have hl:24<s.length:=by
   have:=zt h2
   omega
  refine gaa ?_
  refine oC rfl (fun _=>?_) (fun hc=>by cases hc)
  refine gas ?_
  exact retF (by unfold isNm;rw[decide_eq_false zo];try rfl) rfl rfl
 have hl:s.length≤24:=by
  have:=zf h2
  omega
 refine gaa ?_
 refine oB 16 rfl (fun h3=>?_) (fun h3=>?_)
 ·have h4:s=[105,110]:=zt h3
  refine gaa ?_
  refine oC rfl (fun _=>?_) (fun hc=>by cases hc)
  refine gas ?_
  exact retF (by rw[h4];try rfl) rfl rfl
 refine gaa ?_
 refine oB 20 rfl (fun h5=>?_) (fun h5=>?_)
 ·have h4:s=[111,117,116]:=zt h5
  refine gaa ?_
  refine oC rfl (fun _=>?_) (fun hc=>by cases hc)
  refine gas ?_
  exact retF (by rw[h4];try rfl) rfl rfl
 refine gaa ?_
 refine oS (sF [] rfl Keywords_spec ?_) rfl
 refine gaa ?_
 refine oS (sF [_,_] rfl (Contains_spec keywords s zDd) ?_) rfl
 refine gaa ?_
 have hnn:=noName_eq s
 rw[h3,h5,Bool.or_false,Bool.or_false] at hnn
 refine oC rfl (fun hk=>?_) (fun hk=>?_)
 ·have hk':keywords.contains s=true:=hk
  refine gas ?_
  exact retF (by
   unfold isNm
   rw[hnn,hk',Bool.not_true,Bool.and_false,Bool.false_and]) rfl rfl
 have hk':keywords.contains s=false:=hk
 rw[hk'] at hnn
 have heq:=isNm_eq h0 hl hnn
 refine gac ?_
 refine oL (fun k ls H'=>∃ pre l1,s=pre++l1∧k=l1.length∧ls=[(0,str s),(26,int .i64 (s.length:Int)),(27,int .i64 (pre.length:Int))]∧H'=[]∧isNm s=chkN pre.length l1)
  ⟨s.length,_,_,⟨[],s,rfl,rfl,rfl,rfl,heq⟩,⟨rfl,rfl,rfl,trivial⟩,zhR _⟩ ?_
 rintro k ls H' ⟨pre,l1,hLe,rfl,rfl,rfl,hI⟩ j hj
 have hb2:pre.length≤24:=by
  rw[hLe,zLa] at hl
  omega
 refine gal ?_
 refine oC rfl (fun hc=>?_) (fun hc=>?_)
 rotate_left
 ·have hlen:=zf hc
  rw[hLe,zLa] at hlen
  obtain rfl:l1=[]:=by
   cases l1 with
   |nil=>rfl
   |cons a l2=>simp at hlen;omega
  refine gab ?_
  exact retRet hj (zra rfl) (by rw[hI];try rfl)
 have hlen:=zt hc
 rw[hLe,zLa] at hlen
 obtain ⟨a,l2,rfl⟩:∃ a l2,l1=a::l2:=by
  cases l1 with
  |nil=>simp at hlen
  |cons a l2=>exact ⟨a,l2,rfl⟩
 have hget:s[((pre.length:Nat):Int).toNat]? = some a:=by
  rw[Int.toNat_natCast,hLe,List.getElem?_append_right (zNr _),Nat.sub_self]
  try rfl
 rw[chkN] at hI
 have next:∀ {e:Env} {ds:List Deferred} (h:(if pre.length=0 then isLetter a else isInner a)=true),e.ds=ds→e.s 0=str s→e.s 26=int .i64 (s.length:Int)→e.s 27=int .i64 ((pre.length:Int)+1)→Again (fun k ls H'=>∃ pre l1,s=pre++l1∧k=l1.length∧ls=[(0,str s),(26,int .i64 (s.length:Int)),(27,int .i64 (pre.length:Int))]∧H'=[]∧isNm s=chkN pre.length l1) (a::l2).length ds e []:=fun {e ds} h hd e0 e26 e27=>by
  rw[h,Bool.true_and] at hI
  exact ⟨l2.length,_,_,Nat.lt_succ_self _,⟨pre++[a],l2,by rw[hLe];simp,rfl,rfl,rfl,by rw[hI,zLa];try rfl⟩,⟨e0,e26,e27.trans (int_eq (by simp)),trivial⟩,zhR _,hd⟩
 refine gab ?_
 refine oP (Pure.sindex (c:=a) rfl rfl zo hget) rfl ?_
 refine gad ?_
 refine LOps.cut [(0,str s),(3,int .i64 (pre.length:Int)),(4,bool (isLetter a)),(26,int .i64 (s.length:Int)),(27,int .i64 (pre.length:Int))] ?_ (fun j2 hj2=>?_)
 ·refine oB 34 rfl (fun h6=>?_) (fun h6=>?_)
  ·refine gaa ?_
   refine oP (Pure.sindex (c:=a) rfl rfl zo hget) rfl ?_
   refine gad ?_
   exact ⟨⟨rfl,rfl,bool_eq (by unfold isLetter;rw[show decide (97≤cv a)=true from h6,Bool.true_and]),rfl,rfl,trivial⟩,rfl,rfl⟩
  ·refine gaa ?_
   exact ⟨⟨rfl,rfl,bool_eq (by unfold isLetter;rw[show decide (97≤cv a)=false from h6,Bool.false_and]),rfl,rfl,trivial⟩,rfl,rfl⟩
 refine gab ?_
 refine oB 42 rfl (fun h7=>?_) (fun h7=>?_)
 rotate_left
 ·have hl1:isLetter a=true:=by simpa using h7
  refine gad ?_
  refine oC rfl (fun hc=>by cases hc) (fun _=>?_)
  refine gab ?_
  refine next ?_ ?_ ?_ ?_ ?_
  ·rw[hl1];unfold isInner;rw[hl1];split <;> rfl
  ·exact hj2.trans hj
  ·rfl
  ·rfl
  ·rfl
 have hl0:isLetter a=false:=by simpa using h7
 refine gaa ?_
 refine oB 45 rfl (fun h8=>?_) (fun h8=>?_)
 ·have hp0:pre.length=0:=by have:=zt h8;omega
  refine gad ?_
  refine oC rfl (fun _=>?_) (fun hc=>by cases hc)
  refine gab ?_
  exact retF (by rw[hI,if_pos hp0,hl0,Bool.false_and]) (hj2.trans hj) rfl
 have hp0:¬ pre.length=0:=by have:=zf h8;omega
 rw[if_neg hp0] at hI
 refine gaa ?_
 refine oP (Pure.sindex (c:=a) rfl rfl zo hget) rfl ?_
 refine gaa ?_
 refine oB 50 rfl (fun h9=>?_) (fun h9=>?_)
 rotate_left
 ·have h95:decide (cv a=95)=true:=by simpa using h9
  refine gad ?_
  refine oC rfl (fun hc=>by cases hc) (fun _=>?_)
  refine gab ?_
  refine next ?_ ?_ ?_ ?_ ?_
  ·rw[if_neg hp0];unfold isInner;rw[h95,Bool.or_true]
  ·exact hj2.trans hj
  ·rfl
  ·rfl
  ·rfl
 have h95:decide (cv a=95)=false:=by simpa using h9
 refine gaa ?_
 refine oP (Pure.sindex (c:=a) rfl rfl zo hget) rfl ?_
 refine gaa ?_
 refine oB 55 rfl (fun h10=>?_) (fun h10=>?_)
 ·have h48:decide (48≤cv a)=false:=by
   have:cv a<48:=zt h10
   exact decide_eq_false zo
  refine gaa ?_
  refine oC rfl (fun _=>?_) (fun hc=>by cases hc)
  refine gab ?_
  exact retF (by rw[hI];unfold isInner isDigit;rw[hl0,h95,h48];try rfl) (hj2.trans hj) rfl
 have h48:decide (48≤cv a)=true:=by
  have:¬ cv a<48:=zf h10
  exact decide_eq_true zo
 refine gaa ?_
 refine oP (Pure.sindex (c:=a) rfl rfl zo hget) rfl ?_
 refine gad ?_
 refine oC rfl (fun h11=>?_) (fun h11=>?_)
 ·have h57:decide (cv a≤57)=false:=by
   have:57<cv a:=zt h11
   exact decide_eq_false zo
  refine gab ?_
  exact retF (by rw[hI];unfold isInner isDigit;rw[hl0,h95,h57,Bool.and_false];try rfl) (hj2.trans hj) rfl
 ·have h57:decide (cv a≤57)=true:=by
   have:¬ 57<cv a:=zf h11
   exact decide_eq_true zo
  refine gab ?_
  refine next ?_ ?_ ?_ ?_ ?_
  ·rw[if_neg hp0];unfold isInner isDigit;rw[h48,h57];simp
  ·exact hj2.trans hj
  ·rfl
  ·rfl
  ·rfl
end
end Go.Proofs.YtpbbgkoalnonoaaGreatDoor.Chk
namespace Go.GL
open Go.RowKit
section
variable {C:Ctx} {e:Env} {H:Heap} {dst:Option Nat} {ty:TypeId} {pos:String} {aft:Array Edge} {g:Option (Nat×Bool)} {K:LV→Heap→Prop} {X:List PanicEntry→Heap→Prop} {x y z:Operand} {k:IntKind}
theorem max_cast (a b:Nat):(if (a:Int)<(b:Int) then (b:Int) else (a:Int))=((max a b:Nat):Int):=by
 split <;> omega
theorem Pure.max2 {a b:Nat} (hx:e.ev x=int k (a:Int)) (hy:e.ev y=int k (b:Int)) {t u:TypeId}:Pure C ⟨dst,.call { callee:=.builtin .max,args:=#[x,y],argTypes:=#[t,u] },ty,pos,aft,g⟩ e H (int k ((max a b:Nat):Int)):=
 .of_any fun ρ _ _ h=>⟨_,rep_atom,fun w'=>by
  have h0:∀ (cs:Array Bool) (args:Array Value),builtin .max #[t,u] ty cs args=(do Pure.pure (.value (←Builtin.max_ #[t,u] ty args))):=fun _ _=>rfl
  rw[execOp_builtin',h0]
  have:=max_cast a b
  simp[Builtin.max_,Builtin.max2,atom_of h hx,atom_of h hy]
  split <;> omega⟩
theorem Pure.max3 {a b c:Nat} (hx:e.ev x=int k (a:Int)) (hy:e.ev y=int k (b:Int)) (hz:e.ev z=int k (c:Int)) {t u v:TypeId}:Pure C ⟨dst,.call { callee:=.builtin .max,args:=#[x,y,z],argTypes:=#[t,u,v] },ty,pos,aft,g⟩ e H (int k ((max (max a b) c:Nat):Int)):=
 .of_any fun ρ _ _ h=>⟨_,rep_atom,fun w'=>by
  have h0:∀ (cs:Array Bool) (args:Array Value),builtin .max #[t,u,v] ty cs args=(do Pure.pure (.value (←Builtin.max_ #[t,u,v] ty args))):=fun _ _=>rfl
  rw[execOp_builtin',h0]
  simp[Builtin.max_,Builtin.max2,atom_of h hx,atom_of h hy,atom_of h hz]
  repeat' split
  all_goals omega⟩
theorem Pure.max2e {A B:Int} (a b:Nat) (hx:e.ev x=int k A) (hy:e.ev y=int k B) (ha:A=(a:Int)) (hb:B=(b:Int)) {t u:TypeId}:Pure C ⟨dst,.call { callee:=.builtin .max,args:=#[x,y],argTypes:=#[t,u] },ty,pos,aft,g⟩ e H (int k ((max a b:Nat):Int)):=by
 subst ha hb
 exact Pure.max2 hx hy
theorem Pure.max3e {A B D:Int} (a b d:Nat) (hx:e.ev x=int k A) (hy:e.ev y=int k B) (hz:e.ev z=int k D) (ha:A=(a:Int)) (hb:B=(b:Int)) (hd:D=(d:Int)) {t u v:TypeId}:Pure C ⟨dst,.call { callee:=.builtin .max,args:=#[x,y,z],argTypes:=#[t,u,v] },ty,pos,aft,g⟩ e H (int k ((max (max a b) d:Nat):Int)):=by
 subst ha hb hd
 exact Pure.max3 hx hy hz
theorem Pure.eqlT {a b:Int} {xT yT:TypeId} (h:a=b) (hx:e.ev x=int k a) (hy:e.ev y=int k b):Pure C ⟨dst,.binOp .eql xT x y yT,ty,pos,aft,g⟩ e H (bool true):=by
 have:=Pure.eql (C:=C) (H:=H) (dst:=dst) (ty:=ty) (pos:=pos) (aft:=aft) (g:=g) (xT:=xT) (yT:=yT) hx hy
 rwa [decide_eq_true h] at this
theorem Pure.eqlF {a b:Int} {xT yT:TypeId} (h:¬ a=b) (hx:e.ev x=int k a) (hy:e.ev y=int k b):Pure C ⟨dst,.binOp .eql xT x y yT,ty,pos,aft,g⟩ e H (bool false):=by
 have:=Pure.eql (C:=C) (H:=H) (dst:=dst) (ty:=ty) (pos:=pos) (aft:=aft) (g:=g) (xT:=xT) (yT:=yT) hx hy
 rwa [decide_eq_false h] at this
def IsSet (m:KV) (l:List (List UInt8)):Prop:=∀ k,kvGet m k=if k∈l then some (bool true) else none
theorem IsSet.nil:IsSet [] []:=fun k=>by simp[kvGet]
theorem IsSet.add {m:KV} {l:List (List UInt8)} (h:IsSet m l) (s:List UInt8):IsSet (kvPut m s (bool true)) (l++[s]):=fun k=>by
 rw[kvGet_put,h k]
 by_cases h1:s=k
 ·rw[if_pos h1,if_pos (by rw[h1];simp)]
 ·rw[if_neg h1]
  by_cases h2:k∈l
  ·rw[if_pos h2,if_pos (List.mem_append_left _ h2)]
  ·rw[if_neg h2,if_neg (by
    intro h3
    rcases List.mem_append.1 h3 with h3|h3
    ·exact h2 h3
    ·exact h1 (List.mem_singleton.1 h3).symm)]
theorem Pure.setHas {t el:TypeId} {zv:Value} [h:TMap C.P t el zv (bool false)] {b clock:Nat} {m:KV} {l:List (List UInt8)} {s:List UInt8} (hm:e.ev x=.atom (.map (some b))) (hx:e.ev y=str s) (hb:(b,.map (kvs m) clock)∈H) (hs:IsSet m l) :
  Pure C ⟨dst,.lookup t x y false,ty,pos,aft,g⟩ e H (bool (decide (s∈l))):=by
 by_cases h1:s∈l
 ·rw[decide_eq_true h1]
  exact Pure.kvHit hm hx hb (by rw[hs s,if_pos h1])
 ·rw[decide_eq_false h1]
  exact Pure.kvMiss hm hx hb (by rw[hs s,if_neg h1])
end
end Go.GL
