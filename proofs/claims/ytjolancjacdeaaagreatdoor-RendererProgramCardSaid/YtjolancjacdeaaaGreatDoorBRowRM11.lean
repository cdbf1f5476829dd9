import Derived.Test.YtjolancjacdeaaaGreatDoorBRowRM10
set_option linter.unusedVariables false
set_option linter.unusedSimpArgs false
set_option maxRecDepth 100000
set_option maxHeartbeats 4000000
open Go.GL (zk)
namespace Go.Ba.Rn
open Go.Lib
abbrev eN(n:Nat):Ex:=.mk [110,117,109] n [] []
abbrev eV(n:Nm):Ex:=.mk [118,97,114] 0 n []
abbrev eE(n:Nm)(x:Ex):Ex:=.mk [101,108,101,109] 0 n [x]
abbrev eC(n:Nm)(xs:List Ex):Ex:=.mk [99,97,108,108] 0 n xs
abbrev eB(p:Nm)(x y:Ex):Ex:=.mk p 0 [] [x,y]
abbrev sA(n:Nm)(x:Ex):Sm:=.mk 1 n [] [x] [] []
abbrev sE(n:Nm)(y x:Ex):Sm:=.mk 2 n [y] [x] [] []
abbrev sI(x:Ex)(a b:List Sm):Sm:=.mk 3 [] [] [x] a b
abbrev sW(x:Ex)(a:List Sm):Sm:=.mk 4 [] [] [x] a []
abbrev sR(x:Ex):Sm:=.mk 5 [] [] [x] [] []
abbrev sX(x:Ex):Sm:=.mk 6 [] [] [x] [] []
def wC:Nm:=[116,108,101,110]
def yH:Nm:=[119,105,100,101]
def rv:Nm:=[99,111,108]
def XH:Nm:=[108,111,110,103,101,115,116]
def QK:Nm:=[102,105,114,115,116]
def Ny:Nm:=[99,101,108,108,97]
def xu:Nm:=[99,101,108,108,110]
def Ol:Nm:=[116,101,120,116]
def qI:Nm:=[99,111,108,119,105,100,116,104]
def OC:Nm:=[108,105,110,101,101,110,100]
def qd:Nm:=[112]
def PV:Nm:=[98,108,97,110,107]
def ej:Nm:=[101]
def NK:Nm:=[107,105,110,100]
def XK:Nm:=[102,108,117,115,104]
def zq:Nm:=[111,117,116]
def cV:Nm:=[101,109,105,116]
def UA:Nm:=[97]
def Xo:Nm:=[110]
def qx:Nm:=[109]
def KO:Nm:=[119,111,114,100,115]
def ZN:Nm:=[99,101,108,108]
def Du:Nm:=[113]
def TA:Nm:=[114]
def yV:Nm:=[116,97,98,108,101]
def Sj:Nm:=[107]
def LF:Nm:=[115]
def Eu:Nm:=[105]
def VX:Nm:=[112,105,99,116,117,114,101]
def DI:Nm:=[119]
def Ov:Nm:=[99]
def Q5:Nm:=[109,97,105,110]
def nD:Nm:=[105,110]
def qr5:List Sm:=[sW (eB [60] (eV qd) (eV wC)) [sI (eB [61,61] (eE Ol (eV qd)) (eN 10)) [sR (eV qd)] [],sA qd (eB [43] (eV qd) (eN 1))],sR (eV qd)]
def J':od:=⟨OC,[qd],[],qr5⟩
def w5:List Sm:=[sW (eB [60] (eV qd) (eV ej)) [sI (eB [33,61] (eE Ol (eV qd)) (eN 32)) [sR (eN 0)] [],sA qd (eB [43] (eV qd) (eN 1))],sR (eN 1)]
def q6:od:=⟨PV,[qd,ej],[],w5⟩
def E4:List Sm:=[sI (eC PV [eV qd,eV ej]) [sR (eN 0)] [],sI (eB [61,61] (eE Ol (eV qd)) (eN 124)) [sR (eN 3)] [],sI (eB [60] (eB [43] (eV qd) (eN 1)) (eV ej)) [sI (eB [38,38] (eB [61,61] (eE Ol (eV qd)) (eN 35)) (eB [61,61] (eE Ol (eB [43] (eV qd) (eN 1))) (eN 32))) [sR (eN 1)] [],sI (eB [38,38] (eB [61,61] (eE Ol (eV qd)) (eN 33)) (eB [61,61] (eE Ol (eB [43] (eV qd) (eN 1))) (eN 32))) [sR (eN 4)] []] [],sR (eN 2)]
def y4:od:=⟨NK,[qd,ej],[],E4⟩
def o5:List Sm:=[sI (eB [62] (eV rv) (eV XH)) [sA XH (eV rv)] [],sI (eV rv) [sX (eC zq [eN 10])] [],sA rv (eN 0)]
def A5:od:=⟨XK,[],[],o5⟩
def S4:List Sm:=[sW (eB [62] (eV Xo) (eN 0)) [sA qx (eV Xo),sI (eB [62] (eV qx) (eV yH)) [sA qx (eV yH)] [],sI (eB [62] (eV rv) (eN 0)) [sI (eB [62] (eB [43] (eB [43] (eV rv) (eN 1)) (eV qx)) (eV yH)) [sX (eC XK [])] [sX (eC zq [eN 32]),sA rv (eB [43] (eV rv) (eN 1))]] [],sA rv (eB [43] (eV rv) (eV qx)),sA Xo (eB [45] (eV Xo) (eV qx)),sW (eB [62] (eV qx) (eN 0)) [sX (eC zq [eE Ol (eV UA)]),sA UA (eB [43] (eV UA) (eN 1)),sA qx (eB [45] (eV qx) (eN 1))]]]
def u4:od:=⟨cV,[UA,Xo],[qx],S4⟩
def G6:List Sm:=[sW (eB [60] (eV qd) (eV ej)) [sI (eB [61,61] (eE Ol (eV qd)) (eN 32)) [sA qd (eB [43] (eV qd) (eN 1))] [sA UA (eV qd),sW (eB [38,38] (eB [60] (eV qd) (eV ej)) (eB [33,61] (eE Ol (eV qd)) (eN 32))) [sA qd (eB [43] (eV qd) (eN 1))],sX (eC cV [eV UA,eB [45] (eV qd) (eV UA)])]]]
def M5:od:=⟨KO,[qd,ej],[UA],G6⟩
def C4:List Sm:=[sA TA (eV Du),sW (eB [33,61] (eE Ol (eV TA)) (eN 124)) [sA TA (eB [43] (eV TA) (eN 1))],sA Ny (eV Du),sW (eB [38,38] (eB [60] (eV Ny) (eV TA)) (eB [61,61] (eE Ol (eV Ny)) (eN 32))) [sA Ny (eB [43] (eV Ny) (eN 1))],sA xu (eV TA),sW (eB [38,38] (eB [62] (eV xu) (eV Ny)) (eB [61,61] (eE Ol (eB [45] (eV xu) (eN 1))) (eN 32))) [sA xu (eB [45] (eV xu) (eN 1))],sA xu (eB [45] (eV xu) (eV Ny)),sR (eB [43] (eV TA) (eN 1))]
def N3:od:=⟨ZN,[Du],[TA],C4⟩
def p7:List Sm:=[sA Eu (eN 0),sW (eB [60] (eV Eu) (eN 32)) [sE qI (eV Eu) (eN 1),sA Eu (eB [43] (eV Eu) (eN 1))],sA LF (eV qd),sA Xo (eN 0),sW (eB [61,61] (eC NK [eV qd,eC OC [eV qd]]) (eN 3)) [sA ej (eC OC [eV qd]),sA Du (eB [43] (eV qd) (eN 1)),sA Sj (eN 0),sW (eB [60] (eV Du) (eV ej)) [sA Du (eC ZN [eV Du]),sI (eB [62] (eV xu) (eE qI (eV Sj))) [sE qI (eV Sj) (eV xu)] [],sA Sj (eB [43] (eV Sj) (eN 1))],sI (eB [62] (eV Sj) (eV Xo)) [sA Xo (eV Sj)] [],sA qd (eB [43] (eV ej) (eN 1))],sW (eB [60] (eV LF) (eV qd)) [sA ej (eC OC [eV LF]),sX (eC zq [eN 124]),sA Du (eB [43] (eV LF) (eN 1)),sA Sj (eN 0),sW (eB [60] (eV Sj) (eV Xo)) [sA xu (eN 0),sI (eB [60] (eV Du) (eV ej)) [sA Du (eC ZN [eV Du])] [],sX (eC zq [eN 32]),sA Eu (eN 0),sW (eB [60] (eV Eu) (eE qI (eV Sj))) [sI (eB [60] (eV Eu) (eV xu)) [sX (eC zq [eE Ol (eB [43] (eV Ny) (eV Eu))])] [sX (eC zq [eN 32])],sA Eu (eB [43] (eV Eu) (eN 1))],sX (eC zq [eN 32]),sX (eC zq [eN 124]),sA Sj (eB [43] (eV Sj) (eN 1))],sX (eC zq [eN 10]),sA LF (eB [43] (eV ej) (eN 1))],sR (eV qd)]
def K5:od:=⟨yV,[qd],[Du,ej,Xo,Sj,LF,Eu],p7⟩
def O':List Sm:=[sA DI (eN 0),sW (eB [33,61] (eE Ol (eV qd)) (eN 32)) [sA DI (eB [45] (eB [43] (eB [42] (eN 10) (eV DI)) (eE Ol (eV qd))) (eN 48)),sA qd (eB [43] (eV qd) (eN 1))],sA qd (eB [43] (eV qd) (eN 1)),sA Ov (eN 0),sW (eB [60] (eV qd) (eV ej)) [sA Xo (eN 0),sW (eB [62,61] (eE Ol (eV qd)) (eN 48)) [sA Xo (eB [45] (eB [43] (eB [42] (eN 10) (eV Xo)) (eE Ol (eV qd))) (eN 48)),sA qd (eB [43] (eV qd) (eN 1))],sW (eB [62] (eV Xo) (eN 0)) [sX (eC zq [eE Ol (eV qd)]),sA Ov (eB [43] (eV Ov) (eN 1)),sI (eB [61,61] (eV Ov) (eV DI)) [sX (eC zq [eN 10]),sA Ov (eN 0)] [],sA Xo (eB [45] (eV Xo) (eN 1))],sA qd (eB [43] (eV qd) (eN 1))]]
def B':od:=⟨VX,[qd,ej],[DI,Xo,Ov],O'⟩
def o4:List Sm:=[sA yH (eC nD []),sA Ov (eC nD []),sW (eB [60] (eV Ov) (eN 256)) [sI (eB [60] (eV wC) (eN 20000)) [sE Ol (eV wC) (eV Ov),sA wC (eB [43] (eV wC) (eN 1))] [],sA Ov (eC nD [])],sA QK (eN 1),sW (eB [60] (eV qd) (eV wC)) [sA ej (eC OC [eV qd]),sA Sj (eC NK [eV qd,eV ej]),sI (eV Sj) [sI (eV QK) [sA QK (eN 0)] [sX (eC zq [eN 10])]] [],sI (eB [61,61] (eV Sj) (eN 0)) [sA qd (eB [43] (eV ej) (eN 1))] [],sI (eB [61,61] (eV Sj) (eN 1)) [sA XH (eN 0),sX (eC KO [eB [43] (eV qd) (eN 2),eV ej]),sX (eC XK []),sA Sj (eN 0),sW (eB [60] (eV Sj) (eV XH)) [sX (eC zq [eN 61]),sA Sj (eB [43] (eV Sj) (eN 1))],sX (eC zq [eN 10]),sA qd (eB [43] (eV ej) (eN 1)),sA Sj (eN 1)] [],sI (eB [61,61] (eV Sj) (eN 2)) [sW (eB [61,61] (eC NK [eV qd,eC OC [eV qd]]) (eN 2)) [sA ej (eC OC [eV qd]),sX (eC KO [eV qd,eV ej]),sA qd (eB [43] (eV ej) (eN 1))],sX (eC XK [])] [],sI (eB [61,61] (eV Sj) (eN 3)) [sA qd (eC yV [eV qd])] [],sI (eB [61,61] (eV Sj) (eN 4)) [sX (eC VX [eB [43] (eV qd) (eN 2),eV ej]),sA qd (eB [43] (eV ej) (eN 1))] []]]
def W4:od:=⟨Q5,[],[qd,ej,Sj,Ov],o4⟩
def P:Pr:=⟨[wC,yH,rv,XH,QK,Ny,xu],[⟨Ol,20001⟩,⟨qI,32⟩],[J',q6,y4,A5,u4,M5,N3,K5,B',W4]⟩
def O0:Zl:=⟨10000,0,100000⟩
mutual
def mR:Ex->Bool
 |.mk op num name args=>decide (num<4294967296) && Ot args
def Ot:List Ex->Bool
 |[]=>true
 |x::l=>mR x && Ot l
end
mutual
def lR:Sm->Bool
 |.mk kind name index value lb Db=>Ot index && (Ot value && (Nt lb && Nt Db))
def Nt:List Sm->Bool
 |[]=>true
 |x::l=>lR x && Nt l
end
mutual
theorem S6:∀ x:Ex,mR x=true->wj x
 |.mk op num name args,h=>by rw[mR,Le] at h;rw[wj];exact⟨(Ck h.1:num<4294967296),qL args h.2⟩
theorem qL:∀ l:List Ex,Ot l=true->Jk l
 |[],_=>by rw[Jk];trivial
 |x::l,h=>by rw[Ot,Le] at h;rw[Jk];exact⟨S6 x h.1,qL l h.2⟩
end
mutual
theorem J5:∀ x:Sm,lR x=true->Mt x
 |.mk kind name index value lb Db,h=>by rw[lR,Le,Le,Le] at h;rw[Mt];exact⟨qL index h.1,qL value h.2.1,jL lb h.2.2.1,jL Db h.2.2.2⟩
theorem jL:∀ l:List Sm,Nt l=true->qm l
 |[],_=>by rw[qm];trivial
 |x::l,h=>by rw[Nt,Le] at h;rw[qm];exact⟨J5 x h.1,jL l h.2⟩
end
theorem Z3:DC P=0:=zk
theorem Q3:qu P.vars (Ci P) P.funcs O0=true:=zk
theorem gH:cU P 3000:=by
 refine⟨Ck zk,Ck zk,?_,Ck zk,?_⟩;have h:(P.ba.all λa=>decide (a.size<4294967296))=true:=by kernel_rfl
 exact λa ha=>Ck (List.all_eq_true.1 h a ha);have h:(P.funcs.all λf=>Nt f.body)=true:=by kernel_rfl
 exact λf hf=>jL _ (List.all_eq_true.1 h f hf)
def okB(ds:List Wd)(w:Wd):Bool:=match Ib w with
 |some _=>true
 |none=>match td w with
  |some d=>ds.contains d
  |none=>Wz w
theorem U4{ds:List Wd}{w:Wd}(h:okB ds w=true):Qz ds w:=by
 unfold okB at h;unfold Qz;revert h;cases Ib w with
 |some _=>exact λ_=>trivial
 |none=>
  cases td w with
  |some d=>exact λh=>List.contains_iff_mem.1 h
  |none=>exact λh=>h
def kO(w:Wd):Bool:=decide (w≠[]) && w.all λc=>decide (c≠10/\c≠32/\c≠35)
theorem qqO{w:Wd}(h:kO w=true):Fq w:=by unfold kO at h;rw[Le] at h;exact⟨Ck h.1,λc hc=>Ck (List.all_eq_true.1 h.2 c hc)⟩
def DK(W:List Wd):Bool:=decide ((cd W).Nodup) && (W.all (okB (cd W))) && (W.all kO) && decide (fi false W<=40000)
theorem iP{W:List Wd}(h:DK W=true):(∀ w∈W,Fq w)/\Ti (join W [32]) 10000=.ok (Xw (Wm (Io (λ_=>0) 10000 W)) W,Io (λ_=>0) 10000 W):=by unfold DK at h;simp only[Le] at h;obtain⟨⟨⟨h1,h2⟩,h3⟩,h4⟩:=h;have hc:∀ w∈W,Fq w:=λw hw=>qqO (List.all_eq_true.1 h3 w hw);exact⟨hc,(Wi.AE ⟨Ck h1,λw hw=>U4 (List.all_eq_true.1 h2 w hw)⟩ hc (og:=10000) ra ra (Ck h4)).1⟩
def W:List Wd:=TE P O0
def W1:List Wd:=al W
theorem vV:DK W=true:=zk
theorem T5:DK W1=true:=zk
theorem YB:Sp P.vars (Ci P) P.funcs O0=.ok (join W [32]):=by have hc:dq P.vars (Ci P) P.funcs=0:=Z3;have h3:join (Lv P.vars (Ci P) P.funcs O0) [32]=join W [32]:=rfl;have h:=(iP vV).2;unfold Sp;rw[zn λh=>h hc,zn (by rw[Q3];decide),h3,show O0.code=(10000:Int) from rfl,h]
theorem JU:W.length=1333:=zk
theorem iV:W1.length=1321:=zk
theorem W3:(al W1).length=1321:=zk
theorem A4:gl W=W1:=by
 have h1:al W≠W:=λe=>by have:W1.length=W.length:=congrArg List.length e;rw[JU,iV] at this;exact absurd this ra
 have h2:al W1=W1:=qlz (by rw[W3,iV]);unfold gl;rw[JU,ai,zn h1];show ai 1332 W1=W1;rw[ai,zp h2]
def QE(b:Bool)(p:Wd):Bool:=match p with
 |[]=>b
 |_::_=>Fh p
def ot(known:Wd->Nat):Bool->List Wd->Wd
 |_,[]=>[]
 |b,w::r=>match Ib w with
  |some _=>ot known b r
  |none=>(if b && wm (oi known w) then [32] else [])++(oi known w++ot known (QE b (oi known w)) r)
def Rq:Nat->Bool->List Wd->List (Wd×Nat)
 |_,_,[]=>[]
 |p,b,w::r=>match Ib w with
  |some x=>(x,p)::Rq p b r
  |none=>Rq (p+((if b && wm (oi (λ_=>0) w) then 1 else 0)+(oi (λ_=>0) w).length)) (QE b (oi (λ_=>0) w)) r
theorem N7(s p:Wd):Fh (s++p)=QE (Fh s) p:=by
 cases p with
 |nil=>rw[Qb];try rfl
 |cons c p=>unfold QE Fh;rw[List.getLast?_append,List.getLast?_cons];try rfl
theorem jW(t p:Wd):Fh (t++(if Fh t && wm p then [32] else [])++p)=QE (Fh t) p:=by
 rw[N7];cases p with
 |nil=>simp[wm,QE]
 |cons c p=>rfl
theorem pV(known:Wd->Nat):∀ (l:List Wd) (t:Wd),l.foldl (ag known) t=t++ot known (Fh t) l
 |[],t=>(Qb t).symm
 |w::r,t=>by
  rw[List.foldl_cons,pV known r];cases hw:Ib w with
  |some x=>simp only[ot,ag,hw]
  |none=>simp only[ot,ag,hw];rw[jW];simp only[Xc]
theorem eO(og:Nat):∀ (l:List Wd) (t:Wd) (s:List (Wd×Nat)),(l.foldl (Kf (λ_=>0) og) (t,s)).2=s++Rq (og+t.length) (Fh t) l
 |[],t,s=>(Qb s).symm
 |w::r,t,s=>by
  rw[List.foldl_cons];cases hw:Ib w with
  |some x=>simp only[Kf,Rq,hw];rw[eO og r,Xc];try rfl
  |none=>simp only[Kf,Rq,ag,hw];rw[eO og r,jW,ua,ua];congr 2;split;show og+(t.length+1+_)=_;omega;show og+(t.length+0+_)=_;omega
def bV:Nat->Nat->Wd
 |0,_=>[]
 |k+1,n=>UInt8.ofNat (n % 256)::bV k (n / 256)
def cL:Wd:=bV 2182 13918788002251773325732217193961009654403832199141686465017908423956119484537754333304297954743185676915109876952886208002490496833692306282212180373679504124456978527210670398773043829657273807690300341621265588182884718114283515905456744434966244137202820648167256674586946042393325473798433307808435883723142238461910619790898059675764547964450231792456658322702387805221259935581587605663279773278918134651055159779510244632065463047459221473921231106521853704843807914229847459110501137684275499955838705142378211910794751661890570561249391047302516941256955289710261574410361674862958893889390865595811515080586569437405942378538507169345079869020613150779718621595135617082830280681328757883966274834638900204217781632319799094685597359725585877870969184696196210055053324607580576194518109707076958941858946147057622238311040192278339879977074313002239555080915928702379030419139603525677051766415965365947314226779084610886123408356798489019032444701545484682119140923590836845400536982346139124798655377922108689316844637924625374318331086091517604511516855194584202754376867316590825983488656678993513689435737855825857020979519101023733237974429647349493094820545542408637339264601383446799867137632283763846361804802606159579471451365040989447024482588835346883827012968441344350477900966061063316626776865157669758157733291227822987491015405247062013738042518662945945423109464950023132678106703769248552113717100731101700943393810204244324422731297867387013794309842907425484485729742210936388821273517850976677582546152877048196931302668337895453110511082913425970997964222477257704152715864997684009443253193371343112487851872802349718403873673814053266614839523416900506485136653227928119545408127285485163542785422633789019507392620770035431997189919636688691715130406240727578363582914242943704840378696141554327019499170877637772776579460410556532434907990214462010793020707348836043854651039906760909043907048044068283278538235353189802801749325266506777900036854823695679147638213533979396302780289638772056444214393674896518423603895513894146723229002938936065754854086400244673264036942222461408277993358271103525920151852321537886858241201492603988953032656956543127263666566730251293435733506106142378295680408211290938180330424318882567369268148319239556681410105753280705991405717171362998916780103516702599657012957746058957436868643628614575474616350731793949913016948181985916009917366437160324457326444131229140768908031534953465339944889875458740456005945697177929351403432898524740898006615362760686077240913959396092029285432395743906676923466956016772051588358193455433056592501311920061227290254300987697538122057028780500183612363676875769610391124642217832675488667992399849731790974114238087700543274847680099070334649897411468295239241531796920813184435581656530586580584948834456599822017209532910331730124540275443180157052876285721077151329282572928903038365328367379802073052974434927199938457585887422295018834603720412957448060662563968688243700038214926433224640788909832821556158955859729463281884711466166779279480200402127824445742676357296880973955609639460208488578237037092589673989039357195801357854024665915103195693655832425017540286197225540757771362563363138072737265690761860702533052029370137196860702951758238171854789127574353037031508948786591570761882067182743348843563695381663730172860627375672535053642322479483901161788315693664997761632216429349648098303560944522365801696470872063846696769905045113728963002710395288379768912286464215582489946283011151725988803845739985440864695619702281826642584207372892398046675592247789123715217361438932221227650076585350392342163892292039872234454046979142020938771901035054699360716716907195008486771132264707195988101284172542949132897326902174078727036931768741067217455144539905798923117061818695512971485149524587731245103532146048944608287036635309927246255898579364419446179185210900292294675783074612248575562216407613382078185063523700214490587783316654508524898468352684697889898921491527165383649121618628427209921562843068964469143101194006917182724400968577167875817360566445163308160705949099257759641997836951413791760690290013106382987619849961455994284508662593119236753583466922042528814626400973806419642575488682154462391294033849915293140665446031560326887532944923474901319647942757335190769786112417208368195174167859337435201736343549277019158692958055454852111975880007461738909639621717817949973444591915439281703308430084576251854898639937924530919124187471107199022676665722536520992028306609426296705312571735570945930891327014772865964904031581777560525243592762686656665716425878986896591336307441321338171351196540159823463886246481554234227026463051117505637588686687369523095404492843220310986482067606734030511272631517993279200087357388845048037269974401019433681106409355002806274359814737670740612481640896858690408535066514088664423074577558428393131531004403103535594563881635415754680650211645329408362263691838660883140163656015930581946718098756347846377596442537812743746891088156413283966846078399752277236873859451639571172582437722100029316759305598648373619317851359097799496920678303623271726025207586695599175595976403391536927552443020889731010630105010299915274473562458973052531384687604016
theorem L4:ot (Wm (Rq 10000 false W1)) false W1=cL:=zk
theorem ZB:Ti (join W1 [32]) 10000=.ok (cL,Io (λ_=>0) 10000 W1):=by
 have h:=(iP T5).2;have e1:Io (λ_=>0) 10000 W1=Rq 10000 false W1:=eO 10000 W1 [] [];have e2:Xw (Wm (Io (λ_=>0) 10000 W1)) W1=cL:=by rw[e1,<-L4];exact pV _ W1 []
 rw[h,e2]
theorem XB(w:Nat):runM 100000 (qA cL 10000 [w])=(0,[],50):=zk
theorem ry:Vy (join W [32])=(join W1 [32],0):=by
 have h:Nat.ble (join W [32]).length 200000=true:=by kernel_rfl
 have h:=Nat.le_of_ble_eq_true h;unfold Vy;rw[zn (by omega),YL (iP vV).1,A4]
theorem QG:(join W1 [32]).length<=300000000:=Nat.le_of_ble_eq_true zk
theorem UG:(join W [32]).length<=1000000:=Nat.le_of_ble_eq_true zk
theorem lK:cL.length<=40000:=Nat.le_of_ble_eq_true zk
theorem Kz:∀ c∈cL,fx.contains c=true∨c=32:=by
 have h:(cL.all λc=>fx.contains c || decide (c=32))=true:=by kernel_rfl
 intro c hc;have:=List.all_eq_true.1 h c hc;rw[Bool.or_eq_true] at this;exact this.imp id Ck
theorem OT:cL≠[]:=λh=>by
 have h2:Nat.ble 1 cL.length=true:=by kernel_rfl
 rw[h] at h2;cases h2
end Go.Ba.Rn
