/- Texts joined: ParS4, GlDefer, ParS5, ChkW11, REq0, Fmt1, Fmt2, Fmt3, Fmt4, GlBytes, PeepSpec. -/
import Derived.Recover
import Derived.Test.YtpokklffoihafaaGreatDoorBRowC22
import Derived.Test.YtpokklffoihafaaGreatDoorBRowC23
import Derived.Test.YtpokklffoihafaaGreatDoorBRowC24
import Derived.Test.YtpokklffoihafaaGreatDoorBRowC26
import Derived.Test.YtpokklffoihafaaGreatDoorBRowC27
import Derived.Test.YtpokklffoihafaaGreatDoorBRowC28
import Derived.Test.YtpokklffoihafaaGreatDoorBRowC29
set_option linter.unusedVariables false
set_option linter.unusedSimpArgs false
namespace Go.Proofs.YtpokklffoihafaaGreatDoor
open Go.GL Go.RowKit Go.Stele
set_option maxRecDepth 100000
set_option maxHeartbeats 4000000
theorem permV {a b c:Nat×LObj} {X Y Z:Heap}:(a::b::c::(X++(Y++Z))).Perm (X++(a::b::c::(Y++Z))):=List.perm_append_comm_assoc [a,b,c] X (Y++Z)
theorem permA {a b c:Nat×LObj} {X Y Z:Heap}:(a::b::c::(X++(Y++Z))).Perm (Y++(a::b::c::(X++Z))):=
 (((List.perm_append_comm_assoc X Y Z).cons c).cons b |>.cons a).trans (List.perm_append_comm_assoc [a,b,c] Y (X++Z))
theorem permF {a b c:Nat×LObj} {X Y Z:Heap}:(a::b::c::(X++(Y++Z))).Perm (Z++(a::b::c::(X++Y))):=
 ((((show (X++(Y++Z)).Perm (Z++(X++Y)) from by rw[←List.append_assoc];exact List.perm_append_comm).cons c).cons b).cons a).trans (List.perm_append_comm_assoc [a,b,c] Z (X++Y))
theorem hsubV {a b c:Nat×LObj} {X Y Z:Heap}:HSub (a::b::c::(X++(Y++Z))) (b::a::c::((Y++Z)++X)):=
 ⟨[],by rw[List.append_nil];exact (List.Perm.swap _ _ _).trans ((((List.perm_append_comm).cons c).cons b).cons a)⟩
theorem hsubA {a b c:Nat×LObj} {X Y Z:Heap}:HSub (a::b::c::(X++(Y++Z))) (b::a::c::((X++Z)++Y)):=
 ⟨[],by rw[List.append_nil];exact (List.Perm.swap _ _ _).trans ((((show ((X++Z)++Y).Perm (X++(Y++Z)) from by rw[List.append_assoc];exact List.perm_append_comm.append_left X).cons c).cons b).cons a)⟩
theorem hsubF {a b c:Nat×LObj} {X Y Z:Heap}:HSub (a::b::c::(X++(Y++Z))) (b::a::c::((X++Y)++Z)):=
 ⟨[],by rw[List.append_nil,List.append_assoc];exact List.Perm.swap _ _ _⟩
theorem Acc.cell {s:Nat} {v:LV} {es:List LV} {H F:Heap} (h:Acc s v es H F):v.cells? = some [v]∧[v].all cellOk=true:=by
 cases h <;> exact ⟨rfl,rfl⟩
attribute [local irreducible] LOps LCode LStep LCalls Go.GL.Pure QThen QBlock RetPost LQ LAny LLate LLateOp
section
variable {B0:Nat} {w0:World}
theorem program_spec (hG:GW B0 w0) (sb:Nat) (T:List Tok) (hT:TOK T) (f:Nat) (r:Res Pr) (hr:sProg T f ⟨[],[],[]⟩ 0 0=some r) :
  LCalls (KC B0 w0) 48 [ptr sb 0] [srcH sb T 0 0] (PostP sb T encPr r):=by
 have hl:=hT.len
 have hml:(T.map encTok).length=T.length:=List.length_map _
 refine cI Tryz.func48 rfl (n:=47) rfl rfl rfl ?_
 refine gaq ?_
 refine oS (S.alloc fun b2=>?_) rfl
 refine gas ?_
 refine oS (S.alloc fun b3=>?_) rfl
 refine gab ?_
 refine oL (fun k ls H=>∃ (p:Pr) (v1 v2 v3:LV) (i2:Nat) (H1 H2 H3:Heap),k≤f∧ls=[(0,ptr sb 0),(2,ptr b2 0),(3,ptr b3 0)]∧H=srcH sb T i2 0::(b3,.cells 26 [v1,v2,v3])::(b2,.cells 26 [nilSlice,nilSlice,nilSlice])::(H1++(H2++H3)) ∧
   Acc 1 v1 (p.vars.map str) H1 []∧Acc 2 v2 (p.arrays.map encAr) H2 []∧Acc 4 v3 (p.funcs.map encFn) H3 []∧i2≤T.length∧p.vars.length≤i2∧p.arrays.length≤i2∧p.funcs.length≤i2∧sProg T k p i2 0=some r)
  ⟨f,_,_,⟨⟨[],[],[]⟩,nilSlice,nilSlice,nilSlice,0,[],[],[],Nat.le_refl _,rfl,rfl,Acc.nil,Acc.nil,Acc.nil,Nat.zero_le _,Nat.zero_le _,Nat.zero_le _,Nat.zero_le _,hr⟩,⟨rfl,rfl,rfl,trivial⟩,zhP zp2 zhr⟩ ?_
 rintro k ls H ⟨p,v1,v2,v3,i2,H1,H2,H3,hkf,rfl,rfl,ha1,ha2,ha3,hi2,hl1,hl2,hl3,hI⟩ j hj
 obtain ⟨k,rfl⟩:∃ k',k=k'+1:=by
  cases k with
  |zero=>rw[sProg] at hI;cases hI
  |succ k=>exact ⟨k,rfl⟩
 rw[sProg] at hI
 refine gab ?_
 refine LCode.cut [(0,ptr sb 0),(2,ptr b2 0),(3,ptr b3 0),(13,bool (decide (i2<T.length)))] ?_ (fun j2 hj2=>?_)
 ·refine LCode.quiet zk ?_
  refine gab ?_
  exact ⟨⟨rfl,rfl,rfl,bool_eq (by rw[decide_eq_decide];simp),trivial⟩,rfl,rfl⟩
 ·skip
  refine oC rfl (fun hc=>?_) (fun hc=>?_)
  ·have hlt:i2<T.length:=zt hc
   rw[if_neg zo] at hI
   refine gac ?_
   refine oS (S.lit [_] rfl (eC rfl rfl eN) rfl rfl rfl ?_) rfl
   refine oS (S.fnH [_,_] rfl pH (is_spec sb T i2 0 [kwVar] hl zo (by simp)) ?_) rfl
   refine gab ?_
   refine oC rfl (fun hv=>?_) (fun hv=>?_)
   ·rw[if_pos hv] at hI
    obtain ⟨r2,hr2⟩:=obind_is hI
    refine LCode.draw (m:=7) rfl [] ?_
    refine aT 0 rfl rfl (Pure.fieldH rfl) ?_
    refine aT 2 rfl rfl (Pure.mv (lv:=.atom _) rfl) ?_
    refine LAny.late ?_ zhn
    refine LLate.two (i:=1) (j:=3) zk ?_ ?_
    ·refine lH rfl rfl (Pure.loadH (c:=v1) rfl zm1 rfl) ?_
     refine lO 3 (lW rfl (.inl rfl) rfl (S.callP [_] rfl pH (vars_spec sb T hT k i2 0 r2 hi2 hr2) (fun l i3 op3 h3=>?_) (fun l er i3 op3 h3 e' he'=>?_)))
     ·obtain ⟨g1,g2,g3,rfl⟩:=sVars_good T k _ _ _ _ (hr2.trans (congrArg some h3))
      have g4:=g3 hi2
      have g5:=g2 hv
      have g6:=vars_len T _ _ _ _ _ _ _ (hr2.trans (congrArg some h3))
      rw[hr2,h3,obind_ok] at hI
      rw[List.length_nil] at g6
      refine lO 4 (lW rfl (.inl rfl) rfl (S.accF permV rfl ha1 rfl (strs_len l) (strs_ok l) (by simp;omega) fun v' H' ha'=>?_))
      refine lO 5 (lH rfl rfl (Pure.fieldH rfl) ?_)
      refine lO 6 (lW rfl (.inl rfl) rfl (S.store (cs':=[v',v2,v3]) rfl zp1 (Acc.cell ha').1 rfl rfl (Acc.cell ha').2 rfl ?_))
      refine lD zk ?_
      refine gaa ?_
      exact ⟨k,_,_,by omega,⟨{ p with vars:=p.vars++l },v',v2,v3,i3,H',H2,H3,by omega,rfl,rfl,by rw[List.map_append];exact ha',ha2,ha3,g4,by rw[List.length_append];omega,Nat.le_trans hl2 zo,Nat.le_trans hl3 zo,hI⟩,⟨rfl,rfl,rfl,trivial⟩,hsubV,hj2.trans hj⟩
     ·rw[hr2,h3,obind_err] at hI
      refine gag ?_
      exact panP (he'.trans (hj2.trans hj)) (by cases hI;rfl) zhp
    ·refine lW rfl (.inl rfl) rfl (S.callP [_] rfl pH (vars_spec sb T hT k i2 0 r2 hi2 hr2) (fun l i3 op3 h3=>?_) (fun l er i3 op3 h3 e' he'=>?_))
     ·refine lO 1 (lH rfl rfl (Pure.loadH (c:=v1) rfl zm1 rfl) ?_)
      obtain ⟨g1,g2,g3,rfl⟩:=sVars_good T k _ _ _ _ (hr2.trans (congrArg some h3))
      have g4:=g3 hi2
      have g5:=g2 hv
      have g6:=vars_len T _ _ _ _ _ _ _ (hr2.trans (congrArg some h3))
      rw[hr2,h3,obind_ok] at hI
      rw[List.length_nil] at g6
      refine lO 4 (lW rfl (.inl rfl) rfl (S.accF permV rfl ha1 rfl (strs_len l) (strs_ok l) (by simp;omega) fun v' H' ha'=>?_))
      refine lO 5 (lH rfl rfl (Pure.fieldH rfl) ?_)
      refine lO 6 (lW rfl (.inl rfl) rfl (S.store (cs':=[v',v2,v3]) rfl zp1 (Acc.cell ha').1 rfl rfl (Acc.cell ha').2 rfl ?_))
      refine lD zk ?_
      refine gaa ?_
      exact ⟨k,_,_,by omega,⟨{ p with vars:=p.vars++l },v',v2,v3,i3,H',H2,H3,by omega,rfl,rfl,by rw[List.map_append];exact ha',ha2,ha3,g4,by rw[List.length_append];omega,Nat.le_trans hl2 zo,Nat.le_trans hl3 zo,hI⟩,⟨rfl,rfl,rfl,trivial⟩,hsubV,hj2.trans hj⟩
     ·rw[hr2,h3,obind_err] at hI
      refine gag ?_
      exact panP (he'.trans (hj2.trans hj)) (by cases hI;rfl) zhp
   ·rw[if_neg (by rw[hv];decide)] at hI
    refine gak ?_
    refine oS (S.fnH [_,_] rfl pH (take_spec sb T i2 0 kwArray hl zo) ?_) rfl
    refine gab ?_
    refine oC rfl (fun hw=>?_) (fun hw=>?_)
    ·have hlt2:=isTok_lt hw
     rw[if_pos hw] at hI
     simp only[hw,if_true]
     obtain ⟨r2,hr2⟩:=obind_is hI
     refine LCode.draw (m:=8) rfl [] ?_
     refine aT 0 rfl rfl (Pure.fieldH rfl) ?_
     refine aT 2 rfl rfl (Pure.mv (lv:=.atom _) rfl) ?_
     refine LAny.late ?_ zhn
     refine LLate.two (i:=1) (j:=3) zk ?_ ?_
     ·refine lH rfl rfl (Pure.loadH (c:=v2) rfl zm1 rfl) ?_
      refine lO 3 (lW rfl (.inl rfl) rfl (S.callP [_] rfl pH (array_spec hG sb T hT (i2+1) 0 r2 zo zo hr2) (fun l i3 op3 h3=>?_) (fun l er i3 op3 h3 e' he'=>?_)))
      ·obtain ⟨g1,g2,g3,rfl⟩:=sArray_good T _ _ _ (hr2.trans (congrArg some h3))
       have g4:=g3 zo
       rw[hr2,h3,obind_ok] at hI
       refine lO 4 (lW rfl (.inl rfl) rfl (S.lit [_] rfl (eC rfl rfl eN) rfl rfl rfl ?_))
       refine lO 5 (lW rfl (.inl rfl) rfl (S.accF permA rfl ha2 rfl (by simp;rfl) rfl (by simp;omega) fun v' H' ha'=>?_))
       refine lO 6 (lH rfl rfl (Pure.fieldH rfl) ?_)
       refine lO 7 (lW rfl (.inl rfl) rfl (S.store (cs':=[v1,v',v3]) rfl zp1 (Acc.cell ha').1 rfl rfl (Acc.cell ha').2 rfl ?_))
       refine lD zk ?_
       refine gaa ?_
       exact ⟨k,_,_,by omega,⟨{ p with arrays:=p.arrays++[l] },v1,v',v3,i3,H1,H',H3,by omega,rfl,rfl,ha1,by rw[List.map_append];exact ha',ha3,g4,Nat.le_trans hl1 zo,by rw[List.length_append,List.length_singleton];omega,Nat.le_trans hl3 zo,hI⟩,⟨rfl,rfl,rfl,trivial⟩,hsubA,hj2.trans hj⟩
      ·rw[hr2,h3,obind_err] at hI
       refine gag ?_
       exact panP (he'.trans (hj2.trans hj)) (by cases hI;rfl) zhp
     ·refine lW rfl (.inl rfl) rfl (S.callP [_] rfl pH (array_spec hG sb T hT (i2+1) 0 r2 zo zo hr2) (fun l i3 op3 h3=>?_) (fun l er i3 op3 h3 e' he'=>?_))
      ·refine LLate.two (i:=1) (j:=4) zk ?_ ?_
       ·refine lH rfl rfl (Pure.loadH (c:=v2) rfl zm1 rfl) ?_
        obtain ⟨g1,g2,g3,rfl⟩:=sArray_good T _ _ _ (hr2.trans (congrArg some h3))
        have g4:=g3 zo
        rw[hr2,h3,obind_ok] at hI
        refine lO 4 (lW rfl (.inl rfl) rfl (S.lit [_] rfl (eC rfl rfl eN) rfl rfl rfl ?_))
        refine lO 5 (lW rfl (.inl rfl) rfl (S.accF permA rfl ha2 rfl (by simp;rfl) rfl (by simp;omega) fun v' H' ha'=>?_))
        refine lO 6 (lH rfl rfl (Pure.fieldH rfl) ?_)
        refine lO 7 (lW rfl (.inl rfl) rfl (S.store (cs':=[v1,v',v3]) rfl zp1 (Acc.cell ha').1 rfl rfl (Acc.cell ha').2 rfl ?_))
        refine lD zk ?_
        refine gaa ?_
        exact ⟨k,_,_,by omega,⟨{ p with arrays:=p.arrays++[l] },v1,v',v3,i3,H1,H',H3,by omega,rfl,rfl,ha1,by rw[List.map_append];exact ha',ha3,g4,Nat.le_trans hl1 zo,by rw[List.length_append,List.length_singleton];omega,Nat.le_trans hl3 zo,hI⟩,⟨rfl,rfl,rfl,trivial⟩,hsubA,hj2.trans hj⟩
       ·obtain ⟨g1,g2,g3,rfl⟩:=sArray_good T _ _ _ (hr2.trans (congrArg some h3))
        have g4:=g3 zo
        rw[hr2,h3,obind_ok] at hI
        refine lW rfl (.inl rfl) rfl (S.lit [_] rfl (eC rfl rfl eN) rfl rfl rfl ?_)
        refine lO 1 (lH rfl rfl (Pure.loadH (c:=v2) rfl zm1 rfl) ?_)
        refine lO 5 (lW rfl (.inl rfl) rfl (S.accF permA rfl ha2 rfl (by simp;rfl) rfl (by simp;omega) fun v' H' ha'=>?_))
        refine lO 6 (lH rfl rfl (Pure.fieldH rfl) ?_)
        refine lO 7 (lW rfl (.inl rfl) rfl (S.store (cs':=[v1,v',v3]) rfl zp1 (Acc.cell ha').1 rfl rfl (Acc.cell ha').2 rfl ?_))
        refine lD zk ?_
        refine gaa ?_
        exact ⟨k,_,_,by omega,⟨{ p with arrays:=p.arrays++[l] },v1,v',v3,i3,H1,H',H3,by omega,rfl,rfl,ha1,by rw[List.map_append];exact ha',ha3,g4,Nat.le_trans hl1 zo,by rw[List.length_append,List.length_singleton];omega,Nat.le_trans hl3 zo,hI⟩,⟨rfl,rfl,rfl,trivial⟩,hsubA,hj2.trans hj⟩
      ·rw[hr2,h3,obind_err] at hI
       refine gag ?_
       exact panP (he'.trans (hj2.trans hj)) (by cases hI;rfl) zhp
    ·rw[if_neg (by rw[hw];decide)] at hI
     simp only[hw,Bool.false_eq_true,if_false]
     refine gak ?_
     refine oS (S.fnH [_,_] rfl pH (take_spec sb T i2 0 kwFunc hl zo) ?_) rfl
     refine gab ?_
     refine oC rfl (fun hu=>?_) (fun hu=>?_)
     ·have hlt2:=isTok_lt hu
      rw[if_pos hu] at hI
      simp only[hu,if_true]
      obtain ⟨r2,hr2⟩:=obind_is hI
      refine LCode.draw (m:=8) rfl [] ?_
      refine aT 0 rfl rfl (Pure.fieldH rfl) ?_
      refine aT 2 rfl rfl (Pure.mv (lv:=.atom _) rfl) ?_
      refine LAny.late ?_ zhn
      refine LLate.two (i:=1) (j:=3) zk ?_ ?_
      ·refine lH rfl rfl (Pure.loadH (c:=v3) rfl zm1 rfl) ?_
       refine lO 3 (lW rfl (.inl rfl) rfl (S.callP [_] rfl pH (func_spec hG sb T hT k (i2+1) 0 r2 zo zo hr2) (fun l i3 op3 h3=>?_) (fun l er i3 op3 h3 e' he'=>?_)))
       ·obtain ⟨g1,g2,g3,rfl⟩:=sFunc_good T k _ _ _ (hr2.trans (congrArg some h3))
        have g4:=g3 zo
        rw[hr2,h3,obind_ok] at hI
        refine lO 4 (lW rfl (.inl rfl) rfl (S.lit [_] rfl (eC rfl rfl eN) rfl rfl rfl ?_))
        refine lO 5 (lW rfl (.inl rfl) rfl (S.accF permF rfl ha3 rfl (by simp;rfl) rfl (by simp;omega) fun v' H' ha'=>?_))
        refine lO 6 (lH rfl rfl (Pure.fieldH rfl) ?_)
        refine lO 7 (lW rfl (.inl rfl) rfl (S.store (cs':=[v1,v2,v']) rfl zp1 (Acc.cell ha').1 rfl rfl (Acc.cell ha').2 rfl ?_))
        refine lD zk ?_
        refine gaa ?_
        exact ⟨k,_,_,by omega,⟨{ p with funcs:=p.funcs++[l] },v1,v2,v',i3,H1,H2,H',by omega,rfl,rfl,ha1,ha2,by rw[List.map_append];exact ha',g4,Nat.le_trans hl1 zo,Nat.le_trans hl2 zo,by rw[List.length_append,List.length_singleton];omega,hI⟩,⟨rfl,rfl,rfl,trivial⟩,hsubF,hj2.trans hj⟩
       ·rw[hr2,h3,obind_err] at hI
        refine gag ?_
        exact panP (he'.trans (hj2.trans hj)) (by cases hI;rfl) zhp
      ·refine lW rfl (.inl rfl) rfl (S.callP [_] rfl pH (func_spec hG sb T hT k (i2+1) 0 r2 zo zo hr2) (fun l i3 op3 h3=>?_) (fun l er i3 op3 h3 e' he'=>?_))
       ·refine LLate.two (i:=1) (j:=4) zk ?_ ?_
        ·refine lH rfl rfl (Pure.loadH (c:=v3) rfl zm1 rfl) ?_
         obtain ⟨g1,g2,g3,rfl⟩:=sFunc_good T k _ _ _ (hr2.trans (congrArg some h3))
         have g4:=g3 zo
         rw[hr2,h3,obind_ok] at hI
         refine lO 4 (lW rfl (.inl rfl) rfl (S.lit [_] rfl (eC rfl rfl eN) rfl rfl rfl ?_))
         refine lO 5 (lW rfl (.inl rfl) rfl (S.accF permF rfl ha3 rfl (by simp;rfl) rfl (by simp;omega) fun v' H' ha'=>?_))
         refine lO 6 (lH rfl rfl (Pure.fieldH rfl) ?_)
         refine lO 7 (lW rfl (.inl rfl) rfl (S.store (cs':=[v1,v2,v']) rfl zp1 (Acc.cell ha').1 rfl rfl (Acc.cell ha').2 rfl ?_))
         refine lD zk ?_
         refine gaa ?_
         exact ⟨k,_,_,by omega,⟨{ p with funcs:=p.funcs++[l] },v1,v2,v',i3,H1,H2,H',by omega,rfl,rfl,ha1,ha2,by rw[List.map_append];exact ha',g4,Nat.le_trans hl1 zo,Nat.le_trans hl2 zo,by rw[List.length_append,List.length_singleton];omega,hI⟩,⟨rfl,rfl,rfl,trivial⟩,hsubF,hj2.trans hj⟩
        ·obtain ⟨g1,g2,g3,rfl⟩:=sFunc_good T k _ _ _ (hr2.trans (congrArg some h3))
         have g4:=g3 zo
         rw[hr2,h3,obind_ok] at hI
         refine lW rfl (.inl rfl) rfl (S.lit [_] rfl (eC rfl rfl eN) rfl rfl rfl ?_)
         refine lO 1 (lH rfl rfl (Pure.loadH (c:=v3) rfl zm1 rfl) ?_)
         refine lO 5 (lW rfl (.inl rfl) rfl (S.accF permF rfl ha3 rfl (by simp;rfl) rfl (by simp;omega) fun v' H' ha'=>?_))
         refine lO 6 (lH rfl rfl (Pure.fieldH rfl) ?_)
         refine lO 7 (lW rfl (.inl rfl) rfl (S.store (cs':=[v1,v2,v']) rfl zp1 (Acc.cell ha').1 rfl rfl (Acc.cell ha').2 rfl ?_))
         refine lD zk ?_
         refine gaa ?_
         exact ⟨k,_,_,by omega,⟨{ p with funcs:=p.funcs++[l] },v1,v2,v',i3,H1,H2,H',by omega,rfl,rfl,ha1,ha2,by rw[List.map_append];exact ha',g4,Nat.le_trans hl1 zo,Nat.le_trans hl2 zo,by rw[List.length_append,List.length_singleton];omega,hI⟩,⟨rfl,rfl,rfl,trivial⟩,hsubF,hj2.trans hj⟩
       ·rw[hr2,h3,obind_err] at hI
        refine gag ?_
        exact panP (he'.trans (hj2.trans hj)) (by cases hI;rfl) zhp
     ·rw[if_neg (by rw[hu];decide)] at hI
      simp only[hu,Bool.false_eq_true,if_false]
      refine gak ?_
      refine oS (S.callP [_,_] rfl pH (fail_spec encPr sb T i2 0 3 hl zo) (fun _ _ _ h=>by cases h) (fun l er i' op' h e' he'=>?_)) rfl
      cases h
      refine gag ?_
      exact panP (he'.trans (hj2.trans hj)) (by cases hI;rfl) zhp
  ·have hge:T.length≤i2:=by have:=zf hc;omega
   rw[if_pos hge] at hI
   refine LCode.cellSub zp1 (cs':=[.list (p.vars.map str),.list (p.arrays.map encAr),.list (p.funcs.map encFn)]) ⟨ha1.sub,ha2.sub,ha3.sub,trivial⟩ ?_
   refine gaj ?_
   exact retP (v:=p) (hj2.trans hj) (rC (rA (k:=3) rfl zm0 rfl zsr) rN) (by cases hI;rfl) rfl (zhP zp2 zhn)
end
end Go.Proofs.YtpokklffoihafaaGreatDoor
namespace Go.GL
open Go.RowKit
def LCallsD (C:Ctx) (f:FuncId) (args:List LV) (u:FrameMode) (H:Heap) (R:FrameMode→Heap→Prop):Prop:=
 ∀ (vs:List Value) w L,RepL w L args vs→RelH C w L H→CallsD C.P f vs.toArray u w fun e u' w'=>(∃ v,e=.returned v)∧LeftX C w L H w' (R u')
def LeavesL (C:Ctx) (n:Nat) (rs:List ResultVar) (R:LRes→Heap→Prop):List Deferred→FrameMode→Env→Heap→Prop
 |[],.returning,e,H=>∃ vs H',AllRes C n e H rs vs∧HSub H' H∧R (.ret (resLV vs)) H'
 |[],.panicking ch,_,H=>∃ H',HSub H' H∧R (.panic ch) H'
 |[],.run,_,_=>False
 |d::ds,u,e,H=>u≠.run∧∃ f cap H1 F,d={ target:=.fn (.func f) cap,args:=#[] }∧TEnter C.P f∧H.Perm (H1++F) ∧
   LCallsD C f (cap.toList.map .atom) u H1 fun u' H'=>LeavesL C n rs R ds (settle u') e (H'++F)
def liftP (C:Ctx) (n:Nat) (w:World) (L:Live) (K:List Nat) (Q:Post):Exit→Act→World→Prop:=
 fun x a' w'=>∃ e' H' L',Fr K w L w' L' H'∧RelH C w' L' H'∧RelE n a' e' w' L'∧Q x e' H'
theorem liftP_trans {C:Ctx} {n:Nat} {w w1:World} {L L1:Live} {K:List Nat} {H1:Heap} {Q:Post} (f:Fr K w L w1 L1 H1) {x:Exit} {a:Act} {w':World}
  (k:liftP C n w1 L1 (keys H1) Q x a w'):liftP C n w L K Q x a w':=
 let ⟨e',H',L',h1,h2,h3,h4⟩:=k
 ⟨e',H',L',f.trans h1,h2,h3,h4⟩
def LOpsP (C:Ctx) (n:Nat) (ops:Array Oper) (Q:Post) (rest:List Oper) (e:Env) (H:Heap):Prop:=
 ∀ a w L,RelE n a e w L→RelH C w L H→wpList C.P ops (liftP C n w L (keys H) Q) rest a w
def LCodeP (C:Ctx) (n:Nat) (c:Code) (Q:Post) (e:Env) (H:Heap):Prop:=
 ∀ a w L,RelE n a e w L→RelH C w L H→c.wp C.P (liftP C n w L (keys H) Q) a w
section P
variable {C:Ctx} {n:Nat} {ops:Array Oper} {Q:Post} {e:Env} {H:Heap}
theorem LOpsP.nil (h:Q .normal e H):LOpsP C n ops Q [] e H:=fun _ _ L hE hH=>⟨e,H,L,Fr.refl _ _ _,hH,hE,h⟩
theorem LOpsP.step {dst:Option Nat} {op:Op} {ty:TypeId} {pos:String} {aft:Array Edge} {rest:List Oper}
  (h:LStep C ⟨dst,op,ty,pos,aft,none⟩ e H (fun lv H'=>LOpsP C n ops Q rest (e.put dst lv) H') (fun ch H'=>Q (.panic ch) e H'))
  (hd:dstOk n dst):LOpsP C n ops Q (⟨dst,op,ty,pos,aft,none⟩::rest) e H:=fun a w L hE hH=>by
 unfold wpList
 rw[if_pos (by simp[Region.wanted])]
 have hs:=h a.eval w L hE.ev hH
 refine .inl ?_
 unfold Oper.wp
 have left:∀ {w' v},Left C w L H w' v (fun lv H'=>LOpsP C n ops Q rest (e.put dst lv) H')→wpList C.P ops (liftP C n w L (keys H) Q) rest (a.put dst v) w':=fun h=>by
  obtain ⟨lv,H',L',h1,h2,h3,h4⟩:=h
  exact wpList_mono (fun _ _ _=>liftP_trans h1) _ _ _ (h4 _ _ L' ((hE.mono h1.ext).put hd h3) h2)
 have leftX:∀ {w' ch},LeftX C w L H w' (fun H'=>Q (.panic ch) e H')→liftP C n w L (keys H) Q (.panic ch) a w':=fun h=>by
  obtain ⟨H',L',h1,h2,h3⟩:=h
  exact ⟨e,H',L',h1,h2,hE.mono h1.ext,h3⟩
 generalize (execOp a.eval ⟨dst,op,ty,pos,aft,none⟩).run C.P w=r at hs ⊢
 unfold StepOut at hs
 split at hs
 ·exact left hs
 ·exact left hs
 ·obtain ⟨rfl,hs⟩:=hs
  refine Calls.mono hs fun e w' he=>?_
  cases e with
  |returned v=>exact left he
  |panicked ch=>exact leftX he
  |outgrown=>exact he.elim
 ·exact leftX hs
 ·exact hs.elim
theorem LOpsP.pure {dst:Option Nat} {op:Op} {ty:TypeId} {pos:String} {aft:Array Edge} {rest:List Oper} {lv:LV}
  (h:Pure C ⟨dst,op,ty,pos,aft,none⟩ e H lv) (hd:dstOk n dst) (k:LOpsP C n ops Q rest (e.put dst lv) H):LOpsP C n ops Q (⟨dst,op,ty,pos,aft,none⟩::rest) e H:=
 LOpsP.step (h.step k) hd
theorem LCodeP.region {id:Nat} {l:List Oper} (h:LOpsP C n l.toArray Q l e H):LCodeP C n (.region id l.toArray false) Q e H:=fun a w L hE hH=>wp_region_lit (h a w L hE hH)
theorem LCodeP.ret (h:Q .ret e H):LCodeP C n .ret Q e H:=fun _ _ L hE hH=>wp_ret ⟨e,H,L,Fr.refl _ _ _,hH,hE,h⟩
theorem LCodeP.seq {x y:Code} (h:LCodeP C n x (QThen (fun e H=>LCodeP C n y Q e H) Q) e H):LCodeP C n (.seq x y) Q e H:=fun a w L hE hH=>by
 refine wp_seq (Go.wp_mono (h a w L hE hH) fun ex a' w' hq=>?_)
 obtain ⟨e',H',L',h1,h2,h3,h4⟩:=hq
 cases ex with
 |normal=>exact Go.wp_mono (h4 a' w' L' h3 h2) fun _ _ _=>liftP_trans h1
 |exit id=>exact ⟨e',H',L',h1,h2,h3,h4⟩
 |goto id=>exact ⟨e',H',L',h1,h2,h3,h4⟩
 |ret=>exact ⟨e',H',L',h1,h2,h3,h4⟩
 |panic ch=>exact ⟨e',H',L',h1,h2,h3,h4⟩
 |outgrown=>exact ⟨e',H',L',h1,h2,h3,h4⟩
def QNo (Q:Post):Post
 |.panic _,_,_=>False
 |x,e,H=>Q x e H
theorem LCodeP.of {c:Code} (h:LCode C n c (QNo Q) e H):LCodeP C n c Q e H:=fun a w L hE hH=>by
 refine Go.wp_mono (h a w L hE hH) fun ex a' w' hq=>?_
 obtain ⟨e',H',L',h1,h2,h3,h4⟩:=hq
 cases ex with
 |panic ch=>exact h4.elim
 |normal=>exact ⟨e',H',L',h1,h2,h3,h4⟩
 |exit id=>exact ⟨e',H',L',h1,h2,h3,h4⟩
 |goto id=>exact ⟨e',H',L',h1,h2,h3,h4⟩
 |ret=>exact ⟨e',H',L',h1,h2,h3,h4⟩
 |outgrown=>exact ⟨e',H',L',h1,h2,h3,h4⟩
end P
def RetPostD (C:Ctx) (n:Nat) (rs:List ResultVar) (R:LRes→Heap→Prop):Post
 |.normal,e,H|.ret,e,H=>LeavesL C n rs R e.ds .returning e H
 |.panic ch,e,H=>LeavesL C n rs R e.ds (.panicking ch) e H
 |_,_,_=>False
theorem leavesL {C:Ctx} {n:Nat} {fn:Func} {R:LRes→Heap→Prop} {w0:World} {L0:Live} {H0:Heap} (h3:fn.results.size≤3) (tmps:Array Value):∀ (ds:List Deferred) (u:FrameMode) (e:Env) (H:Heap) (w:World) (L:Live),tmps.size=n→(∀ i,Rep w L (e.s i) (tmps.getD i undef))→RelH C w L H→Fr (keys H0) w0 L0 w L H →
  LeavesL C n fn.results.toList R ds u e H→Leaves C.P fn tmps (CallPost C w0 L0 H0 (fun v=>R (.ret v)) (fun ch=>R (.panic ch))) ds u w
 |[],.returning,e,H,w,L,hn,hv,hH,hF,h=>by
  obtain ⟨vs,H',h1,h2,h5⟩:=h
  obtain ⟨v,r1,r2⟩:=results_of (a:={ tmps,defers:=e.ds }) ⟨hn,rfl,hv⟩ hH h1 h3
  exact ⟨v,r1,resLV vs,H',L,hF.weak h2,hH.weak h2,r2,h5⟩
 |[],.panicking ch,e,H,w,L,hn,hv,hH,hF,h=>by
  obtain ⟨H',h2,h5⟩:=h
  exact ⟨H',L,hF.weak h2,hH.weak h2,h5⟩
 |[],.run,e,H,w,L,hn,hv,hH,hF,h=>h.elim
 |d::ds,u,e,H,w,L,hn,hv,hH,hF,h=>by
  obtain ⟨hu,f,cap,H1,F,rfl,hen,hp,hc⟩:=h
  refine ⟨hu,.func f,cap,f,cap,rfl,by simp[invoke,run_callFunc],?_⟩
  have hH':=hH.perm hp
  have:=hc cap.toList w L (repL_atoms _) hH'.left
  simp only[Array.toArray_toList] at this
  refine CallsD.mono this ?_
  rintro ex u' w' ⟨⟨v,rfl⟩,hx⟩
  obtain ⟨H',L',g1,g2,g3⟩:=LeftX.frame hH' hx
  exact leavesL h3 tmps ds (settle u') e H' w' L' hn (fun i=>(hv i).mono g1.ext _ _) g2 (hF.trans (g1.perm hp.symm)) g3
theorem LCallsD.mono {C:Ctx} {f:FuncId} {args:List LV} {u:FrameMode} {H:Heap} {R R':FrameMode→Heap→Prop} (h:LCallsD C f args u H R) (hr:∀ u H,R u H→R' u H):LCallsD C f args u H R':=fun vs w L h1 h2=>
 CallsD.mono (h vs w L h1 h2) fun _ _ _ ⟨h3,h4⟩=>⟨h3,h4.mono (hr _)⟩
theorem LCalls.introD {C:Ctx} {f:FuncId} {fn:Func} {c:Code} {n:Nat} {args:List LV} {H:Heap} {R:LRes→Heap→Prop} (hf:C.P.funcs[f]? = some fn) (hb:fn.body=some c) (hn:fn.ntmps=n) (h3:Nat.ble fn.results.size 3=true)
  (hl:Nat.ble args.length n=true) (h:LCodeP C n c (RetPostD C n fn.results.toList R) (argsEnv args) H):LCalls C f args H R:=fun vs w L hv hH=>by
 subst hn
 have hl':args.length≤fn.ntmps:=by simpa using hl
 have h3':fn.results.size≤3:=by simpa using h3
 have hlen:=hv.length
 refine calls_of_wp_defers hf hb (Go.wp_mono (h _ w L ⟨?_,rfl,fun i=>?_⟩ hH) fun ex a' w' hq=>?_)
 ·simp;omega
 ·simp only[argsEnv]
  rw[Array.getD_eq_getD_getElem?]
  rcases Nat.lt_or_ge i args.length with hi|hi
  ·rw[List.getElem?_eq_getElem hi]
   obtain ⟨x,hx,hr⟩:=hv.get (List.getElem?_eq_getElem hi)
   have hxi:(vs.toArray++Array.replicate (fn.ntmps-vs.toArray.size) undef)[i]? = some x:=by
    rw[Array.getElem?_append_left (by simp;omega)]
    simpa using hx
   rw[hxi]
   exact hr
  ·rw[List.getElem?_eq_none hi]
   have hxi:((vs.toArray++Array.replicate (fn.ntmps-vs.toArray.size) undef)[i]?).getD undef=undef:=by
    rw[Array.getElem?_append_right (by simp;omega)]
    rw[Array.getElem?_replicate]
    split <;> rfl
   rw[hxi]
   simp only[Option.getD_none,Rep]
 ·obtain ⟨e',H',L',g1,g2,g3,g4⟩:=hq
  have ret:∀ u,LeavesL C fn.ntmps fn.results.toList R e'.ds u e' H'→Leaves C.P fn a'.tmps (CallPost C w L H (fun v=>R (.ret v)) (fun ch=>R (.panic ch))) a'.defers u w':=fun u hu=>by
   rw[g3.ds]
   exact leavesL h3' a'.tmps _ u e' H' w' L' g3.size g3.vals g2 g1 hu
  cases ex with
  |normal=>exact ret _ g4
  |ret=>exact ret _ g4
  |panic ch=>exact ret _ g4
  |exit id=>exact g4.elim
  |goto id=>exact g4.elim
  |outgrown=>exact g4.elim
abbrev PostS:=Exit→FrameMode→Env→Heap→Prop
def LCodeS (C:Ctx) (n:Nat) (c:Code) (Q:PostS) (u:FrameMode) (e:Env) (H:Heap):Prop:=
 ∀ a w L (c0:Frame) cs,c0.mode=u→RelE n a e w L→RelH C w L H →
  c.wpS C.P (fun x a' cs' w'=>∃ u' e' H' L',cs'={ c0 with mode:=u' }::cs∧Fr (keys H) w L w' L' H'∧RelH C w' L' H'∧RelX n x a' e' w' L'∧Q x u' e' H') a (c0::cs) w
theorem wpS_mono {P:Program} {c:Code} {Q Q':Exit→Act→List Frame→World→Prop} {a:Act} {cs:List Frame} {w:World} (h:c.wpS P Q a cs w) (hq:∀ x a cs w,Q x a cs w→Q' x a cs w):c.wpS P Q' a cs w:=fun b k h1 h2=>
 let ⟨e,a',cs',w',q,r⟩:=h b k h1 h2
 ⟨e,a',cs',w',hq _ _ _ _ q,r⟩
section S
variable {C:Ctx} {n:Nat} {Q:PostS} {u:FrameMode} {e:Env} {H:Heap}
theorem LCodeS.of {c:Code} (h:LCode C n c (fun x e H=>Q x u e H) e H):LCodeS C n c Q u e H:=fun a w L c0 cs hu hE hH=>by
 refine wpS_of_wp (Go.wp_mono (h a w L hE hH) fun x a' w' hq=>?_)
 obtain ⟨e',H',L',h1,h2,h3,h4⟩:=hq
 exact ⟨u,e',H',L',by subst hu;rfl,h1,h2,h3,h4⟩
theorem LCodeS.seq {x y:Code} (h:LCodeS C n x (fun ex u' e' H'=>match ex with|.normal=>LCodeS C n y Q u' e' H'|ex=>Q ex u' e' H') u e H):LCodeS C n (.seq x y) Q u e H:=fun a w L c0 cs hu hE hH=>by
 refine wpS_seq (wpS_mono (h a w L c0 cs hu hE hH) fun ex a' cs' w' hq=>?_)
 obtain ⟨u',e',H',L',rfl,h1,h2,h3,h4⟩:=hq
 cases ex with
 |normal=>
  refine wpS_mono (h4 a' w' L' { c0 with mode:=u' } cs rfl h3 h2) ?_
  rintro ex a2 cs2 w2 ⟨u2,e2,H2,L2,rfl,g1,g2,g3,g4⟩
  exact ⟨u2,e2,H2,L2,rfl,h1.trans g1,g2,g3,g4⟩
 |exit id=>exact ⟨u',e',H',L',rfl,h1,h2,h3,h4⟩
 |goto id=>exact ⟨u',e',H',L',rfl,h1,h2,h3,h4⟩
 |ret=>exact ⟨u',e',H',L',rfl,h1,h2,h3,h4⟩
 |panic ch=>exact ⟨u',e',H',L',rfl,h1,h2,h3,h4⟩
 |outgrown=>exact ⟨u',e',H',L',rfl,h1,h2,h3,h4⟩
def recMode:FrameMode→Value×FrameMode
 |.panicking ({ v,recovered:=false,goexit:=false }::older)=>(v,.panicking ({ v,recovered:=true }::older))
 |u=>(.nilIface,u)
theorem recover_run {P:Program} {ρ:Operand→Value} {dst:Option Nat} {ty:TypeId} {pos:String} {aft:Array Edge} {g:Option (Nat×Bool)} (w:World) :
  (execOp ρ ⟨dst,.call { callee:=.builtin .recover,args:=#[],argTypes:=#[] },ty,pos,aft,g⟩).run P w=.ok .recover w:=by
 rfl
theorem recoverD_eq (c0:Frame) (cs:List Frame):recoverD (c0::cs)=none∧recMode c0.mode=(.nilIface,c0.mode)∨recoverD (c0::cs)=some ((recMode c0.mode).1,{ c0 with mode:=(recMode c0.mode).2 }::cs):=by
 obtain ⟨fn,tmps,todo,defers,mode,kind,ro⟩:=c0
 cases mode with
 |run=>exact .inl ⟨rfl,rfl⟩
 |returning=>exact .inl ⟨rfl,rfl⟩
 |panicking ch=>
  cases ch with
  |nil=>exact .inl ⟨rfl,rfl⟩
  |cons p older=>
   obtain ⟨v,r,g⟩:=p
   cases r <;> cases g <;> first|exact .inl ⟨rfl,rfl⟩|exact .inr rfl
theorem LCodeS.recover {id t s:Nat} {ty ty':TypeId} {pos pos':String} {aft aft':Array Edge} (ht:Nat.blt t n=true) (hs:Nat.blt s n=true) (h:Q .normal (recMode u).2 ((e.upd t (.atom (recMode u).1)).upd s (.atom (recMode u).1)) H) :
  LCodeS C n (.region id #[⟨some t,.call { callee:=.builtin .recover,args:=#[],argTypes:=#[] },ty,pos,aft,none⟩,⟨some s,.assign (.tmp t),ty',pos',aft',none⟩] false) Q u e H:=fun a w L c0 cs hu hE hH=>by
 refine wpS_region ?_
 have hE1:∀ v,RelE n (a.put (some t) v) (e.upd t (.atom v)) w L:=fun v=>hE.put (dst:=some t) (by simp only[dstOk,dstB];exact ht) rep_atom
 have hev:∀ v,(a.put (some t) v).eval (.tmp t)=v:=fun v=>by
  have:=(hE1 v).ev (.tmp t)
  simpa [Env.ev,Env.upd,Rep] using this
 have hE2:∀ v,RelE n ((a.put (some t) v).put (some s) v) ((e.upd t (.atom v)).upd s (.atom v)) w L:=fun v=>(hE1 v).put (dst:=some s) (by simp only[dstOk,dstB];exact hs) rep_atom
 have h1:∀ v cs1,wpOpsS C.P #[⟨some t,.call { callee:=.builtin .recover,args:=#[],argTypes:=#[] },ty,pos,aft,none⟩,⟨some s,.assign (.tmp t),ty',pos',aft',none⟩] (fun x a' cs' w'=>∃ u' e' H' L',cs'={ c0 with mode:=u' }::cs∧Fr (keys H) w L w' L' H'∧RelH C w' L' H'∧RelX n x a' e' w' L'∧Q x u' e' H') [1] (a.put (some t) v) cs1 w
   ↔ (fun x a' cs' w'=>∃ u' e' H' L',cs'={ c0 with mode:=u' }::cs∧Fr (keys H) w L w' L' H'∧RelH C w' L' H'∧RelX n x a' e' w' L'∧Q x u' e' H') Exit.normal ((a.put (some t) v).put (some s) v) cs1 w:=by
  intro v cs1
  have hr:(execOp (a.put (some t) v).eval ⟨some s,.assign (.tmp t),ty',pos',aft',none⟩).run C.P w=.ok (.value ((a.put (some t) v).eval (.tmp t))) w:=rfl
  simp only[wpOpsS,List.getElem?_toArray,List.getElem?_cons_succ,List.getElem?_cons_zero,Region.wanted,if_true,hr,Oper.upon,hev]
 have h0:(execOp a.eval ⟨some t,.call { callee:=.builtin .recover,args:=#[],argTypes:=#[] },ty,pos,aft,none⟩).run C.P w=.ok .recover w:=recover_run w
 have hl:List.range (#[(⟨some t,.call { callee:=.builtin .recover,args:=#[],argTypes:=#[] },ty,pos,aft,none⟩:Oper),⟨some s,.assign (.tmp t),ty',pos',aft',none⟩]:Array Oper).size=[0,1]:=rfl
 rw[hl,wpOpsS]
 simp only[List.getElem?_toArray,List.getElem?_cons_zero,Region.wanted,if_true,h0]
 rcases recoverD_eq c0 cs with ⟨h2,h3⟩|h2
 ·simp only[h2]
  rw[h1]
  subst hu
  rw[h3] at h
  exact ⟨c0.mode,_,H,L,rfl,Fr.refl _ _ _,hH,hE2 _,h⟩
 ·simp only[h2]
  rw[h1]
  subst hu
  exact ⟨_,_,H,L,rfl,Fr.refl _ _ _,hH,hE2 _,h⟩
def RetPostS (R:FrameMode→Heap→Prop):PostS
 |.normal,u,e,H|.ret,u,e,H=>e.ds=[]∧∃ H',HSub H' H∧R u H'
 |_,_,_,_=>False
theorem LCallsD.intro {f:FuncId} {fn:Func} {c:Code} {args:List LV} {R:FrameMode→Heap→Prop} (hf:C.P.funcs[f]? = some fn) (hb:fn.body=some c) (hn:fn.ntmps=n) (h3:fn.results=#[])
  (hl:Nat.ble args.length n=true) (h:LCodeS C n c (RetPostS R) u (argsEnv args) H):LCallsD C f args u H R:=fun vs w L hv hH=>by
 subst hn
 have hl':args.length≤fn.ntmps:=by simpa using hl
 have hlen:=hv.length
 have hE0:RelE fn.ntmps { tmps:=vs.toArray++Array.replicate (fn.ntmps-vs.toArray.size) undef,defers:=[] } (argsEnv args) w L:=by
  refine ⟨?_,rfl,fun i=>?_⟩
  ·simp;omega
  ·simp only[argsEnv]
   rw[Array.getD_eq_getD_getElem?]
   rcases Nat.lt_or_ge i args.length with hi|hi
   ·rw[List.getElem?_eq_getElem hi]
    obtain ⟨x,hx,hr⟩:=hv.get (List.getElem?_eq_getElem hi)
    have hxi:(vs.toArray++Array.replicate (fn.ntmps-vs.toArray.size) undef)[i]? = some x:=by
     rw[Array.getElem?_append_left (by simp;omega)]
     simpa using hx
    rw[hxi]
    exact hr
   ·rw[List.getElem?_eq_none hi]
    have hxi:((vs.toArray++Array.replicate (fn.ntmps-vs.toArray.size) undef)[i]?).getD undef=undef:=by
     rw[Array.getElem?_append_right (by simp;omega)]
     rw[Array.getElem?_replicate]
     split <;> rfl
    rw[hxi]
    simp only[Option.getD_none,Rep]
 refine callsD_of_wpS hf hb fun c0 cs hu=>wpS_mono (h _ w L c0 cs hu hE0 hH) fun ex a' cs' w' hq=>?_
 obtain ⟨u',e',H',L',rfl,g1,g2,g3,g4⟩:=hq
 have fin:RelE fn.ntmps a' e' w' L'→(e'.ds=[]∧∃ H'',HSub H'' H'∧R u' H'')→a'.defers=[]∧∃ u'',({ c0 with mode:=u' }::cs:List Frame)={ c0 with mode:=u'' }::cs∧∃ v,(results fn a'.tmps).run C.P w'=.ok v w'∧(∃ v',Ending.returned v=.returned v')∧LeftX C w L H w' (R u''):=fun hE ⟨h1,H'',h2,h4⟩=>
  ⟨hE.ds.trans h1,u',rfl,_,results0 h3 _ _,⟨_,rfl⟩,H'',L',g1.weak h2,g2.weak h2,h4⟩
 cases ex with
 |normal=>exact fin g3 g4
 |ret=>exact fin g3 g4
 |panic ch=>exact g4.elim
 |exit id=>exact g4.elim
 |goto id=>exact g4.elim
 |outgrown=>exact g4.elim
end S
section defer
variable {C:Ctx} {n:Nat} {ops:Array Oper} {Q:Post} {e:Env} {H:Heap}
theorem LOpsP.defer {dst:Option Nat} {fo:Operand} {f:FuncId} {caps:Array Value} {ty:TypeId} {pos:String} {aft:Array Edge} {rest:List Oper} (hf:e.ev fo=.atom (.func (.func f) #[] caps)) (hd:dst=none)
  (k:LOpsP C n ops Q rest ⟨e.s,{ target:=.fn (.func f) caps,args:=#[] }::e.ds⟩ H):LOpsP C n ops Q (⟨dst,.defer { callee:=.value fo,args:=#[],argTypes:=#[] },ty,pos,aft,none⟩::rest) e H:=fun a w L hE hH=>by
 subst hd
 have hv:=hE.ev fo
 rw[hf] at hv
 simp only[Rep] at hv
 have hr:(execOp a.eval ⟨none,.defer { callee:=.value fo,args:=#[],argTypes:=#[] },ty,pos,aft,none⟩).run C.P w=.ok (.defer { target:=.fn (.func f) caps,args:=#[] }) w:=by
  have h3:execOp a.eval ⟨none,.defer { callee:=.value fo,args:=#[],argTypes:=#[] },ty,pos,aft,none⟩=(do let d ←Deferred.ofValue (a.eval fo) ((#[]:Array Operand).map a.eval);Pure.pure (.defer d)):=rfl
  rw[h3,hv]
  simp only[Deferred.ofValue,List.map_toArray,List.map_nil]
  rfl
 unfold wpList
 rw[if_pos (by simp[Region.wanted])]
 refine .inl ?_
 unfold Oper.wp
 rw[hr]
 simp only[Oper.upon,Act.put]
 exact k _ w L ⟨hE.size,by show _::a.defers=_;rw[hE.ds],hE.vals⟩ hH
end defer
end Go.GL
namespace Go.Proofs.YtpokklffoihafaaGreatDoor
open Go.GL Go.RowKit Go.Stele
set_option maxRecDepth 100000
set_option maxHeartbeats 4000000
theorem tok_lex {s:List UInt8} {T:List Tok} (h:lexAllP s=.ok T):TOK T:=by
 unfold lexAllP at h
 split at h
 ·cases h
 ·obtain ⟨h1,h2⟩:=lexP_ok _ _ _ _ h
  exact ⟨by omega,fun t ht=>by have:=(h2 t ht).1;omega,fun t ht hk=>by
   obtain ⟨u,h3,h4,_⟩:=(h2 t ht).2 hk
   exact ⟨u,h3,h4⟩⟩
instance:TIface Tryz.prog 20:=.of zk
def noPr:Pr:=⟨[],[],[]⟩
def parseP (s:List UInt8):Pr×Int×Int:=match lexAllP s with
 |.error (l,e)=>(noPr,l,e)
 |.ok T=>match sProg T (10 * T.length+20) noPr 0 0 with
  |some (.ok p _ _)=>(p,0,0)
  |some (.err l e)=>(noPr,l,e)
  |none=>(noPr,0,0)
def encParse (r:Pr×Int×Int):LV:=.tuple [encPr r.1,int .i64 r.2.1,int .i64 r.2.2]
theorem RetPostD.ret1 {C:Ctx} {n:Nat} {e:Env} {H H' H1 H2 F:Heap} {R:LRes→Heap→Prop} {rs:List ResultVar} {vs:List LV} {f:FuncId} {caps:Array Value} [hen:TEnter C.P f] (hd:e.ds=[{ target:=.fn (.func f) caps,args:=#[] }]) (hp:H.Perm (H1++F))
  (hc:LCallsD C f (caps.toList.map .atom) .returning H1 (fun u H'=>u=.returning∧H'=H2)) (h:AllRes C n e (H2++F) rs vs) (hH:HSub H' (H2++F)) (hR:R (.ret (resLV vs)) H'):RetPostD C n rs R .ret e H:=by
 unfold RetPostD
 simp only[hd]
 refine ⟨by simp,f,caps,H1,F,rfl,hen,hp,LCallsD.mono hc ?_⟩
 rintro u H'' ⟨rfl,rfl⟩
 exact ⟨vs,H',h,hH,hR⟩
theorem RetPostD.panic1 {C:Ctx} {n:Nat} {e:Env} {H H' H1 H2 F:Heap} {R:LRes→Heap→Prop} {rs:List ResultVar} {vs:List LV} {f:FuncId} {caps:Array Value} {ch:List PanicEntry} [hen:TEnter C.P f] (hd:e.ds=[{ target:=.fn (.func f) caps,args:=#[] }]) (hp:H.Perm (H1++F))
  (hc:LCallsD C f (caps.toList.map .atom) (.panicking ch) H1 (fun u H'=>settle u=.returning∧H'=H2)) (h:AllRes C n e (H2++F) rs vs) (hH:HSub H' (H2++F)) (hR:R (.ret (resLV vs)) H'):RetPostD C n rs R (.panic ch) e H:=by
 unfold RetPostD
 simp only[hd]
 refine ⟨by simp,f,caps,H1,F,rfl,hen,hp,LCallsD.mono hc ?_⟩
 rintro u H'' ⟨hu,rfl⟩
 rw[hu]
 exact ⟨vs,H',h,hH,hR⟩
def resP:Res Pr→Pr×Int×Int
 |.ok p _ _=>(p,0,0)
 |.err l e=>(noPr,l,e)
theorem lexP_err:∀ (f:Nat) (s:List UInt8) (line l e:Int),lexP f s line=.error (l,e)→¬ e=0
 |0,s,line,l,e,h=>by
  rw[lexP] at h
  cases h
 |f+1,s,line,l,e,h=>by
  rw[lexP] at h
  split at h
  ·cases h
  ·split at h
   ·split at h
    ·rename_i he
     cases h
     exact he
    ·cases hx:lexP f (s.drop (lexToken s).2.1) (line+((s.take (lexToken s).2.1).count 10:Nat)) with
     |ok T=>rw[hx] at h;cases h
     |error p=>
      rw[hx] at h
      cases h
      exact lexP_err f _ _ _ _ hx
   ·exact lexP_err f _ _ _ _ h
theorem lexAllP_err {s:List UInt8} {l e:Int} (h:lexAllP s=.error (l,e)):¬ e=0:=by
 unfold lexAllP at h
 split at h
 ·cases h
  decide
 ·exact lexP_err _ _ _ _ _ h
theorem memA {A:Type} {p:A} {H:List A} (h:p∈H:=by first|exact List.Mem.head _|exact List.Mem.tail _ zm0|exact List.Mem.tail _ zm1|exact List.Mem.tail _ zm2|exact List.Mem.tail _ zm3|exact List.Mem.tail _ zm4|exact List.Mem.tail _ zm5):p∈H:=h
attribute [local irreducible] LOps LCode LStep LCalls Go.GL.Pure QThen QBlock RetPost LQ LAny LLate LLateOp LOpsP LCodeP LCodeS LCallsD
section
variable {B0:Nat} {w0:World}
theorem rec_ret (b2 b3 b4:Nat) (cs:List LV) (c d:LV):LCallsD (KC B0 w0) 47 [ptr b2 0,ptr b3 0,ptr b4 0] .returning [(b2,.cells 26 cs),(b3,.cells 3 [c]),(b4,.cells 31 [d])]
  (fun u H=>u=.returning∧H=[(b2,.cells 26 cs),(b3,.cells 3 [c]),(b4,.cells 31 [d])]):=by
 refine LCallsD.intro Tryz.func47 rfl (n:=22) rfl rfl rfl ?_
 refine LCodeS.seq (LCodeS.recover rfl rfl ?_)
 refine LCodeS.of ?_
 refine gae ?_
 refine oC rfl (fun hc=>?_) (fun hc=>?_)
 ·cases hc
 ·refine gaa ?_
  exact ⟨rfl,_,HSub.refl _,rfl,rfl⟩
theorem rec_pan (b2 b3 b4:Nat) (c1 c2 c3 c d:LV) (l er:Int):LCallsD (KC B0 w0) 47 [ptr b2 0,ptr b3 0,ptr b4 0] (.panicking (pan l er)) [(b2,.cells 26 [c1,c2,c3]),(b3,.cells 3 [c]),(b4,.cells 31 [d])]
  (fun u H=>settle u=.returning∧H=[(b2,.cells 26 [nilSlice,nilSlice,nilSlice]),(b3,.cells 3 [int .i64 l]),(b4,.cells 31 [int .i64 er])]):=by
 refine LCallsD.intro Tryz.func47 rfl (n:=22) rfl rfl rfl ?_
 refine LCodeS.seq (LCodeS.recover rfl rfl ?_)
 refine LCodeS.of ?_
 refine gae ?_
 refine oC rfl (fun hc=>?_) (fun hc=>?_)
 ·refine gak ?_
  refine oP (Pure.assertOk (vs:=[.int .i64 l,.int .i64 er]) rfl) rfl ?_
  refine gab ?_
  refine oS (S.alloc fun b5=>?_) rfl
  refine gah ?_
  refine oC rfl (fun hd=>?_) (fun hd=>?_)
  ·cases hd
  ·refine gaa ?_
   refine LCode.draw (m:=8) rfl [(b5,.cells 98 [int .i64 l,int .i64 er])] ?_
   refine aT 0 rfl rfl (Pure.bld _ (cs:=[_,_,_]) rfl) ?_
   refine aT 1 rfl rfl (Pure.fieldH rfl) ?_
   refine aT 2 rfl rfl (Pure.loadH (c:=.atom _) rfl zm0 rfl) ?_
   refine aT 3 rfl rfl (Pure.fieldH rfl) ?_
   refine aT 4 rfl rfl (Pure.loadH (c:=.atom _) rfl zm0 rfl) ?_
   refine LAny.late ?_ zhp
   refine lO 5 (lS (H1:=[(b2,.cells 26 [c1,c2,c3])]) (F:=[(b5,.cells 98 [int .i64 l,int .i64 er]),(b3,.cells 3 [c]),(b4,.cells 31 [d])]) rfl (.inl rfl) rfl zp1 zhp (S.store (cs':=[_,_,_]) rfl pH rfl rfl rfl rfl rfl ?_))
   refine lO 6 (lS (H1:=[(b3,.cells 3 [c])]) (F:=[(b2,.cells 26 [nilSlice,nilSlice,nilSlice]),(b5,.cells 98 [int .i64 l,int .i64 er]),(b4,.cells 31 [d])]) rfl (.inl rfl) rfl zp2 (zhP zp1 zhn) (S.store (cs':=[_]) rfl pH rfl rfl rfl rfl rfl ?_))
   refine lO 7 (lS (H1:=[(b4,.cells 31 [d])]) (F:=[(b3,.cells 3 [int .i64 l]),(b2,.cells 26 [nilSlice,nilSlice,nilSlice]),(b5,.cells 98 [int .i64 l,int .i64 er])]) rfl (.inl rfl) rfl zp3 (zhP zp2 zhn) (S.store (cs':=[_]) rfl pH rfl rfl rfl rfl rfl ?_))
   refine lD zk ?_
   exact ⟨rfl,_,zhP zp2 (zhP zp1 zhp),rfl,rfl⟩
 ·cases hc
theorem parse_any (hG:GW B0 w0) (s:List UInt8):LCalls (KC B0 w0) 21 [str s] [] (Ret (encParse (parseP s))):=by
 refine LCalls.introD Tryz.func21 rfl (n:=24) rfl rfl rfl ?_
 refine LCodeP.seq (LCodeP.of ?_)
 refine gaq ?_
 refine oS (S.alloc fun b2=>?_) rfl
 refine oS (S.alloc fun b3=>?_) rfl
 refine oS (S.alloc fun b4=>?_) rfl
 refine gab ?_
 refine LCodeP.seq (LCodeP.of ?_)
 refine gak ?_
 refine oS (S.fn [_] rfl (Tokens_any hG s) ?_) rfl
 cases hL:lexAllP s with
 |error le=>
  obtain ⟨l,er⟩:=le
  have he0:¬ er=0:=lexAllP_err hL
  simp only[encLex]
  refine gab ?_
  refine LCodeP.seq (LCodeP.of ?_)
  refine gaj ?_
  refine oC rfl (fun hc=>?_) (fun hc=>?_)
  ·refine gab ?_
   refine LCode.draw (m:=6) rfl [] ?_
   refine aT 0 rfl rfl (Pure.bld _ (cs:=[_,_,_]) rfl) ?_
   refine LAny.late ?_ zhn
   refine LLate.three (i:=1) (j:=2) (k:=3) zk ?_ ?_ ?_
   ·refine lH rfl rfl (Pure.loadH (c:=.atom _) rfl zm1 rfl) ?_
    refine LLate.two (i:=2) (j:=3) zk ?_ ?_
    ·refine lH rfl rfl (Pure.loadH (c:=.atom _) rfl zm0 rfl) ?_
     refine zl1 (i:=3) zk ?_
     refine lW rfl (.inl rfl) rfl (S.store (cs':=[_,_,_]) rfl zp2 rfl rfl rfl rfl rfl ?_)
     refine zl1 (i:=4) zk ?_
     refine lW rfl (.inl rfl) rfl (S.store (cs':=[_]) rfl zp2 rfl rfl rfl rfl rfl ?_)
     refine zl1 (i:=5) zk ?_
     refine lW rfl (.inl rfl) rfl (S.store (cs':=[_]) rfl zp2 rfl rfl rfl rfl rfl ?_)
     refine lD zk ?_
     refine gab ?_
     have hp:parseP s=(noPr,l,er):=by rw[parseP,hL]
     rw[hp]
     exact ⟨[encPr noPr,int .i64 l,int .i64 er],[],rC (rA (k:=3) (cs:=[nilSlice,nilSlice,nilSlice]) rfl memA rfl (LV.Sub.agg (bs:=[.list [],.list [],.list []]) ⟨LV.Sub.nil,LV.Sub.nil,LV.Sub.nil,trivial⟩)) (rC (ResIs.cellOne (cs:=[int .i64 l]) rfl memA rfl zsr) (rC (ResIs.cellOne (cs:=[int .i64 er]) rfl memA rfl zsr) rN)),HSub.nil _,rfl,rfl⟩
    ·refine lW rfl (.inl rfl) rfl (S.store (cs':=[_,_,_]) rfl zp2 rfl rfl rfl rfl rfl ?_)
     refine LLate.two (i:=2) (j:=4) zk ?_ ?_
     ·refine lH rfl rfl (Pure.loadH (c:=.atom _) rfl zm1 rfl) ?_
      refine zl1 (i:=4) zk ?_
      refine lW rfl (.inl rfl) rfl (S.store (cs':=[_]) rfl zp2 rfl rfl rfl rfl rfl ?_)
      refine zl1 (i:=5) zk ?_
      refine lW rfl (.inl rfl) rfl (S.store (cs':=[_]) rfl zp2 rfl rfl rfl rfl rfl ?_)
      refine lD zk ?_
      refine gab ?_
      have hp:parseP s=(noPr,l,er):=by rw[parseP,hL]
      rw[hp]
      exact ⟨[encPr noPr,int .i64 l,int .i64 er],[],rC (rA (k:=3) (cs:=[nilSlice,nilSlice,nilSlice]) rfl memA rfl (LV.Sub.agg (bs:=[.list [],.list [],.list []]) ⟨LV.Sub.nil,LV.Sub.nil,LV.Sub.nil,trivial⟩)) (rC (ResIs.cellOne (cs:=[int .i64 l]) rfl memA rfl zsr) (rC (ResIs.cellOne (cs:=[int .i64 er]) rfl memA rfl zsr) rN)),HSub.nil _,rfl,rfl⟩
     ·refine lW rfl (.inl rfl) rfl (S.store (cs':=[_]) rfl zp2 rfl rfl rfl rfl rfl ?_)
      refine zl1 (i:=2) zk ?_
      refine lH rfl rfl (Pure.loadH (c:=.atom _) rfl zm2 rfl) ?_
      refine zl1 (i:=5) zk ?_
      refine lW rfl (.inl rfl) rfl (S.store (cs':=[_]) rfl zp2 rfl rfl rfl rfl rfl ?_)
      refine lD zk ?_
      refine gab ?_
      have hp:parseP s=(noPr,l,er):=by rw[parseP,hL]
      rw[hp]
      exact ⟨[encPr noPr,int .i64 l,int .i64 er],[],rC (rA (k:=3) (cs:=[nilSlice,nilSlice,nilSlice]) rfl memA rfl (LV.Sub.agg (bs:=[.list [],.list [],.list []]) ⟨LV.Sub.nil,LV.Sub.nil,LV.Sub.nil,trivial⟩)) (rC (ResIs.cellOne (cs:=[int .i64 l]) rfl memA rfl zsr) (rC (ResIs.cellOne (cs:=[int .i64 er]) rfl memA rfl zsr) rN)),HSub.nil _,rfl,rfl⟩
   ·refine lH rfl rfl (Pure.loadH (c:=.atom _) rfl zm0 rfl) ?_
    refine LLate.two (i:=1) (j:=3) zk ?_ ?_
    ·refine lH rfl rfl (Pure.loadH (c:=.atom _) rfl zm1 rfl) ?_
     refine zl1 (i:=3) zk ?_
     refine lW rfl (.inl rfl) rfl (S.store (cs':=[_,_,_]) rfl zp2 rfl rfl rfl rfl rfl ?_)
     refine zl1 (i:=4) zk ?_
     refine lW rfl (.inl rfl) rfl (S.store (cs':=[_]) rfl zp2 rfl rfl rfl rfl rfl ?_)
     refine zl1 (i:=5) zk ?_
     refine lW rfl (.inl rfl) rfl (S.store (cs':=[_]) rfl zp2 rfl rfl rfl rfl rfl ?_)
     refine lD zk ?_
     refine gab ?_
     have hp:parseP s=(noPr,l,er):=by rw[parseP,hL]
     rw[hp]
     exact ⟨[encPr noPr,int .i64 l,int .i64 er],[],rC (rA (k:=3) (cs:=[nilSlice,nilSlice,nilSlice]) rfl memA rfl (LV.Sub.agg (bs:=[.list [],.list [],.list []]) ⟨LV.Sub.nil,LV.Sub.nil,LV.Sub.nil,trivial⟩)) (rC (ResIs.cellOne (cs:=[int .i64 l]) rfl memA rfl zsr) (rC (ResIs.cellOne (cs:=[int .i64 er]) rfl memA rfl zsr) rN)),HSub.nil _,rfl,rfl⟩
    ·refine lW rfl (.inl rfl) rfl (S.store (cs':=[_,_,_]) rfl zp2 rfl rfl rfl rfl rfl ?_)
     refine zl1 (i:=1) zk ?_
     refine lH rfl rfl (Pure.loadH (c:=.atom _) rfl zm2 rfl) ?_
     refine zl1 (i:=4) zk ?_
     refine lW rfl (.inl rfl) rfl (S.store (cs':=[_]) rfl zp2 rfl rfl rfl rfl rfl ?_)
     refine zl1 (i:=5) zk ?_
     refine lW rfl (.inl rfl) rfl (S.store (cs':=[_]) rfl zp2 rfl rfl rfl rfl rfl ?_)
     refine lD zk ?_
     refine gab ?_
     have hp:parseP s=(noPr,l,er):=by rw[parseP,hL]
     rw[hp]
     exact ⟨[encPr noPr,int .i64 l,int .i64 er],[],rC (rA (k:=3) (cs:=[nilSlice,nilSlice,nilSlice]) rfl memA rfl (LV.Sub.agg (bs:=[.list [],.list [],.list []]) ⟨LV.Sub.nil,LV.Sub.nil,LV.Sub.nil,trivial⟩)) (rC (ResIs.cellOne (cs:=[int .i64 l]) rfl memA rfl zsr) (rC (ResIs.cellOne (cs:=[int .i64 er]) rfl memA rfl zsr) rN)),HSub.nil _,rfl,rfl⟩
   ·refine lW rfl (.inl rfl) rfl (S.store (cs':=[_,_,_]) rfl zp2 rfl rfl rfl rfl rfl ?_)
    refine LLate.two (i:=1) (j:=2) zk ?_ ?_
    ·refine lH rfl rfl (Pure.loadH (c:=.atom _) rfl zm2 rfl) ?_
     refine LLate.two (i:=2) (j:=4) zk ?_ ?_
     ·refine lH rfl rfl (Pure.loadH (c:=.atom _) rfl zm1 rfl) ?_
      refine zl1 (i:=4) zk ?_
      refine lW rfl (.inl rfl) rfl (S.store (cs':=[_]) rfl zp2 rfl rfl rfl rfl rfl ?_)
      refine zl1 (i:=5) zk ?_
      refine lW rfl (.inl rfl) rfl (S.store (cs':=[_]) rfl zp2 rfl rfl rfl rfl rfl ?_)
      refine lD zk ?_
      refine gab ?_
      have hp:parseP s=(noPr,l,er):=by rw[parseP,hL]
      rw[hp]
      exact ⟨[encPr noPr,int .i64 l,int .i64 er],[],rC (rA (k:=3) (cs:=[nilSlice,nilSlice,nilSlice]) rfl memA rfl (LV.Sub.agg (bs:=[.list [],.list [],.list []]) ⟨LV.Sub.nil,LV.Sub.nil,LV.Sub.nil,trivial⟩)) (rC (ResIs.cellOne (cs:=[int .i64 l]) rfl memA rfl zsr) (rC (ResIs.cellOne (cs:=[int .i64 er]) rfl memA rfl zsr) rN)),HSub.nil _,rfl,rfl⟩
     ·refine lW rfl (.inl rfl) rfl (S.store (cs':=[_]) rfl zp2 rfl rfl rfl rfl rfl ?_)
      refine zl1 (i:=2) zk ?_
      refine lH rfl rfl (Pure.loadH (c:=.atom _) rfl zm2 rfl) ?_
      refine zl1 (i:=5) zk ?_
      refine lW rfl (.inl rfl) rfl (S.store (cs':=[_]) rfl zp2 rfl rfl rfl rfl rfl ?_)
      refine lD zk ?_
      refine gab ?_
      have hp:parseP s=(noPr,l,er):=by rw[parseP,hL]
      rw[hp]
      exact ⟨[encPr noPr,int .i64 l,int .i64 er],[],rC (rA (k:=3) (cs:=[nilSlice,nilSlice,nilSlice]) rfl memA rfl (LV.Sub.agg (bs:=[.list [],.list [],.list []]) ⟨LV.Sub.nil,LV.Sub.nil,LV.Sub.nil,trivial⟩)) (rC (ResIs.cellOne (cs:=[int .i64 l]) rfl memA rfl zsr) (rC (ResIs.cellOne (cs:=[int .i64 er]) rfl memA rfl zsr) rN)),HSub.nil _,rfl,rfl⟩
    ·refine lH rfl rfl (Pure.loadH (c:=.atom _) rfl zm1 rfl) ?_
     refine zl1 (i:=1) zk ?_
     refine lH rfl rfl (Pure.loadH (c:=.atom _) rfl zm2 rfl) ?_
     refine zl1 (i:=4) zk ?_
     refine lW rfl (.inl rfl) rfl (S.store (cs':=[_]) rfl zp2 rfl rfl rfl rfl rfl ?_)
     refine zl1 (i:=5) zk ?_
     refine lW rfl (.inl rfl) rfl (S.store (cs':=[_]) rfl zp2 rfl rfl rfl rfl rfl ?_)
     refine lD zk ?_
     refine gab ?_
     have hp:parseP s=(noPr,l,er):=by rw[parseP,hL]
     rw[hp]
     exact ⟨[encPr noPr,int .i64 l,int .i64 er],[],rC (rA (k:=3) (cs:=[nilSlice,nilSlice,nilSlice]) rfl memA rfl (LV.Sub.agg (bs:=[.list [],.list [],.list []]) ⟨LV.Sub.nil,LV.Sub.nil,LV.Sub.nil,trivial⟩)) (rC (ResIs.cellOne (cs:=[int .i64 l]) rfl memA rfl zsr) (rC (ResIs.cellOne (cs:=[int .i64 er]) rfl memA rfl zsr) rN)),HSub.nil _,rfl,rfl⟩
  ·have:er=0:=by simpa using hc
   exact absurd this he0
 |ok T=>
  have hT:=tok_lex hL
  simp only[encLex]
  refine gab ?_
  refine LCodeP.seq (LCodeP.of ?_)
  refine gaj ?_
  refine oC rfl (fun hc=>?_) (fun hc=>?_)
  ·cases hc
  ·refine gaa ?_
   refine LCodeP.seq (LCodeP.region ?_)
   refine gab ?_
   refine LOpsP.defer rfl rfl ?_
   refine LOpsP.nil ?_
   refine QThen.normal ?_
   refine LCodeP.seq (LCodeP.of ?_)
   refine gae ?_
   refine oS (S.box rfl fun sb=>?_) rfl
   refine gab ?_
   refine LCodeP.seq (LCodeP.region ?_)
   refine gab ?_
   obtain ⟨r,hr⟩:=sProg_ends T (10 * T.length+20) noPr 0 0 (Nat.zero_le _) zo
   have hp:parseP s=resP r:=by
    rw[parseP,hL]
    simp only[hr]
    cases r <;> rfl
   rw[hp]
   refine LOpsP.step (S.callP (T:=T) (i:=0) (op:=0) [_] rfl pH (program_spec hG sb T hT _ r hr) (fun v i1 op1 h1=>?_) (fun l er i1 op1 h1=>?_)) rfl
   ·subst h1
    refine LOpsP.step (S.store (cs':=[_,_,_]) rfl zp3 rfl rfl rfl rfl rfl ?_) rfl
    refine LOpsP.step (S.store (cs':=[_]) rfl zp3 rfl rfl rfl rfl rfl ?_) rfl
    refine LOpsP.step (S.store (cs':=[_]) rfl zp3 rfl rfl rfl rfl rfl ?_) rfl
    refine LOpsP.nil ?_
    refine QThen.normal ?_
    refine LCodeP.ret ?_
    exact RetPostD.ret1 (vs:=[encPr v,int .i64 0,int .i64 0]) (H2:=[(b2,.cells 26 [.list (v.vars.map str),.list (v.arrays.map encAr),.list (v.funcs.map encFn)]),(b3,.cells 3 [int .i64 0]),(b4,.cells 31 [int .i64 0])]) rfl (zp2.trans (List.Perm.cons _ (zp1.trans (List.Perm.cons _ zpr)))) (rec_ret b2 b3 b4 _ _ _)
     (rC (rA (k:=3) rfl zm0 rfl zsr) (rC (ResIs.cellOne rfl zm1 rfl zsr) (rC (ResIs.cellOne rfl zm2 rfl zsr) rN))) zhn ⟨rfl,rfl⟩
   ·subst h1
    refine QThen.panic ?_
    exact RetPostD.panic1 (vs:=[encPr noPr,int .i64 l,int .i64 er]) (H2:=[(b2,.cells 26 [nilSlice,nilSlice,nilSlice]),(b3,.cells 3 [int .i64 l]),(b4,.cells 31 [int .i64 er])]) rfl (zp3.trans (List.Perm.cons _ (zp2.trans (List.Perm.cons _ (zp1.trans zpr))))) (rec_pan b2 b3 b4 _ _ _ _ _ l er)
     (rC (rA (k:=3) rfl zm0 rfl (LV.Sub.agg (bs:=[.list [],.list [],.list []]) ⟨LV.Sub.nil,LV.Sub.nil,LV.Sub.nil,trivial⟩)) (rC (ResIs.cellOne rfl zm1 rfl zsr) (rC (ResIs.cellOne rfl zm2 rfl zsr) rN))) zhn ⟨rfl,rfl⟩
end
end Go.Proofs.YtpokklffoihafaaGreatDoor
namespace Go.Proofs.YtpokklffoihafaaGreatDoor.Chk
open Go.GL Go.RowKit Go.Stele
set_option maxRecDepth 100000
set_option maxHeartbeats 4000000
section
variable {C:Ctx} {e:Env} {H:Heap} {dst:Option Nat} {ty:TypeId} {pos:String} {aft:Array Edge} {g:Option (Nat×Bool)} {x:Operand}
theorem Pure.assertNil {t xT:TypeId} [ht:TConcrete C.P t] {zs:List Value} (hz:∀ w,(zeroValue t).run C.P w=.ok (.agg zs.toArray) w) (hx:e.ev x=.atom .nilIface):Go.GL.Pure C ⟨dst,.typeAssert x xT t true,ty,pos,aft,g⟩ e H (.tuple [.agg (zs.map .atom),bool false]):=
 .of_any fun ρ w L h=>⟨.tuple #[.agg zs.toArray,.bool false],by
  simp only[Rep]
  exact ⟨[.agg zs.toArray,.bool false],rfl,by simp only[RepL,Rep];exact ⟨_,_,rfl,⟨zs,rfl,repL_atoms zs⟩,_,_,rfl,rfl,rfl⟩⟩,fun w'=>by
  obtain ⟨d,hd,hm⟩:=ht.out
  have h3:execOp ρ ⟨dst,.typeAssert x xT t true,ty,pos,aft,g⟩=(do Pure.pure (.value (←Instr.typeAssert (ρ x) xT t true))):=rfl
  rw[h3,atom_of h hx]
  simp only[Instr.typeAssert,Sem.run_bind,run_underlying' hd,Result.andThen_ok]
  cases d <;> simp_all [Sem.run_bind]⟩
end
theorem vio_zero (w:World):(zeroValue 136).run Tryz.prog w=.ok (.agg [.string ⟨#[]⟩,.int .i64 0].toArray) w:=
 (Go.zero_of_info (P:=Tryz.prog) (n:=2) zk).1 w
attribute [local irreducible] LOps LCode LStep LCalls Go.GL.Pure QThen QBlock RetPost LQ LAny LLate LLateOp LS LOpsP LCodeP LCodeS LCallsD
section
variable {B0:Nat} {w0:World}
theorem crec_ret (b2 b3:Nat) (c d:LV):LCallsD (KC B0 w0) 63 [ptr b2 0,ptr b3 0] .returning [(b2,.cells 9 [c]),(b3,.cells 31 [d])]
  (fun u H=>u=.returning∧H=[(b2,.cells 9 [c]),(b3,.cells 31 [d])]):=by
 refine LCallsD.intro Tryz.func63 rfl (n:=19) rfl rfl rfl ?_
 refine LCodeS.seq (LCodeS.recover rfl rfl ?_)
 refine LCodeS.of ?_
 refine gak ?_
 refine oP (Pure.assertNil vio_zero rfl) rfl ?_
 refine gab ?_
 refine oS (S.alloc fun b5=>?_) rfl
 refine gah ?_
 refine oC rfl (fun hc=>?_) (fun hc=>?_)
 ·cases hc
 refine gae ?_
 refine oC rfl (fun hc=>?_) (fun hc=>?_)
 ·cases hc
 ·refine gaa ?_
  exact ⟨rfl,_,zhD zhr,rfl,rfl⟩
theorem crec_pan (b2 b3:Nat) (c d:LV) (nm:List UInt8) (er:Int):LCallsD (KC B0 w0) 63 [ptr b2 0,ptr b3 0] (.panicking (vio nm er)) [(b2,.cells 9 [c]),(b3,.cells 31 [d])]
  (fun u H=>settle u=.returning∧H=[(b2,.cells 9 [str nm]),(b3,.cells 31 [int .i64 er])]):=by
 refine LCallsD.intro Tryz.func63 rfl (n:=19) rfl rfl rfl ?_
 refine LCodeS.seq (LCodeS.recover rfl rfl ?_)
 refine LCodeS.of ?_
 refine gak ?_
 refine oP (Pure.assertOk (vs:=[.string ⟨nm.toArray⟩,.int .i64 er]) rfl) rfl ?_
 refine gab ?_
 refine oS (S.alloc fun b5=>?_) rfl
 refine gah ?_
 refine oC rfl (fun hc=>?_) (fun hc=>?_)
 ·skip
  refine LCode.draw (m:=6) rfl [(b5,.cells 136 [str nm,int .i64 er])] ?_
  refine aT 0 rfl rfl (Pure.fieldH rfl) ?_
  refine aT 1 rfl rfl (Pure.loadH (c:=.atom _) rfl zm0 rfl) ?_
  refine aT 2 rfl rfl (Pure.fieldH rfl) ?_
  refine aT 3 rfl rfl (Pure.loadH (c:=.atom _) rfl zm0 rfl) ?_
  refine LAny.late ?_ zhp
  refine lO 4 (lS (H1:=[(b2,.cells 9 [c])]) (F:=[(b5,.cells 136 [str nm,int .i64 er]),(b3,.cells 31 [d])]) rfl (.inl rfl) rfl zp1 zhp (S.store (cs':=[_]) rfl pH rfl rfl rfl rfl rfl ?_))
  refine lO 5 (lS (H1:=[(b3,.cells 31 [d])]) (F:=[(b2,.cells 9 [str nm]),(b5,.cells 136 [str nm,int .i64 er])]) rfl (.inl rfl) rfl zp2 (zhP zp1 zhn) (S.store (cs':=[_]) rfl pH rfl rfl rfl rfl rfl ?_))
  refine lD zk ?_
  exact ⟨rfl,_,zhP zp1 zhp,rfl,rfl⟩
 ·cases hc
theorem check_spec (vars:List Nm) (arrays:List (Nm×Int)) (fs:List FnD) (hv6:vars.length≤2000000) (ha6:arrays.length≤2000000) (har:∀ a∈arrays,-9223372036854775808≤a.2∧a.2<9223372036854775808) (hnd:ndFs fs≤2000000) :
  LCalls (KC B0 w0) 32 [encPrG vars arrays fs] [] (fun r H=>H=[]∧∃ nm,r=.ret (.tuple [str nm,int .i64 (checkP vars arrays fs)])):=by
 generalize hE:checkP vars arrays fs=E
 refine LCalls.introD Tryz.func32 rfl (n:=15) rfl rfl rfl ?_
 refine LCodeP.seq (LCodeP.of ?_)
 refine gaq ?_
 refine oS (S.box rfl fun b1=>?_) rfl
 refine oS (S.alloc fun b2=>?_) rfl
 refine oS (S.alloc fun b3=>?_) rfl
 refine gab ?_
 refine LCodeP.seq (LCodeP.region ?_)
 refine gab ?_
 refine LOpsP.defer rfl rfl ?_
 refine LOpsP.nil ?_
 refine QThen.normal ?_
 refine LCodeP.seq (LCodeP.of ?_)
 refine gaq ?_
 refine oS (S.kvNew fun gm=>?_) rfl
 refine oS (S.kvNew fun vm=>?_) rfl
 refine oS (S.kvNew fun am=>?_) rfl
 refine oS (S.kvNew fun fm=>?_) rfl
 refine gab ?_
 refine oS (S.box rfl fun cb=>?_) rfl
 refine LOps.weak (H':=pgH ⟨cb,gm,vm,am,fm,0,[],[],[],[],[],0,0,0,0,0,[]⟩ (.map none) 0++[(b3,.cells 31 [int .i64 0]),(b2,.cells 9 [str []]),(b1,.cells 26 [.list (vars.map str),.list (arrays.map encArG),.list (fs.map encFn)])]) ?_ ?_
 ·repeat first
   |exact HSub.nil _
   |refine zhP zb1 ?_
 refine gab ?_
 refine LCodeP.seq (LCodeP.region ?_)
 refine gab ?_
 refine LOpsP.step (S.callE (F:=[_,_,_]) [_,_] rfl zpr (program_spec (k:=⟨cb,gm,vm,am,fm,0,[],[],[],[],[],0,0,0,0,0,[]⟩) (o:=.map none) (d:=0) vars arrays fs rfl rfl rfl rfl hv6 ha6 har hnd) (fun H2 h0 hP=>?_) (fun nm h0=>?_)) rfl
 ·subst hP
  rw[hE] at h0
  subst h0
  refine LOpsP.nil ?_
  refine QThen.normal ?_
  refine LCodeP.seq (LCodeP.region ?_)
  refine LOpsP.step (S.store (cs':=[_]) rfl zp1 rfl rfl rfl rfl rfl ?_) rfl
  refine LOpsP.step (S.store (cs':=[_]) rfl zp1 rfl rfl rfl rfl rfl ?_) rfl
  refine LOpsP.nil ?_
  refine QThen.normal ?_
  refine LCodeP.ret ?_
  exact RetPostD.ret1 (vs:=[str [],int .i64 0]) (H1:=[(b2,.cells 9 [str []]),(b3,.cells 31 [int .i64 0])]) (F:=[_]) (H2:=[(b2,.cells 9 [str []]),(b3,.cells 31 [int .i64 0])]) rfl (List.Perm.swap _ _ _) (crec_ret b2 b3 _ _)
   (rC (ResIs.cellOne rfl zm0 rfl zsr) (rC (ResIs.cellOne rfl zm1 rfl zsr) rN)) zhn ⟨rfl,[],rfl⟩
 ·rw[hE] at h0 ⊢
  refine QThen.panic ?_
  exact RetPostD.panic1 (vs:=[str nm,int .i64 E]) (H1:=[(b2,.cells 9 [str []]),(b3,.cells 31 [int .i64 0])]) (F:=[_]) (H2:=[(b2,.cells 9 [str nm]),(b3,.cells 31 [int .i64 E])]) rfl (List.Perm.swap _ _ _) (crec_pan b2 b3 _ _ nm E)
   (rC (ResIs.cellOne rfl zm0 rfl zsr) (rC (ResIs.cellOne rfl zm1 rfl zsr) rN)) zhn ⟨rfl,nm,rfl⟩
end
end Go.Proofs.YtpokklffoihafaaGreatDoor.Chk
namespace Go.Proofs.YtpokklffoihafaaGreatDoor
open Go.GL Go.RowKit Go.Stele
set_option maxRecDepth 100000
set_option maxHeartbeats 4000000
theorem encThen_eq (s:Sm):encThen s=(smThen s).map encS:=by
 obtain ⟨k,n,i,v,t,e⟩:=s
 rw[encThen,encSs_map]
 rfl
theorem encElse_eq (s:Sm):encElse s=(smElse s).map encS:=by
 obtain ⟨k,n,i,v,t,e⟩:=s
 rw[encElse,encSs_map]
 rfl
theorem ret_any {C:Ctx} {f:FuncId} {args:List LV} {v:Value} (h:LCalls C f args [] (Ret (.atom v))):LCalls C f args [] (fun r _=>r=.ret (.atom v)):=LCalls.mono h fun _ _ h=>h.1
structure PrOk (p:Pr):Prop where
 size:nPr p≤1000000000
 ars:∀ a∈p.arrays,a.name.length≤1000000000∧a.size≤4294967296
end Go.Proofs.YtpokklffoihafaaGreatDoor
namespace Go.Proofs.YtpokklffoihafaaGreatDoor
open Go.GL Go.RowKit Go.Stele
set_option maxRecDepth 100000
set_option maxHeartbeats 4000000
def strUp (op:List UInt8):Nat→Nat
 |0=>if op=nNeg∨op=nNot then 6 else 7
 |k+1=>if (lvOps (5-k)).contains op then 5-k else strUp op k
theorem levels_get (i:Nat) (h:i<6):levelsLV[i]? = some (lvLV i):=by
 match i,h with
 |0,_=>rfl
 |1,_=>rfl
 |2,_=>rfl
 |3,_=>rfl
 |4,_=>rfl
 |5,_=>rfl
theorem lvOps_len (i:Nat):(lvOps i).length≤6:=by
 match i with
 |0=>decide
 |1=>decide
 |2=>decide
 |3=>decide
 |4=>decide
 |5=>decide
 |n+6=>exact Nat.zero_le _
theorem cells_rows {w:World} {L:Live} {b:Nat}:∀ (k off:Nat) (ws:List (List UInt8)),RepRows w L b k off (ws.map str)→∀ (j:Nat) x,(ws.map fun l=>(⟨l.toArray⟩:ByteArray))[j]? = some x→k=1∧w.cell? ⟨b,off+j,none⟩=some (.string x)
 |k,off,[],_,j,x,h=>by simp at h
 |k,off,s::ws,h,0,x,hx=>by
  simp only[List.map_cons,RepRows] at h
  obtain ⟨⟨hk,_,y,hy,hr⟩,_⟩:=h
  simp only[Rep] at hr
  simp at hx
  rw[←hx,Nat.add_zero,hy,hr]
  exact ⟨hk.symm,rfl⟩
 |k,off,s::ws,h,j+1,x,hx=>by
  simp only[List.map_cons,RepRows] at h
  obtain ⟨⟨hk,_⟩,h2⟩:=h
  have:=cells_rows k (off+k) ws h2 j x (by simpa using hx)
  refine ⟨hk.symm,?_⟩
  rw[←this.2,←hk,Nat.add_assoc,Nat.add_comm 1 j]
section
variable {B0:Nat} {w0:World}
theorem joinS_spec (sep:List UInt8) (ws:List (List UInt8)) (hn:ws.length≤1000000000) (hl:(Go.Lib.join ws sep).length≤1000000000):LCalls (KC B0 w0) 37 [.list (ws.map str),str sep] [] (Ret (str (Go.Lib.join ws sep))):=fun xs w L hv hH=>by
 simp only[RepL] at hv
 obtain ⟨y,ys,rfl,hy,z,zs,rfl,hz,rfl⟩:=hv
 simp only[Rep] at hy hz
 obtain ⟨a,cap,rfl,hcap,hrows⟩:=hy
 subst hz
 rw[List.length_map] at hcap
 have hmap:(ws.map fun l=>(⟨l.toArray⟩:ByteArray)).map (·.data.toList)=ws:=by
  rw[List.map_map]
  conv=>rhs;rw[←List.map_id ws]
  rfl
 have hc:Calls Tryz.prog 37 #[.slice a ws.length cap,.string ⟨sep.toArray⟩] w fun e w'=>e=.returned (.string ⟨(Go.Lib.join ws sep).toArray⟩)∧Below w.heap.size w w':=by
  by_cases hne:ws=[]
  ·subst hne
   exact (Tryz.strings_Join_none a cap ⟨sep.toArray⟩ w).mono fun e w' he=>⟨by rw[he.1];rfl,by rw[he.2];exact Below.refl _ _⟩
  ·obtain ⟨b,off,k,rfl,hr⟩:=hrows (by simpa using hne)
   have hcells:=fun j x hx=>(cells_rows k off ws hr j x hx).2
   have hb:b<w.heap.size:=by
    obtain ⟨s,r,rfl⟩:=List.exists_cons_of_ne_nil hne
    have:=hcells 0 _ rfl
    exact World.block_lt_of_cell? _ _ this
   have:=Tryz.strings_Join b off cap (ws.map fun l=>(⟨l.toArray⟩:ByteArray)) ⟨sep.toArray⟩ w hcells hb (by rw[List.length_map];omega) (by rw[List.length_map];exact hcap) (by rw[hmap];show (Go.Lib.join ws sep).length≤_;omega)
   rw[List.length_map,hmap] at this
   exact this
 rw[List.length_map]
 refine hc.mono fun e w' he=>?_
 obtain ⟨rfl,hb⟩:=he
 obtain ⟨h1,h2⟩:=fr_below hH hb
 exact ⟨str (Go.Lib.join ws sep),[],L,h1,h2,rep_atom,rfl,rfl⟩
end
attribute [local irreducible] LOps LCode LStep LCalls Go.GL.Pure QThen QBlock RetPost LQ LAny LLate LLateOp
section
variable {B0:Nat} {w0:World}
theorem strength_spec (op:List UInt8):LCalls (KC B0 w0) 265 [str op] [] (Ret (int .i64 (strengthP op))):=by
 refine cI Tryz.func265 rfl (n:=30) rfl rfl rfl ?_
 refine gac ?_
 refine oS (S.fn [] rfl levels_spec ?_) rfl
 refine gal ?_
 refine oL (fun k ls H=>∃ i,k=6-i∧i≤6∧ls=[(0,str op),(3,.list levelsLV),(7,.list levelsLV),(8,int .i64 6),(9,int .i64 i)]∧H=[]∧strengthP op=strUp op (6-i))
  ⟨_,_,_,⟨0,rfl,Nat.zero_le _,rfl,rfl,rfl⟩,⟨rfl,rfl,rfl,rfl,rfl,trivial⟩,HSub.refl _⟩ ?_
 rintro k ls H ⟨i,rfl,hi,rfl,rfl,hE⟩ j hj
 refine gas ?_
 refine oC rfl (fun hc=>?_) (fun hc=>?_)
 ·have hlt:i<6:=by have:=zt hc;omega
  refine gac ?_
  refine oP (xR (el':=lvLV i) (cs:=[lvLV i]) rfl rfl zo (levels_get i hlt) rfl rfl) rfl ?_
  refine gat ?_
  refine oS (S.fn [_,_] rfl (Contains_spec (lvOps i) op (by have:=lvOps_len i;omega)) ?_) rfl
  refine gab ?_
  obtain ⟨k,hk⟩:∃ k,6-i=k+1:=⟨5-i,by omega⟩
  rw[hk,strUp] at hE
  have hk':5-k=i:=by omega
  rw[hk'] at hE
  refine oC rfl (fun hd=>?_) (fun hd=>?_)
  ·rw[if_pos hd] at hE
   refine gac ?_
   exact retRet hj (zra rfl) (int_eq zo)
  ·rw[if_neg (by rw[hd];simp)] at hE
   refine gad ?_
   exact ⟨_,_,_,by omega,⟨i+1,rfl,by omega,rfl,rfl,by rw[hE];congr 1;omega⟩,⟨rfl,rfl,rfl,rfl,int_eq zo,trivial⟩,HSub.refl _,hj⟩
 ·have hge:i=6:=by have:=zf hc;omega
  subst hge
  have hE':strengthP op=if op=nNeg∨op=nNot then 6 else 7:=hE
  have hll:levelsLV.length=6:=rfl
  refine gac ?_
  refine oB 21 rfl (fun h1=>?_) (fun h1=>?_)
  ·refine gaa ?_
   refine oC rfl (fun hd=>?_) (fun hd=>?_)
   ·refine gah ?_
    exact retRet hj (zra rfl) (int_eq (by rw[if_pos (show op=nNeg∨op=nNot from Or.inl (zt h1))] at hE';omega))
   ·cases hd
  ·refine gaa ?_
   refine oC rfl (fun hd=>?_) (fun hd=>?_)
   ·refine gah ?_
    exact retRet hj (zra rfl) (int_eq (by rw[if_pos (show op=nNeg∨op=nNot from Or.inr (zt hd))] at hE';omega))
   ·refine gah ?_
    exact retRet hj (zra rfl) (int_eq (by rw[if_neg (fun h=>h.elim (zf h1) (zf hd))] at hE';omega))
end
end Go.Proofs.YtpokklffoihafaaGreatDoor
namespace Go.Proofs.YtpokklffoihafaaGreatDoor
open Go.GL Go.RowKit Go.Stele
set_option maxRecDepth 100000
set_option maxHeartbeats 4000000
attribute [local irreducible] LOps LCode LStep LCalls Go.GL.Pure QThen QBlock RetPost LQ LAny LLate LLateOp
theorem wrap_u64 {n:Int} (h:0≤n∧n≤4294967295):IntKind.u64.wrap n=n:=by
 simp only[IntKind.wrap,IntKind.bits,IntKind.signed,Bool.false_and]
 simp
 omega
theorem opnd_len (x:OpT) (least:Nat):x.2.length≤(opnd x least).length:=by
 unfold opnd
 split
 ·simp
  omega
 ·exact Nat.le_refl _
theorem join_mem (sep:List UInt8):∀ {ws:List (List UInt8)} {x:List UInt8},x∈ws→x.length≤(Go.Lib.join ws sep).length
 |[a],x,h=>by
  obtain rfl:=List.mem_singleton.mp h
  simp[Go.Lib.join]
 |a::b::r,x,h=>by
  have e:Go.Lib.join (a::b::r) sep=a++sep++Go.Lib.join (b::r) sep:=by simp[Go.Lib.join]
  rw[e]
  rcases List.mem_cons.mp h with h|h
  ·subst h
   simp only[List.length_append]
   omega
  ·have:=join_mem sep h
   simp only[List.length_append]
   omega
section
variable {B0:Nat} {w0:World}
theorem operand_spec (e:Ex) (least:Nat) (hl:(fE e).length≤1000000000) (he:LCalls (KC B0 w0) 189 [encE e] [] (Ret (str (fE e)))) :
  LCalls (KC B0 w0) 266 [encE e,int .i64 least] [] (Ret (str (opnd (exOp e,fE e) least))):=by
 obtain ⟨op,num,name,args⟩:=e
 simp only[exOp]
 rw[encE_mk] at he ⊢
 refine cI Tryz.func266 rfl (n:=17) rfl rfl rfl ?_
 refine gaq ?_
 refine oS (S.box (cs:=[str op,int .u32 num,str name,.list (args.map encE)]) rfl fun b1=>?_) rfl
 refine gaf ?_
 refine oS (S.fn [_] rfl he ?_) rfl
 refine gac ?_
 refine oS (S.fn [_] rfl (strength_spec op) ?_) rfl
 refine gaa ?_
 refine oC rfl (fun hd=>?_) (fun hd=>?_)
 ·have hd':strengthP op<least:=by have:=zt hd;omega
  refine gaf ?_
  exact retRet rfl (zra rfl) (str_eq (by simp only[opnd];rw[if_pos hd']))
 ·have hd':¬ strengthP op<least:=by have:=zf hd;omega
  refine gac ?_
  exact retRet rfl (zra rfl) (str_eq (by simp only[opnd];rw[if_neg hd']))
theorem list_spec (l:List Ex) (hn:l.length≤1000000000) (hl:(Go.Lib.join (l.map fE) comSp).length≤1000000000) (he:∀ e∈l,LCalls (KC B0 w0) 189 [encE e] [] (Ret (str (fE e)))) :
  LCalls (KC B0 w0) 123 [.list (l.map encE)] [] (Ret (str (Go.Lib.join (l.map fE) comSp))):=by
 have hla:(l.map encE).length=l.length:=List.length_map _
 refine cI Tryz.func123 rfl (n:=20) rfl rfl rfl ?_
 refine gah ?_
 refine oL (fun k ls H=>∃ (v:LV) (i:Nat),i≤l.length∧k=l.length-i∧ls=[(0,.list (l.map encE)),(3,v),(6,.list (l.map encE)),(7,int .i64 l.length),(8,int .i64 i)]∧Acc 1 v (((l.take i).map fE).map str) H [])
  ⟨_,_,_,⟨nilSlice,0,Nat.zero_le _,rfl,rfl,by simpa using Acc.nil⟩,⟨rfl,rfl,rfl,int_eq zo,rfl,trivial⟩,HSub.refl _⟩ ?_
 rintro k ls H ⟨v,i,hi,rfl,rfl,hacc⟩ j hj
 refine gas ?_
 refine oC rfl (fun hc=>?_) (fun hc=>?_)
 ·have hlt:i<l.length:=by have:=zt hc;omega
  refine gau ?_
  refine oP (xR (el':=encE l[i]) (cs:=[_,_,_,_]) rfl rfl zo (map_get _ _ _ hlt) rfl rfl) rfl ?_
  refine gaa ?_
  refine oS (S.alloc fun b5=>?_) rfl
  refine gae ?_
  refine oP (Pure.mv (lv:=v) rfl) rfl ?_
  refine gaa ?_
  refine oS (S.fn [_] rfl (he l[i] (List.getElem_mem hlt)) ?_) rfl
  refine oS (S.lit [_] rfl (eC rfl rfl eN) rfl rfl rfl ?_) rfl
  refine oS (S.acc1 rfl hacc rfl (by simp;rfl) rfl (by simp;omega) fun v' H' hacc'=>?_) rfl
  refine oP (Pure.as (lv:=v') rfl) rfl ?_
  refine gad ?_
  exact ⟨_,_,_,by omega,⟨v',i+1,by omega,rfl,rfl,by
   rw[List.take_succ_eq_append_getElem hlt,List.map_append,List.map_append]
   exact hacc'⟩,⟨rfl,rfl,rfl,rfl,int_eq zo,trivial⟩,zhD zhr,hj⟩
 ·have hi':i=l.length:=by have:=zf hc;omega
  subst hi'
  rw[List.take_length] at hacc
  refine LCode.sub (d:=3) (v:=v) rfl hacc.sub ?_
  refine LCode.weak zhn ?_
  refine gah ?_
  refine oS (S.fn [_,_] rfl (joinS_spec comSp (l.map fE) (by rw[List.length_map];omega) hl) ?_) rfl
  refine gab ?_
  exact retRet hj (zra rfl) rfl
theorem expr_node (hG:GW B0 w0) (op:List UInt8) (num:Nat) (name:List UInt8) (args:List Ex) (hnum:num<4294967296) (hn:args.length≤1000000000) (hl:(fE (.mk op num name args)).length≤1000000000)
  (he:∀ e∈args,(fE e).length≤1000000000→LCalls (KC B0 w0) 189 [encE e] [] (Ret (str (fE e)))) :
  LCalls (KC B0 w0) 189 [encE (.mk op num name args)] [] (Ret (str (fE (.mk op num name args)))):=by
 have hF:=fE_mk op num name args
 have hla:(args.map encE).length=args.length:=List.length_map _
 rw[fNode,List.length_map,List.map_map] at hF
 rw[encE_mk]
 refine cI Tryz.func189 rfl (n:=113) rfl rfl rfl ?_
 refine gaq ?_
 refine oS (S.box (cs:=[str op,int .u32 num,str name,.list (args.map encE)]) rfl fun b1=>?_) rfl
 refine gab ?_
 refine LCode.cut [(1,ptr b1 0),(2,str []),(3,int .i64 args.length),(4,int .i64 (strengthP op))] ?_ (fun j hj=>?_)
 ·refine LCode.quiet zk ?_
  refine gab ?_
  refine LQ.call (args:=[_]) (v:=.int .i64 (strengthP op)) (ret_any (strength_spec op)) rfl ?_
  refine gab ?_
  exact ⟨⟨rfl,rfl,int_eq zo,rfl,trivial⟩,rfl,rfl⟩
 refine gac ?_
 refine oC rfl (fun h1=>?_) (fun h1=>?_)
 ·have e1:op=nNum:=zt h1
  rw[if_pos e1] at hF
  refine gaf ?_
  refine oS (S.fn [_,_] (show _=[int .u64 (IntKind.wrap .u64 num),int .i64 10] from rfl) (by rw[wrap_u64 zo];exact fmtUint_spec hG num zo) ?_) rfl
  refine gab ?_
  exact retRet hj (zra rfl) (str_eq hF.symm)
 have e1:¬ op=nNum:=zf h1
 rw[if_neg e1] at hF
 refine gac ?_
 refine oC rfl (fun h2=>?_) (fun h2=>?_)
 ·have e2:op=nVar:=zt h2
  rw[if_pos e2] at hF
  refine gac ?_
  exact retRet hj (zra rfl) (str_eq hF.symm)
 have e2:¬ op=nVar:=zf h2
 rw[if_neg e2] at hF
 refine gac ?_
 refine LOps.cut [(1,ptr b1 0),(2,str []),(3,int .i64 args.length),(4,int .i64 (strengthP op)),(26,bool (decide (op=nElem∧args.length=1)))] ?_ (fun j3 hj3=>?_)
 ·refine oB 30 rfl (fun h=>?_) (fun h=>?_)
  ·have h':op=nElem:=zt h
   refine gaa ?_
   exact ⟨⟨rfl,rfl,rfl,rfl,bool_eq (by simp only[h',true_and];exact decide_eq_decide.mpr zo),trivial⟩,rfl,rfl⟩
  ·have h':¬ op=nElem:=zf h
   refine gaa ?_
   exact ⟨⟨rfl,rfl,rfl,rfl,bool_eq (by simp only[h',false_and];rfl),trivial⟩,rfl,rfl⟩
 refine oC rfl (fun h3=>?_) (fun h3=>?_)
 ·obtain ⟨e3,hlen⟩:op=nElem∧args.length=1:=zt h3
  obtain ⟨a,rfl⟩:=List.length_eq_one_iff.mp hlen
  rw[if_pos ⟨e3,hlen⟩] at hF
  simp only[List.map_cons,List.headD_cons] at hF
  rw[hF] at hl
  simp only[List.length_append,List.length_cons,List.length_nil] at hl
  refine gab ?_
  refine LCode.cut [(2,str (name++[91]++fE a++[93]))] ?_ (fun j4 hj4=>?_)
  ·refine LCode.quiet zk ?_
   refine gab ?_
   refine LQ.pure (xR (el':=encE a) (cs:=[_,_,_,_]) rfl rfl zo rfl rfl rfl) rfl ?_
   refine gab ?_
   refine LQ.call (args:=[_]) (v:=.string ⟨(fE a).toArray⟩) (ret_any (he a (List.mem_singleton.mpr rfl) zo)) rfl ?_
   refine gab ?_
   exact ⟨⟨rfl,trivial⟩,rfl,rfl⟩
  refine gab ?_
  exact retRet (hj4.trans (hj3.trans hj)) (zra rfl) (str_eq hF.symm)
 have e3:¬ (op=nElem∧args.length=1):=zf h3
 rw[if_neg e3] at hF
 refine gac ?_
 refine oC rfl (fun h4=>?_) (fun h4=>?_)
 ·have e4:op=nCall:=zt h4
  rw[if_pos e4] at hF
  have hmm:List.map ((fun x=>x.snd)∘fun e=>(exOp e,fE e)) args=args.map fE:=rfl
  rw[hmm] at hF
  rw[hF] at hl
  simp only[List.length_append,List.length_cons,List.length_nil] at hl
  refine gab ?_
  refine LCode.cut [(2,str (name++[40]++Go.Lib.join (args.map fE) comSp++[41]))] ?_ (fun j4 hj4=>?_)
  ·refine LCode.quiet zk ?_
   refine gab ?_
   refine LQ.call (args:=[_]) (v:=.string ⟨(Go.Lib.join (args.map fE) comSp).toArray⟩) (ret_any (list_spec args hn zo fun e he'=>he e he' (by have:=join_mem comSp (List.mem_map_of_mem (f:=fE) he');omega))) rfl ?_
   refine gab ?_
   exact ⟨⟨rfl,trivial⟩,rfl,rfl⟩
  refine gab ?_
  exact retRet (hj4.trans (hj3.trans hj)) (zra rfl) (str_eq hF.symm)
 have e4:¬ op=nCall:=zf h4
 rw[if_neg e4] at hF
 refine gac ?_
 refine LOps.cut [(1,ptr b1 0),(2,str []),(3,int .i64 args.length),(4,int .i64 (strengthP op)),(56,bool (decide (op=nNeg∧args.length=1)))] ?_ (fun j5 hj5=>?_)
 ·refine oB 60 rfl (fun h=>?_) (fun h=>?_)
  ·have h':op=nNeg:=zt h
   refine gaa ?_
   exact ⟨⟨rfl,rfl,rfl,rfl,bool_eq (by simp only[h',true_and];exact decide_eq_decide.mpr zo),trivial⟩,rfl,rfl⟩
  ·have h':¬ op=nNeg:=zf h
   refine gaa ?_
   exact ⟨⟨rfl,rfl,rfl,rfl,bool_eq (by simp only[h',false_and];rfl),trivial⟩,rfl,rfl⟩
 refine oC rfl (fun h5=>?_) (fun h5=>?_)
 ·obtain ⟨e5,hlen⟩:op=nNeg∧args.length=1:=zt h5
  obtain ⟨a,rfl⟩:=List.length_eq_one_iff.mp hlen
  rw[if_pos ⟨e5,hlen⟩] at hF
  simp only[List.map_cons,List.headD_cons] at hF
  rw[hF] at hl
  simp only[List.length_append,List.length_cons,List.length_nil] at hl
  have hol:=opnd_len (exOp a,fE a) (strengthP op)
  simp only at hol
  refine gaf ?_
  refine oP (xR (el':=encE a) (cs:=[_,_,_,_]) rfl rfl zo rfl rfl rfl) rfl ?_
  refine gaa ?_
  refine oS (S.fn [_,_] rfl (operand_spec a (strengthP op) zo (he a (List.mem_singleton.mpr rfl) zo)) ?_) rfl
  refine gaa ?_
  exact retRet (hj5.trans (hj3.trans hj)) (zra rfl) (str_eq hF.symm)
 have e5:¬ (op=nNeg∧args.length=1):=zf h5
 rw[if_neg e5] at hF
 refine gac ?_
 refine LOps.cut [(1,ptr b1 0),(2,str []),(3,int .i64 args.length),(4,int .i64 (strengthP op)),(71,bool (decide (op=nNot∧args.length=1)))] ?_ (fun j6 hj6=>?_)
 ·refine oB 75 rfl (fun h=>?_) (fun h=>?_)
  ·have h':op=nNot:=zt h
   refine gaa ?_
   exact ⟨⟨rfl,rfl,rfl,rfl,bool_eq (by simp only[h',true_and];exact decide_eq_decide.mpr zo),trivial⟩,rfl,rfl⟩
  ·have h':¬ op=nNot:=zf h
   refine gaa ?_
   exact ⟨⟨rfl,rfl,rfl,rfl,bool_eq (by simp only[h',false_and];rfl),trivial⟩,rfl,rfl⟩
 refine oC rfl (fun h6=>?_) (fun h6=>?_)
 ·obtain ⟨e6,hlen⟩:op=nNot∧args.length=1:=zt h6
  obtain ⟨a,rfl⟩:=List.length_eq_one_iff.mp hlen
  rw[if_pos ⟨e6,hlen⟩] at hF
  simp only[List.map_cons,List.headD_cons] at hF
  rw[hF] at hl
  simp only[List.length_append,List.length_cons,List.length_nil] at hl
  have hol:=opnd_len (exOp a,fE a) (strengthP op)
  simp only at hol
  refine gaf ?_
  refine oP (xR (el':=encE a) (cs:=[_,_,_,_]) rfl rfl zo rfl rfl rfl) rfl ?_
  refine gaa ?_
  refine oS (S.fn [_,_] rfl (operand_spec a (strengthP op) zo (he a (List.mem_singleton.mpr rfl) zo)) ?_) rfl
  refine gaa ?_
  exact retRet (hj6.trans (hj5.trans (hj3.trans hj))) (zra rfl) (str_eq hF.symm)
 have e6:¬ (op=nNot∧args.length=1):=zf h6
 rw[if_neg e6] at hF
 refine gad ?_
 refine oC rfl (fun h7=>?_) (fun h7=>?_)
 ·have e7:args.length=2:=by have:=zt h7;omega
  obtain ⟨a,b,rfl⟩:∃ a b,args=[a,b]:=by
   match args,e7 with
   |[a,b],_=>exact ⟨a,b,rfl⟩
  rw[if_pos e7] at hF
  simp only[List.map_cons,List.headD_cons,List.tail_cons] at hF
  rw[hF] at hl
  simp only[List.length_append,List.length_cons,List.length_nil] at hl
  have hola:=opnd_len (exOp a,fE a) (leftLv (strengthP op))
  have holb:=opnd_len (exOp b,fE b) (strengthP op+1)
  have hs7:=strengthP_le op
  simp only at hola holb
  have sa:=operand_spec a (leftLv (strengthP op)) zo (he a (by simp) zo)
  have sb:=operand_spec b (strengthP op+1) zo (he b (by simp) zo)
  refine gad ?_
  refine LCode.cut [(1,ptr b1 0),(2,str []),(4,int .i64 (strengthP op)),(5,int .i64 (leftLv (strengthP op)))] ?_ (fun j7 hj7=>?_)
  ·refine oC rfl (fun h8=>?_) (fun h8=>?_)
   ·have h8':strengthP op=2:=by have:=zt h8;omega
    refine gad ?_
    exact ⟨⟨rfl,rfl,rfl,int_eq (by rw[leftLv,if_pos h8'];omega),trivial⟩,rfl,rfl⟩
   ·have h8':¬ strengthP op=2:=by have:=zf h8;omega
    refine gaa ?_
    exact ⟨⟨rfl,rfl,rfl,int_eq (by rw[leftLv,if_neg h8']),trivial⟩,rfl,rfl⟩
  refine gab ?_
  refine LCode.cut [(2,str (opnd (exOp a,fE a) (leftLv (strengthP op))++[32]++op++[32]++opnd (exOp b,fE b) (strengthP op+1)))] ?_ (fun j8 hj8=>?_)
  ·refine LCode.quiet zk ?_
   refine gab ?_
   refine LQ.pure (xR (el':=encE a) (cs:=[_,_,_,_]) rfl rfl zo rfl rfl rfl) rfl ?_
   refine gab ?_
   refine LQ.call (args:=[_,_]) (v:=.string ⟨(opnd (exOp a,fE a) (leftLv (strengthP op))).toArray⟩) (ret_any sa) rfl ?_
   refine gab ?_
   refine LQ.pure (xR (el':=encE b) (cs:=[_,_,_,_]) rfl rfl zo rfl rfl rfl) rfl ?_
   refine gab ?_
   refine LQ.call (args:=[_,_]) (v:=.string ⟨(opnd (exOp b,fE b) (strengthP op+1)).toArray⟩) (ret_any (by
    have e9:int .i64 ((strengthP op:Int)+1)=int .i64 ((strengthP op+1:Nat):Int):=int_eq zo
    rw[←e9] at sb
    exact sb)) rfl ?_
   refine gab ?_
   exact ⟨⟨rfl,trivial⟩,rfl,rfl⟩
  refine gab ?_
  exact retRet (hj8.trans (hj7.trans (hj6.trans (hj5.trans (hj3.trans hj))))) (zra rfl) (str_eq hF.symm)
 ·have e7:¬ args.length=2:=by have:=zf h7;omega
  rw[if_neg e7] at hF
  refine gac ?_
  exact retRet (hj6.trans (hj5.trans (hj3.trans hj))) (zra rfl) (str_eq hF.symm)
mutual
def okE:Ex→Prop
 |.mk _ num _ args=>num<4294967296∧args.length≤1000000000∧okEs args
def okEs:List Ex→Prop
 |[]=>True
 |e::r=>okE e∧okEs r
end
theorem okEs_mem:∀ {l:List Ex} {e:Ex},okEs l→e∈l→okE e
 |e::r,x,h,hx=>by
  rw[okEs] at h
  rcases List.mem_cons.mp hx with hx|hx
  ·exact hx▸h.1
  ·exact okEs_mem h.2 hx
theorem fexpr_spec (hG:GW B0 w0):∀ (n:Nat) (e:Ex),nEx e≤n→okE e→(fE e).length≤1000000000→LCalls (KC B0 w0) 189 [encE e] [] (Ret (str (fE e))):=by
 intro n
 induction n with
 |zero=>
  intro e hn
  obtain ⟨op,num,name,args⟩:=e
  rw[nEx] at hn
  omega
 |succ n ih=>
  intro e hn hk hl
  obtain ⟨op,num,name,args⟩:=e
  rw[nEx] at hn
  rw[okE] at hk
  exact expr_node hG op num name args hk.1 hk.2.1 hl fun e he hle=>ih e (by have:=nExs_mem he;omega) (okEs_mem hk.2.2 he) hle
end
end Go.Proofs.YtpokklffoihafaaGreatDoor
namespace Go.Proofs.YtpokklffoihafaaGreatDoor
open Go.GL Go.RowKit Go.Stele
set_option maxRecDepth 100000
set_option maxHeartbeats 4000000
def BH (b:Nat) (l:List UInt8) (H:Heap):Prop:=∃ p v Hv,(p=LV.atom (.pointer none)∨p=ptr b 0)∧BRow 5 v l Hv∧H=(b,.cells 112 [p,.atom v])::Hv
theorem lays240:Lays.n240 Tryz.prog Tryz.lays156_ren:={ Tryz.lays156 with }
section
variable {B0:Nat} {w0:World}
theorem copyCheck_spec (b:Nat) (p v:LV) (hp:p=LV.atom (.pointer none)∨p=ptr b 0):LCalls (KC B0 w0) 120 [ptr b 0] [(b,.cells 112 [p,v])]
  (fun r H'=>(∃ x,r=.ret (.atom x))∧H'=[(b,.cells 112 [ptr b 0,v])]):=fun xs w L hv hH=>by
 simp only[RepL] at hv
 obtain ⟨y,ys,rfl,hy,rfl⟩:=hv
 simp only[Rep] at hy
 subst hy
 obtain ⟨hb0,hbs,hl,zs,hx1,hx2⟩:=hH.objs _ (List.mem_singleton.2 rfl)
 simp only at hb0 hbs hl hx1 hx2
 have hz:=hx2
 simp only[RepL] at hz
 obtain ⟨a,as1,rfl,ha,c,as2,rfl,hc,rfl⟩:=hz
 rcases hp with rfl|rfl
 ·simp only[Rep] at ha
  subst ha
  have h0:w.cell? ⟨b,0,none⟩=some (.pointer none):=by simp[World.cell?,hx1]
  have hsh:w.shape? b=some (112,2):=by simp[World.shape?,hx1]
  have hfz:w.frozen? ⟨b,0,none⟩=false:=Go.Lib.frozen_of_heap hx1 0
  refine (Any.Builder_copyCheck_fresh (P:=Tryz.prog) lays240 Tryz.Builder_Extra_156.toX72 b w h0 hsh hfz).mono fun e w' he=>?_
  obtain ⟨rfl,rfl⟩:=he
  refine left_write (w:=w) (w':=w.setCell ⟨b,0,none⟩ (.pointer (some ⟨b,0,none⟩))) (xs':=[.pointer (some ⟨b,0,none⟩),c]) (cs':=[ptr b 0,v]) (lv:=.atom (.tuple #[])) hH rfl rfl rfl (by simp[World.setCell]) (fun d hd=>by simp[World.setCell,Array.getElem?_modify,Ne.symm hd]) (by rw[setCell_heap (xs:=[.pointer none,c]) hx1];rfl) rfl ?_ rep_atom ⟨⟨_,rfl⟩,rfl⟩
  simp only[RepL] at hx2 ⊢
  exact ⟨_,_,rfl,rep_atom,c,[],rfl,hc,rfl⟩
 ·simp only[Rep] at ha
  subst ha
  have h0:w.cell? ⟨b,0,none⟩=some (.pointer (some ⟨b,0,none⟩)):=by simp[World.cell?,hx1]
  refine (Any.Builder_copyCheck_used (P:=Tryz.prog) lays240 Tryz.Builder_Extra_156.toX72 b w h0).mono fun e w' he=>?_
  obtain ⟨rfl,rfl⟩:=he
  exact ⟨.atom (.tuple #[]),_,L,Fr.refl _ _ _,hH,rep_atom,⟨_,rfl⟩,rfl⟩
attribute [local irreducible] LOps LCode LStep LCalls Go.GL.Pure QThen QBlock RetPost LQ LAny LLate LLateOp
theorem writeString_spec (b:Nat) (l m:List UInt8) (H:Heap) (hB:BH b l H) (hlen:l.length+m.length≤10000000000):LCalls (KC B0 w0) 52 [ptr b 0,str m] H (fun r H'=>(∃ x,r=.ret x)∧BH b (l++m) H'):=by
 obtain ⟨p,v,Hv,hp,hacc,rfl⟩:=hB
 refine cI Tryz.func52 rfl (n:=19) rfl rfl rfl ?_
 refine gac ?_
 refine oS (S.callH (H1:=[(b,_)]) (F:=Hv) [_] rfl zpr (copyCheck_spec b p (.atom v) hp) (fun x H' h=>?_) (fun ch H' h=>?_)) rfl
 ·obtain ⟨⟨x',hx'⟩,rfl⟩:=h
  cases hx'
  refine gaf ?_
  refine oS (S.appB1 (q:=(b,.cells 112 [ptr b 0,.atom v])) (l:=l) (m:=m) rfl hacc rfl zo fun v' H' hacc'=>?_) rfl
  refine gaa ?_
  have hacc2:=hacc'
  generalize l++m=lm at hacc' hacc2 ⊢
  cases hacc' with
  |nil=>
   refine gal ?_
   exact rR rfl (rC (zrt rfl) (zra rfl)) zhr ⟨⟨_,rfl⟩,ptr b 0,_,_,.inr rfl,hacc2,rfl⟩
  |row h0 h1 h2=>
   refine gal ?_
   exact rR rfl (rC (zrt rfl) (zra rfl)) zhr ⟨⟨_,rfl⟩,ptr b 0,_,_,.inr rfl,hacc2,rfl⟩
 ·obtain ⟨⟨x',hx'⟩,_⟩:=h
  cases hx'
end
end Go.Proofs.YtpokklffoihafaaGreatDoor
namespace Go.Proofs.YtpokklffoihafaaGreatDoor
open Go Go.Shelf Go.RowKit
section
variable {P:Program} {ρ:Ren}
set_option maxHeartbeats 4000000 in
set_option maxRecDepth 100000 in
theorem builder_string_row (L:Lays.n169 P ρ) (X:Builder.Extra P ρ) (b g:Nat) (p:Value) (l:List UInt8) (cur:Array Value) (w:World) (hbk:w.heap[b]? = some (.cells #[p,.slice (some ⟨g,0,none⟩) l.length cur.size] (ρ.t 72) (0,0)))
  (hg:w.heap[g]? = some (.cells cur (ρ.t 5) (0,0))) (h0:l≠[]) (hn:l.length≤cur.size) (hbig:l.length≤9223372036854775807) (hcell:∀ (j:Nat) (x:UInt8),l[j]? = some x→cur[j]? = some (.int .u8 x.toNat)) :
  Calls P (ρ.f 169) #[.pointer (some ⟨b,0,none⟩)] w fun e w'=>e=.returned (.string ⟨l.toArray⟩)∧w'=w.drew.freeze ⟨g,0,none⟩ l.length:=by
 have hl0:l.length≠0:=by simpa using h0
 have c1:w.drew.cell? ⟨b,1,none⟩=some (.slice (some ⟨g,0,none⟩) l.length cur.size):=by
  have:w.drew.heap[b]? = some (.cells #[p,.slice (some ⟨g,0,none⟩) l.length cur.size] (ρ.t 72) (0,0)):=hbk
  rw[Lib.cell_of_heap this];rfl
 have hSD:(Builtin.unsafeSliceData_ #[(ρ.t 37)] (ρ.t 127) #[.slice (some ⟨g,0,none⟩) l.length cur.size]).run P w.drew=.ok (.pointer (some ⟨g,0,none⟩)) w.drew:=
  Lib.run_unsafeSliceData_row _ _ _ _ _ _ (by omega)
 have hUS:(Builtin.unsafeString_ #[(ρ.t 127),(ρ.t 3)] (ρ.t 9) #[.pointer (some ⟨g,0,none⟩),.int .i64 l.length]).run P w.drew=.ok (.string ⟨l.toArray⟩) (w.drew.freeze ⟨g,0,none⟩ l.length):=by
  refine Lib.run_unsafeString_row w.drew (ρ.t 127) (ρ.t 3) (ρ.t 9) (ρ.t 5) L.t127 X.cellsByte g cur.size (by have hg':w.drew.heap[g]? = some (.cells cur (ρ.t 5) (0,0)):=hg;simp[World.shape?,hg']) l h0 hn hbig ?_
  intro j x hx
  have hg':w.drew.heap[g]? = some (.cells cur (ρ.t 5) (0,0)):=hg
  have:=hcell j x hx
  rw[Go.GL.add_mk]
  simp[World.cell?,hg',this]
 have mixed:=L.mixed
 have t72:=L.t72;have a72:=L.a72;have z72:=L.z72;have v72:=L.v72;have u72:=run_underlying L.t72
 have t70:=L.t70;have a70:=L.a70;have z70:=L.z70;have v70:=L.v70;have u70:=run_underlying L.t70
 have t37:=L.t37;have a37:=L.a37;have z37:=L.z37;have v37:=L.v37;have u37:=run_underlying L.t37
 have t127:=L.t127;have a127:=L.a127;have z127:=L.z127;have v127:=L.v127;have u127:=run_underlying L.t127
 have t3:=L.t3;have a3:=L.a3;have z3:=L.z3;have v3:=L.v3;have u3:=run_underlying L.t3
 have t9:=L.t9;have a9:=L.a9;have z9:=L.z9;have v9:=L.v9;have u9:=run_underlying L.t9
 have t5:=X.t5;have a5:=X.a5;have z5:=X.z5;have v5:=X.v5;have u5:=run_underlying X.t5
 go_enter L.f169,Body.n169_ntmps ρ
 go_wp2
 go_region_o
 all_goals (go_wp2;go_ret;exact ⟨rfl,rfl⟩)
end
open Go.GL Go.Stele
theorem lays169:Lays.n169 Tryz.prog Tryz.lays156_ren:={ Tryz.lays156 with }
section
variable {B0:Nat} {w0:World}
theorem fr_freeze {C:Ctx} {w:World} {L:Live} {H:Heap} (hH:RelH C w L H) {g n:Nat} (hm:g∈keys H) (hb:C.B0≤g):Fr (keys H) w L (w.drew.freeze ⟨g,0,none⟩ n) L []∧RelH C (w.drew.freeze ⟨g,0,none⟩ n) L []:=by
 have hbl:∀ c,c≠g→(w.drew.freeze ⟨g,0,none⟩ n).heap[c]? = w.heap[c]? := fun c hc=>by
  unfold World.freeze
  split
  ·rfl
  ·simp only[Array.getElem?_modify]
   rw[if_neg (Ne.symm hc)]
   rfl
 have hsz:(w.drew.freeze ⟨g,0,none⟩ n).heap.size=w.heap.size:=by
  unfold World.freeze
  split
  ·rfl
  ·simp
 have hsh:∀ c,(w.drew.freeze ⟨g,0,none⟩ n).shape? c=w.shape? c:=fun c=>by
  by_cases hc:c=g
  ·subst hc
   unfold World.freeze
   split
   ·rfl
   ·simp only[World.shape?,Array.getElem?_modify,if_true]
    show (match Option.map _ w.heap[c]? with|some (Obj.cells c e _)=>some (e,c.size)|_=>none)=_
    cases w.heap[c]? with
    |none=>rfl
    |some o=>cases o <;> rfl
  ·exact shape_of_heap (hbl c hc)
 have hce:∀ c i,(w.drew.freeze ⟨g,0,none⟩ n).cell? ⟨c,i,none⟩=w.cell? ⟨c,i,none⟩:=fun c i=>by
  by_cases hc:c=g
  ·subst hc
   unfold World.freeze
   split
   ·rfl
   ·simp only[World.cell?,Array.getElem?_modify,if_true]
    show (match Option.map _ w.heap[c]? with|some (Obj.cells c e _)=>_|_=>none)=_
    cases w.heap[c]? with
    |none=>rfl
    |some o=>cases o <;> rfl
  ·exact cell_of_heap (hbl c hc) i
 have hos:(w.drew.freeze ⟨g,0,none⟩ n).os=w.os∧(w.drew.freeze ⟨g,0,none⟩ n).tape=w.tape∧(w.drew.freeze ⟨g,0,none⟩ n).output=w.output:=by
  unfold World.freeze
  split <;> exact ⟨rfl,rfl,rfl⟩
 exact ⟨⟨hos.1,hos.2.1,hos.2.2,⟨Nat.le_of_eq hsz.symm,fun c _=>hsh c,fun c i _=>hce c i,fun _=>Nat.le_refl _⟩,fun c _ hc=>hbl c (fun h=>hc (h▸hm)),fun _ _ _=>rfl,by simp⟩,
  ⟨hH.base.trans ⟨hos.1,hos.2.1,hos.2.2,Nat.le_of_eq hsz.symm,fun c hc=>hbl c zo⟩,hH.lbase,by rw[hsz];exact hH.b0,fun c hc=>hH.wf c (by rw[hsz] at hc;exact hc),List.nodup_nil,by simp⟩⟩
theorem string_spec (b:Nat) (l:List UInt8) (H:Heap) (hB:BH b l H) (hlen:l.length≤10000000000):LCalls (KC B0 w0) 55 [ptr b 0] H (Ret (str l)):=fun xs w L hv hH=>by
 obtain ⟨p,v,Hv,hp,hacc,rfl⟩:=hB
 simp only[RepL] at hv
 obtain ⟨y,ys,rfl,hy,rfl⟩:=hv
 simp only[Rep] at hy
 subst hy
 obtain ⟨hb0,hbs,hl,zs,hx1,hx2⟩:=hH.objs _ (List.mem_cons_self ..)
 simp only at hb0 hbs hl hx1 hx2
 simp only[RepL] at hx2
 obtain ⟨a,as1,rfl,ha,c,as2,rfl,hc,rfl⟩:=hx2
 simp only[Rep] at hc
 subst hc
 cases hacc with
 |nil=>
  refine (Any.Builder_String_nil (P:=Tryz.prog) lays169 Tryz.Builder_Extra_156 w.heap.size b a w hx1).mono fun e w' he=>?_
  obtain ⟨rfl,hb⟩:=he
  obtain ⟨h1,h2⟩:=fr_below (hH.sub (List.nil_sublist _)) hb
  exact ⟨str [],[],L,h1.wide (by simp),h2,rep_atom,rfl,rfl⟩
 |row h0 h1 h2=>
  rename_i g xs
  obtain ⟨hg0,hgs,hgl,ws,hw1,hw2⟩:=hH.objs _ (List.mem_cons_of_mem _ (List.mem_singleton.2 rfl))
  simp only at hg0 hgs hgl hw1
  have:=repL_atoms_eq hw2
  subst this
  have hcell:∀ (j:Nat) (x:UInt8),l[j]? = some x→ws.toArray[j]? = some (Value.int .u8 x.toNat):=fun j x hx=>by
   have hj:(bytV l)[j]? = some (Value.int .u8 x.toNat):=by simp[bytV,hx]
   rw[←h2,List.getElem?_take] at hj
   split at hj
   ·simpa using hj
   ·cases hj
  refine (builder_string_row (P:=Tryz.prog) lays169 Tryz.Builder_Extra_156 b g a l ws.toArray w hx1 hw1 h0 (by simpa using h1) zo hcell).mono fun e w' he=>?_
  obtain ⟨rfl,rfl⟩:=he
  obtain ⟨f1,f2⟩:=fr_freeze (n:=l.length) hH (g:=g) (by simp) hg0
  exact ⟨str l,[],L,f1,f2,rep_atom,rfl,rfl⟩
end
end Go.Proofs.YtpokklffoihafaaGreatDoor
namespace Go.GL
open Go.RowKit
section
variable {C:Ctx} {e:Env} {H:Heap} {x y:Operand} {dst:Option Nat} {ty:TypeId} {pos:String} {aft:Array Edge} {g:Option (Nat×Bool)} {K:LV→Heap→Prop} {X:List PanicEntry→Heap→Prop}
theorem LStep.appBL {sT xT el bytes:Nat} [ht:TSlice C.P sT el 1] [hr:TRow C.P el 1 bytes] {e2:Nat} [hx2:TSlice C.P xT e2 1] {v:Value} {l m:List UInt8}
  (hx:e.ev x=.atom v) (ha:BRow el v l H) (hy:GL.elems (e.ev y)=some (byts m)) (hm0:m≠[]) (hroom:(l.length+m.length) * bytes≤140737488355328)
  (hk:∀ v' H',BRow el v' (l++m) H'→K (.atom v') H'):LStep C ⟨dst,.call { callee:=.builtin .append,args:=#[x,y],argTypes:=#[sT,xT] },ty,pos,aft,g⟩ e H K X:=by
 have h0:∀ (cs:Array Bool) (args:Array Value),builtin .append #[sT,xT] ty cs args=(do Pure.pure (.value (←Builtin.append_ #[sT,xT] ty args))):=fun _ _=>rfl
 cases ha with
 |nil=>
  by_cases hne:m=[]
  ·subst hne
   exact absurd rfl hm0
  ·intro ρ w L h hH
   have hpos:0<m.length:=List.length_pos_iff.2 hne
   obtain ⟨ay,cy,xs0,hyv,hyc,hyr,hyl,hyf⟩:=slice_cells (s:=1) (h y) hy (byts_size m)
   rw[byts_flat] at hyr
   have hyx:xs0=bytV m:=repL_atoms_eq (zs:=bytV m) (by rw[show (bytV m).map LV.atom=byts m from by simp[bytV,byts,List.map_map,Function.comp_def]];exact hyr)
   subst hyx
   rw[byts_len] at hyv hyc hyf
   rw[hyv] at hyf
   have hlen:∀ w':World,(Builtin.lenOf (.slice ay m.length cy)).run C.P w'=.ok m.length w':=fun w'=>by simp[Builtin.lenOf]
   obtain ⟨cap',rest,r1,r2,r3⟩:=run_append_new (ty:=ty) (P:=C.P) (w:=w) (sT:=sT) (xT:=xT) (a:=none) (len:=0) (cap:=0) (n:=m.length) (xv:=.slice ay m.length cy) (old:=[]) (new:=bytV m) (.inr ⟨_,hx2.und⟩) hlen (fun w' hw=>hyf C.P w' hw)
    (fun w' _=>by simp[Builtin.firstCells]) (by simpa using hroom) zo
   rw[execOp_builtin',h0]
   simp only[List.map_toArray,List.map_cons,List.map_nil,Sem.run_bind,atom_of h hx,hyv,r3,Result.andThen_ok,Sem.run_pure,List.nil_append,Nat.zero_add]
   have hcl:(bytV m++rest).length=cap':=by rw[List.length_append,r2,bytV_len];omega
   obtain ⟨lv,H',L',g1,g2,g3,g4⟩:=left_newB (K:=K) (el:=el) (l:=m) (xs:=bytV m++rest) hH.drew hne (by rw[hcl];omega) (by rw[List.take_left' (bytV_len m)]) (fun v' H' h'=>hk v' H' h')
   rw[hcl] at g3
   exact ⟨lv,H',L',g1.of_drew,g2,g3,g4⟩
 |row hne h1 h2=>
  rename_i b xs
  intro ρ w L h hH
  obtain ⟨hb0,hbs,hl,zs,hz1,hz2⟩:=hH.objs _ (List.mem_singleton.2 rfl)
  have hz:=repL_atoms_eq hz2
  subst hz
  simp only at hb0 hbs hl hz1
  obtain ⟨ay,cy,xs0,hyv,hyc,hyr,hyl,hyf⟩:=slice_cells (s:=1) (h y) hy (byts_size m)
  rw[byts_flat] at hyr
  have hyx:xs0=bytV m:=repL_atoms_eq (zs:=bytV m) (by rw[show (bytV m).map LV.atom=byts m from by simp[bytV,byts,List.map_map,Function.comp_def]];exact hyr)
  subst hyx
  rw[byts_len] at hyv hyc hyf
  rw[hyv] at hyf
  have hlen:∀ w':World,(Builtin.lenOf (.slice ay m.length cy)).run C.P w'=.ok m.length w':=fun w'=>by simp[Builtin.lenOf]
  rw[execOp_builtin',h0]
  simp only[List.map_toArray,List.map_cons,List.map_nil,Sem.run_bind,atom_of h hx,hyv]
  by_cases hc:l.length+m.length≤zs.length
  ·have hrun:=run_append_in (ty:=ty) (P:=C.P) (w:=w) (sT:=sT) (xT:=xT) (s:=1) (a:=some ⟨b,0,none⟩) (len:=l.length) (cap:=zs.length) (n:=m.length) (xv:=.slice ay m.length cy) (new:=bytV m) (.inr ⟨_,hx2.und⟩) hlen (fun w' hw=>hyf C.P w' hw) hc
   obtain ⟨w',r1,r2,r3,r4,r5,r6,r7⟩:=storeCells_run (P:=C.P) (b:=b) (off:=0+l.length * 1) (t:=el) (fr:=(0,0)) (bytV m) 0 w zs hz1 (by rw[bytV_len];omega) (fun j _ _=>by simp) (bytV_flat m)
   rw[hrun]
   simp only[add_mk,r1,Result.andThen_ok,Sem.run_pure]
   have hx':(zs.take (0+l.length * 1+0)++bytV m++zs.drop (0+l.length * 1+0+(bytV m).length)).length=zs.length:=by
    simp only[List.length_append,List.length_take,List.length_drop,bytV_len]
    omega
   have hfin:=left_write (v:=.slice (some ⟨b,0,none⟩) (l.length+m.length) zs.length) (lv:=.atom (.slice (some ⟨b,0,none⟩) (l.length+m.length) zs.length)) (K:=K) (cs':=(zs.take (0+l.length * 1+0)++bytV m++zs.drop (0+l.length * 1+0+(bytV m).length)).map .atom) hH r2 r3 r4 r5 r6 r7 (by rw[hx',List.length_map]) (repL_atoms _) rep_atom (by
    have hb:BRow el (.slice (some ⟨b,0,none⟩) (l++m).length (zs.take (0+l.length * 1+0)++bytV m++zs.drop (0+l.length * 1+0+(bytV m).length)).length) (l++m) _:=BRow.row (b:=b) (el:=el) (by simp[hne]) (by rw[hx',List.length_append];exact hc) (by
     have he:0+l.length * 1+0=l.length:=by omega
     rw[he,h2,←bytV_app,List.take_left' (bytV_len _)])
    rw[hx',List.length_append] at hb
    exact hk _ _ hb)
   exact hfin
  ·have hold:∀ w':World,w'.heap=w.heap→(Builtin.firstCells 1 l.length (.slice (some ⟨b,0,none⟩) l.length zs.length)).run C.P w'=.ok (bytV l).toArray w':=fun w' hw=>by
    have:=loadCellsFrom_run (P:=C.P) (w:=w') (b:=b) (off:=0) l.length 0 #[] (bytV l) (bytV_len l) (fun j x' hj=>by
     have hj':zs[j]? = some x':=by
      rw[←h2,List.getElem?_take] at hj
      split at hj
      ·exact hj
      ·cases hj
     simp[World.cell?,hw,hz1,hj'])
    simp only[Builtin.firstCells,loadCells,Nat.mul_one,this]
    simp
   obtain ⟨cap',rest,r1,r2,r3⟩:=run_append_new (ty:=ty) (P:=C.P) (w:=w) (sT:=sT) (xT:=xT) (a:=some ⟨b,0,none⟩) (len:=l.length) (cap:=zs.length) (n:=m.length) (xv:=.slice ay m.length cy) (old:=bytV l) (new:=bytV m) (.inr ⟨_,hx2.und⟩) hlen (fun w' hw=>hyf C.P w' hw) hold hroom zo
   rw[r3]
   simp only[Result.andThen_ok,Sem.run_pure]
   have hcl:(bytV l++bytV m++rest).length=cap':=by rw[List.length_append,List.length_append,r2,bytV_len,bytV_len];omega
   have hH0:RelH C w L []:=hH.sub (List.nil_sublist _)
   obtain ⟨lv,H',L',g1,g2,g3,g4⟩:=left_newB (K:=K) (el:=el) (l:=l++m) (xs:=bytV l++bytV m++rest) hH0.drew (by simp[hne]) (by rw[hcl,List.length_append];omega) (by rw[←bytV_app,List.take_left' (bytV_len _)]) (fun v' H' h'=>hk v' H' h')
   rw[hcl,List.length_append] at g3
   exact ⟨lv,H',L',g1.of_drew.wide (by simp),g2,g3,g4⟩
theorem S.appBL1 {sT xT el bytes:Nat} [ht:TSlice C.P sT el 1] [hr:TRow C.P el 1 bytes] {e2:Nat} [hx2:TSlice C.P xT e2 1] {v:Value} {l m:List UInt8} {H1:Heap} {q:Nat×LObj}
  (hx:e.ev x=.atom v) (ha:BRow el v l H1) (hy:GL.elems (e.ev y)=some (byts m)) (hm0:m≠[]) (hroom:(l.length+m.length) * bytes≤140737488355328)
  (hk:∀ v' H',BRow el v' (l++m) H'→K (.atom v') (q::H')):LStep C ⟨dst,.call { callee:=.builtin .append,args:=#[x,y],argTypes:=#[sT,xT] },ty,pos,aft,g⟩ e (q::H1) K X:=by
 refine LStep.conseq (K:=fun lv H'=>∃ v' H2,lv=.atom v'∧H'=H2++[q]∧BRow el v' (l++m) H2) (LStep.frame (List.perm_append_singleton _ _).symm (LStep.appBL hx ha hy hm0 hroom fun v' H' h=>⟨v',H',rfl,rfl,h⟩)) ?_
 rintro lv H' ⟨v',H2,rfl,rfl,h⟩
 exact ⟨_,[q]++H2,LV.Sub.refl _,⟨[],by simp⟩,hk _ _ h⟩
theorem Pure.blen {t el el2 s:Nat} [TSlice C.P t el2 s] {v:Value} {l:List UInt8} {Hv:Heap} (hx:e.ev x=.atom v) (ha:BRow el v l Hv):Pure C ⟨dst,.call { callee:=.builtin .len,args:=#[x],argTypes:=#[t] },ty,pos,aft,g⟩ e H (int .i64 l.length):=
 .of_any fun ρ _ _ h=>⟨_,rep_atom,fun w'=>by
  have hu:=run_underlying' (P:=C.P) (TSlice.und (t:=t)) w'
  rw[execOp_builtin',builtin_len']
  cases ha <;> simp[Builtin.len_,hu,goInt,atom_of h hx]⟩
end
end Go.GL
namespace Go.Stele
abbrev Wd:=List UInt8
def nameW (s:Wd):Bool:=match s with
 |[]=>false
 |c::r=>decide (s.length≤40) && isLetter c && s.all isInner
def defW (w:Wd):Option Wd:=if w.getLast? = some 58∧nameW w.dropLast=true then some w.dropLast else none
def refW (w:Wd):Option Wd:=match w with
 |[]=>none
 |c::r=>if c=38∧nameW r=true then some r else none
/-! ### A rule matches words that are there, and puts fewer in their place -/
end Go.Stele
