/- Texts joined: RenZC, RenFa, RenFb, RenLen, RenLA. -/
import Derived.Test.YtocofhbdbgnmbaaGreatDoorBRowR53
import Derived.Test.YtocofhbdbgnmbaaGreatDoorBRowR56
import Derived.Test.YtocofhbdbgnmbaaGreatDoorBRowR57
set_option linter.unusedVariables false
set_option linter.unusedSimpArgs false
namespace Go.Proofs.YtocofhbdbgnmbaaGreatDoor
open Go.GL Go.RowKit Go.Stele
set_option maxRecDepth 100000
set_option maxHeartbeats 4000000
attribute [local irreducible] LOps LCode LStep LCalls Go.GL.Pure QThen QBlock RetPost LQ LAny LLate LLateOp
theorem preJ_len (l:List Wd):(Go.Lib.join l [10]).length≤(preJ l).length∧(preJ l).length≤(Go.Lib.join l [10]).length+1:=by
 unfold preJ
 split
 ·rename_i h;subst h;exact ⟨Nat.le_refl _,Nat.zero_le _⟩
 ·rw[List.length_append];simp only[List.length_cons,List.length_nil];omega
theorem rLong {o:Nat}:bool (decide ((65536:Int)<(o:Int)))=bool (decide (65536<o)):=bool_eq (decide_eq_decide.2 ⟨fun h=>by omega,fun h=>by omega⟩)
section
variable {B0:Nat} {w0:World}
def OutR (parts:List Wd) (o:Wd) (long:Bool) (i:Nat):Prop:=if long=true then 65536<o.length∧65536<(Go.Lib.join parts [10]).length∧o.length≤4000000000+i else o=Go.Lib.join parts [10]∧o.length≤65536
theorem byts_ten (o:Wd):byts o++[int .u8 10]=byts (o++[10]):=by rw[byts_app];rfl
theorem rrender_spec (text:List UInt8) (w:Int) (hs:text.length≤100000000) (hlen:1≤w∧w≤200→∀ l i parts,docP text=.ok l→bodyP w.toNat (l.take i)=.ok parts→(Go.Lib.join parts [10]).length≤4000000000):LCalls (KC B0 w0) 10 [str text,int .i64 w] [] (Ret (renLV (renderP text w))):=by
 have hP:renderP text w=if w<1∨200<w then .error (0,2) else match docP text with
  |.error e=>.error e
  |.ok l=>match bodyP w.toNat l with
   |.error e=>.error (0,e)
   |.ok parts=>if 65536<(Go.Lib.join parts [10]).length then .error (0,6) else .ok (Go.Lib.join parts [10]):=rfl
 have hD:=rdoc_spec (B0:=B0) (w0:=w0) text hs
 refine cI Tryz.func10 rfl (n:=79) rfl rfl rfl ?_
 refine gac ?_
 refine oB 20 rfl (fun h1=>?_) (fun h1=>?_)
 ·rw[if_pos (.inl (zt h1))] at hP
  refine gah ?_
  refine oC rfl (fun _=>?_) (fun h=>by cases h)
  refine gaf ?_
  exact retRet rfl (rC (zrt rfl) (rC (zrt rfl) (zra rfl))) (by rw[hP];rfl)
 ·have g1:=zf h1
  refine gab ?_
  refine oC rfl (fun h=>?_) (fun h=>?_)
  ·rw[if_pos (.inr (zt h))] at hP
   refine gaf ?_
   exact retRet rfl (rC (zrt rfl) (rC (zrt rfl) (zra rfl))) (by rw[hP];rfl)
  ·have g2:=zf h
   obtain ⟨n,rfl⟩:∃ n:Nat,w=n:=⟨w.toNat,by omega⟩
   rw[if_neg zo] at hP
   have hlen:=hlen ⟨by omega,by omega⟩
   rw[Int.toNat_natCast] at hP hlen
   refine gae ?_
   refine oS (S.fn [_] rfl hD ?_) rfl
   cases hdoc:docP text with
   |error q=>
    obtain ⟨x,y⟩:=q
    rw[hdoc] at hP
    have hy:=docP_err hdoc
    unfold docLV
    refine gaa ?_
    refine oC rfl (fun h=>?_) (fun h=>absurd (zt (not_f h)) zo)
    refine gac ?_
    exact retRet rfl (rC (zrt rfl) (rC (zrt rfl) (zra rfl))) (by rw[hP];rfl)
   |ok l=>
    rw[hdoc] at hP
    simp only at hP
    have hsm:=docP_small hdoc
    have hbl:l.length≤100000:=by
     have h1:=docP_bws hdoc
     have h2:=(docP_ok.1 hdoc).1
     have h3:=bws_len l
     omega
    have hlen:=fun i parts=>hlen l i parts hdoc
    have hla:(l.map encB).length=l.length:=List.length_map _
    unfold docLV
    refine gaa ?_
    refine oC rfl (fun h=>by cases h) (fun _=>?_)
    refine gae ?_
    refine oS (S.litA [] rfl eN rfl rfl rfl fun b=>?_) rfl
    refine oP (Pure.as (lv:=.app b 0 1 []) rfl) rfl ?_
    refine gaa ?_
    refine oL (fun k sl H=>∃ (i:Nat) (parts:List Wd) (o:Wd) (v:LV) (long:Bool),i≤l.length∧k=l.length-i∧bodyP n (l.take i)=.ok parts∧parts.length=i∧OutR parts o long i∧Acc 1 v (byts o) H []∧sl=[(1,int .i64 n),(10,v),(11,bool long),(35,.list (l.map encB)),(36,int .i64 l.length),(37,int .i64 i)])
     ⟨_,_,_,⟨0,[],[],.app b 0 1 [],false,Nat.zero_le _,rfl,rfl,rfl,⟨rfl,Nat.zero_le _⟩,Acc.row,rfl⟩,⟨rfl,rfl,rfl,rfl,int_eq zo,rfl,trivial⟩,HSub.refl _⟩ ?_
    rintro k sl H ⟨i,parts,o,v,long,hi,rfl,hbd,hpl,hO,hacc,rfl⟩ j1 hj1
    refine gaj ?_
    refine oC rfl (fun hc=>?_) (fun hc=>?_)
    ·have hlt:i<l.length:=by have:=zt hc;omega
     have hbm:l[i]∈l:=List.getElem_mem hlt
     have hbs:=hsm _ hbm
     have hg:(l.map encB)[((i:Nat):Int).toNat]? = some (encB l[i]):=map_get _ _ _ hlt
     have hbd1:bodyP n (l.take (i+1))=match rowsP n l[i] with
       |.error e=>.error e
       |.ok rows=>.ok (parts++[textP rows]):=by
      rw[List.take_succ_eq_append_getElem hlt,bodyP_app,hbd]
      simp only[bodyP]
      cases rowsP n l[i] <;> rfl
     have hbd2:bodyP n l=match bodyP n (l.take (i+1)) with
       |.error e=>.error e
       |.ok p=>match bodyP n (l.drop (i+1)) with
        |.error e=>.error e
        |.ok q=>.ok (p++q):=by
      have h:=bodyP_app n (l.take (i+1)) (l.drop (i+1))
      rw[List.take_append_drop] at h
      exact h
     have hlen1:=hlen (i+1)
     have hlen0:=hlen i parts hbd
     have hR:=rlns_spec (B0:=B0) (w0:=w0) n l[i] hbs ⟨by omega,by omega⟩
     generalize l[i]=b at *
     obtain ⟨kind,words,rows3,runs,width⟩:=b
     have hob:o.length≤4000000000+i:=by
      unfold OutR at hO
      split at hO
      ·exact hO.2.2
      ·omega
     have hol:(byts o).length=o.length:=byts_len o
     refine gae ?_
     refine oP (xR (el':=encB ⟨kind,words,rows3,runs,width⟩) (cs:=[int .i64 kind,.list (words.map str),.list (rows3.map fun r=>.list (r.map str)),str runs,int .i64 width]) rfl rfl zo hg rfl rfl) rfl ?_
     refine gab ?_
     refine oS (S.alloc fun b13=>?_) rfl
     refine gaa ?_
     refine LCode.mid (A:=LV×Heap) (fun a=>[(1,int .i64 n),(10,a.1),(11,bool long),(12,int .i64 i),(13,ptr b13 0),(35,.list (l.map encB)),(36,int .i64 l.length),(37,int .i64 i)]) (fun a=>(b13,.cells 49 [int .i64 kind,.list (words.map str),.list (rows3.map fun r=>.list (r.map str)),str runs,int .i64 width])::a.2) (fun a=>Acc 1 a.1 (byts (if 0<i then o++[10] else o)) a.2 []) ?_ ?_
     ·refine oC rfl (fun h=>?_) (fun h=>?_)
      ·have hi0:0<i:=by have:=zt h;omega
       refine gai ?_
       refine oP (Pure.mv (lv:=v) rfl) rfl ?_
       refine oS (S.lit [_] (es:=[int .u8 10]) rfl (eC rfl rfl eN) rfl rfl rfl ?_) rfl
       refine oS (S.acc1 rfl hacc rfl (by simp[LV.cells]) rfl (by simp only[List.length_cons,List.length_nil];omega) fun v' H' hacc'=>?_) rfl
       rw[byts_ten] at hacc'
       refine oP (Pure.as (lv:=v') rfl) rfl ?_
       refine gah ?_
       exact ⟨(v',H'),by rw[if_pos hi0];exact hacc',⟨rfl,rfl,rfl,rfl,rfl,rfl,rfl,rfl,trivial⟩,rfl,rfl⟩
      ·have hi0:¬ 0<i:=by have:=zf h;omega
       refine gad ?_
       exact ⟨(v,H),by rw[if_neg hi0];exact hacc,⟨rfl,rfl,rfl,rfl,rfl,rfl,rfl,rfl,trivial⟩,rfl,rfl⟩
     rintro ⟨v1,H1⟩ hacc1 j2 hj2
     simp only at hacc1
     have ho1:(if 0<i then o++[10] else o).length≤o.length+1∧o.length≤(if 0<i then o++[10] else o).length:=by
      split
      ·rw[List.length_append];simp only[List.length_cons,List.length_nil];omega
      ·omega
     have hpo:long=false→(if 0<i then o++[10] else o)=preJ parts:=fun hl=>by
      subst hl
      have h1:o=Go.Lib.join parts [10]:=hO.1
      unfold preJ
      split
      ·rw[if_neg (by rintro rfl;simp at hpl;omega),h1]
      ·have hp0:parts=[]:=List.eq_nil_of_length_eq_zero zo
       rw[if_pos hp0,h1,hp0];rfl
     generalize (if 0<i then o++[10] else o)=o1 at *
     have hol1:(byts o1).length=o1.length:=byts_len o1
     refine gaa ?_
     refine oS (S.fn [_,_] rfl hR ?_) rfl
     cases hr:rowsP n ⟨kind,words,rows3,runs,width⟩ with
     |error er=>
      rw[hr] at hbd1
      have hep:=rowsP_err hr
      rw[hbd2,hbd1] at hP
      unfold expLV
      refine gaa ?_
      refine oC rfl (fun h=>?_) (fun h=>absurd (zt (not_f h)) zo)
      refine gaa ?_
      exact retRet (hj2.trans hj1) (rC (zrt rfl) (rC (zrt rfl) (zra rfl))) (by rw[hP];rfl)
     |ok rows=>
      rw[hr] at hbd1
      simp only at hbd1
      have hfull:=hlen1 _ hbd1
      rw[join_preJ,List.length_append] at hfull
      have hpj:=preJ_len parts
      have hrl:=textP_rows rows
      have hrm:(rows.map str).length=rows.length:=List.length_map _
      unfold expLV
      refine gaa ?_
      refine oC rfl (fun h=>by cases h) (fun _=>?_)
      refine gac ?_
      refine oC rfl (fun h=>?_) (fun h=>?_)
      ·subst h
       have h1:65536<o.length∧65536<(Go.Lib.join parts [10]).length∧o.length≤4000000000+i:=hO
       refine gac ?_
       exact ⟨_,_,_,by omega,⟨i+1,parts++[textP rows],o1,v1,true,by omega,rfl,hbd1,by rw[List.length_append];simp only[List.length_cons,List.length_nil];omega,show 65536<o1.length∧65536<(Go.Lib.join (parts++[textP rows]) [10]).length∧o1.length≤4000000000+(i+1) from ⟨by omega,by rw[join_preJ,List.length_append];omega,by omega⟩,hacc1,rfl⟩,⟨rfl,rfl,rfl,rfl,rfl,int_eq zo,trivial⟩,zhD zhr,hj2.trans hj1⟩
      ·subst h
       have hpo:=hpo rfl
       subst hpo
       refine LCode.weak (H':=H1) (zhD zhr) ?_
       refine gaa ?_
       refine oL (fun k sl H2=>∃ (x:Nat) (v2:LV),x≤rows.length∧k=rows.length-x∧Acc 1 v2 (byts (preJ parts++textP (rows.take x))) H2 []∧sl=[(1,int .i64 n),(10,v2),(11,bool false),(12,int .i64 i),(35,.list (l.map encB)),(36,int .i64 l.length),(37,int .i64 i),(57,.list (rows.map str)),(58,int .i64 rows.length),(59,int .i64 x)])
        ⟨_,_,_,⟨0,v1,Nat.zero_le _,rfl,by rw[List.take_zero];unfold textP;rw[List.flatMap_nil,List.append_nil];exact hacc1,rfl⟩,⟨rfl,rfl,rfl,rfl,rfl,rfl,rfl,rfl,int_eq zo,rfl,trivial⟩,HSub.refl _⟩ ?_
       rintro k sl H2 ⟨x,v2,hx,rfl,hacc2,rfl⟩ j4 hj4
       refine gaj ?_
       refine oC rfl (fun hc=>?_) (fun hc=>?_)
       ·have hxl:x<rows.length:=by have:=zt hc;omega
        have htx:textP (rows.take (x+1))=textP (rows.take x)++(rows[x]++[10]):=by rw[List.take_succ_eq_append_getElem hxl,textP_snoc]
        have htl:=textP_take rows (x+1)
        rw[htx,List.length_append,List.length_append] at htl
        simp only[List.length_cons,List.length_nil] at htl
        refine gae ?_
        refine oP (xR (el':=str rows[x]) (cs:=[str rows[x]]) rfl rfl zo (map_get _ _ _ hxl) rfl rfl) rfl ?_
        generalize rows[x]=rx at *
        refine gaa ?_
        refine oP (Pure.mv (lv:=v2) rfl) rfl ?_
        refine gag ?_
        refine oS (S.appS rfl hacc2 rfl (by rw[List.length_append];omega) fun v3 H3 hacc3=>?_) rfl
        refine oP (Pure.as (lv:=v3) rfl) rfl ?_
        refine gaj ?_
        refine oP (Pure.mv (lv:=v3) rfl) rfl ?_
        refine oS (S.lit [_] (es:=[int .u8 10]) rfl (eC rfl rfl eN) rfl rfl rfl ?_) rfl
        refine oS (S.acc rfl hacc3 rfl (by simp[LV.cells]) rfl (by rw[byts_len,List.length_append,List.length_append];simp only[List.length_cons,List.length_nil];omega) fun v4 H4 hacc4=>?_) rfl
        rw[byts_ten,List.append_assoc,List.append_assoc,←htx] at hacc4
        refine oP (Pure.as (lv:=v4) rfl) rfl ?_
        refine gac ?_
        exact ⟨_,_,_,by omega,⟨x+1,v4,by omega,rfl,hacc4,rfl⟩,⟨rfl,rfl,rfl,rfl,rfl,rfl,rfl,rfl,rfl,int_eq zo,trivial⟩,HSub.refl _,hj4⟩
       ·have hxl:x=rows.length:=by have:=zf hc;omega
        subst hxl
        rw[List.take_length,←join_preJ] at hacc2
        rw[←List.length_append,←join_preJ] at hfull
        generalize hjo:Go.Lib.join (parts++[textP rows]) [10]=jo at *
        have hjl:(byts jo).length=jo.length:=byts_len jo
        refine gac ?_
        refine oP (Pure.mv (lv:=v2) rfl) rfl ?_
        refine oP (Pure.llen (es:=byts jo) hacc2.elems) rfl ?_
        rw[hjl]
        refine gaa ?_
        exact ⟨_,_,_,by omega,⟨i+1,parts++[textP rows],jo,v2,decide (65536<jo.length),by omega,rfl,hbd1,by rw[List.length_append];simp only[List.length_cons,List.length_nil];omega,by
         unfold OutR
         split
         ·rename_i h;have h:=zt h;rw[hjo];omega
         ·rename_i h;have h:=mt decide_eq_true h;exact ⟨hjo.symm,by omega⟩,hacc2,rfl⟩,⟨rfl,rfl,rLong,rfl,rfl,int_eq zo,trivial⟩,HSub.refl _,hj4.trans (hj2.trans hj1)⟩
    ·have hi':i=l.length:=by have:=zf hc;omega
     subst hi'
     rw[List.take_length] at hbd
     rw[hbd] at hP
     simp only at hP
     have hol:(byts o).length=o.length:=byts_len o
     refine gac ?_
     refine oP (Pure.mv (lv:=v) rfl) rfl ?_
     refine oP (Pure.llen (es:=byts o) hacc.elems) rfl ?_
     rw[hol]
     refine gab ?_
     refine oC rfl (fun h=>?_) (fun h=>?_)
     ·have h1:65536<o.length:=by have:=zt h;omega
      have h2:65536<(Go.Lib.join parts [10]).length:=by
       unfold OutR at hO
       split at hO
       ·exact hO.2.1
       ·omega
      rw[if_pos h2] at hP
      refine gaf ?_
      exact retRet hj1 (rC (zrt rfl) (rC (zrt rfl) (zra rfl))) (by rw[hP];rfl)
     ·have h1:¬ 65536<o.length:=by have:=zf h;omega
      have h2:o=Go.Lib.join parts [10]:=by
       unfold OutR at hO
       split at hO
       ·omega
       ·exact hO.1
      rw[←h2,if_neg h1] at hP
      refine gae ?_
      refine oP (Pure.mv (lv:=v) rfl) rfl ?_
      refine oP (Pure.bytesStrE (l:=o) hacc.elems) rfl ?_
      refine gad ?_
      exact retRet hj1 (rC (zrt rfl) (rC (zrt rfl) (zra rfl))) (by rw[hP];rfl)
end
end Go.Proofs.YtocofhbdbgnmbaaGreatDoor
namespace Go.Proofs.YtocofhbdbgnmbaaGreatDoor
open Go.GL Go.RowKit Go.Stele
set_option maxRecDepth 100000
set_option maxHeartbeats 4000000
theorem cells_rows {w:World} {L:Live} {b:Nat}:∀ (k off:Nat) (ws:List (List UInt8)),RepRows w L b k off (ws.map str)→∀ (j:Nat) x,(ws.map fun l=>(⟨l.toArray⟩:ByteArray))[j]? = some x→k=1∧w.cell? ⟨b,off+j,none⟩=some (.string x)
 |k,off,[],_,j,x,h=>by simp at h
 |k,off,s::ws,h,0,x,hx=>by
  simp only[List.map_cons,RepRows] at h
  obtain ⟨⟨hk,_,y,hy,hr⟩,_⟩:=h
  simp only[Rep] at hr
  simp at hx
  rw[←hx,Nat.add_zero,hy,hr]
  exact ⟨hk.symm,rfl⟩
 |k,off,s::ws,h,j+1,x,hx=>by
  simp only[List.map_cons,RepRows] at h
  obtain ⟨⟨hk,_⟩,h2⟩:=h
  have:=cells_rows k (off+k) ws h2 j x (by simpa using hx)
  refine ⟨hk.symm,?_⟩
  rw[←this.2,←hk,Nat.add_assoc,Nat.add_comm 1 j]
section
variable {B0:Nat} {w0:World}
theorem joinS_spec (sep:List UInt8) (ws:List (List UInt8)) (hn:ws.length≤1000000000) (hl:(Go.Lib.join ws sep).length≤1000000000):LCalls (KC B0 w0) 17 [.list (ws.map str),str sep] [] (Ret (str (Go.Lib.join ws sep))):=fun xs w L hv hH=>by
 simp only[RepL] at hv
 obtain ⟨y,ys,rfl,hy,z,zs,rfl,hz,rfl⟩:=hv
 simp only[Rep] at hy hz
 obtain ⟨a,cap,rfl,hcap,hrows⟩:=hy
 subst hz
 rw[List.length_map] at hcap
 have hmap:(ws.map fun l=>(⟨l.toArray⟩:ByteArray)).map (·.data.toList)=ws:=by
  rw[List.map_map]
  conv=>rhs;rw[←List.map_id ws]
  rfl
 have hc:Calls Tryz.prog 17 #[.slice a ws.length cap,.string ⟨sep.toArray⟩] w fun e w'=>e=.returned (.string ⟨(Go.Lib.join ws sep).toArray⟩)∧Below w.heap.size w w':=by
  by_cases hne:ws=[]
  ·subst hne
   exact (Tryz.strings_Join_none a cap ⟨sep.toArray⟩ w).mono fun e w' he=>⟨by rw[he.1];rfl,by rw[he.2];exact Below.refl _ _⟩
  ·obtain ⟨b,off,k,rfl,hr⟩:=hrows (by simpa using hne)
   have hcells:=fun j x hx=>(cells_rows k off ws hr j x hx).2
   have hb:b<w.heap.size:=by
    obtain ⟨s,r,rfl⟩:=List.exists_cons_of_ne_nil hne
    have:=hcells 0 _ rfl
    exact World.block_lt_of_cell? _ _ this
   have:=Tryz.strings_Join b off cap (ws.map fun l=>(⟨l.toArray⟩:ByteArray)) ⟨sep.toArray⟩ w hcells hb (by rw[List.length_map];omega) (by rw[List.length_map];exact hcap) (by rw[hmap];show (Go.Lib.join ws sep).length≤_;omega)
   rw[List.length_map,hmap] at this
   exact this
 rw[List.length_map]
 refine hc.mono fun e w' he=>?_
 obtain ⟨rfl,hb⟩:=he
 obtain ⟨h1,h2⟩:=fr_below hH hb
 exact ⟨str (Go.Lib.join ws sep),[],L,h1,h2,rep_atom,rfl,rfl⟩
end
attribute [local irreducible] LOps LCode LStep LCalls Go.GL.Pure QThen QBlock RetPost LQ LAny LLate LLateOp
section
variable {B0:Nat} {w0:World}
theorem equalS_spec (a b:List Wd) (ha:a.length≤100000000) (hb:b.length≤100000000):LCalls (KC B0 w0) 68 [.list (a.map str),.list (b.map str)] [] (Ret (bool (decide (a=b)))):=by
 have hla:(a.map str).length=a.length:=List.length_map _
 have hlb:(b.map str).length=b.length:=List.length_map _
 refine cI Tryz.func68 rfl (n:=26) rfl rfl rfl ?_
 refine gaa ?_
 refine oC rfl (fun h=>?_) (fun h=>?_)
 ·have hne:a.length≠b.length:=fun h1=>by have:=zf (not_t h);omega
  refine gaf ?_
  exact retRet rfl (zra rfl) (by rw[decide_eq_false (fun h=>hne (by rw[h]))];rfl)
 have hle:a.length=b.length:=by have:=zt (not_f h);omega
 refine gaa ?_
 refine oL (fun k sl H=>∃ i:Nat,i≤a.length∧k=a.length-i∧a.take i=b.take i∧sl=[(0,.list (a.map str)),(1,.list (b.map str)),(12,int .i64 a.length),(13,int .i64 i)]∧H=[])
  ⟨_,_,_,⟨0,Nat.zero_le _,rfl,rfl,rfl,rfl⟩,⟨rfl,rfl,int_eq zo,rfl,trivial⟩,HSub.refl _⟩ ?_
 rintro k sl H ⟨i,hi,rfl,htk,rfl,rfl⟩ j1 hj1
 refine gaj ?_
 refine oC rfl (fun hc=>?_) (fun hc=>?_)
 ·have hlt:i<a.length:=by have:=zt hc;omega
  have hlt2:i<b.length:=by omega
  refine gac ?_
  refine LCode.quiet zk ?_
  refine gab ?_
  refine LQ.pure (xR (el':=str a[i]) (cs:=[str a[i]]) rfl rfl zo (map_get _ _ _ hlt) rfl rfl) rfl ?_
  refine gab ?_
  refine LQ.pure (xR (el':=str b[i]) (cs:=[str b[i]]) rfl rfl zo (map_get _ _ _ hlt2) rfl rfl) rfl ?_
  refine gab ?_
  refine oC rfl (fun h=>?_) (fun h=>?_)
  ·have hne:a[i]≠b[i]:=zf (not_t h)
   refine gak ?_
   exact retRet hj1 (zra rfl) (by rw[decide_eq_false (fun h=>hne (by subst h;rfl))];rfl)
  ·have heq:a[i]=b[i]:=zt (not_f h)
   refine gac ?_
   exact ⟨_,_,_,by omega,⟨i+1,by omega,rfl,by rw[List.take_succ_eq_append_getElem hlt,List.take_succ_eq_append_getElem hlt2,htk,heq],rfl,rfl⟩,⟨rfl,rfl,rfl,int_eq zo,trivial⟩,HSub.refl _,hj1⟩
 ·have hie:i=a.length:=by have:=zf hc;omega
  subst hie
  rw[List.take_length,hle,List.take_length] at htk
  refine gac ?_
  exact retRet hj1 (zra rfl) (by rw[decide_eq_true htk];rfl)
theorem equalR_spec (a b:List (List Wd)) (ha:a.length≤100000000) (hb:b.length≤100000000) (hra:∀ r∈a,r.length≤100000000) (hrb:∀ r∈b,r.length≤100000000):LCalls (KC B0 w0) 69 [rowsLV a,rowsLV b,.atom (.func (.func 68) #[] #[])] [] (Ret (bool (decide (a=b)))):=by
 have hla:(a.map fun r=>LV.list (r.map str)).length=a.length:=List.length_map _
 have hlb:(b.map fun r=>LV.list (r.map str)).length=b.length:=List.length_map _
 unfold rowsLV
 refine cI Tryz.func69 rfl (n:=32) rfl rfl rfl ?_
 refine gaa ?_
 refine oC rfl (fun h=>?_) (fun h=>?_)
 ·have hne:a.length≠b.length:=fun h1=>by have:=zf (not_t h);omega
  refine gaf ?_
  exact retRet rfl (zra rfl) (by rw[decide_eq_false (fun h=>hne (by rw[h]))];rfl)
 have hle:a.length=b.length:=by have:=zt (not_f h);omega
 refine gaa ?_
 refine oL (fun k sl H=>∃ i:Nat,i≤a.length∧k=a.length-i∧a.take i=b.take i∧sl=[(1,.list (b.map fun r=>.list (r.map str))),(2,.atom (.func (.func 68) #[] #[])),(15,.list (a.map fun r=>.list (r.map str))),(16,int .i64 a.length),(17,int .i64 i)]∧H=[])
  ⟨_,_,_,⟨0,Nat.zero_le _,rfl,rfl,rfl,rfl⟩,⟨rfl,rfl,rfl,int_eq zo,rfl,trivial⟩,HSub.refl _⟩ ?_
 rintro k sl H ⟨i,hi,rfl,htk,rfl,rfl⟩ j1 hj1
 refine gaj ?_
 refine oC rfl (fun hc=>?_) (fun hc=>?_)
 ·have hlt:i<a.length:=by have:=zt hc;omega
  have hlt2:i<b.length:=by omega
  have hE:=equalS_spec (B0:=B0) (w0:=w0) a[i] b[i] (hra _ (List.getElem_mem hlt)) (hrb _ (List.getElem_mem hlt2))
  have hga:(a.map fun r=>LV.list (r.map str))[((i:Nat):Int).toNat]? = some (.list (a[i].map str)):=map_get _ _ _ hlt
  have hgb:(b.map fun r=>LV.list (r.map str))[((i:Nat):Int).toNat]? = some (.list (b[i].map str)):=map_get _ _ _ hlt2
  refine gae ?_
  refine oP (xR (el':=.list (a[i].map str)) (cs:=[.list (a[i].map str)]) rfl rfl zo hga rfl rfl) rfl ?_
  refine gaa ?_
  refine oP (xR (el':=.list (b[i].map str)) (cs:=[.list (b[i].map str)]) rfl rfl zo hgb rfl rfl) rfl ?_
  refine gaa ?_
  refine oS (S.fnV [_,_] rfl rfl hE ?_) rfl
  refine gab ?_
  refine oC rfl (fun h=>?_) (fun h=>?_)
  ·have hne:a[i]≠b[i]:=zf (not_t h)
   refine gak ?_
   exact retRet hj1 (zra rfl) (by rw[decide_eq_false (fun h=>hne (by subst h;rfl))];rfl)
  ·have heq:a[i]=b[i]:=zt (not_f h)
   refine gac ?_
   exact ⟨_,_,_,by omega,⟨i+1,by omega,rfl,by rw[List.take_succ_eq_append_getElem hlt,List.take_succ_eq_append_getElem hlt2,htk,heq],rfl,rfl⟩,⟨rfl,rfl,rfl,rfl,int_eq zo,trivial⟩,HSub.refl _,hj1⟩
 ·have hie:i=a.length:=by have:=zf hc;omega
  subst hie
  rw[List.take_length,hle,List.take_length] at htk
  refine gac ?_
  exact retRet hj1 (zra rfl) (by rw[decide_eq_true htk];rfl)
theorem bw_parts (b:Blk) (h:bw b≤10000000):b.words.length≤10000000∧b.rows.length≤10000000∧(∀ r∈b.rows,r.length≤10000000):=by
 obtain ⟨h1,h2⟩:=bw_words b
 refine ⟨by omega,by omega,fun r hr=>?_⟩
 have h3:=sum_mem (fun r:List Wd=>(r.map fun c=>c.length+3).sum+2) hr
 have h4:∀ q:List Wd,q.length≤(q.map fun c=>c.length+3).sum:=by
  intro q
  induction q with
  |nil=>simp
  |cons a q ih=>simp only[List.map_cons,List.sum_cons,List.length_cons];omega
 have:=h4 r
 unfold bw at h
 omega
theorem dequal_spec (a b:Blk) (ha:bw a≤10000000) (hb:bw b≤10000000):LCalls (KC B0 w0) 37 [encB a,encB b] [] (Ret (bool (decide (a=b)))):=by
 obtain ⟨a1,a2,a3⟩:=bw_parts a ha
 obtain ⟨b1,b2,b3⟩:=bw_parts b hb
 obtain ⟨k,ws,rs,ru,wd⟩:=a
 obtain ⟨k',ws',rs',ru',wd'⟩:=b
 have hW:=equalS_spec (B0:=B0) (w0:=w0) ws ws' (by simp only at a1;omega) (by simp only at b1;omega)
 have hR:=equalR_spec (B0:=B0) (w0:=w0) rs rs' (by simp only at a2;omega) (by simp only at b2;omega) (fun r hr=>by have:=a3 r hr;omega) (fun r hr=>by have:=b3 r hr;omega)
 have no:∀ {p:Prop},¬ p→((⟨k,ws,rs,ru,wd⟩:Blk)=⟨k',ws',rs',ru',wd'⟩→p)→bool false=bool (decide ((⟨k,ws,rs,ru,wd⟩:Blk)=⟨k',ws',rs',ru',wd'⟩)):=fun h1 h2=>bool_eq (decide_eq_false fun h=>h1 (h2 h)).symm
 unfold encB
 refine cI Tryz.func37 rfl (n:=38) rfl rfl rfl ?_
 refine gai ?_
 refine oS (S.box (cs:=cellsB ⟨k,ws,rs,ru,wd⟩) rfl fun c1=>?_) rfl
 refine oS (S.box (cs:=cellsB ⟨k',ws',rs',ru',wd'⟩) rfl fun c2=>?_) rfl
 unfold cellsB
 refine gaa ?_
 refine oB 10 rfl (fun h1=>?_) (fun h1=>?_)
 ·have e1:k=k':=by have:(k:Int)=(k':Int):=zt h1;omega
  refine gab ?_
  refine oS (S.fn [_,_] rfl hW ?_) rfl
  refine gad ?_
  refine oB 17 rfl (fun h2=>?_) (fun h2=>?_)
  ·have e2:ws=ws':=zt h2
   refine gab ?_
   refine oS (S.fn [_,_,_] rfl hR ?_) rfl
   refine gad ?_
   refine oB 24 rfl (fun h3=>?_) (fun h3=>?_)
   ·have e3:rs=rs':=zt h3
    refine gab ?_
    refine oB 31 rfl (fun h4=>?_) (fun h4=>?_)
    ·have e4:ru=ru':=zt h4
     refine gab ?_
     exact retRet rfl (zra rfl) (bool_eq (decide_eq_decide.2 ⟨fun h=>by subst e1 e2 e3 e4;rw[show wd=wd' by have h:(wd:Int)=(wd':Int):=h;omega],fun h=>by injection h with _ _ _ _ h;rw[h]⟩))
    ·refine gab ?_
     exact retRet rfl (zra rfl) (no (zf h4) fun h=>by injection h)
   ·refine gab ?_
    exact retRet rfl (zra rfl) (no (zf h3) fun h=>by injection h)
  ·refine gab ?_
   exact retRet rfl (zra rfl) (no (zf h2) fun h=>by injection h)
 ·refine gab ?_
  exact retRet rfl (zra rfl) (no (zf h1) fun h=>by injection h with h;rw[h])
theorem bws_mem {l:List Blk} {b:Blk} (h:b∈l):bw b≤bws l:=sum_mem bw h
theorem equalB_spec (a b:List Blk) (ha:bws a≤10000000) (hb:bws b≤10000000):LCalls (KC B0 w0) 36 [.list (a.map encB),.list (b.map encB),.atom (.func (.func 37) #[] #[])] [] (Ret (bool (decide (a=b)))):=by
 have hla:(a.map encB).length=a.length:=List.length_map _
 have hlb:(b.map encB).length=b.length:=List.length_map _
 have hna:=bws_len a
 have hnb:=bws_len b
 refine cI Tryz.func36 rfl (n:=32) rfl rfl rfl ?_
 refine gaa ?_
 refine oC rfl (fun h=>?_) (fun h=>?_)
 ·have hne:a.length≠b.length:=fun h1=>by have:=zf (not_t h);omega
  refine gaf ?_
  exact retRet rfl (zra rfl) (by rw[decide_eq_false (fun h=>hne (by rw[h]))];rfl)
 have hle:a.length=b.length:=by have:=zt (not_f h);omega
 refine gaa ?_
 refine oL (fun k sl H=>∃ i:Nat,i≤a.length∧k=a.length-i∧a.take i=b.take i∧sl=[(1,.list (b.map encB)),(2,.atom (.func (.func 37) #[] #[])),(15,.list (a.map encB)),(16,int .i64 a.length),(17,int .i64 i)]∧H=[])
  ⟨_,_,_,⟨0,Nat.zero_le _,rfl,rfl,rfl,rfl⟩,⟨rfl,rfl,rfl,int_eq zo,rfl,trivial⟩,HSub.refl _⟩ ?_
 rintro k sl H ⟨i,hi,rfl,htk,rfl,rfl⟩ j1 hj1
 refine gaj ?_
 refine oC rfl (fun hc=>?_) (fun hc=>?_)
 ·have hlt:i<a.length:=by have:=zt hc;omega
  have hlt2:i<b.length:=by omega
  have hE:=dequal_spec (B0:=B0) (w0:=w0) a[i] b[i] (by have:=bws_mem (List.getElem_mem hlt);omega) (by have:=bws_mem (List.getElem_mem hlt2);omega)
  have hga:(a.map encB)[((i:Nat):Int).toNat]? = some (encB a[i]):=map_get _ _ _ hlt
  have hgb:(b.map encB)[((i:Nat):Int).toNat]? = some (encB b[i]):=map_get _ _ _ hlt2
  have htn:a.take (i+1)=b.take (i+1) ↔ a[i]=b[i]:=by
   rw[List.take_succ_eq_append_getElem hlt,List.take_succ_eq_append_getElem hlt2,htk]
   exact ⟨fun h=>by have h1:=List.append_cancel_left h;injection h1,fun h=>by rw[h]⟩
  have hal:a=b→a[i]=b[i]:=fun h=>by subst h;rfl
  generalize a[i]=x at *
  generalize b[i]=y at *
  obtain ⟨k,ws,rs,ru,wd⟩:=x
  obtain ⟨k',ws',rs',ru',wd'⟩:=y
  refine gae ?_
  refine oP (xR (el':=encB ⟨k,ws,rs,ru,wd⟩) (cs:=[int .i64 k,.list (ws.map str),.list (rs.map fun r=>.list (r.map str)),str ru,int .i64 wd]) rfl rfl zo hga rfl rfl) rfl ?_
  refine gab ?_
  refine oS (S.alloc fun c1=>?_) rfl
  refine gaa ?_
  refine oP (xR (el':=encB ⟨k',ws',rs',ru',wd'⟩) (cs:=[int .i64 k',.list (ws'.map str),.list (rs'.map fun r=>.list (r.map str)),str ru',int .i64 wd']) rfl rfl zo hgb rfl rfl) rfl ?_
  refine gab ?_
  refine oS (S.alloc fun c2=>?_) rfl
  refine gaa ?_
  refine oS (S.fnV [_,_] rfl rfl hE ?_) rfl
  refine gab ?_
  refine oC rfl (fun h=>?_) (fun h=>?_)
  ·have hne:=zf (not_t h)
   refine gak ?_
   exact retRet hj1 (zra rfl) (by rw[decide_eq_false (fun h=>hne (hal h))];rfl)
  ·have heq:=zt (not_f h)
   refine gac ?_
   exact ⟨_,_,_,by omega,⟨i+1,by omega,rfl,htn.2 heq,rfl,rfl⟩,⟨rfl,rfl,rfl,rfl,int_eq zo,trivial⟩,HSub.nil _,hj1⟩
 ·have hie:i=a.length:=by have:=zf hc;omega
  subst hie
  rw[List.take_length,hle,List.take_length] at htk
  refine gac ?_
  exact retRet hj1 (zra rfl) (by rw[decide_eq_true htk];rfl)
end
end Go.Proofs.YtocofhbdbgnmbaaGreatDoor
namespace Go.Stele
open Go.Lib
def rowT (r:List Wd):Wd:=r.flatMap fun c=>32::(c++[32,124])
theorem fmtRow_eq (r:List Wd):fmtRow r=[124]++rowT r++[10]:=rfl
theorem rowT_snoc (l:List Wd) (c:Wd):rowT (l++[c])=rowT l++([32]++c++[32,124]):=by unfold rowT;rw[List.flatMap_append];simp
theorem flat_take {A:Type} (f:A→Wd) (l:List A) (x:Nat):((l.take x).flatMap f).length≤(l.flatMap f).length:=by
 have h:l.flatMap f=(l.take x).flatMap f++(l.drop x).flatMap f:=by rw[←List.flatMap_append,List.take_append_drop]
 rw[h,List.length_append]
 omega
theorem rows_text:∀ l:List (List Wd),(l.flatMap fmtRow).length=(l.map fun r=>(r.map fun c=>c.length+3).sum+2).sum
 |[]=>rfl
 |r::l=>by
  rw[List.flatMap_cons,List.length_append,rows_text l,row_len,List.map_cons,List.sum_cons]
theorem fmtBs_app:∀ (a b:List Blk),fmtBs (a++b)=match fmtBs a,fmtBs b with
  |some x,some y=>some (x++y)
  |_,_=>none
 |[],b=>by
  rw[List.nil_append]
  cases h:fmtBs b <;> rfl
 |x::a,b=>by
  rw[List.cons_append,fmtBs,fmtBs,fmtBs_app a b]
  cases fmtB x with
  |none=>cases fmtBs a <;> cases fmtBs b <;> rfl
  |some s=>
   cases fmtBs a with
   |none=>rfl
   |some p=>cases fmtBs b <;> rfl
theorem dec_le:∀ (k n:Nat),n<10 ^ (k+1)→(decDigits n).length≤k+1
 |0,n,h=>by rw[decDigits,dif_pos (by simpa using h)];simp
 |k+1,n,h=>by
  rw[decDigits]
  split
  ·simp
  ·have:=dec_le k (n / 10) (by rw[Nat.pow_succ] at h;omega)
   rw[List.length_append,List.length_singleton]
   omega
theorem dec_le10 {n:Nat} (h:n≤1000000000):(decDigits n).length≤10:=dec_le 9 n (Nat.lt_of_le_of_lt h (by decide))
theorem fmtB_len {b:Blk} {s:Wd} (h:fmtB b=some s) (hw:b.kind=4→b.width≤1000000000):s.length≤bw b+20:=by
 unfold fmtB at h
 have h1:=join_le 32 b.words
 unfold bw
 split at h
 ·injection h with h;subst h
  simp only[List.length_append,List.length_cons,List.length_nil]
  omega
 ·split at h
  ·injection h with h;subst h
   simp only[List.length_append,List.length_cons,List.length_nil]
   omega
  ·split at h
   ·injection h with h;subst h
    rw[rows_text]
    omega
   ·split at h
    ·injection h with h;subst h
     have h2:(itoa (b.width:Int)).length≤10:=by
      rw[itoa_nat]
      exact dec_le10 (hw (by assumption))
     simp only[List.length_append,List.length_cons,List.length_nil]
     omega
    ·cases h
end Go.Stele
namespace Go.Proofs.YtocofhbdbgnmbaaGreatDoor
open Go.GL Go.RowKit Go.Stele
set_option maxRecDepth 100000
set_option maxHeartbeats 4000000
attribute [local irreducible] LOps LCode LStep LCalls Go.GL.Pure QThen QBlock RetPost LQ LAny LLate LLateOp
def fmtLV:Except Nat Wd→LV
 |.ok s=>.tuple [str s,int .i64 0]
 |.error e=>.tuple [str [],int .i64 e]
def optLV:Option Wd→LV
 |some s=>.tuple [str s,int .i64 0]
 |none=>.tuple [str [],int .i64 10]
section
variable {B0:Nat} {w0:World}
theorem format1_spec (hG:GW B0 w0) (b:Blk) (hb:bw b≤10000000) (hw:b.kind=4→b.width≤1000000000):LCalls (KC B0 w0) 35 [encB b] [] (Ret (optLV (fmtB b))):=by
 obtain ⟨a1,a2,a3⟩:=bw_parts b hb
 have hjl:=join_le 32 b.words
 have hwl:(b.words.map fun w=>w.length+1).sum≤bw b:=by unfold bw;omega
 have htl:(b.rows.flatMap fmtRow).length≤bw b:=by rw[rows_text];unfold bw;omega
 have hrl:3 * b.runs.length≤bw b:=by unfold bw;omega
 have hla:(b.rows.map fun r=>LV.list (r.map str)).length=b.rows.length:=List.length_map _
 have hJ:=joinS_spec (B0:=B0) (w0:=w0) [32] b.words zo zo
 unfold encB cellsB
 refine cI Tryz.func35 rfl (n:=59) rfl rfl rfl ?_
 refine gai ?_
 refine oS (S.box (cs:=cellsB b) rfl fun b2=>?_) rfl
 unfold cellsB
 refine gaa ?_
 refine oC rfl (fun h=>?_) (fun h=>?_)
 ·have hk:b.kind=1:=by have:=zt h;omega
  have hR:fmtB b=some ([35,32]++Go.Lib.join b.words [32]++[10]):=by unfold fmtB;rw[if_pos hk]
  refine gaa ?_
  refine oS (S.fn [_,_] rfl hJ ?_) rfl
  refine oP (Pure.sadd (l:=[35,32]) (m:=Go.Lib.join b.words [32]) rfl rfl (by simp only[List.length_cons,List.length_nil];omega)) rfl ?_
  refine oP (Pure.sadd (l:=[35,32]++Go.Lib.join b.words [32]) (m:=[10]) rfl rfl (by simp only[List.length_append,List.length_cons,List.length_nil];omega)) rfl ?_
  refine gab ?_
  exact retRet rfl (rC (zrt rfl) (zra rfl)) (by rw[hR];rfl)
 ·have h1:b.kind≠1:=by have:=zf h;omega
  refine gac ?_
  refine oC rfl (fun h=>?_) (fun h=>?_)
  ·have hk:b.kind=2:=by have:=zt h;omega
   have hR:fmtB b=some (Go.Lib.join b.words [32]++[10]):=by unfold fmtB;rw[if_neg h1,if_pos hk]
   refine gaa ?_
   refine oS (S.fn [_,_] rfl hJ ?_) rfl
   refine oP (Pure.sadd (l:=Go.Lib.join b.words [32]) (m:=[10]) rfl rfl (by simp only[List.length_cons,List.length_nil];omega)) rfl ?_
   refine gab ?_
   exact retRet rfl (rC (zrt rfl) (zra rfl)) (by rw[hR];rfl)
  ·have h2:b.kind≠2:=by have:=zf h;omega
   refine gac ?_
   refine oC rfl (fun h=>?_) (fun h=>?_)
   ·have hk:b.kind=3:=by have:=zt h;omega
    have hR:fmtB b=some (b.rows.flatMap fmtRow):=by unfold fmtB;rw[if_neg h1,if_neg h2,if_pos hk]
    refine gai ?_
    refine oS (S.alloc fun b4=>?_) rfl
    refine gaa ?_
    refine oL (fun k sl H=>∃ i:Nat,i≤b.rows.length∧k=b.rows.length-i∧BH b4 ((b.rows.take i).flatMap fmtRow) H∧sl=[(4,ptr b4 0),(27,.list (b.rows.map fun r=>.list (r.map str))),(28,int .i64 b.rows.length),(29,int .i64 i)])
     ⟨_,_,_,⟨0,Nat.zero_le _,rfl,⟨_,_,[],.inl rfl,BRow.nil,rfl⟩,rfl⟩,⟨rfl,rfl,int_eq zo,rfl,trivial⟩,⟨_,List.Perm.refl _⟩⟩ ?_
    rintro k sl HB ⟨i,hi,rfl,hB,rfl⟩ j1 hj1
    refine gaj ?_
    refine oC rfl (fun hc=>?_) (fun hc=>?_)
    ·have hlt:i<b.rows.length:=by have:=zt hc;omega
     have htk:(b.rows.take (i+1)).flatMap fmtRow=(b.rows.take i).flatMap fmtRow++fmtRow b.rows[i]:=by rw[List.take_succ_eq_append_getElem hlt,List.flatMap_append];simp
     have hft:=flat_take fmtRow b.rows (i+1)
     rw[htk,List.length_append,fmtRow_eq,List.length_append,List.length_append] at hft
     simp only[List.length_cons,List.length_nil] at hft
     rw[fmtRow_eq] at htk
     have hra:=a3 _ (List.getElem_mem hlt)
     have hg:(b.rows.map fun r=>LV.list (r.map str))[((i:Nat):Int).toNat]? = some (.list (b.rows[i].map str)):=map_get _ _ _ hlt
     generalize b.rows[i]=r at *
     generalize (b.rows.take i).flatMap fmtRow=T at *
     have hrr:(r.map str).length=r.length:=List.length_map _
     refine gae ?_
     refine oP (xR (el':=.list (r.map str)) (cs:=[.list (r.map str)]) rfl rfl zo hg rfl rfl) rfl ?_
     refine gaa ?_
     refine oS (S.callH (H1:=HB) (F:=[]) [_,_] rfl (by rw[List.append_nil]) (writeString_spec b4 _ [124] HB hB (by simp only[List.length_cons,List.length_nil];omega)) (fun y H3 h=>?_) (by rintro ch H3 ⟨⟨x,h⟩,_⟩;cases h)) rfl
     obtain ⟨⟨y',hy'⟩,hB3⟩:=h
     cases hy'
     rw[List.append_nil]
     refine gaa ?_
     refine oL (fun k sl H=>∃ x:Nat,x≤r.length∧k=r.length-x∧BH b4 (T++[124]++rowT (r.take x)) H∧sl=[(4,ptr b4 0),(27,.list (b.rows.map fun r=>.list (r.map str))),(28,int .i64 b.rows.length),(29,int .i64 i),(34,.list (r.map str)),(35,int .i64 r.length),(36,int .i64 x)])
      ⟨_,_,_,⟨0,Nat.zero_le _,rfl,by rw[List.take_zero];simpa [rowT] using hB3,rfl⟩,⟨rfl,rfl,rfl,rfl,rfl,int_eq zo,rfl,trivial⟩,HSub.refl _⟩ ?_
     rintro k sl HB2 ⟨x,hx,rfl,hB2,rfl⟩ j2 hj2
     have hrt:=flat_take (fun c:Wd=>32::(c++[32,124])) r
     refine gaj ?_
     refine oC rfl (fun hc=>?_) (fun hc=>?_)
     ·have hxl:x<r.length:=by have:=zt hc;omega
      have hrs:rowT (r.take (x+1))=rowT (r.take x)++([32]++r[x]++[32,124]):=by rw[List.take_succ_eq_append_getElem hxl,rowT_snoc]
      have hlx:(rowT (r.take (x+1))).length≤(rowT r).length:=hrt (x+1)
      rw[hrs] at hlx
      simp only[List.length_append,List.length_cons,List.length_nil] at hlx
      refine gae ?_
      refine oP (xR (el':=str r[x]) (cs:=[str r[x]]) rfl rfl zo (map_get _ _ _ hxl) rfl rfl) rfl ?_
      generalize r[x]=c at *
      refine gaa ?_
      refine oS (S.callH (H1:=HB2) (F:=[]) [_,_] rfl (by rw[List.append_nil]) (writeString_spec b4 _ ([32]++c++[32,124]) HB2 hB2 (by simp only[List.length_append,List.length_cons,List.length_nil];omega)) (fun y H4 h=>?_) (by rintro ch H4 ⟨⟨x,h⟩,_⟩;cases h)) rfl
      obtain ⟨⟨y',hy'⟩,hB4⟩:=h
      cases hy'
      rw[List.append_nil]
      refine gac ?_
      exact ⟨_,_,_,by omega,⟨x+1,by omega,rfl,by rw[hrs,←List.append_assoc];exact hB4,rfl⟩,⟨rfl,rfl,rfl,rfl,rfl,rfl,int_eq zo,trivial⟩,HSub.refl _,hj2⟩
     ·have hxl:x=r.length:=by have:=zf hc;omega
      subst hxl
      rw[List.take_length] at hB2
      refine gac ?_
      refine oS (S.callH (H1:=HB2) (F:=[]) [_,_] rfl (by rw[List.append_nil]) (writeString_spec b4 _ [10] HB2 hB2 (by simp only[List.length_append,List.length_cons,List.length_nil];omega)) (fun y H4 h=>?_) (by rintro ch H4 ⟨⟨x,h⟩,_⟩;cases h)) rfl
      obtain ⟨⟨y',hy'⟩,hB4⟩:=h
      cases hy'
      rw[List.append_nil]
      refine gac ?_
      exact ⟨_,_,_,by omega,⟨i+1,by omega,rfl,by rw[htk];simpa only[List.append_assoc] using hB4,rfl⟩,⟨rfl,rfl,rfl,int_eq zo,trivial⟩,HSub.refl _,hj2.trans hj1⟩
    ·have hi':i=b.rows.length:=by have:=zf hc;omega
     subst hi'
     rw[List.take_length] at hB
     refine gac ?_
     refine oS (S.callH (H1:=HB) (F:=[]) [_] rfl (by rw[List.append_nil]) (string_spec b4 _ HB hB zo) (fun y H4 h=>?_) (by rintro ch H4 ⟨h,_⟩;cases h)) rfl
     obtain ⟨hy,rfl⟩:=h
     cases hy
     refine gab ?_
     exact retRet hj1 (rC (zrt rfl) (zra rfl)) (by rw[hR];rfl)
   ·have h3:b.kind≠3:=by have:=zf h;omega
    refine gac ?_
    refine oC rfl (fun h=>?_) (fun h=>?_)
    ·have hk:b.kind=4:=by have:=zt h;omega
     have hR:fmtB b=some ([33,32]++Go.Lib.itoa b.width++[32]++b.runs++[10]):=by unfold fmtB;rw[if_neg h1,if_neg h2,if_neg h3,if_pos hk]
     have hwd:=hw hk
     have hil:(Go.Lib.itoa (b.width:Int)).length≤10:=by rw[itoa_nat];exact dec_le10 hwd
     refine gad ?_
     refine LCode.draw (m:=11) rfl [(b2,.cells 49 [int .i64 b.kind,.list (b.words.map str),.list (b.rows.map fun r=>.list (r.map str)),str b.runs,int .i64 b.width])] ?_
     refine aT 0 rfl rfl (Pure.fieldH rfl) ?_
     refine aT 1 rfl rfl (Pure.loadH (c:=.atom _) rfl zm0 rfl) ?_
     refine aT 5 rfl rfl (Pure.fieldH rfl) ?_
     refine aT 6 rfl rfl (Pure.loadH (c:=.atom _) rfl zm0 rfl) ?_
     refine LAny.late ?_ zhr
     refine lO 2 (lS (H1:=[]) rfl (.inl rfl) rfl zpr zhr (S.fn [_] rfl (itoa_spec hG b.width zo zo) ?_))
     refine lO 3 (lH rfl rfl (Pure.sadd rfl rfl (by simp only[List.length_append,List.length_cons,List.length_nil];omega)) ?_)
     refine lO 4 (lH rfl rfl (Pure.sadd rfl rfl (by simp only[List.length_append,List.length_cons,List.length_nil];omega)) ?_)
     refine lO 7 (lH rfl rfl (Pure.sadd rfl rfl (by simp only[List.length_append,List.length_cons,List.length_nil];omega)) ?_)
     refine lO 8 (lH rfl rfl (Pure.sadd rfl rfl (by simp only[List.length_append,List.length_cons,List.length_nil];omega)) ?_)
     refine lO 9 (lH rfl rfl (Pure.as (lv:=.atom _) rfl) ?_)
     refine lO 10 (lH rfl rfl (Pure.as (lv:=.atom _) rfl) ?_)
     refine lD zk ?_
     refine gab ?_
     exact retRet rfl (rC (zrt rfl) (zra rfl)) (by rw[hR];rfl)
    ·have h4:b.kind≠4:=by have:=zf h;omega
     have hR:fmtB b=none:=by unfold fmtB;rw[if_neg h1,if_neg h2,if_neg h3,if_neg h4]
     refine gac ?_
     exact retRet rfl (rC (zrt rfl) (zra rfl)) (by rw[hR];rfl)
theorem fmtBs_len:∀ {l:List Blk} {ts:List Wd},fmtBs l=some ts→(∀ b∈l,b.kind=4→b.width≤1000000000)→ts.length=l.length∧(ts.map fun w=>w.length+1).sum≤22 * bws l
 |[],ts,h,_=>by cases h;exact ⟨rfl,Nat.zero_le _⟩
 |b::l,ts,h,hw=>by
  rw[fmtBs] at h
  cases hb:fmtB b with
  |none=>rw[hb] at h;cases h
  |some s=>
   cases hl:fmtBs l with
   |none=>rw[hb,hl] at h;cases h
   |some q=>
    rw[hb,hl] at h
    cases h
    obtain ⟨e1,e2⟩:=fmtBs_len hl fun x hx=>hw x (List.mem_cons_of_mem _ hx)
    have e3:=fmtB_len hb (hw b (by simp))
    have e4:6≤bw b:=by unfold bw;omega
    have e5:bws (b::l)=bw b+bws l:=by simp[bws]
    refine ⟨by rw[List.length_cons,List.length_cons,e1],?_⟩
    rw[List.map_cons,List.sum_cons,e5]
    omega
theorem format_spec (hG:GW B0 w0) (l:List Blk) (hb:bws l≤1000000) (hw:∀ b∈l,b.kind=4→b.width≤1000000000):LCalls (KC B0 w0) 19 [.list (l.map encB)] [] (Ret (fmtLV (fmtP l))):=by
 have hla:(l.map encB).length=l.length:=List.length_map _
 have hnl:=bws_len l
 refine cI Tryz.func19 rfl (n:=52) rfl rfl rfl ?_
 refine gaa ?_
 refine oL (fun k sl H=>∃ (i:Nat) (parts:List Wd) (v:LV),i≤l.length∧k=l.length-i∧fmtBs (l.take i)=some parts∧Acc 1 v (parts.map str) H []∧sl=[(0,.list (l.map encB)),(4,v),(13,.list (l.map encB)),(14,int .i64 l.length),(15,int .i64 i)])
  ⟨_,_,_,⟨0,[],nilSlice,Nat.zero_le _,rfl,rfl,Acc.nil,rfl⟩,⟨rfl,rfl,rfl,int_eq zo,rfl,trivial⟩,HSub.refl _⟩ ?_
 rintro k sl H ⟨i,parts,v,hi,rfl,hpt,hacc,rfl⟩ j1 hj1
 refine gaj ?_
 refine oC rfl (fun hc=>?_) (fun hc=>?_)
 ·have hlt:i<l.length:=by have:=zt hc;omega
  have hm:l[i]∈l:=List.getElem_mem hlt
  have hF:=format1_spec hG l[i] (by have:=bws_mem hm;omega) (hw _ hm)
  have hg:(l.map encB)[((i:Nat):Int).toNat]? = some (encB l[i]):=map_get _ _ _ hlt
  have hpn:fmtBs (l.take (i+1))=match fmtB l[i] with
    |none=>none
    |some s=>some (parts++[s]):=by
   rw[List.take_succ_eq_append_getElem hlt,fmtBs_app,hpt]
   simp only[fmtBs]
   cases fmtB l[i] <;> rfl
  have hpl:fmtBs l=match fmtBs (l.take (i+1)),fmtBs (l.drop (i+1)) with
    |some x,some y=>some (x++y)
    |_,_=>none:=by rw[←fmtBs_app,List.take_append_drop]
  have hcl:=(fmtBs_len hpt fun x hx=>hw x (List.mem_of_mem_take hx)).1
  rw[List.length_take] at hcl
  generalize l[i]=b at *
  obtain ⟨kind,words,rows3,runs,width⟩:=b
  refine gae ?_
  refine oP (xR (el':=encB ⟨kind,words,rows3,runs,width⟩) (cs:=[int .i64 kind,.list (words.map str),.list (rows3.map fun r=>.list (r.map str)),str runs,int .i64 width]) rfl rfl zo hg rfl rfl) rfl ?_
  refine gab ?_
  refine oS (S.alloc fun b6=>?_) rfl
  refine gaa ?_
  refine oS (S.fn [_] rfl hF ?_) rfl
  cases hr:fmtB ⟨kind,words,rows3,runs,width⟩ with
  |none=>
   rw[hr] at hpn
   simp only at hpn
   rw[hpn] at hpl
   have hP:fmtP l=.error 10:=by
    unfold fmtP
    rw[hpl]
   unfold optLV
   refine gaa ?_
   refine oC rfl (fun _=>?_) (fun h=>by cases h)
   refine gaa ?_
   exact retRet hj1 (rC (zrt rfl) (zra rfl)) (by rw[hP];rfl)
  |some s=>
   rw[hr] at hpn
   simp only at hpn
   unfold optLV
   refine gaa ?_
   refine oC rfl (fun h=>by cases h) (fun _=>?_)
   refine LCode.weak (H':=H) (zhD zhr) ?_
   refine gae ?_
   refine oP (Pure.mv (lv:=v) rfl) rfl ?_
   refine gag ?_
   refine oS (S.lit [_] (es:=[str s]) rfl (eC rfl rfl eN) rfl rfl rfl ?_) rfl
   refine oS (S.acc (F:=[]) rfl hacc rfl (by simp[LV.cells]) rfl (by simp only[List.length_map,List.length_cons,List.length_nil];omega) fun v' H' hacc'=>?_) rfl
   refine oP (Pure.as (lv:=v') rfl) rfl ?_
   refine gac ?_
   exact ⟨_,_,_,by omega,⟨i+1,parts++[s],v',by omega,rfl,hpn,by rw[List.map_append];exact hacc',rfl⟩,⟨rfl,rfl,rfl,rfl,int_eq zo,trivial⟩,HSub.refl _,hj1⟩
 ·have hi':i=l.length:=by have:=zf hc;omega
  subst hi'
  rw[List.take_length] at hpt
  obtain ⟨q1,q2⟩:=fmtBs_len hpt hw
  have hjl:=join_le 10 parts
  have hP:fmtP l=if 20000<(Go.Lib.join parts [10]).length then .error 6 else match docP (Go.Lib.join parts [10]) with
    |.ok bs=>if bs=l then .ok (Go.Lib.join parts [10]) else .error 3
    |.error _=>.error 3:=by
   unfold fmtP
   rw[hpt]
   rfl
  have hJ:=joinS_spec (B0:=B0) (w0:=w0) [10] parts zo zo
  generalize Go.Lib.join parts [10]=t at *
  refine LCode.sub (d:=4) (v:=v) rfl hacc.sub ?_
  refine gac ?_
  refine oS (S.fn [_,_] rfl hJ ?_) rfl
  refine gaa ?_
  refine oC rfl (fun h=>?_) (fun h=>?_)
  ·rw[if_pos (by have:=zt h;omega)] at hP
   refine gaf ?_
   exact retRet hj1 (rC (zrt rfl) (zra rfl)) (by rw[hP];rfl)
  ·rw[if_neg (by have:=zf h;omega)] at hP
   refine gae ?_
   refine oS (S.fn [_] rfl (parse_spec hG t zo) ?_) rfl
   cases hd:docP t with
   |error q=>
    obtain ⟨x,y⟩:=q
    rw[hd] at hP
    have hy:=docP_err hd
    unfold docLV
    refine gaa ?_
    refine oB 45 rfl (fun h=>?_) (fun h=>absurd (zt (not_f h)) zo)
    refine gah ?_
    refine oC rfl (fun _=>?_) (fun h=>by cases h)
    refine gaf ?_
    exact retRet hj1 (rC (zrt rfl) (zra rfl)) (by rw[hP];rfl)
   |ok bs=>
    rw[hd] at hP
    simp only at hP
    have hbb:=docP_bws hd
    have hbt:=(docP_ok.1 hd).1
    unfold docLV
    refine gaa ?_
    refine oB 45 rfl (fun h=>by cases h) (fun h=>?_)
    refine oS (S.fn [_,_,_] rfl (equalB_spec bs l zo zo) ?_) rfl
    refine gab ?_
    refine oC rfl (fun h=>?_) (fun h=>?_)
    ·have hne:bs≠l:=zf (not_t h)
     rw[if_neg hne] at hP
     refine gaf ?_
     exact retRet hj1 (rC (zrt rfl) (zra rfl)) (by rw[hP];rfl)
    ·have heq:bs=l:=zt (not_f h)
     rw[if_pos heq] at hP
     refine gac ?_
     exact retRet hj1 (rC (zrt rfl) (zra rfl)) (by rw[hP];rfl)
end
end Go.Proofs.YtocofhbdbgnmbaaGreatDoor
namespace Go.Stele
open Go.Lib
def sum3 (ws:List Nat):Nat:=(ws.map (·+3)).sum
def lens (r:List Wd):Nat:=(r.map List.length).sum
theorem widen_sum:∀ (ws:List Nat) (r:List Wd),sum3 (widen ws r)≤sum3 ws+(r.map fun c=>c.length+4).sum
 |ws,[]=>by cases ws <;> simp[widen]
 |[],c::r=>by
  have ih:=widen_sum [] r
  simp only[widen,sum3,List.map_cons,List.sum_cons,List.map_nil,List.sum_nil] at ih ⊢
  omega
 |w::ws,c::r=>by
  have ih:=widen_sum ws r
  simp only[widen,sum3,List.map_cons,List.sum_cons] at ih ⊢
  omega
theorem widths_sum:∀ (rows:List (List Wd)) (ws:List Nat),sum3 (rows.foldl widen ws)≤sum3 ws+(rows.map fun r=>(r.map fun c=>c.length+4).sum).sum
 |[],ws=>by simp
 |r::rows,ws=>by
  have ih:=widths_sum rows (widen ws r)
  have h:=widen_sum ws r
  simp only[List.foldl_cons,List.map_cons,List.sum_cons]
  omega
theorem four_three:∀ r:List Wd,(r.map fun c=>c.length+4).sum≤2 * (r.map fun c=>c.length+3).sum
 |[]=>by simp
 |c::r=>by
  have:=four_three r
  simp only[List.map_cons,List.sum_cons]
  omega
theorem rows_four:∀ rows:List (List Wd),(rows.map fun r=>(r.map fun c=>c.length+4).sum).sum≤2 * (rows.map fun r=>(r.map fun c=>c.length+3).sum+2).sum
 |[]=>by simp
 |r::rows=>by
  have:=rows_four rows
  have:=four_three r
  simp only[List.map_cons,List.sum_cons]
  omega
theorem tabCells_sum:∀ (ws:List Nat) (r:List Wd),(tabCells ws r).length≤sum3 ws+lens r
 |[],r=>by simp[tabCells]
 |w::ws,[]=>by
  have ih:=tabCells_sum ws []
  simp only[tabCells,sum3,lens,List.map_cons,List.sum_cons,List.length_append,List.length_cons,List.length_replicate,List.length_nil,List.map_nil,List.sum_nil] at ih ⊢
  omega
 |w::ws,c::r=>by
  have ih:=tabCells_sum ws r
  simp only[tabCells,sum3,lens,List.map_cons,List.sum_cons,List.length_append,List.length_cons,List.length_replicate,List.length_nil] at ih ⊢
  omega
theorem lens_le:∀ r:List Wd,lens r≤(r.map fun c=>c.length+3).sum
 |[]=>Nat.le_refl _
 |c::r=>by
  have ih:=lens_le r
  simp only[lens,List.map_cons,List.sum_cons] at ih ⊢
  omega
theorem mem_sum {A:Type} (f:A→Nat):∀ {l:List A} {a:A},a∈l→f a≤(l.map f).sum
 |b::l,a,h=>by
  rcases List.mem_cons.1 h with rfl|h
  ·simp only[List.map_cons,List.sum_cons];omega
  ·have:=mem_sum f h
   simp only[List.map_cons,List.sum_cons];omega
theorem text_of {k:Nat}:∀ {l:List Wd},(∀ r∈l,r.length≤k)→(textP l).length≤l.length * (k+1)
 |[],_=>by simp[textP]
 |r::l,h=>by
  have ih:=text_of (l:=l) fun x hx=>h x (List.mem_cons_of_mem _ hx)
  have hr:=h r (by simp)
  have e:textP (r::l)=(r++[10])++textP l:=by unfold textP;rw[List.flatMap_cons]
  rw[e,List.length_append,List.length_append,show (r::l).length=l.length+1 from rfl,Nat.succ_mul]
  simp only[List.length_cons,List.length_nil]
  omega
theorem table_len (rows:List (List Wd)) {B:Nat} (hB:(rows.map fun r=>(r.map fun c=>c.length+3).sum+2).sum≤B):(textP (tableP rows)).length≤B * (3 * B+2):=by
 have h1:=widths_sum rows []
 have h2:=rows_four rows
 have h3:sum3 (widthsP rows)≤2 * B:=by
  have:sum3 []=0:=rfl
  unfold widthsP
  omega
 have h4:∀ x∈tableP rows,x.length≤3 * B+1:=fun x hx=>by
  obtain ⟨r,hr,rfl⟩:=List.mem_map.1 hx
  have h5:=tabCells_sum (widthsP rows) r
  have h6:=lens_le r
  have h7:=mem_sum (fun r:List Wd=>(r.map fun c=>c.length+3).sum+2) hr
  have h8:(tabLine (widthsP rows) r).length=(tabCells (widthsP rows) r).length+1:=rfl
  omega
 have h5:=text_of h4
 have h6:(tableP rows).length=rows.length:=List.length_map _
 have h7:∀ l:List (List Wd),l.length≤(l.map fun r=>(r.map fun c=>c.length+3).sum+2).sum:=by
  intro l
  induction l with
  |nil=>simp
  |cons a l ih=>simp only[List.map_cons,List.sum_cons,List.length_cons];omega
 have h8:=h7 rows
 rw[h6] at h5
 exact Nat.le_trans h5 (Nat.mul_le_mul (Nat.le_trans h8 hB) (by omega))
theorem flatten_words:∀ l:List Wd,l.flatten.length≤(l.map fun w=>w.length+1).sum
 |[]=>by simp
 |a::l=>by
  have:=flatten_words l
  rw[List.flatten_cons,List.length_append,List.map_cons,List.sum_cons]
  omega
theorem longest_le {k:Nat}:∀ (l:List Wd) (m:Nat),m≤k→(∀ r∈l,r.length≤k)→l.foldl (fun m s=>max m s.length) m≤k
 |[],m,h,_=>h
 |a::l,m,h,hl=>longest_le l _ (Nat.max_le.2 ⟨h,hl a (by simp)⟩) fun r hr=>hl r (List.mem_cons_of_mem _ hr)
theorem expand_len {runs:Wd} {w:Nat} {rows:List Wd} (h:expandP runs w=.ok rows):(textP rows).length≤40200:=by
 unfold expandP at h
 split at h
 ·cases h
 ·split at h
  ·cases h
  ·split at h
   ·cases h
   ·split at h
    ·cases h
    ·injection h with h
     rename_i _ l _ _ h3
     subst h
     have h4:∀ (n:Nat) (s:Wd),(rowsOf w n s).length=n∧∀ r∈rowsOf w n s,r.length≤w:=by
      intro n
      induction n with
      |zero=>intro s;exact ⟨rfl,fun r hr=>by cases hr⟩
      |succ n ih=>
       intro s
       obtain ⟨i1,i2⟩:=ih (s.drop w)
       refine ⟨by rw[rowsOf,List.length_cons,i1],fun r hr=>?_⟩
       rw[rowsOf] at hr
       rcases List.mem_cons.1 hr with rfl|hr
       ·rw[List.length_take];omega
       ·exact i2 r hr
     obtain ⟨e1,e2⟩:=h4 (runLen l / w) (runCells l)
     have e3:=text_of e2
     rw[e1] at e3
     refine Nat.le_trans e3 ?_
     exact Nat.le_trans (Nat.mul_le_mul (show runLen l / w≤200 by omega) (show w+1≤201 by omega)) (by decide)
theorem part_len {w:Nat} (hw:1≤w∧w≤200) {b:Blk} {rows:List Wd} (h:rowsP w b=.ok rows):(textP rows).length≤50000+bw b * (3 * bw b+2):=by
 have hf:=flatten_words b.words
 have hm:3 * bw b≤bw b * (3 * bw b+2):=by
  have:6≤bw b:=by unfold bw;omega
  calc 3 * bw b=bw b * 3:=Nat.mul_comm _ _
   _≤bw b * (3 * bw b+2):=Nat.mul_le_mul_left _ (by omega)
 have hwd:(b.words.map fun w=>w.length+1).sum≤bw b:=by unfold bw;omega
 unfold rowsP at h
 split at h
 ·split at h
  ·rename_i hk
   injection h with h
   subst h
   obtain ⟨p1,p2,p3⟩:=wrap_props (w:=w) hw.1 hk
   unfold headP
   split
   ·simp[textP]
   ·have e:textP (wrapP b.words w++[List.replicate (longest (wrapP b.words w)) 61])=textP (wrapP b.words w)++(List.replicate (longest (wrapP b.words w)) 61++[10]):=by unfold textP;rw[List.flatMap_append];simp
    have hl:longest (wrapP b.words w)≤w:=longest_le _ 0 (Nat.zero_le _) fun r hr=>(p1 r hr).2.1
    rw[e,List.length_append,text_len,List.length_append,List.length_replicate]
    simp only[List.length_cons,List.length_nil]
    omega
  ·cases h
 ·split at h
  ·split at h
   ·rename_i hk
    injection h with h
    subst h
    obtain ⟨p1,p2,p3⟩:=wrap_props (w:=w) hw.1 hk
    rw[text_len]
    omega
   ·cases h
  ·split at h
   ·injection h with h
    subst h
    have:=table_len b.rows (B:=bw b) (by unfold bw;omega)
    omega
   ·have:=expand_len h
    omega
theorem body_len {w:Nat} (hw:1≤w∧w≤200) {B:Nat}:∀ {l:List Blk} {parts:List Wd},bws l≤B→bodyP w l=.ok parts→(parts.map fun p=>p.length+1).sum≤bws l * (50001+(3 * B+2))
 |[],parts,_,h=>by cases h;simp
 |b::l,parts,hB,h=>by
  have e5:bws (b::l)=bw b+bws l:=by simp[bws]
  rw[bodyP] at h
  cases hr:rowsP w b with
  |error e=>rw[hr] at h;cases h
  |ok rows=>
   cases hl:bodyP w l with
   |error e=>rw[hr,hl] at h;cases h
   |ok q=>
    rw[hr,hl] at h
    cases h
    have ih:=body_len hw (l:=l) (B:=B) (by omega) hl
    have hp:=part_len hw hr
    have h6:6≤bw b:=by unfold bw;omega
    rw[List.map_cons,List.sum_cons,e5,Nat.add_mul]
    have h7:bw b * (3 * bw b+2)≤bw b * (3 * B+2):=Nat.mul_le_mul_left _ (by omega)
    have h8:50001≤bw b * 50001:=Nat.le_mul_of_pos_left _ (by omega)
    rw[Nat.mul_add]
    omega
theorem bws_pre (l:List Blk) (i:Nat):bws (l.take i)≤bws l:=by
 have h:bws l=bws (l.take i)+bws (l.drop i):=by rw[←bws_app,List.take_append_drop]
 omega
theorem body_small {w:Nat} (hw:1≤w∧w≤200) {l:List Blk} (hl:bws l≤20100) (i:Nat) {parts:List Wd} (h:bodyP w (l.take i)=.ok parts):(join parts [10]).length≤4000000000:=by
 have h1:=bws_pre l i
 have h2:=body_len hw (B:=20100) (by omega) h
 have h3:=join_le 10 parts
 have h4:bws (l.take i) * (50001+(3 * 20100+2))≤20100 * (50001+(3 * 20100+2)):=Nat.mul_le_mul_right _ (by omega)
 omega
end Go.Stele
namespace Go.Proofs.YtocofhbdbgnmbaaGreatDoor
open Go.GL Go.RowKit Go.Stele
set_option maxRecDepth 100000
set_option maxHeartbeats 4000000
def aliveT:List UInt8:=[35,32,79,110,101,10,116,119,111,32,116,104,114,101,101]
theorem aliveT_is:renderP aliveT 5=.ok [79,110,101,10,61,61,61,10,10,116,119,111,10,116,104,114,101,101,10]:=by kernel_rfl
theorem small_of {text:List UInt8} (h:text.length≤5000) {l:List Blk} (hl:docP text=.ok l):bws l≤20100:=by
 have:=docP_bws hl
 omega
theorem ren_shape (r:Except (Nat×Nat) Wd):∃ (s:Wd) (n e:Int),renLV r=.tuple [str s,int .i64 n,int .i64 e]:=by
 cases r with
 |ok s=>exact ⟨s,0,0,rfl⟩
 |error q=>obtain ⟨n,e⟩:=q;exact ⟨[],n,e,rfl⟩
theorem bodyP_err {w:Nat}:∀ {l:List Blk} {e:Nat},bodyP w l=.error e→0<e
 |[],e,h=>by cases h
 |b::l,e,h=>by
  rw[bodyP] at h
  cases hr:rowsP w b with
  |error x=>
   rw[hr] at h
   cases h
   exact rowsP_err hr
  |ok rows=>
   cases hl:bodyP w l with
   |error x=>
    rw[hr,hl] at h
    cases h
    exact bodyP_err hl
   |ok q=>rw[hr,hl] at h;cases h
theorem renderP_err {text:Wd} {w:Int} {n e:Nat} (h:renderP text w=.error (n,e)):0<e:=by
 unfold renderP at h
 split at h
 ·cases h;decide
 ·split at h
  ·rename_i q hd
   cases h
   exact docP_err hd
  ·split at h
   ·rename_i hb
    cases h
    exact bodyP_err hb
   ·split at h
    ·cases h;decide
    ·cases h
theorem fmtP_err {l:List Blk} {e:Nat} (h:fmtP l=.error e):0<e:=by
 unfold fmtP at h
 split at h
 ·cases h;decide
 ·split at h
  ·cases h;decide
  ·split at h
   ·split at h
    ·cases h
    ·cases h;decide
   ·cases h;decide
theorem good_width {b:Blk} (h:GoodB b):b.kind=4→b.width≤1000000000:=fun hk=>by
 rcases h with h|h|h|h
 ·omega
 ·omega
 ·omega
 ·omega
attribute [local irreducible] LOps LCode LStep LCalls Go.GL.Pure QThen QBlock RetPost LQ LAny LLate LLateOp
section
variable {B0:Nat} {w0:World}
theorem render_le (hG:GW B0 w0) (text:List UInt8) (w:Int) (hs:text.length≤100000) (hb:∀ l,docP text=.ok l→bws l≤20100):LCalls (KC B0 w0) 9 [str text,int .i64 w] [] (Ret (renLV (renderP text w))):=
 render_spec hG text w zo fun hw l i parts hl hp=>body_small (w:=w.toNat) ⟨by omega,by omega⟩ (hb l hl) i hp
theorem rrender_le (text:List UInt8) (w:Int) (hs:text.length≤100000) (hb:∀ l,docP text=.ok l→bws l≤20100):LCalls (KC B0 w0) 10 [str text,int .i64 w] [] (Ret (renLV (renderP text w))):=
 rrender_spec text w zo fun hw l i parts hl hp=>body_small (w:=w.toNat) ⟨by omega,by omega⟩ (hb l hl) i hp
theorem alive_spec (hG:GW B0 w0):LCalls (KC B0 w0) 8 [] [] (Ret (bool true)):=by
 have h1:=render_le hG aliveT 5 (by decide) (fun l hl=>small_of (by decide) hl)
 rw[aliveT_is] at h1
 refine cI Tryz.func8 rfl (n:=19) rfl rfl rfl ?_
 refine gaf ?_
 refine oS (S.fn [_,_] rfl h1 ?_) rfl
 unfold renLV
 refine gaa ?_
 exact retRet rfl (zra rfl) rfl
theorem renders_law (hG:GW B0 w0) (text:List UInt8) (w:Int):LCalls (KC B0 w0) 3 [str text,int .i64 w] [] (Ret (bool true)):=by
 refine cI Tryz.func3 rfl (n:=43) rfl rfl rfl ?_
 refine gaf ?_
 refine oS (S.fn [] rfl (alive_spec hG) ?_) rfl
 refine gab ?_
 refine oC rfl (fun h=>by cases h) (fun _=>?_)
 refine gaa ?_
 refine oC rfl (fun h=>?_) (fun h=>?_)
 ·refine gaf ?_
  exact retRet rfl (zra rfl) rfl
 have hl:text.length≤1000:=by have:=zf h;omega
 have h1:=render_le hG text w zo (fun l hl=>small_of zo hl)
 have h2:=rrender_le (B0:=B0) (w0:=w0) text w zo (fun l hl=>small_of zo hl)
 obtain ⟨s,n,e,hr⟩:=ren_shape (renderP text w)
 rw[hr] at h1 h2
 refine gae ?_
 refine oS (S.fn [_,_] rfl h1 ?_) rfl
 refine gaa ?_
 refine oS (S.fn [_,_] rfl h2 ?_) rfl
 refine gaa ?_
 refine oB 33 rfl (fun _=>?_) (fun h=>absurd rfl (zf h))
 refine gad ?_
 refine oB 38 rfl (fun _=>?_) (fun h=>absurd rfl (zf h))
 refine gad ?_
 exact retRet rfl (zra rfl) (bool_eq (decide_eq_true rfl))
theorem blocks_walk (hG:GW B0 w0) (text:List UInt8) (width:Nat) (hwb:width<256):LCalls (KC B0 w0) 5 [str text,int .u8 width] [] (Ret (bool true)):=by
 have hmod:((width:Nat):Int).tmod 200=((width % 200:Nat):Int):=by rw[Int.tmod_eq_emod_of_nonneg zo];rfl
 refine cI Tryz.func5 rfl (n:=115) rfl rfl rfl ?_
 refine gaf ?_
 refine oS (S.fn [] rfl (alive_spec hG) ?_) rfl
 refine gab ?_
 refine oC rfl (fun h=>by cases h) (fun _=>?_)
 refine gaa ?_
 refine oC rfl (fun h=>?_) (fun h=>?_)
 ·refine gaf ?_
  exact retRet rfl (zra rfl) rfl
 have hl:text.length≤1000:=by have:=zf h;omega
 refine gaa ?_
 rw[wrap_i64 zo]
 refine oP (Pure.remW rfl rfl (by decide)) rfl ?_
 rw[hmod]
 refine oP (Pure.addE (c:=((1+width % 200:Nat):Int)) rfl rfl zo zo) rfl ?_
 have hW:1≤1+width % 200∧1+width % 200≤200:=by omega
 generalize 1+width % 200=W at *
 refine gac ?_
 refine oS (S.fn [_,_] rfl (render_le hG text W zo fun l hl=>small_of zo hl) ?_) rfl
 cases hr:renderP text W with
 |error q=>
  obtain ⟨n,e⟩:=q
  have he:=renderP_err hr
  unfold renLV
  refine gaa ?_
  refine oC rfl (fun _=>?_) (fun h=>absurd (zt (not_f h)) zo)
  refine gaa ?_
  exact retRet rfl (zra rfl) rfl
 |ok s=>
  obtain ⟨l,parts,h1,h2,h3,h4,h5⟩:=blocks_law hW hl hr
  have hbw:=docP_bws h1
  have hgd:=docP_good h1
  have hnl:=bws_len l
  have hla:(l.map encB).length=l.length:=List.length_map _
  have hpd:=parse_spec hG text zo
  rw[h1] at hpd
  unfold renLV
  refine gaa ?_
  refine oC rfl (fun h=>by cases h) (fun _=>?_)
  refine gae ?_
  refine oS (S.fn [_] rfl hpd ?_) rfl
  unfold docLV
  refine gaa ?_
  refine oC rfl (fun h=>by cases h) (fun _=>?_)
  refine gaa ?_
  refine oL (fun k sl H=>∃ (i:Nat) (v:LV),i≤l.length∧k=l.length-i∧(∀ b∈l.take i,∃ t,fmtP [b]=.ok t)∧Acc 1 v ((parts.take i).map str) H []∧sl=[(5,int .i64 W),(6,str s),(9,.list (l.map encB)),(11,v),(52,.list (l.map encB)),(53,int .i64 l.length),(54,int .i64 i)])
   ⟨_,_,_,⟨0,nilSlice,Nat.zero_le _,rfl,(fun b hb=>by cases hb),Acc.nil,rfl⟩,⟨rfl,rfl,rfl,rfl,rfl,int_eq zo,rfl,trivial⟩,HSub.refl _⟩ ?_
  rintro k sl H ⟨i,v,hi,rfl,hok,hacc,rfl⟩ j1 hj1
  refine gaj ?_
  refine oC rfl (fun hc=>?_) (fun hc=>?_)
  ·have hlt:i<l.length:=by have:=zt hc;omega
   have hm:l[i]∈l:=List.getElem_mem hlt
   obtain ⟨p,hp,hcase⟩:=h4 i l[i] (List.getElem?_eq_getElem hlt)
   have hb1:bws [l[i]]=bw l[i]:=by simp[bws]
   have hb2:=bws_mem hm
   have hF:=format_spec hG [l[i]] zo (fun b hb=>by rw[List.mem_singleton.1 hb];exact good_width (hgd _ hm))
   have hg:(l.map encB)[((i:Nat):Int).toNat]? = some (encB l[i]):=map_get _ _ _ hlt
   have htk:l.take (i+1)=l.take i++[l[i]]:=List.take_succ_eq_append_getElem hlt
   have hpt:parts.take (i+1)=parts.take i++[p]:=by
    obtain ⟨h,hp'⟩:=List.getElem?_eq_some_iff.1 hp
    rw[List.take_succ_eq_append_getElem h,hp']
   have hpl:(parts.take i).length≤5000:=by rw[List.length_take];omega
   generalize l[i]=b at *
   obtain ⟨kind,words,rows3,runs,wid⟩:=b
   refine gae ?_
   refine oP (xR (el':=encB ⟨kind,words,rows3,runs,wid⟩) (cs:=[int .i64 kind,.list (words.map str),.list (rows3.map fun r=>.list (r.map str)),str runs,int .i64 wid]) rfl rfl zo hg rfl rfl) rfl ?_
   refine gab ?_
   refine oS (S.alloc fun b13=>?_) rfl
   refine gaa ?_
   refine oS (S.lit [_] (es:=[encB ⟨kind,words,rows3,runs,wid⟩]) rfl (eC rfl rfl eN) rfl rfl rfl ?_) rfl
   refine oS (S.fn [_] rfl hF ?_) rfl
   rcases hcase with hcase|⟨t,ht,hrt,hpne⟩
   ·rw[hcase]
    unfold fmtLV
    refine gaa ?_
    refine oC rfl (fun _=>?_) (fun h=>by cases h)
    refine gaa ?_
    exact retRet hj1 (zra rfl) rfl
   ·rw[ht]
    obtain ⟨ts,_,_,hdt⟩:=fmtP_ok ht
    have htl:=(docP_ok.1 hdt).1
    have hR:=render_le hG t W zo (fun l' hl'=>by
     rw[hdt] at hl'
     cases hl'
     omega)
    rw[hrt] at hR
    unfold fmtLV
    refine gaa ?_
    refine oC rfl (fun h=>by cases h) (fun _=>?_)
    refine gae ?_
    refine oS (S.fn [_,_] rfl hR ?_) rfl
    unfold renLV
    refine gaa ?_
    refine oC rfl (fun h=>absurd (zt h) hpne) (fun _=>?_)
    refine LCode.weak (H':=H) (zhD zhr) ?_
    refine gae ?_
    refine oP (Pure.mv (lv:=v) rfl) rfl ?_
    refine gag ?_
    refine oS (S.lit [_] (es:=[str p]) rfl (eC rfl rfl eN) rfl rfl rfl ?_) rfl
    refine oS (S.acc (F:=[]) rfl hacc rfl (by simp[LV.cells]) rfl (by simp only[List.length_map,List.length_cons,List.length_nil];omega) fun v' H' hacc'=>?_) rfl
    refine oP (Pure.as (lv:=v') rfl) rfl ?_
    refine gac ?_
    exact ⟨_,_,_,by omega,⟨i+1,v',by omega,rfl,fun b hb=>by
     rw[htk] at hb
     rcases List.mem_append.1 hb with hb|hb
     ·exact hok b hb
     ·rw[List.mem_singleton.1 hb];exact ⟨t,ht⟩,by rw[hpt,List.map_append];exact hacc',rfl⟩,⟨rfl,rfl,rfl,rfl,rfl,rfl,int_eq zo,trivial⟩,HSub.refl _,hj1⟩
  ·have hi':i=l.length:=by have:=zf hc;omega
   subst hi'
   rw[List.take_length] at hok
   rw[←h2,List.take_length] at hacc
   obtain ⟨t,ht,hrt⟩:=h5 hok
   obtain ⟨ts,_,_,hdt⟩:=fmtP_ok ht
   have htl:=(docP_ok.1 hdt).1
   have hF:=format_spec hG l zo (fun b hb=>good_width (hgd _ hb))
   rw[ht] at hF
   have hR:=render_le hG t W zo (fun l' hl'=>by
    rw[hdt] at hl'
    cases hl'
    omega)
   rw[hrt] at hR
   have hjl:(Go.Lib.join parts [10]).length≤65536:=by
    obtain ⟨_,_,q1,q2,q3,q4⟩:=(renderP_ok hW).1 hr
    rw[←h3,q4];exact q3
   have hJ:=joinS_spec (B0:=B0) (w0:=w0) [10] parts zo zo
   rw[←h3] at hJ
   refine LCode.sub (d:=11) (v:=v) rfl hacc.sub ?_
   refine gac ?_
   refine oS (S.fn [_] rfl hF ?_) rfl
   unfold fmtLV
   refine gaa ?_
   refine oS (S.fn [_,_] rfl hR ?_) rfl
   unfold renLV
   refine gaa ?_
   refine oB 109 rfl (fun _=>?_) (fun h=>absurd rfl (zf h))
   refine gad ?_
   refine oS (S.fn [_,_] rfl hJ ?_) rfl
   refine gab ?_
   exact retRet hj1 (zra rfl) (bool_eq (decide_eq_true rfl))
end
end Go.Proofs.YtocofhbdbgnmbaaGreatDoor
