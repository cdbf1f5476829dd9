import Derived.Test.YtmnjklgnhpnckaaGreatDoorBRowLB14
set_option linter.unusedVariables false
set_option linter.unusedSimpArgs false
set_option maxRecDepth 100000
set_option maxHeartbeats 4000000
open Go.GL (zk)
open List (length_reverse reverse_cons mem_append_right not_mem_nil)
open Nat (sub_self ble_eq zero_le)
namespace Go.Proofs.YtmnjklgnhpnckaaGreatDoor.Lb
open Go.GL Go.RowKit Go.ea
open Go.ea.Wi.Wc.Q
abbrev JO:List UInt8:=[98,108,97,107,101]
abbrev LP:List UInt8:=[98,108,97,107,101,109,97,105,110]
theorem qxQ:BF Bk.P 3000=true:=zk
noncomputable def ZH:List UInt8:=uo++ri
theorem qz0:Gi [JO,LP] []=(ZH,0):=by rw[Gi,qv0,zn da,Gi,qnr,zn da,Gi];rfl
theorem qwK:su ZH=(Bk.P,0,0):=zk
theorem qzc:∃ code,mz [JO,LP] code/\∀ l:List Nat,(∀ v∈l,v<256)->l.length<=300->∃ K,runM 5000000 (Zu code 10000 l)=(0,Bk.uh (Bk.mg (l.length+1) Bk.Ak 0 l),K):=by
 have run:∀ l:List Nat,(∀ v∈l,v<256)->l.length<=300->∃ ua,(Go.ea.Wi.Wc.Zd Bk.P ua l 1500000).1=0/\(Go.ea.Wi.Wc.Zd Bk.P ua l 1500000).2.out=Bk.uh (Bk.mg (l.length+1) Bk.Ak 0 l):=λl hl hn=>by have:=qyh (Bk.ez l hl hn 1500000 (Nb _));rwa [Bk.fz l hn] at this
 obtain⟨f0,h0,_⟩:=run [] (λv hv=>(not_mem_nil hv).elim) da;obtain⟨code,h1,h2⟩:=qAk qxQ (names:=[JO,LP]) da qz0 qwK (i0:=[]) (λv hv=>(not_mem_nil hv).elim) ⟨f0,h0⟩;refine⟨code,h1,λl hl hn=>?_⟩;obtain⟨K,hK⟩:=h2 l (λv hv=>by have:=hl v hv;omega) 1500000 _ (run l hl hn);exact⟨K,hK 5000000 da⟩
end Go.Proofs.YtmnjklgnhpnckaaGreatDoor.Lb
