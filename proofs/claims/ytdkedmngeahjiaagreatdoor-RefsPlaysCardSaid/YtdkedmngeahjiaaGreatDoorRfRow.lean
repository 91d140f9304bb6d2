/- Rows of digests: small facts (they stand in GetsR and Gets too: never import both). -/
import Derived.Test.YtdkedmngeahjiaaGreatDoorDigB
import Derived.Test.YtdkedmngeahjiaaGreatDoorM41
import Derived.Great.FillDense
set_option maxRecDepth 100000
set_option maxHeartbeats 25600000
namespace Go.Proofs.YtdkedmngeahjiaaGreatDoor
open Go Go.RowKit
theorem row_same {W W':World} {base:Nat} {e:TypeId} {size n:Nat} {v:Value} {xs:List Value} (h:W.ownsRow base e size v n xs) (hk:∀ b,v.ownBlock=some b→W'.heap[b]?=W.heap[b]?):W'.ownsRow base e size v n xs:=by
 refine ⟨h.1,?_⟩
 rcases h.2 with h | ⟨g,cap,cur,h1,h2,h3,h4⟩
 ·exact .inl h
 ·exact .inr ⟨g,cap,cur,h1,h2,(hk g (by rw [h1];rfl)).trans h3,h4⟩
theorem row_blk {W:World} {base:Nat} {e:TypeId} {size n:Nat} {v:Value} {xs:List Value} (h:W.ownsRow base e size v n xs) {b:Nat} (hb:v.ownBlock=some b):base≤b∧b < W.heap.size∧∃ cur,W.heap[b]?=some (.cells cur e (0,0)):=by
 rcases h.2 with ⟨rfl,-⟩ | ⟨g,cap,cur,h1,h2,h3,h4⟩
 ·cases hb
 ·rw [h1] at hb
  cases hb
  exact ⟨h2,blk_lt h3,cur,h3⟩
theorem row_slice {W:World} {base:Nat} {e:TypeId} {size n:Nat} {v:Value} {xs:List Value} (h:W.ownsRow base e size v n xs):∃ p c,v=.slice p n c:=by
 rcases h.2 with ⟨rfl,h0⟩ | ⟨g,cap,cur,h1,-⟩
 ·exact ⟨none,0,by rw [h0]⟩
 ·exact ⟨_,cap,h1⟩
theorem infoD:(Tryz.prog.info? 33).map (fun i=>(i.size,i.bytes))=some (32,32):=by kernel_rfl
theorem zeroDg:(Tryz.prog.info? 33).bind (·.zero)=some (.agg z32):=by kernel_rfl
theorem dig_parts:∃ i,Tryz.prog.info? 33=some i∧i.zero=some (.agg z32)∧i.size=32∧i.bytes=32:=by
 have h1:=infoD
 have h2:=zeroDg
 cases hi:Tryz.prog.info? 33 with
 |none=>rw [hi] at h1;cases h1
 |some i =>
  rw [hi] at h1 h2
  have h3:=Option.some.inj h1
  exact ⟨i,rfl,h2,(Prod.mk.inj h3).1,(Prod.mk.inj h3).2⟩
theorem newDg (w:World) (d:List UInt8):∀ (j:Nat) (u:Value),(d.map byteV)[j]?=some u→(w.alloc (.cells (d.map byteV).toArray 33)).cell? ((⟨w.heap.size,0,none⟩:Addr).add j)=some u:=fun j u h=>by
 rw [show ((⟨w.heap.size,0,none⟩:Addr).add j)=⟨w.heap.size,j,none⟩ by simp [Addr.add];intro e;exact e.symm,cell_of_heapN (heap_new w _),List.getElem?_toArray]
 exact h
theorem fold_dig {D:List UInt8} (h:D.length=32) (z:Array Value) (hz:z.size=32):List.foldl (fun cs x=>cs.setIfInBounds x.snd x.fst) z (List.map byteV D).zipIdx=(List.map byteV D).toArray:=by
 have hl:(List.map byteV D).length=32:=by rw [List.length_map,h]
 have hf:=Go.Great.foldl_set 0 (List.map byteV D) 0 z
 simp only [Nat.zero_add] at hf
 have h4:∀ k,(List.foldl (fun cs x=>cs.setIfInBounds x.snd x.fst) z (List.map byteV D).zipIdx)[k]?=(List.map byteV D)[k]?:=fun k=>by
  have h3:=hf.2 k
  rw [hl,hz] at h3
  rw [h3]
  by_cases hk:k < 32
  ·rw [if_pos ⟨Nat.zero_le _,hk,hk⟩,Nat.sub_zero]
  ·rw [if_neg (fun h=>hk h.2.1),List.getElem?_eq_none (by rw [hl];omega),Array.getElem?_eq_none (by rw [hz];omega)]
 refine Array.ext_getElem? fun k=>?_
 exact (h4 k).trans (List.getElem?_toArray ..).symm
theorem dig_load {W8 W:World} {g o:Nat} {D:List UInt8} (h:W8.rangeAt g o (D.map byteV)) (hW:Below W8.heap.size W8 W) (hg:g < W8.heap.size) (_:Tryz.prog.underlying 33=some (.array 32 5)) (hD:D.length=32) :
  (loadVar 33 ⟨g,o,none⟩).run Tryz.prog W=.ok (.agg (D.map byteV).toArray) W :=
 run_loadVar_mid W g o _ (D.map byteV) _ (fun j u hj=>(hW.cell (p:=⟨g,o+j,none⟩) hg).trans (h j u hj)) dig_und rfl (dig_info hD)
theorem app_below {W W':World} {base:Nat} {e:TypeId} {size n:Nat} {v v':Value} {xs:List Value} (h:W.ownsRow base e size v n xs) (hl:(v'.ownBlock=v.ownBlock∧W.grownBy W' v.ownBlock)∨(v'.ownBlock=some W.heap.size∧W.grownBy W' none)) (hz:base≤W.heap.size):Below base W W':=by
 rcases hl with ⟨-,hg⟩ | ⟨-,hg⟩
 ·exact ⟨hg.os,hg.tape,hg.output,hg.size,fun k hk=>hg.block k (by omega) (fun e=>by have:=(row_blk h e.symm).1;omega)⟩
 ·exact ⟨hg.os,hg.tape,hg.output,hg.size,fun k hk=>hg.block k (by omega) (fun e=>by cases e)⟩
end Go.Proofs.YtdkedmngeahjiaaGreatDoor
