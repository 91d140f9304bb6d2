/- Plain: cells of blocks behind a new block. -/
import Derived.Test.YtdkedmngeahjiaaGreatDoorM1
import Derived.Deep.QuietTactic
set_option maxRecDepth 100000
set_option maxHeartbeats 25600000
namespace Go.Proofs.YtdkedmngeahjiaaGreatDoor
open Go.RowKit
theorem cell_of_heap {w w':World} {b i:Nat} (h:w'.heap[b]?=w.heap[b]?):w'.cell? ⟨b,i,none⟩=w.cell? ⟨b,i,none⟩:=by
 simp only [World.cell?,h]
theorem cell_new (w:World) (cs:Array Value) (t:TypeId) (i:Nat):(w.alloc (.cells cs t)).cell? ⟨w.heap.size,i,none⟩=cs[i]?:=by
 have:(w.alloc (.cells cs t)).heap[w.heap.size]?=some (.cells cs t (0,0)):=by show (w.heap.push _)[_]?=_;simp
 simp only [World.cell?]
 rw [this]
 simp
theorem cell_drewN {w:World} {n:Nat} {a:Addr}:(w.drewN n).cell? a=w.cell? a:=rfl
theorem cell_alloc' {w:World} {o:Obj} {b i:Nat} (h:b < w.heap.size):(w.alloc o).cell? ⟨b,i,none⟩=w.cell? ⟨b,i,none⟩:=cell_of_heap (Below.heap_alloc w o b h)
theorem below_drewN {B:Nat} {a w:World} (h:Below B a w) (n:Nat):Below B a (w.drewN n):=⟨h.os,h.tape,h.output,h.size,h.block⟩
theorem _root_.Go.RowKit.Below.setBlk {B:Nat} {a w:World} (h:Below B a w) {b:Nat} {o:Obj} (hb:B≤b):Below B a (setBlk w b o) :=
 ⟨h.os,h.tape,h.output,by rw [setBlk_size];exact h.size,fun k hk=>(setBlk_other (by omega)).trans (h.block k hk)⟩
theorem heap_new (w:World) (o:Obj):(w.alloc o).heap[w.heap.size]?=some o:=by show (w.heap.push o)[w.heap.size]?=some o;simp
theorem cell_of_heapN {w:World} {b i:Nat} {c:Array Value} {t:TypeId} (h:w.heap[b]?=some (.cells c t (0,0))):w.cell? ⟨b,i,none⟩=c[i]?:=by simp [World.cell?,h]
end Go.Proofs.YtdkedmngeahjiaaGreatDoor
