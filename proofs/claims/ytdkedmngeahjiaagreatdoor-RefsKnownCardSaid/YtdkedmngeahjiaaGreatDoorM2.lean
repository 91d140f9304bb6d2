import Derived.Test.YtdkedmngeahjiaaGreatDoorM1
import Derived.Deep.QuietTactic
import Derived.Lib.IndexAny
import Derived.Test.YtdkedmngeahjiaaGreatDoorProg
import Derived.WalkSpells
import Derived.WalkLawsBesides
set_option maxRecDepth 100000
set_option maxHeartbeats 25600000
namespace Go.Proofs.YtdkedmngeahjiaaGreatDoor
open Go.RowKit
theorem lK{w w':World}{b i:Nat}(h:w'.heap[b]?=w.heap[b]?):w'.cell? ⟨b,i,none⟩=w.cell? ⟨b,i,none⟩:=by
 simp only[World.cell?,h]
theorem vO(w:World)(cs:Array Value)(t:TypeId)(i:Nat):(w.alloc (.cells cs t)).cell? ⟨w.heap.size,i,none⟩=cs[i]?:=by
 have:(w.alloc (.cells cs t)).heap[w.heap.size]?=some (.cells cs t (0,0)):=by show(w.heap.push _)[_]?=_;simp
 simp only[World.cell?];rw[this];simp
theorem rL{w:World}{o:Obj}{b i:Nat}(h:b<w.heap.size):(w.alloc o).cell? ⟨b,i,none⟩=w.cell? ⟨b,i,none⟩:=lK (Below.heap_alloc w o b h)
theorem oS{B:Nat}{a w:World}(h:Below B a w)(n:Nat):Below B a (w.drewN n):=⟨h.os,h.tape,h.output,h.size,h.block⟩
theorem _root_.Go.RowKit.Below.setBlk{B:Nat}{a w:World}(h:Below B a w){b:Nat}{o:Obj}(hb:B≤b):Below B a (setBlk w b o):=
 ⟨h.os,h.tape,h.output,by rw[pA];exact h.size,fun k hk=>(mS aC).trans (h.block k hk)⟩
theorem lP(w:World)(o:Obj):(w.alloc o).heap[w.heap.size]?=some o:=by show(w.heap.push o)[w.heap.size]?=some o;simp
theorem lF{w:World}{b i:Nat}{c:Array Value}{t:TypeId}(h:w.heap[b]?=some (.cells c t (0,0))):w.cell? ⟨b,i,none⟩=c[i]?:=by simp[World.cell?,h]
structure Hdr where
 path:ByteArray
 mode:Int
 uid:Int
 gid:Int
 size:Int
 time:Int
 typ:UInt8
 link:ByteArray
 user:ByteArray
 group:ByteArray
 major:Int
 minor:Int
@[reducible] def Hdr.cells (h:Hdr):Array Value:=#[.string h.path,.int .i64 h.mode,.int .i64 h.uid,.int .i64 h.gid,.int .i64 h.size,.int .i64 h.time,.int .u8 (h.typ.toNat:Int),.string h.link,.string h.user,.string h.group,.int .i64 h.major,.int .i64 h.minor]
theorem BT{a b:Bool}(h:a=b):Ending.returned (.bool a)=.returned (.bool b):=by rw[h]
def nJ(n:Int):Value:=.iface 71 (.int .i64 n)
end Go.Proofs.YtdkedmngeahjiaaGreatDoor
