/- Plain law of the builtin copy from a string into a block of bytes. -/
import Derived.Test.YtecgikanophonaaGreatDoorProg
import Derived.Test.YtecgikanophonaaGreatDoorM1
import Derived.Laws.CopyRow
set_option maxRecDepth 100000
set_option maxHeartbeats 25600000
namespace Go.Proofs.YtecgikanophonaaGreatDoor
open Go.RowKit
theorem setRow_setBlk {w:World} {b:Nat} {c d:Array Value} {t:TypeId} (h:w.heap[b]?=some (.cells c t (0,0))):w.setRow b d=setBlk w b (.cells d t (0,0)):=by
 refine heap_ext (fun k=>?_) rfl rfl rfl rfl
 rw [setBlk_at]
 by_cases e:b=k
 ·subst e
  rw [if_pos rfl,if_pos (blk_lt h)]
  exact setRow_heap w b c d t (0,0) h
 ·rw [if_neg e]
  simp only [World.setRow,Array.getElem?_modify,if_neg e]
theorem byteV_one (x:UInt8):(byteV x).oneCell'=true:=rfl
end Go.Proofs.YtecgikanophonaaGreatDoor
