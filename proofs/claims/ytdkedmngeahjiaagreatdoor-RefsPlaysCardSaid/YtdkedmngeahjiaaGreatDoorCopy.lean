/- Plain law of the builtin copy from a string into a block of bytes. -/
import Derived.Test.YtdkedmngeahjiaaGreatDoorProg
import Derived.Test.YtdkedmngeahjiaaGreatDoorM1
import Derived.Laws.CopyRow
set_option maxRecDepth 100000
set_option maxHeartbeats 25600000
namespace Go.Proofs.YtdkedmngeahjiaaGreatDoor
open Go.RowKit
theorem setRow_setBlk {w:World} {b:Nat} {c d:Array Value} {t:TypeId} (h:w.heap[b]?=some (.cells c t (0,0))):w.setRow b d=setBlk w b (.cells d t (0,0)):=by
 refine heap_ext (fun k=>?_) rfl rfl rfl rfl
 rw [setBlk_at]
 by_cases e:b=k
 ·subst e
  rw [if_pos rfl,if_pos (blk_lt h)]
  exact setRow_heap w b c d t (0,0) h
 ·rw [if_neg e]
  simp only [World.setRow,Array.getElem?_modify,if_neg e]
theorem byteV_one (x:UInt8):(byteV x).oneCell'=true:=rfl
theorem run_copy_str {P:Program} (w:World) (dT sT ty elem:TypeId) (b o dLen dCap:Nat) (s:ByteArray) (t:TypeId) (l:Bs)
  (hu:P.underlying dT=some (.slice elem)) (hs:(P.info? elem).map (·.size)=some 1) (hb:w.heap[b]?=some (blk t l)) (hle:s.size≤dLen) (hfit:o+s.size≤l.length) :
  (Builtin.copy_ #[dT,sT] ty #[.slice (some ⟨b,o,none⟩) dLen dCap,.string s]).run P w=.ok (.int .i64 s.size) (setBlk w b (blk t (over l o s.data.toList))):=by
 have hst:=run_storeCells_at P b o t (s.data.toList.map byteV) 0 (l.map byteV).toArray w hb (by simpa using hfit) (by
  intro v hv
  obtain ⟨x,_,rfl⟩:=List.mem_map.1 hv
  exact byteV_one x)
 have hmin:Nat.min s.size dLen=s.size:=Nat.min_eq_left hle
 have hrow:w.setRow b (List.toArray (List.take (o+0) (l.map byteV) ++ s.data.toList.map byteV ++ List.drop (o+0+(s.data.toList.map byteV).length) (l.map byteV)))=setBlk w b (blk t (over l o s.data.toList)):=by
  rw [setRow_setBlk hb]
  simp [blk,over,List.map_take,List.map_drop]
 rw [hrow] at hst
 cases hq:P.info? elem with
 |none=>simp [hq] at hs
 |some i =>
  have htk:List.take s.size (List.map (fun b=>Value.int .u8 (b.toNat:Int)) s.data.toList)=List.map byteV s.data.toList:=by
   rw [List.take_of_length_le (by simp)];rfl
  simp only [Builtin.copy_]
  simp [run_underlying hu,Builtin.lenOf,Builtin.firstCells,sizeOf,typeInfo,hq,hmin,htk,hst]
  rfl
end Go.Proofs.YtdkedmngeahjiaaGreatDoor
