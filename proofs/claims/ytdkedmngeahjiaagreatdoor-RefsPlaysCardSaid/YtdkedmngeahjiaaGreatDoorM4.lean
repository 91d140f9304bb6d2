/- Texts of the seat, one behind the other: Hdr, Small. -/
import Derived.Test.YtdkedmngeahjiaaGreatDoorM1
import Derived.Lib.IndexAny
import Derived.Test.YtdkedmngeahjiaaGreatDoorProg
import Derived.WalkSpells
import Derived.WalkLawsBesides
set_option maxRecDepth 100000
set_option maxHeartbeats 25600000
/- Plain: a header's fields as data, and as a value. -/
namespace Go.Proofs.YtdkedmngeahjiaaGreatDoor
open Go.RowKit
structure Hdr where
 path:ByteArray
 mode:Int
 uid:Int
 gid:Int
 size:Int
 time:Int
 typ:UInt8
 link:ByteArray
 user:ByteArray
 group:ByteArray
 major:Int
 minor:Int
@[reducible] def Hdr.cells (h:Hdr):Array Value:=#[.string h.path,.int .i64 h.mode,.int .i64 h.uid,.int .i64 h.gid,.int .i64 h.size,.int .i64 h.time,.int .u8 (h.typ.toNat:Int),.string h.link,.string h.user,.string h.group,.int .i64 h.major,.int .i64 h.minor]
def nulIn (s:ByteArray):Bool:=s.data.toList.contains 0
def wrongB (h:Hdr):Bool:=nulIn h.path || nulIn h.link || nulIn h.user || nulIn h.group || decide (31 < h.user.size) || decide (31 < h.group.size)
theorem wrongB_eq (h:Hdr):wrongB h=(decide (0≤Lib.indexByte (h.path.data.toList ++ (h.link.data.toList ++ (h.user.data.toList ++ h.group.data.toList))) 0) || decide (31 < (h.user.size:Int)) || decide (31 < (h.group.size:Int))):=by
 rw [show decide (31 < (h.user.size:Int))=decide (31 < h.user.size) by simp only [decide_eq_decide];omega,show decide (31 < (h.group.size:Int))=decide (31 < h.group.size) by simp only [decide_eq_decide];omega]
 rw [← Lib.contains_iff_indexByte]
 simp only [wrongB,nulIn,List.contains_eq_mem,List.mem_append,Bool.decide_or,Bool.or_assoc]
theorem or3 {a b c:Prop} [Decidable a] [Decidable b] [Decidable c] (h:a∨b∨c):true=(decide a || decide b || decide c):=by
 rcases h with h | h | h <;> simp [h]
theorem ret_bool {a b:Bool} (h:a=b):Ending.returned (.bool a)=.returned (.bool b):=by rw [h]
end Go.Proofs.YtdkedmngeahjiaaGreatDoor
/- Contracts of small functions: what each returns, in whatever world. -/
namespace Go.Proofs.YtdkedmngeahjiaaGreatDoor
open Go.RowKit
def faultV (n line i:Int):Value:=.iface 73 (.agg #[.int .i64 n,.int .i64 line,.int .i64 i])
def errV (n:Int):Value:=.iface 71 (.int .i64 n)
theorem ta_errno (n:Int) (w:World):(Instr.typeAssert (.iface 71 (.int .i64 n)) 25 71 true).run Tryz.prog w=.ok (.tuple #[.int .i64 n,.bool true]) w:=by kernel_rfl
end Go.Proofs.YtdkedmngeahjiaaGreatDoor
