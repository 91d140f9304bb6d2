/- Contracts of small functions: what each returns, in whatever world. -/
import Derived.Test.YtdkedmngeahjiaaGreatDoorProg
import Derived.Test.YtdkedmngeahjiaaGreatDoorHdr
import Derived.WalkSpells
import Derived.WalkLawsBesides
namespace Go.Proofs.YtdkedmngeahjiaaGreatDoor
open Go.RowKit
/-- An error with a place. -/
def faultV (n line i : Int) : Value := .iface 73 (.agg #[.int .i64 n, .int .i64 line, .int .i64 i])
/-- An error that is a number. -/
def errV (n : Int) : Value := .iface 71 (.int .i64 n)
theorem ta_errno (n : Int) (w : World) : (Instr.typeAssert (.iface 71 (.int .i64 n)) 25 71 true).run Tryz.prog w = .ok (.tuple #[.int .i64 n, .bool true]) w := by kernel_rfl
end Go.Proofs.YtdkedmngeahjiaaGreatDoor
