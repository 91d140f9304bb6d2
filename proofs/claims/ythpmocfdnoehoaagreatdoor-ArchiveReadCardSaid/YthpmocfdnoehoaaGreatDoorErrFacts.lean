/- Closed facts on the model's entries for reflectlite, at the errors' types. -/
import Derived.Test.YthpmocfdnoehoaaGreatDoorSmall
import Derived.Stop.Asserts
import Derived.RowKitTokens
namespace Go.Proofs.YthpmocfdnoehoaaGreatDoor
open Go.RowKit Go.Extern.Stop Go.Stop Go.Extern
theorem typeOf_errno (v : Value) (w : World) : (ReflectliteType.typeOf #[.iface 59 v]).run Tryz.prog w = .ok (.iface 146 (.agg #[.pointer (some ⟨4, 59, none⟩)])) w := by kernel_rfl
def comparableX : Array Value → Sem Value := ReflectliteType.method fun t => do Rtype.noPackHeld "Comparable" t; pure (.bool (← typeInfo t).comparable)
theorem comparable_errno (w : World) : (comparableX #[.agg #[.pointer (some ⟨4, 59, none⟩)]]).run Tryz.prog w = .ok (.bool true) w := by kernel_rfl
theorem call_typeOf : Extern.find Tryz.f75 = some ReflectliteType.typeOf := by kernel_rfl
theorem call_comparable : Extern.find Tryz.f132 = some comparableX := by kernel_rfl
theorem method_comparable (k : Nat) (h : Value) (w : World) : (Go.method (k + 1) 146 (.agg #[h]) "Comparable").run Tryz.prog w = .ok (132, .agg #[h]) w := by kernel_rfl
theorem ta_is_errno (v : Value) (w : World) : (Instr.typeAssert (.iface 59 v) 32 158 true).run Tryz.prog w = .ok (.tuple #[.nilIface, .bool false]) w := run_typeAssert_lacksB Tryz.underlying158 (by kernel_rfl) (by kernel_rfl) v 32 w
theorem ta_un_errno (v : Value) (w : World) : (Instr.typeAssert (.iface 59 v) 32 153 true).run Tryz.prog w = .ok (.tuple #[.nilIface, .bool false]) w := run_typeAssert_lacksB Tryz.underlying153 (by kernel_rfl) (by kernel_rfl) v 32 w
theorem ta_uns_errno (v : Value) (w : World) : (Instr.typeAssert (.iface 59 v) 32 155 true).run Tryz.prog w = .ok (.tuple #[.nilIface, .bool false]) w := run_typeAssert_lacksB Tryz.underlying155 (by kernel_rfl) (by kernel_rfl) v 32 w
theorem ta_is_fault (v : Value) (w : World) : (Instr.typeAssert (.iface 61 v) 32 158 true).run Tryz.prog w = .ok (.tuple #[.nilIface, .bool false]) w := run_typeAssert_lacksB Tryz.underlying158 (by kernel_rfl) (by kernel_rfl) v 32 w
theorem ta_un_fault (v : Value) (w : World) : (Instr.typeAssert (.iface 61 v) 32 153 true).run Tryz.prog w = .ok (.tuple #[.iface 61 v, .bool true]) w := run_typeAssert_hasB Tryz.underlying153 (by kernel_rfl) v 32 w
theorem method_unwrap (k : Nat) (n l a : Int) (w : World) : (Go.method (k + 1) 61 (.agg #[.int .i64 n, .int .i64 l, .int .i64 a]) "Unwrap").run Tryz.prog w = .ok (126, .agg #[.int .i64 n, .int .i64 l, .int .i64 a]) w := by kernel_rfl
theorem eq_errno (n k : Int) (w : World) : (binOp .eql 32 (.iface 59 (.int .i64 n)) (.iface 59 (.int .i64 k))).run Tryz.prog w = .ok (.bool (n == k)) w := by kernel_rfl
theorem eq_fault_errno (v x : Value) (w : World) : (binOp .eql 32 (.iface 61 v) (.iface 59 x)).run Tryz.prog w = .ok (.bool false) w := run_eql_iface_types _ _ v x Tryz.underlying32 (by decide) w
end Go.Proofs.YthpmocfdnoehoaaGreatDoor
