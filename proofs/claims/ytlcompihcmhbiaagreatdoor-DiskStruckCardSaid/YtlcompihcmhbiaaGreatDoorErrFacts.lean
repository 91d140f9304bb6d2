/- Closed facts on the model's entries for reflectlite, at the errors' types. -/
import Derived.Test.YtlcompihcmhbiaaGreatDoorSmall
import Derived.Stop.Asserts
import Derived.RowKitTokens
namespace Go.Proofs.YtlcompihcmhbiaaGreatDoor
open Go.RowKit Go.Extern.Stop Go.Stop Go.Extern
theorem typeOf_errno (v : Value) (w : World) : (ReflectliteType.typeOf #[.iface 78 v]).run Tryz.prog w = .ok (.iface 162 (.agg #[.pointer (some ⟨2, 78, none⟩)])) w := by kernel_rfl
def comparableX : Array Value → Sem Value := ReflectliteType.method fun t => do Rtype.noPackHeld "Comparable" t; pure (.bool (← typeInfo t).comparable)
theorem comparable_errno (w : World) : (comparableX #[.agg #[.pointer (some ⟨2, 78, none⟩)]]).run Tryz.prog w = .ok (.bool true) w := by kernel_rfl
theorem call_typeOf : Extern.find Tryz.f93 = some ReflectliteType.typeOf := by kernel_rfl
theorem call_comparable : Extern.find Tryz.f167 = some comparableX := by kernel_rfl
theorem method_comparable (k : Nat) (h : Value) (w : World) : (Go.method (k + 1) 162 (.agg #[h]) "Comparable").run Tryz.prog w = .ok (167, .agg #[h]) w := by kernel_rfl
theorem ta_is_errno (v : Value) (w : World) : (Instr.typeAssert (.iface 78 v) 33 164 true).run Tryz.prog w = .ok (.tuple #[.nilIface, .bool false]) w := run_typeAssert_lacksB Tryz.underlying164 (by kernel_rfl) (by kernel_rfl) v 33 w
theorem ta_un_errno (v : Value) (w : World) : (Instr.typeAssert (.iface 78 v) 33 167 true).run Tryz.prog w = .ok (.tuple #[.nilIface, .bool false]) w := run_typeAssert_lacksB Tryz.underlying167 (by kernel_rfl) (by kernel_rfl) v 33 w
theorem ta_uns_errno (v : Value) (w : World) : (Instr.typeAssert (.iface 78 v) 33 168 true).run Tryz.prog w = .ok (.tuple #[.nilIface, .bool false]) w := run_typeAssert_lacksB Tryz.underlying168 (by kernel_rfl) (by kernel_rfl) v 33 w
theorem ta_is_fault (v : Value) (w : World) : (Instr.typeAssert (.iface 112 v) 33 164 true).run Tryz.prog w = .ok (.tuple #[.nilIface, .bool false]) w := run_typeAssert_lacksB Tryz.underlying164 (by kernel_rfl) (by kernel_rfl) v 33 w
theorem ta_un_fault (v : Value) (w : World) : (Instr.typeAssert (.iface 112 v) 33 167 true).run Tryz.prog w = .ok (.tuple #[.iface 112 v, .bool true]) w := run_typeAssert_hasB Tryz.underlying167 (by kernel_rfl) v 33 w
theorem method_unwrap (k : Nat) (n l a : Int) (w : World) : (Go.method (k + 1) 112 (.agg #[.int .i64 n, .int .i64 l, .int .i64 a]) "Unwrap").run Tryz.prog w = .ok (160, .agg #[.int .i64 n, .int .i64 l, .int .i64 a]) w := by kernel_rfl
theorem eq_errno (n k : Int) (w : World) : (binOp .eql 33 (.iface 78 (.int .i64 n)) (.iface 78 (.int .i64 k))).run Tryz.prog w = .ok (.bool (n == k)) w := by kernel_rfl
theorem eq_fault_errno (v x : Value) (w : World) : (binOp .eql 33 (.iface 112 v) (.iface 78 x)).run Tryz.prog w = .ok (.bool false) w := run_eql_iface_types _ _ v x Tryz.underlying33 (by decide) w
end Go.Proofs.YtlcompihcmhbiaaGreatDoor
