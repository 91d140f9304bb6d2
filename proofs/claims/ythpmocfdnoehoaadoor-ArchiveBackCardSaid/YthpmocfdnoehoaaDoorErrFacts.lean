/- Closed facts on the model's entries for reflectlite, at the errors' types. -/
import Derived.Test.YthpmocfdnoehoaaDoorSmall
import Derived.Stop.Asserts
import Derived.RowKitTokens
namespace Go.Proofs.YthpmocfdnoehoaaDoor
open Go.RowKit Go.Extern.Stop Go.Stop Go.Extern
theorem typeOf_errno (v : Value) (w : World) : (ReflectliteType.typeOf #[.iface 47 v]).run Tryd.prog w = .ok (.iface 106 (.agg #[.pointer (some ⟨4, 47, none⟩)])) w := by kernel_rfl
def comparableX : Array Value → Sem Value := ReflectliteType.method fun t => do Rtype.noPackHeld "Comparable" t; pure (.bool (← typeInfo t).comparable)
theorem comparable_errno (w : World) : (comparableX #[.agg #[.pointer (some ⟨4, 47, none⟩)]]).run Tryd.prog w = .ok (.bool true) w := by kernel_rfl
theorem call_typeOf : Extern.find Tryd.f40 = some ReflectliteType.typeOf := by kernel_rfl
theorem call_comparable : Extern.find Tryd.f103 = some comparableX := by kernel_rfl
theorem method_comparable (k : Nat) (h : Value) (w : World) : (Go.method (k + 1) 106 (.agg #[h]) "Comparable").run Tryd.prog w = .ok (103, .agg #[h]) w := by kernel_rfl
theorem ta_is_errno (v : Value) (w : World) : (Instr.typeAssert (.iface 47 v) 24 108 true).run Tryd.prog w = .ok (.tuple #[.nilIface, .bool false]) w := run_typeAssert_lacksB Tryd.underlying108 (by kernel_rfl) (by kernel_rfl) v 24 w
theorem ta_un_errno (v : Value) (w : World) : (Instr.typeAssert (.iface 47 v) 24 111 true).run Tryd.prog w = .ok (.tuple #[.nilIface, .bool false]) w := run_typeAssert_lacksB Tryd.underlying111 (by kernel_rfl) (by kernel_rfl) v 24 w
theorem ta_uns_errno (v : Value) (w : World) : (Instr.typeAssert (.iface 47 v) 24 113 true).run Tryd.prog w = .ok (.tuple #[.nilIface, .bool false]) w := run_typeAssert_lacksB Tryd.underlying113 (by kernel_rfl) (by kernel_rfl) v 24 w
theorem ta_is_fault (v : Value) (w : World) : (Instr.typeAssert (.iface 49 v) 24 108 true).run Tryd.prog w = .ok (.tuple #[.nilIface, .bool false]) w := run_typeAssert_lacksB Tryd.underlying108 (by kernel_rfl) (by kernel_rfl) v 24 w
theorem ta_un_fault (v : Value) (w : World) : (Instr.typeAssert (.iface 49 v) 24 111 true).run Tryd.prog w = .ok (.tuple #[.iface 49 v, .bool true]) w := run_typeAssert_hasB Tryd.underlying111 (by kernel_rfl) v 24 w
theorem method_unwrap (k : Nat) (n l a : Int) (w : World) : (Go.method (k + 1) 49 (.agg #[.int .i64 n, .int .i64 l, .int .i64 a]) "Unwrap").run Tryd.prog w = .ok (100, .agg #[.int .i64 n, .int .i64 l, .int .i64 a]) w := by kernel_rfl
theorem eq_errno (n k : Int) (w : World) : (binOp .eql 24 (.iface 47 (.int .i64 n)) (.iface 47 (.int .i64 k))).run Tryd.prog w = .ok (.bool (n == k)) w := by kernel_rfl
theorem eq_fault_errno (v x : Value) (w : World) : (binOp .eql 24 (.iface 49 v) (.iface 47 x)).run Tryd.prog w = .ok (.bool false) w := run_eql_iface_types _ _ v x Tryd.underlying24 (by decide) w
end Go.Proofs.YthpmocfdnoehoaaDoor
