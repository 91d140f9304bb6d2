/- Two members compared. -/
import Derived.Test.YthpmocfdnoehoaaDoorLists
import Derived.Laws.StructEq
namespace Go.Proofs.YthpmocfdnoehoaaDoor
open Go.RowKit
theorem fieldsM : Tryd.prog.fieldsOf 33 = #[{ name := "Header", type := 31, offset := 0, embedded := false, tag := "", pkgPath := "", byteOffset := 0 }, { name := "Data", type := 9, offset := 12, embedded := false, tag := "", pkgPath := "", byteOffset := 128 }] := by
  unfold Program.fieldsOf; rw [Tryd.underlying33]
theorem structM : Tryd.prog.underlying 33 = some (.struct (Tryd.prog.fieldsOf 33)) := by rw [fieldsM, Tryd.underlying33]
theorem structH : Tryd.prog.underlying 31 = some (.struct (Tryd.prog.fieldsOf 31)) := by unfold Program.fieldsOf; rw [Tryd.underlying31]
theorem heldM : Tryd.prog.stoodInHeld 33 = false := by kernel_rfl
theorem heldH : Tryd.prog.stoodInHeld 31 = false := by kernel_rfl
theorem guardM : Tryd.prog.eqGuardType Tryd.prog.depth 33 = false := by kernel_rfl
theorem run_partH (m : Mem) (w : World) : (part 31 m.cells 0).run Tryd.prog w = .ok (.agg m.hdr.cells) w := by
  simp [part, go_sem, Tryd.isAgg31, Tryd.sizeOf31]
theorem run_eqH (h : Hdr) (d : Nat) (w : World) : (Op.equalIn (d + 2) 31 (.agg h.cells) (.agg h.cells)).run Tryd.prog w = .ok true w := by
  rw [run_equalIn_agg w (d + 1) _ _ _ structH heldH]
  unfold Program.fieldsOf
  rw [Tryd.underlying31]
  simp [go_sem, part]
theorem run_eqM (m : Mem) (d : Nat) (w : World) : (Op.equalIn (d + 3) 33 (.agg m.cells) (.agg m.cells)).run Tryd.prog w = .ok true w := by
  rw [run_equalIn_agg w (d + 2) _ _ _ structM heldM, fieldsM]
  show (Op.eqFields (d + 2) m.cells m.cells [_, _]).run Tryd.prog w = _
  have hd : (part 9 m.cells 12).run Tryd.prog w = .ok (.string m.data) w := by simp [part, go_sem, Tryd.isAgg9]
  have hs : (Op.equalIn (d + 2) 9 (.string m.data) (.string m.data)).run Tryd.prog w = .ok true w := by
    rw [run_equalIn_string w (d + 1) _ _ _ Tryd.underlying9]; simp
  simp only [Op.eqFields, Sem.run_bind, Sem.run_ite, run_partH, Result.andThen_ok, run_eqH, hd, hs, Bool.not_true, Bool.false_eq_true, if_false, ite_self, Sem.run_pure]
theorem run_neqM (m : Mem) (w : World) : (binOp .neq 33 (.agg m.cells) (.agg m.cells)).run Tryd.prog w = .ok (.bool false) w := by
  rw [run_neq_struct, show (10000 : Nat) = 9997 + 3 from rfl, run_eqM]
  rfl
theorem run_eqlM (m : Mem) (w : World) : (binOp .eql 33 (.agg m.cells) (.agg m.cells)).run Tryd.prog w = .ok (.bool true) w := by
  rw [run_eql_struct, show (10000 : Nat) = 9997 + 3 from rfl, run_eqM]
  rfl
theorem guard_neqM (x y : Operand) (xs ys : Array Value) (w : World) : (eqGuard .neq 33 x y (.agg xs) (.agg ys)).run Tryd.prog w = .ok () w := run_eqGuard_agg w .neq _ x y xs ys guardM
theorem guard_eqlM (x y : Operand) (xs ys : Array Value) (w : World) : (eqGuard .eql 33 x y (.agg xs) (.agg ys)).run Tryd.prog w = .ok () w := run_eqGuard_agg w .eql _ x y xs ys guardM
end Go.Proofs.YthpmocfdnoehoaaDoor
