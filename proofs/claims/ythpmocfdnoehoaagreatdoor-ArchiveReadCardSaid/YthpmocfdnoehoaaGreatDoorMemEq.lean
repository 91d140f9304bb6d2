/- Two members compared. -/
import Derived.Test.YthpmocfdnoehoaaGreatDoorLists
import Derived.Laws.StructEq
namespace Go.Proofs.YthpmocfdnoehoaaGreatDoor
open Go.RowKit
theorem fieldsM : Tryz.prog.fieldsOf 26 = #[{ name := "Header", type := 24, offset := 0, embedded := false, tag := "", pkgPath := "", byteOffset := 0 }, { name := "Data", type := 9, offset := 12, embedded := false, tag := "", pkgPath := "", byteOffset := 128 }] := by
  unfold Program.fieldsOf; rw [Tryz.underlying26]
theorem structM : Tryz.prog.underlying 26 = some (.struct (Tryz.prog.fieldsOf 26)) := by rw [fieldsM, Tryz.underlying26]
theorem structH : Tryz.prog.underlying 24 = some (.struct (Tryz.prog.fieldsOf 24)) := by unfold Program.fieldsOf; rw [Tryz.underlying24]
theorem heldM : Tryz.prog.stoodInHeld 26 = false := by kernel_rfl
theorem heldH : Tryz.prog.stoodInHeld 24 = false := by kernel_rfl
theorem guardM : Tryz.prog.eqGuardType Tryz.prog.depth 26 = false := by kernel_rfl
theorem run_partH (m : Mem) (w : World) : (part 24 m.cells 0).run Tryz.prog w = .ok (.agg m.hdr.cells) w := by
  simp [part, go_sem, Tryz.isAgg24, Tryz.sizeOf24]
theorem run_eqH (h : Hdr) (d : Nat) (w : World) : (Op.equalIn (d + 2) 24 (.agg h.cells) (.agg h.cells)).run Tryz.prog w = .ok true w := by
  rw [run_equalIn_agg w (d + 1) _ _ _ structH heldH]
  unfold Program.fieldsOf
  rw [Tryz.underlying24]
  simp [go_sem, part]
theorem run_eqM (m : Mem) (d : Nat) (w : World) : (Op.equalIn (d + 3) 26 (.agg m.cells) (.agg m.cells)).run Tryz.prog w = .ok true w := by
  rw [run_equalIn_agg w (d + 2) _ _ _ structM heldM, fieldsM]
  show (Op.eqFields (d + 2) m.cells m.cells [_, _]).run Tryz.prog w = _
  have hd : (part 9 m.cells 12).run Tryz.prog w = .ok (.string m.data) w := by simp [part, go_sem, Tryz.isAgg9]
  have hs : (Op.equalIn (d + 2) 9 (.string m.data) (.string m.data)).run Tryz.prog w = .ok true w := by
    rw [run_equalIn_string w (d + 1) _ _ _ Tryz.underlying9]; simp
  simp only [Op.eqFields, Sem.run_bind, Sem.run_ite, run_partH, Result.andThen_ok, run_eqH, hd, hs, Bool.not_true, Bool.false_eq_true, if_false, ite_self, Sem.run_pure]
theorem run_neqM (m : Mem) (w : World) : (binOp .neq 26 (.agg m.cells) (.agg m.cells)).run Tryz.prog w = .ok (.bool false) w := by
  rw [run_neq_struct, show (10000 : Nat) = 9997 + 3 from rfl, run_eqM]
  rfl
theorem run_eqlM (m : Mem) (w : World) : (binOp .eql 26 (.agg m.cells) (.agg m.cells)).run Tryz.prog w = .ok (.bool true) w := by
  rw [run_eql_struct, show (10000 : Nat) = 9997 + 3 from rfl, run_eqM]
  rfl
theorem guard_neqM (x y : Operand) (xs ys : Array Value) (w : World) : (eqGuard .neq 26 x y (.agg xs) (.agg ys)).run Tryz.prog w = .ok () w := run_eqGuard_agg w .neq _ x y xs ys guardM
theorem guard_eqlM (x y : Operand) (xs ys : Array Value) (w : World) : (eqGuard .eql 26 x y (.agg xs) (.agg ys)).run Tryz.prog w = .ok () w := run_eqGuard_agg w .eql _ x y xs ys guardM
end Go.Proofs.YthpmocfdnoehoaaGreatDoor
