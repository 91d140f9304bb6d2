/- Contracts of errors.Is at an error or none, and at a wrapped one. -/
import Derived.Test.YtdkedmngeahjiaaGreatDoorRfS
import Derived.Test.YtdkedmngeahjiaaGreatDoorM35
import Derived.Deep.RegionWith
namespace Go.Proofs.YtdkedmngeahjiaaGreatDoor
open Go Go.RowKit
theorem nil_iface (v : Value) (w : World) : (binOp .eql 25 .nilIface (.iface 71 v)).run Tryz.prog w = .ok (.bool false) w := by
  have h : ∀ d : Nat, (Op.equalIn (d + 1) 25 .nilIface (.iface 71 v)).run Tryz.prog w = .ok false w := fun d => by
    simp [Op.equalIn, run_underlying Tryz.underlying25]
  simp only [binOp]
  simp [Op.equal, Op.maxDepth, h 9999]
set_option maxHeartbeats 400000 in
set_option maxRecDepth 100000 in
theorem is_nilE (k : Int) (w : World) :
    Calls Tryz.prog 41 #[.nilIface, errV k] w fun e w' => e = .returned (.bool false) ∧ w = w' := by
  unfold errV
  have hq := nil_iface (.int .i64 k) w
  go_enter Tryz.func41, Tryz.ntmps41
  go_wp2_with fail
  go_ret
  exact ⟨rfl, rfl⟩
theorem is_E (n k : Int) (hk : k ≠ 0) (w : World) :
    Calls Tryz.prog 41 #[errE n, errV k] w fun e w' => e = .returned (.bool (n == k)) ∧ w = w' := by
  unfold errE
  split
  · rename_i h
    refine (is_nilE k w).mono ?_
    rintro e w' ⟨rfl, hw⟩
    refine ⟨?_, hw⟩
    have : (n == k) = false := by
      rw [h]
      exact beq_eq_false_iff_ne.2 (fun e => hk e.symm)
    rw [this]
  · exact is_errno n k w
end Go.Proofs.YtdkedmngeahjiaaGreatDoor
