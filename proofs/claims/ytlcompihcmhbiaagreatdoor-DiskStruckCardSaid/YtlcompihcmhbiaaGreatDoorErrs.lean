/- Contracts of errors.Is, stratakit.Num at an Errno and at a Fault. -/
import Derived.Test.YtlcompihcmhbiaaGreatDoorErrFacts
namespace Go.Proofs.YtlcompihcmhbiaaGreatDoor
open Go.RowKit Go.Extern.Stop Go.Stop Go.Extern
theorem ret_beq {n k : Int} {b : Bool} (h : (n == k) = b) : Ending.returned (.bool b) = .returned (.bool (n == k)) := by rw [h]
set_option maxHeartbeats 400000 in
set_option maxRecDepth 100000 in
theorem is_errno_in (n k : Int) (w : World) :
    Calls Tryz.prog 94 #[errV n, errV k, .bool true] w fun e w' => e = .returned (.bool (n == k)) ∧ w = w' := by
  unfold errV
  have t0 := eq_errno
  have t1 := ta_is_errno
  have t2 := ta_un_errno
  have t3 := ta_uns_errno
  go_enter Tryz.func94, Tryz.ntmps94
  go_wp2_with fail
  refine wp_loop_rounds 1 ?_
  rw [rounds_succ]
  go_wp2_with fail
  all_goals
    go_ret
    exact ⟨ret_beq ‹_›, rfl⟩
set_option maxHeartbeats 400000 in
set_option maxRecDepth 100000 in
theorem unwrap_any (n l a : Int) (w : World) :
    Calls Tryz.prog 160 #[.agg #[.int .i64 n, .int .i64 l, .int .i64 a]] w fun e w' => e = .returned (errV n) ∧ Below w.heap.size w w' := by
  unfold errV
  go_enter Tryz.func160, Tryz.ntmps160
  go_wp2_with fail
  go_ret
  exact ⟨rfl, (Below.refl _ _).alloc (Nat.le_refl _) _⟩
set_option maxHeartbeats 400000 in
set_option maxRecDepth 100000 in
theorem is_fault_in (n l a k : Int) (w : World) :
    Calls Tryz.prog 94 #[faultV n l a, errV k, .bool true] w fun e w' => e = .returned (.bool (n == k)) ∧ Below w.heap.size w w' := by
  unfold errV faultV
  have t0 := eq_errno
  have t1 := ta_is_errno
  have t2 := ta_un_errno
  have t3 := ta_uns_errno
  have t4 := eq_fault_errno
  have t5 := ta_is_fault
  have t6 := ta_un_fault
  have t7 := method_unwrap
  go_enter Tryz.func94, Tryz.ntmps94
  go_wp2_with fail
  refine wp_loop_rounds 2 ?_
  rw [rounds_succ]
  go_wp2_with fail
  refine (unwrap_any n l a _).mono ?_
  rintro e w1 ⟨rfl, hb⟩
  have HB := Lib.hid hb
  clear hb
  unfold errV
  go_wp2_with fail
  rw [rounds_succ]
  go_wp2_with fail
  all_goals
    go_ret
    exact ⟨ret_beq ‹_›, HB.out⟩
set_option maxHeartbeats 400000 in
set_option maxRecDepth 100000 in
theorem is_errno (n k : Int) (w : World) :
    Calls Tryz.prog 62 #[errV n, errV k] w fun e w' => e = .returned (.bool (n == k)) ∧ w = w' := by
  unfold errV
  have h40 := @run_callFunc_extern Tryz.prog 93 _ _ Tryz.func93 (by kernel_rfl) (by kernel_rfl) (by kernel_rfl) call_typeOf
  have h103 := @run_callFunc_extern Tryz.prog 167 _ _ Tryz.func167 (by kernel_rfl) (by kernel_rfl) (by kernel_rfl) call_comparable
  have c1 := typeOf_errno
  have c2 := comparable_errno
  have c3 := method_comparable
  go_enter Tryz.func62, Tryz.ntmps62
  go_wp2_with fail
  refine (is_errno_in n k _).mono ?_
  rintro e w1 ⟨rfl, rfl⟩
  go_wp2_with fail
  go_ret
  exact ⟨rfl, rfl⟩
set_option maxHeartbeats 400000 in
set_option maxRecDepth 100000 in
theorem is_fault (n l a k : Int) (w : World) :
    Calls Tryz.prog 62 #[faultV n l a, errV k] w fun e w' => e = .returned (.bool (n == k)) ∧ Below w.heap.size w w' := by
  unfold errV faultV
  have h40 := @run_callFunc_extern Tryz.prog 93 _ _ Tryz.func93 (by kernel_rfl) (by kernel_rfl) (by kernel_rfl) call_typeOf
  have h103 := @run_callFunc_extern Tryz.prog 167 _ _ Tryz.func167 (by kernel_rfl) (by kernel_rfl) (by kernel_rfl) call_comparable
  have c1 := typeOf_errno
  have c2 := comparable_errno
  have c3 := method_comparable
  go_enter Tryz.func62, Tryz.ntmps62
  go_wp2_with fail
  refine (is_fault_in n l a k _).mono ?_
  rintro e w1 ⟨rfl, hb⟩
  have HB := Lib.hid hb
  clear hb
  go_wp2_with fail
  go_ret
  exact ⟨rfl, HB.out⟩
end Go.Proofs.YtlcompihcmhbiaaGreatDoor
