/- Contracts of small functions: what each returns, in whatever world. -/
import Derived.Test.YthpmocfdnoehoaaGreatDoorProg
import Derived.Test.YthpmocfdnoehoaaGreatDoorHdr
import Derived.WalkSpells
import Derived.WalkLawsBesides
namespace Go.Proofs.YthpmocfdnoehoaaGreatDoor
open Go.RowKit
set_option maxHeartbeats 400000 in
theorem whole_any (n : Int) (w : World) (h0 : 0 ≤ n) (h1 : n ≤ 9223372036854774784) :
    Calls Tryz.prog 27 #[.int .i64 n] w fun e w' => e = .returned (.int .i64 ((n + 511) / 512 * 512)) ∧ w = w' := by
  go_enter Tryz.func27, Tryz.ntmps27
  go_wp2
  go_ret
  refine ⟨ret_int ?_, rfl⟩
  omega
/-- An error with a place. -/
def faultV (n line i : Int) : Value := .iface 61 (.agg #[.int .i64 n, .int .i64 line, .int .i64 i])
/-- An error that is a number. -/
def errV (n : Int) : Value := .iface 59 (.int .i64 n)
theorem ta_errno (n : Int) (w : World) : (Instr.typeAssert (.iface 59 (.int .i64 n)) 32 59 true).run Tryz.prog w = .ok (.tuple #[.int .i64 n, .bool true]) w := by kernel_rfl
set_option maxHeartbeats 400000 in
set_option maxRecDepth 100000 in
theorem fault_any (n i : Int) (w : World) :
    Calls Tryz.prog 25 #[errV n, .int .i64 i] w fun e w' => e = .returned (faultV n 0 i) ∧ w = w' := by
  unfold errV faultV
  have hta := ta_errno n
  go_enter Tryz.func25, Tryz.ntmps25
  go_wp2
  go_ret
  exact ⟨rfl, rfl⟩
/-- A number from 0 to n - 1 out of any k. -/
def pick (k n : Int) : Int := if k.tmod n < 0 then k.tmod n + n else k.tmod n
set_option maxHeartbeats 400000 in
theorem pick_any (k n : Int) (w : World) (h0 : 1 ≤ n) (h1 : n ≤ 9223372036854775807) (_h2 : -9223372036854775808 ≤ k) (_h3 : k ≤ 9223372036854775807) :
    Calls Tryz.prog 37 #[.int .i64 k, .int .i64 n] w fun e w' => e = .returned (.int .i64 (pick k n)) ∧ w = w' := by
  go_enter Tryz.func37, Tryz.ntmps37
  go_wp2
  all_goals go_ret
  · have h4 := Int.lt_tmod_of_pos k (show 0 < n by omega)
    have h5 := Int.tmod_lt_of_pos k (show 0 < n by omega)
    exact ⟨ret_int (by rw [pick, if_pos ‹_›]; exact IntWalk.wrap64_in _ ⟨by omega, by omega⟩), rfl⟩
  · exact ⟨ret_int (by rw [pick, if_neg (by omega)]), rfl⟩
theorem pick_bd (k n : Int) (h : 1 ≤ n) : 0 ≤ pick k n ∧ pick k n < n := by
  have h4 := Int.lt_tmod_of_pos k (show 0 < n by omega)
  have h5 := Int.tmod_lt_of_pos k (show 0 < n by omega)
  unfold pick; split <;> omega
end Go.Proofs.YthpmocfdnoehoaaGreatDoor
