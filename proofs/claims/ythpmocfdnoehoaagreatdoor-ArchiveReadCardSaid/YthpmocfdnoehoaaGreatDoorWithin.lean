/- Contract of ustar.within: are all numbers from 0 to most? -/
import Derived.Test.YthpmocfdnoehoaaGreatDoorProg
import Derived.Test.YthpmocfdnoehoaaGreatDoorHdr
import Derived.WalkSpells
import Derived.WalkLawsBesides
namespace Go.Proofs.YthpmocfdnoehoaaGreatDoor
open Go.RowKit
def inB (m : Int) (z : Int) : Bool := decide (0 ≤ z) && decide (z ≤ m)
set_option maxHeartbeats 400000 in
theorem within_any (m : Int) (b n : Nat) (f : Nat → Int) (w : World) (hn : n ≤ 100) (hc : ∀ i, i < n → w.cell? ⟨b, i, none⟩ = some (.int .i64 (f i))) :
    Calls Tryz.prog 47 #[.int .i64 m, .slice (some ⟨b, 0, none⟩) n n] w fun e w' => e = .returned (.bool ((List.range n).all fun i => inB m (f i))) ∧ w = w' := by
  have HC := Lib.hid hc
  clear hc
  go_enter Tryz.func47, Tryz.ntmps47
  go_wp2
  go_loop [9] (fun iv => ∃ k : Nat, k ≤ n ∧ iv = .int .i64 k ∧ Hid ((List.range k).all (fun i => inB m (f i)) = true)) (fun iv => n - (intOf iv).toNat)
  case atStart => exact ⟨0, Nat.zero_le _, rfl, rfl⟩
  case round =>
    obtain ⟨k, hk, rfl, hall⟩ := hrel
    by_cases hlt : k < n
    · have hcell := HC.out k hlt
      obtain ⟨z, hz⟩ : ∃ z, f k = z := ⟨_, rfl⟩
      rw [hz] at hcell
      have HZ := Lib.hid hz
      clear hz
      by_cases h1 : z < 0
      · go_wp2
        go_ret
        refine ⟨ret_bool ?_, rfl⟩
        symm
        rw [List.all_eq_false]
        exact ⟨k, by simpa using hlt, by rw [HZ.out]; simp [inB]; omega⟩
      · by_cases h2 : m < z
        · go_wp2
          go_ret
          refine ⟨ret_bool ?_, rfl⟩
          symm
          rw [List.all_eq_false]
          exact ⟨k, by simpa using hlt, by rw [HZ.out]; simp [inB]; omega⟩
        · go_wp2
          go_round
          case rel =>
            refine ⟨k + 1, by omega, by go_num, ?_⟩
            show _ = true
            rw [List.range_succ, List.all_append, hall.out]
            simp [HZ.out, inB]; omega
          case measure => simp [intOf]; omega
    · go_wp2
      go_ret
      refine ⟨ret_bool ?_, rfl⟩
      have : k = n := by omega
      rw [← this]; exact hall.out.symm
end Go.Proofs.YthpmocfdnoehoaaGreatDoor
