/- archive.Read of too long a text. -/
import Derived.Test.YthpmocfdnoehoaaGreatDoorRead
namespace Go.Proofs.YthpmocfdnoehoaaGreatDoor
open Go.RowKit
set_option maxRecDepth 100000 in
theorem read_big (s : ByteArray) (w : World) (hs : (33554432 : Int) < (s.size : Int)) :
    Calls Tryz.prog 16 #[.string s] w fun e w' => e = .returned (.tuple #[.slice none 0 0, faultV 5 0 33554432]) ∧ Below w.heap.size w w' := by
  go_enter Tryz.func16, Tryz.ntmps16
  go_wp2_with fail
  have hz := World.size_alloc w (.cells #[.slice none 0 0] 22)
  have c1 := (Below.heap_alloc (w.alloc (.cells #[.slice none 0 0] 22)) (.cells #[.iface 61 (.agg #[.int .i64 5, .int .i64 0, .int .i64 33554432])] 32) w.heap.size (by rw [hz]; omega)).trans (heap_new w (.cells #[.slice none 0 0] 22))
  have c2 := heap_new (w.alloc (.cells #[.slice none 0 0] 22)) (.cells #[.iface 61 (.agg #[.int .i64 5, .int .i64 0, .int .i64 33554432])] 32)
  rw [hz] at c2
  have d1 := cell_of_heapN (i := 0) c1
  have d2 := cell_of_heapN (i := 0) c2
  refine bodyPost_ret (v := .tuple #[.slice none 0 0, faultV 5 0 33554432]) ?_ rfl ⟨rfl, ((Below.refl _ w).alloc (Nat.le_refl _) _).alloc (by rw [hz]; omega) _⟩
  unfold faultV
  simp [results, Tryz.f16, go_sem, d1, d2]
end Go.Proofs.YthpmocfdnoehoaaGreatDoor
