/- A digest is stored. -/
import Derived.Test.YtdkedmngeahjiaaGreatDoorM1
import Derived.Test.YtdkedmngeahjiaaGreatDoorCopy
import Derived.Laws.Tables
import Derived.Deep.MidRow
import Derived.Deep.WholeRow
namespace Go.Proofs.YtdkedmngeahjiaaGreatDoor
open Go Go.RowKit
/-- A digest is stored over one that was just made. -/
theorem store_digest {w : World} {b : Nat} (h : w.heap[b]? = some (.cells z32 33 (0, 0))) {l : List Value} (hl : l.length = 32) (h1 : ∀ u ∈ l, u.oneCell' = true) :
    (storeCells ⟨b, 0, none⟩ l).run Tryz.prog w = .ok () (setBlk w b (.cells l.toArray 33 (0, 0))) := by
  have hst := run_storeCells_at Tryz.prog b 0 33 l 0 z32 w h (by rw [hl]; show _ ≤ (Array.replicate 32 _).size; rw [Array.size_replicate]; omega) h1
  rw [setRow_setBlk h, Nat.add_zero, List.take_zero, List.nil_append, List.drop_of_length_le (by rw [hl]; show (List.replicate 32 _).length ≤ _; rw [List.length_replicate]; omega), List.append_nil] at hst
  exact hst
end Go.Proofs.YtdkedmngeahjiaaGreatDoor
