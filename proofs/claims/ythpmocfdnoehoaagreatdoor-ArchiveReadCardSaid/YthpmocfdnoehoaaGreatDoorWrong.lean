/- Contract of ustar.wrongText. -/
import Derived.Test.YthpmocfdnoehoaaGreatDoorProg
import Derived.Test.YthpmocfdnoehoaaGreatDoorHdr
import Derived.Test.YthpmocfdnoehoaaGreatDoorShelf
import Derived.WalkSpells
import Derived.WalkLawsBesides
namespace Go.Proofs.YthpmocfdnoehoaaGreatDoor
open Go.RowKit
set_option maxHeartbeats 400000 in
set_option maxRecDepth 100000 in
theorem wrong_any (h : Hdr) (w : World) (hp : h.path.size ≤ 140737488355328) (hk : h.link.size ≤ 140737488355328) (hu : h.user.size ≤ 140737488355328) (hg : h.group.size ≤ 140737488355328) :
    Calls Tryz.prog 45 #[.agg h.cells] w fun e w' => e = .returned (.bool (wrongB h)) ∧ Below w.heap.size w w' := by
  go_enter Tryz.func45, Tryz.ntmps45
  go_wp2_with fail
  refine (Tryz.strings_IndexByte _ _ _).mono ?_
  rintro e w' ⟨rfl, rfl⟩
  have HE := Lib.hid (wrongB_eq h)
  have hb : Below w.heap.size w (w.alloc (.cells h.cells 24)) := (Below.refl _ _).alloc (Nat.le_refl _) _
  go_wp2
  all_goals
    go_ret
    refine ⟨ret_bool ?_, hb⟩
    refine Eq.trans ?_ HE.out.symm
    first | rfl | exact or3 (.inl ‹_›) | exact or3 (.inr (.inl ‹_›))
end Go.Proofs.YthpmocfdnoehoaaGreatDoor
