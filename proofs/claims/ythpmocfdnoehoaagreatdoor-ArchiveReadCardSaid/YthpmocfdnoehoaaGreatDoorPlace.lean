/- Contracts of stratakit.Place and stratakit.At. -/
import Derived.Test.YthpmocfdnoehoaaGreatDoorAs
import Derived.Test.YthpmocfdnoehoaaGreatDoorNum
import Derived.Deep.RegionHeld3
namespace Go.Proofs.YthpmocfdnoehoaaGreatDoor
open Go.RowKit
theorem ErrT.below {w w' : World} (h : ErrT w) {B : Nat} (hb : Below B w w') (hB : 0 < B) : ErrT w' :=
  ⟨(hb.cell (p := ⟨0, 0, none⟩) hB).trans h.1, Nat.lt_of_lt_of_le h.2 hb.size⟩
theorem ErrT.alloc {w : World} (h : ErrT w) (o : Obj) : ErrT (w.alloc o) := h.below ((Below.refl w.heap.size w).alloc (Nat.le_refl _) o) h.2
theorem below_grown {w0 w w' : World} {t B : Nat} (h : Below B w0 w) (hg : w.grownBy w' (some t)) (ht : B ≤ t) (hB : B ≤ w.heap.size) : Below B w0 w' :=
  h.trans ⟨hg.os, hg.tape, hg.output, hg.size, fun k hk => hg.block k (by omega) (fun e => by cases e; omega)⟩
set_option maxHeartbeats 800000 in
set_option maxRecDepth 100000 in
theorem place_fault (n l a : Int) (w : World) (hG : ErrT w) (h1 : 1 ≤ n) (h2 : n ≤ 32) :
    Calls Tryz.prog 31 #[faultV n l a] w fun e w' => e = .returned (.tuple #[.int .i64 l, .int .i64 a, .bool true]) ∧ Below w.heap.size w w' := by
  have hI := isNum_fault n l a
  unfold faultV
  unfold faultV at hI
  go_enter Tryz.func31, Tryz.ntmps31
  go_wp2_with fail
  refine (as_fault n l a w.heap.size _ _ _ 61 _ (hG.alloc _) (heap_new _ _)).mono ?_
  rintro e w1 ⟨rfl, h3, h4⟩
  have hb := below_grown ((Below.refl w.heap.size w).alloc (Nat.le_refl _) _) h4 (Nat.le_refl _) (by simp)
  have hz : w.heap.size < w1.heap.size := blk_lt h3
  have c0 : w1.cell? ⟨w.heap.size, 0, none⟩ = some (.int .i64 n) := cell_of_heapN h3
  have c1 : w1.cell? ⟨w.heap.size, 1, none⟩ = some (.int .i64 l) := cell_of_heapN h3
  have c2 : w1.cell? ⟨w.heap.size, 2, none⟩ = some (.int .i64 a) := cell_of_heapN h3
  have HB := Lib.hid hb.drew
  clear hb h3 h4
  go_wp2_with fail
  go_region_held3 (fun w' => w'.cell? ⟨w.heap.size, 0, none⟩ = some (.int .i64 n) ∧ w'.cell? ⟨w.heap.size, 1, none⟩ = some (.int .i64 l) ∧ w'.cell? ⟨w.heap.size, 2, none⟩ = some (.int .i64 a) ∧ Hid (Below w.heap.size w w') ∧ w.heap.size < w'.heap.size)
    (first | exact ⟨c0, c1, c2, HB, hz⟩ | exact ⟨k0, k1, k2, k3, k4⟩)
    (first | (go_at_call 32; refine (num_any _ _ n _ hI h1 h2).mono ?_; rintro e w3 ⟨rfl, hb⟩; rename_i hH _ _; have k0 := (hb.cell (p := ⟨w.heap.size, 0, none⟩) hH.2.2.2.2).trans hH.1; have k1 := (hb.cell (p := ⟨w.heap.size, 1, none⟩) hH.2.2.2.2).trans hH.2.1; have k2 := (hb.cell (p := ⟨w.heap.size, 2, none⟩) hH.2.2.2.2).trans hH.2.2.1; have k3 := Lib.hid (hH.2.2.2.1.out.trans (hb.mono hH.2.2.2.1.out.size)); have k4 := Nat.lt_of_lt_of_le hH.2.2.2.2 hb.size))
  go_wp2_with fail
  go_ret3
  exact ⟨rfl, k3.out⟩
set_option maxHeartbeats 400000 in
set_option maxRecDepth 100000 in
theorem place_errno (n : Int) (w : World) (hG : ErrT w) :
    Calls Tryz.prog 31 #[errV n] w fun e w' => e = .returned (.tuple #[.int .i64 0, .int .i64 0, .bool false]) ∧ Below w.heap.size w w' := by
  unfold errV
  go_enter Tryz.func31, Tryz.ntmps31
  go_wp2_with fail
  refine (as_errno n w.heap.size _ (hG.alloc _)).mono ?_
  rintro e w1 ⟨rfl, h4⟩
  have HB := Lib.hid (((Below.refl w.heap.size w).alloc (Nat.le_refl _) (.cells #[.int .i64 0, .int .i64 0, .int .i64 0] 61)).trans (h4.mono (by simp)))
  clear h4
  go_wp2_with fail
  go_ret3
  exact ⟨rfl, HB.out⟩
set_option maxHeartbeats 400000 in
set_option maxRecDepth 100000 in
theorem place_nil (w : World) :
    Calls Tryz.prog 31 #[.nilIface] w fun e w' => e = .returned (.tuple #[.int .i64 0, .int .i64 0, .bool false]) ∧ Below w.heap.size w w' := by
  go_enter Tryz.func31, Tryz.ntmps31
  go_wp2_with fail
  go_ret3
  exact ⟨rfl, (Below.refl _ _).alloc (Nat.le_refl _) _⟩
set_option maxHeartbeats 400000 in
set_option maxRecDepth 100000 in
theorem at_fault (n l a m l' a' : Int) (w : World) (hG : ErrT w) (h1 : 1 ≤ n) (h2 : n ≤ 32) (hm : 1 ≤ m) :
    Calls Tryz.prog 10 #[faultV n l a, .int .i64 m, .int .i64 l', .int .i64 a'] w fun e w' => e = .returned (.bool ((n == m) && (l == l') && (a == a'))) ∧ Below w.heap.size w w' := by
  have hI := isNum_fault n l a
  have hm0 : (m == 0) = false := by rw [beq_eq_false_iff_ne]; omega
  go_enter Tryz.func10, Tryz.ntmps10
  go_wp2_with fail
  refine (place_fault n l a _ hG h1 h2).mono ?_
  rintro e w1 ⟨rfl, hb⟩
  have HB1 := Lib.hid hb
  clear hb
  go_wp2_with fail
  refine (num_any _ _ n _ hI h1 h2).mono ?_
  rintro e w2 ⟨rfl, hb⟩
  have HB2 := Lib.hid (HB1.out.trans (hb.mono HB1.out.size))
  clear hb HB1
  cases hx : (n == m) <;> cases hy : (l == l') <;> cases hz : (a == a')
  all_goals
    go_wp2_with fail
    go_ret
    exact ⟨by first | rfl | (rw [hx, hy, hz]; rfl), HB2.out⟩
set_option maxHeartbeats 400000 in
theorem at_nil (l' a' : Int) (w : World) :
    Calls Tryz.prog 10 #[.nilIface, .int .i64 0, .int .i64 l', .int .i64 a'] w fun e w' => e = .returned (.bool true) ∧ w = w' := by
  go_enter Tryz.func10, Tryz.ntmps10
  go_wp2_with fail
  go_ret
  exact ⟨rfl, rfl⟩
end Go.Proofs.YthpmocfdnoehoaaGreatDoor
