/- Contract of SameMembers: two lists that are the same. -/
import Derived.Test.YthpmocfdnoehoaaGreatDoorMemEq
namespace Go.Proofs.YthpmocfdnoehoaaGreatDoor
open Go.RowKit
attribute [local go_sem] run_neqM guard_neqM
set_option maxHeartbeats 1600000 in
set_option maxRecDepth 100000 in
theorem same_any (l : List Mem) (p q : Option Addr) (c d : Nat) (w : World) (hP : MemsAt w p l) (hQ : MemsAt w q l) (hn : l.length ≤ 1152921504606846975) :
    Calls Tryz.prog 35 #[.slice p l.length c, .slice q l.length d] w fun e w' => e = .returned (.bool true) ∧ Below w.heap.size w w' := by
  go_enter Tryz.func35, Tryz.ntmps35
  obtain ⟨n, hnl⟩ : ∃ n, l.length = n := ⟨_, rfl⟩
  rw [hnl] at hn ⊢
  have HN := Lib.hid hnl
  have HP := Lib.hid hP
  have HQ := Lib.hid hQ
  clear hnl hP hQ
  go_wp2_with fail
  go_loopw [5] (fun iv wr => ∃ k : Nat, k ≤ n ∧ iv = .int .i64 k ∧ Hid (Below w.heap.size w wr)) (fun iv _ => n - (intOf iv).toNat)
  case atStart => exact ⟨0, Nat.zero_le _, rfl, Below.refl _ _⟩
  case round =>
    obtain ⟨k, hk, rfl, hbel⟩ := hrel
    by_cases hlt : k < n
    · obtain ⟨m, hm⟩ : ∃ m, l[k]? = some m := ⟨_, List.getElem?_eq_getElem (i := k) (by have := HN.out; omega)⟩
      obtain ⟨b, off, rfl, hb⟩ := HP.out.1 k (by have := HN.out; omega)
      obtain ⟨b2, off2, rfl, hb2⟩ := HQ.out.1 k (by have := HN.out; omega)
      have hrow : ∀ j, j < 13 → wr.cell? ⟨b, off + (k * 13 + j), none⟩ = m.cells[j]? := fun j hj => (hbel.out.cell (p := ⟨b, off + (k * 13 + j), none⟩) hb).trans (HP.out.2 b off rfl k m hm j hj)
      have hrow2 : ∀ j, j < 13 → wr.cell? ⟨b2, off2 + (k * 13 + j), none⟩ = m.cells[j]? := fun j hj => (hbel.out.cell (p := ⟨b2, off2 + (k * 13 + j), none⟩) hb2).trans (HQ.out.2 b2 off2 rfl k m hm j hj)
      have c0 : wr.cell? ⟨b, off + k * 13, none⟩ = some (.string m.hdr.path) := row_cell hrow (j := 0) (by decide) rfl
      have d0 : wr.cell? ⟨b2, off2 + k * 13, none⟩ = some (.string m.hdr.path) := row_cell hrow2 (j := 0) (by decide) rfl
      have c1 := row_cell hrow (j := 1) (by decide) rfl
      have d1 := row_cell hrow2 (j := 1) (by decide) rfl
      have c2 := row_cell hrow (j := 2) (by decide) rfl
      have d2 := row_cell hrow2 (j := 2) (by decide) rfl
      have c3 := row_cell hrow (j := 3) (by decide) rfl
      have d3 := row_cell hrow2 (j := 3) (by decide) rfl
      have c4 := row_cell hrow (j := 4) (by decide) rfl
      have d4 := row_cell hrow2 (j := 4) (by decide) rfl
      have c5 := row_cell hrow (j := 5) (by decide) rfl
      have d5 := row_cell hrow2 (j := 5) (by decide) rfl
      have c6 := row_cell hrow (j := 6) (by decide) rfl
      have d6 := row_cell hrow2 (j := 6) (by decide) rfl
      have c7 := row_cell hrow (j := 7) (by decide) rfl
      have d7 := row_cell hrow2 (j := 7) (by decide) rfl
      have c8 := row_cell hrow (j := 8) (by decide) rfl
      have d8 := row_cell hrow2 (j := 8) (by decide) rfl
      have c9 := row_cell hrow (j := 9) (by decide) rfl
      have d9 := row_cell hrow2 (j := 9) (by decide) rfl
      have c10 := row_cell hrow (j := 10) (by decide) rfl
      have d10 := row_cell hrow2 (j := 10) (by decide) rfl
      have c11 := row_cell hrow (j := 11) (by decide) rfl
      have d11 := row_cell hrow2 (j := 11) (by decide) rfl
      have c12 := row_cell hrow (j := 12) (by decide) rfl
      have d12 := row_cell hrow2 (j := 12) (by decide) rfl
      clear hm hrow hrow2
      go_wp2_with fail
      go_region
      clear c0 c1 c2 c3 c4 c5 c6 c7 c8 c9 c10 c11 c12 d0 d1 d2 d3 d4 d5 d6 d7 d8 d9 d10 d11 d12
      go_wp2_with fail
      go_roundw
      case rel => exact ⟨k + 1, by omega, by rw [Int.natCast_add]; rfl, hbel.out.drew⟩
      case measure => simp [intOf]; omega
    · go_wp2_with fail
      go_ret
      exact ⟨rfl, hbel.out⟩
end Go.Proofs.YthpmocfdnoehoaaGreatDoor
