/- Contracts of FullMembers, LentMembers: a copy with sixteen marks behind. -/
import Derived.Test.YthpmocfdnoehoaaGreatDoorLent
namespace Go.Proofs.YthpmocfdnoehoaaGreatDoor
open Go.RowKit
/-- So many marks. -/
def marks (n : Nat) : List Mem := (List.range n).map fun i => markM 90 (i : Nat)
theorem marks_succ (n : Nat) : marks (n + 1) = marks n ++ [markM 90 (n : Nat)] := by
  unfold marks; rw [List.range_succ, List.map_append]; rfl
set_option maxHeartbeats 3200000 in
set_option maxRecDepth 100000 in
theorem full_any (l : List Mem) (p : Option Addr) (cap : Nat) (w : World) (hM : MemsAt w p l) (hn : ((l.length : Int) + 16) * 144 ≤ 140737488355328) :
    Calls Tryz.prog 23 #[.slice p l.length cap] w fun e w' => ∃ v, e = .returned v ∧ OwnMs w.heap.size (l ++ marks 16) v w' ∧ Below w.heap.size w w' := by
  obtain ⟨i0, hi, hz0, hz1, hz2⟩ := info_parts info33
  go_enter Tryz.func23, Tryz.ntmps23
  go_wp2_with fail
  obtain ⟨n, hnl⟩ : ∃ n, l.length = n := ⟨_, rfl⟩
  rw [hnl] at hn ⊢
  have HN := Lib.hid hnl
  have HM := Lib.hid hM
  clear hnl hM
  go_loopw [3, 4] (fun v iv wr => ∃ k : Nat, k ≤ n ∧ iv = .int .i64 k ∧ Hid (OwnMs w.heap.size (l.take k) v wr) ∧ Hid (Below w.heap.size w wr)) (fun _ iv _ => n - (intOf iv).toNat)
  case atStart => exact ⟨0, Nat.zero_le _, rfl, ⟨World.ownsRow_nil _ _ _ _, by simp⟩, Below.refl _ _⟩
  case round =>
    obtain ⟨k, hk, rfl, hown, hbel⟩ := hrel
    by_cases hlt : k < n
    · obtain ⟨m, hm⟩ : ∃ m, l[k]? = some m := ⟨_, List.getElem?_eq_getElem (i := k) (by have := HN.out; omega)⟩
      have htk : l.take (k + 1) = l.take k ++ [m] := by rw [List.take_add_one, hm]; rfl
      have hlk : (l.take k).length = k := by rw [List.length_take]; have := HN.out; omega
      obtain ⟨b, off, rfl, hb⟩ := HM.out.1 k (by have := HN.out; omega)
      have hrow : ∀ j, j < 13 → wr.cell? ⟨b, off + (k * 13 + j), none⟩ = m.cells[j]? := fun j hj => (hbel.out.cell (p := ⟨b, off + (k * 13 + j), none⟩) hb).trans (HM.out.2 b off rfl k m hm j hj)
      have c0 : wr.cell? ⟨b, off + k * 13, none⟩ = some (.string m.hdr.path) := row_cell hrow (j := 0) (by decide) rfl
      have c1 := row_cell hrow (j := 1) (by decide) rfl
      have c2 := row_cell hrow (j := 2) (by decide) rfl
      have c3 := row_cell hrow (j := 3) (by decide) rfl
      have c4 := row_cell hrow (j := 4) (by decide) rfl
      have c5 := row_cell hrow (j := 5) (by decide) rfl
      have c6 := row_cell hrow (j := 6) (by decide) rfl
      have c7 := row_cell hrow (j := 7) (by decide) rfl
      have c8 := row_cell hrow (j := 8) (by decide) rfl
      have c9 := row_cell hrow (j := 9) (by decide) rfl
      have c10 := row_cell hrow (j := 10) (by decide) rfl
      have c11 := row_cell hrow (j := 11) (by decide) rfl
      have c12 := row_cell hrow (j := 12) (by decide) rfl
      have HTK := Lib.hid htk
      have HLK := Lib.hid hlk
      clear hm htk hrow hlk
      have hsz := hbel.out.size
      go_wp2_with (first
        | (at_builtin; refine wpList_append_own _ rfl _ _ 22 rfl w.heap.size 26 i0 (.agg zm) 13 144 Tryz.underlying22 hi hz0 hz1 hz2 rfl (by decide) _ _ _ rfl (hown.out.1.alloc _) ⟨wr.heap.size, 0, none⟩ 1 1 m.cells.toList rfl rfl (new13 wr m _) (one13 m) (by rw [HLK.out]; unfold maxLen; omega) (by rw [HLK.out]; omega) (by rw [World.size_alloc]; omega) ?_; intro v' w1 hown' hgrow _)
        | go_in)
      case roundEnd =>
        have h := hown.out.app (m := m) hbel.out hsz (by rw [HLK.out] at hown' ⊢; exact hown') hgrow
        rw [← HTK.out] at h
        exact ⟨⟨k + 1, by omega, by rw [Int.natCast_add]; rfl, h.1, h.2⟩, by simp [intOf]; omega⟩
    · have e : l.take k = l := List.take_of_length_le (by have := HN.out; omega)
      have h := hown.out
      rw [e] at h
      have HO := Lib.hid h
      clear h e hown
      go_wp2_with fail
      go_loopw [3, 5] (fun v iv ws => ∃ j : Nat, j ≤ 16 ∧ iv = .int .i64 j ∧ Hid (OwnMs w.heap.size (l ++ marks j) v ws) ∧ Hid (Below w.heap.size w ws)) (fun _ iv _ => 16 - (intOf iv).toNat)
      case atStart => exact ⟨0, by omega, rfl, (by show OwnMs _ (l ++ []) _ _; rw [List.append_nil]; exact HO.out), hbel⟩
      case round =>
        obtain ⟨j, hj, rfl, hown, hbel2⟩ := hrel
        have hml : (l ++ marks j).length = n + j := by rw [List.length_append, HN.out]; unfold marks; rw [List.length_map, List.length_range]
        have HML := Lib.hid hml
        clear hml
        by_cases hlt2 : (j : Int) < 16
        · have hmk : ∀ w1 : World, Calls Tryz.prog 44 #[.int .i64 90, .int .i64 j] w1 fun e w' => e = .returned (.agg (markM 90 (j : Nat)).cells) ∧ Below w1.heap.size w1 w' := fun w1 => markM_any 90 j w1 (by decide) (by omega) (by omega)
          have HMC := Lib.hid hmk
          clear hmk
          have HJ := Lib.hid hj
          have HK := Lib.hid hk
          have HN2 := Lib.hid hn
          clear hj hk hn
          go_wp2_with fail
          refine (HMC.out _).mono ?_
          rintro e w1 ⟨rfl, hb1⟩
          have HO1 := Lib.hid (hown.out.keep hb1)
          have HB1 := Lib.hid (hbel2.out.trans (hb1.mono hbel2.out.size))
          have hsz := HB1.out.size
          clear hown hb1 HMC
          obtain ⟨m, hm⟩ : ∃ m, markM 90 (j : Nat) = m := ⟨_, rfl⟩
          rw [hm]
          have HMK := Lib.hid hm
          clear hm
          go_wp2_with (first
            | (at_builtin; refine wpList_append_own _ rfl _ _ 22 rfl w.heap.size 26 i0 (.agg zm) 13 144 Tryz.underlying22 hi hz0 hz1 hz2 rfl (by decide) _ _ _ rfl (HO1.out.1.alloc _) ⟨w1.heap.size, 0, none⟩ 1 1 m.cells.toList rfl rfl (new13 w1 m _) (one13 m) (by have := HN2.out; rw [HML.out]; unfold maxLen; omega) (by have := HN2.out; rw [HML.out]; omega) (by rw [World.size_alloc]; omega) ?_; intro v' w2 hown' hgrow _)
            | go_in)
          case roundEnd =>
            have h := HO1.out.app (m := m) HB1.out hsz (by rw [HML.out] at hown' ⊢; exact hown') hgrow
            rw [List.append_assoc, ← HMK.out, ← marks_succ] at h
            exact ⟨⟨j + 1, by omega, by rw [Int.natCast_add]; rfl, h.1, h.2⟩, by simp [intOf]; omega⟩
        · obtain rfl : j = 16 := by omega
          go_wp2_with fail
          go_ret
          exact ⟨_, rfl, hown.out, hbel2.out⟩
end Go.Proofs.YthpmocfdnoehoaaGreatDoor
