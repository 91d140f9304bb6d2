/- Contracts of LentMembers, KeptMembers. -/
import Derived.Test.YthpmocfdnoehoaaGreatDoorFull
namespace Go.Proofs.YthpmocfdnoehoaaGreatDoor
open Go.RowKit
attribute [local go_sem] run_neqM guard_neqM
/-- A lent list: the members, marks in the spare room. -/
def Lent (base : Nat) (l : List Mem) (p : Option Addr) (cap : Nat) (w : World) : Prop := OwnMs base (l ++ marks 16) (.slice p (l.length + 16) cap) w
theorem marks_len (n : Nat) : (marks n).length = n := by unfold marks; rw [List.length_map, List.length_range]
theorem OwnMs.some {base : Nat} {ms : List Mem} {v : Value} {w : World} (h : OwnMs base ms v w) (hn : ms ≠ []) : ∃ g cap, v = .slice (.some ⟨g, 0, none⟩) ms.length cap ∧ base ≤ g ∧ g < w.heap.size ∧ ms.length ≤ cap ∧ cap ≤ 9223372036854775807 := by
  rcases h.1.2 with ⟨h1, h2⟩ | ⟨g, cap, cur, h1, h2, h3, h4, h5, h6, h7⟩
  · exact absurd (List.eq_nil_of_length_eq_zero h2) hn
  · exact ⟨g, cap, h1, h2, blk_lt h3, h4, by unfold maxLen at h5; omega⟩
theorem MemsAt.take {w : World} {p : Option Addr} {l r : List Mem} (h : MemsAt w p (l ++ r)) : MemsAt w p l := by
  refine ⟨fun i hi => h.1 i (by rw [List.length_append]; omega), fun b off hp i m hm j hj => h.2 b off hp i m ?_ j hj⟩
  rw [List.getElem?_append_left (List.getElem?_eq_some_iff.1 hm).1]
  exact hm
set_option maxHeartbeats 1600000 in
set_option maxRecDepth 100000 in
theorem lent_any (l : List Mem) (p : Option Addr) (cap : Nat) (w : World) (hM : MemsAt w p l) (hn : ((l.length : Int) + 16) * 144 ≤ 140737488355328) :
    Calls Tryz.prog 8 #[.slice p l.length cap] w fun e w' => ∃ q c, e = .returned (.slice q l.length c) ∧ Lent w.heap.size l q c w' ∧ Below w.heap.size w w' := by
  have hf := full_any l p cap w hM hn
  obtain ⟨n, hnl⟩ : ∃ n, l.length = n := ⟨_, rfl⟩
  have HN := Lib.hid hnl
  rw [hnl] at hf hn ⊢
  clear hnl hM
  go_enter Tryz.func8, Tryz.ntmps8
  go_wp2_with fail
  refine hf.mono ?_
  rintro e w1 ⟨v, rfl, ho, hb⟩
  obtain ⟨g, c, rfl, hg1, hg2, hc1, hc2⟩ := ho.some (by simp [marks])
  rw [List.length_append, marks_len, HN.out] at ho hc1 ⊢
  have HO := Lib.hid ho
  have HB := Lib.hid hb
  have hc3 : (n : Int) ≤ (c : Int) := by omega
  have hc4 : (c : Int) ≤ 9223372036854775807 := by omega
  clear ho hb hf hc1 hc2 hg1 hg2
  go_wp2_with fail
  go_ret
  exact ⟨_, _, rfl, (by unfold Lent; rw [HN.out]; exact HO.out), HB.out⟩
set_option maxHeartbeats 3200000 in
set_option maxRecDepth 100000 in
theorem keptFull_any (l : List Mem) (q p : Option Addr) (c cap : Nat) (w : World) (hQ : MemsAt w q (l ++ marks 16)) (hP : MemsAt w p l) (hn : (l.length : Int) ≤ 33000000) :
    Calls Tryz.prog 33 #[.slice q (l.length + 16 : Nat) c, .slice p l.length cap] w fun e w' => e = .returned (.bool true) ∧ Below w.heap.size w w' := by
  obtain ⟨n, hnl⟩ : ∃ n, l.length = n := ⟨_, rfl⟩
  have HN := Lib.hid hnl
  have HQ := Lib.hid hQ
  have HP := Lib.hid hP
  rw [hnl] at hn ⊢
  clear hnl hQ hP
  go_enter Tryz.func33, Tryz.ntmps33
  go_wp2_with fail
  go_loopw [5] (fun iv wr => ∃ k : Nat, k ≤ n + 16 ∧ iv = .int .i64 k ∧ Hid (Below w.heap.size w wr)) (fun iv _ => n + 16 - (intOf iv).toNat)
  case atStart => exact ⟨0, by omega, rfl, Below.refl _ _⟩
  case round =>
    obtain ⟨k, hk, rfl, hbel⟩ := hrel
    have HK := Lib.hid hk
    clear hk
    by_cases hlt : (k : Int) < (n : Int) + 16
    · have hmk : ∀ w1 : World, Calls Tryz.prog 44 #[.int .i64 90, .int .i64 ((k : Int) - (n : Int))] w1 fun e w' => e = .returned (.agg (markM 90 ((k : Int) - (n : Int))).cells) ∧ Below w1.heap.size w1 w' := fun w1 => markM_any 90 _ w1 (by decide) (by omega) (by omega)
      have HMC := Lib.hid hmk
      clear hmk
      go_wp2_with fail
      refine (HMC.out _).mono ?_
      rintro e w1 ⟨rfl, hb1⟩
      obtain ⟨M, hM⟩ : ∃ M, markM 90 ((k : Int) - (n : Int)) = M := ⟨_, rfl⟩
      rw [hM]
      have HMM := Lib.hid hM
      have HB1 := Lib.hid (hbel.out.trans (hb1.mono hbel.out.size))
      clear hM hb1 HMC
      by_cases hkn : (k : Int) < (n : Int)
      · obtain ⟨m, hm⟩ : ∃ m, l[k]? = some m := ⟨_, List.getElem?_eq_getElem (i := k) (by have := HN.out; omega)⟩
        obtain ⟨b, off, rfl, hb⟩ := HP.out.1 k (by have := HN.out; omega)
        have hrow : ∀ j, j < 13 → (w1.alloc (.cells M.cells 26)).cell? ⟨b, off + (k * 13 + j), none⟩ = m.cells[j]? := fun j hj => ((HB1.out.alloc HB1.out.size _).cell (p := ⟨b, off + (k * 13 + j), none⟩) hb).trans (HP.out.2 b off rfl k m hm j hj)
        have c0 : (w1.alloc (.cells M.cells 26)).cell? ⟨b, off + k * 13, none⟩ = some (.string m.hdr.path) := row_cell hrow (j := 0) (by decide) rfl
        have c1 := row_cell hrow (j := 1) (by decide) rfl
        have c2 := row_cell hrow (j := 2) (by decide) rfl
        have c3 := row_cell hrow (j := 3) (by decide) rfl
        have c4 := row_cell hrow (j := 4) (by decide) rfl
        have c5 := row_cell hrow (j := 5) (by decide) rfl
        have c6 := row_cell hrow (j := 6) (by decide) rfl
        have c7 := row_cell hrow (j := 7) (by decide) rfl
        have c8 := row_cell hrow (j := 8) (by decide) rfl
        have c9 := row_cell hrow (j := 9) (by decide) rfl
        have c10 := row_cell hrow (j := 10) (by decide) rfl
        have c11 := row_cell hrow (j := 11) (by decide) rfl
        have c12 := row_cell hrow (j := 12) (by decide) rfl
        clear hrow
        go_wp2_with fail
        clear c0 c1 c2 c3 c4 c5 c6 c7 c8 c9 c10 c11 c12
        have hX : (l ++ marks 16)[k]? = some m := by rw [List.getElem?_append_left (by have := HN.out; omega)]; exact hm
        clear hm
        obtain ⟨qb, qo, rfl, hqb⟩ := HQ.out.1 k (by rw [List.length_append, marks_len]; have := HN.out; omega)
        have hrow2 : ∀ j, j < 13 → (w1.alloc (.cells m.cells 26)).cell? ⟨qb, qo + (k * 13 + j), none⟩ = m.cells[j]? := fun j hj => ((HB1.out.alloc HB1.out.size _).cell (p := ⟨qb, qo + (k * 13 + j), none⟩) hqb).trans (HQ.out.2 qb qo rfl k m hX j hj)
        have d0 : (w1.alloc (.cells m.cells 26)).cell? ⟨qb, qo + k * 13, none⟩ = some (.string m.hdr.path) := row_cell hrow2 (j := 0) (by decide) rfl
        have d1 := row_cell hrow2 (j := 1) (by decide) rfl
        have d2 := row_cell hrow2 (j := 2) (by decide) rfl
        have d3 := row_cell hrow2 (j := 3) (by decide) rfl
        have d4 := row_cell hrow2 (j := 4) (by decide) rfl
        have d5 := row_cell hrow2 (j := 5) (by decide) rfl
        have d6 := row_cell hrow2 (j := 6) (by decide) rfl
        have d7 := row_cell hrow2 (j := 7) (by decide) rfl
        have d8 := row_cell hrow2 (j := 8) (by decide) rfl
        have d9 := row_cell hrow2 (j := 9) (by decide) rfl
        have d10 := row_cell hrow2 (j := 10) (by decide) rfl
        have d11 := row_cell hrow2 (j := 11) (by decide) rfl
        have d12 := row_cell hrow2 (j := 12) (by decide) rfl
        have cw := cell_new w1 m.cells 26
        have HB2 := Lib.hid (HB1.out.alloc HB1.out.size (.cells m.cells 26)).drew
        clear hrow2 hX
        change Code.wp _ _ _ _ (w1.alloc (.cells m.cells 26))
        generalize w1.alloc (.cells m.cells 26) = w3 at d0 d1 d2 d3 d4 d5 d6 d7 d8 d9 d10 d11 d12 cw HB2 ⊢
        go_region
        clear d0 d1 d2 d3 d4 d5 d6 d7 d8 d9 d10 d11 d12 cw
        go_wp2_with fail
        go_roundw
        case rel => exact ⟨k + 1, by omega, by rw [Int.natCast_add]; rfl, HB2.out⟩
        case measure => simp [intOf]; omega
      · go_wp2_with fail
        have hX : (l ++ marks 16)[k]? = some M := by
          have hn2 := HN.out
          rw [List.getElem?_append_right (by omega), hn2]
          unfold marks
          rw [List.getElem?_map, List.getElem?_range (by omega), ← HMM.out]
          show some (markM 90 ((k - n : Nat) : Int)) = _
          rw [show ((k - n : Nat) : Int) = (k : Int) - (n : Int) by omega]
        obtain ⟨qb, qo, rfl, hqb⟩ := HQ.out.1 k (by rw [List.length_append, marks_len]; have := HN.out; omega)
        have hrow2 : ∀ j, j < 13 → (w1.alloc (.cells M.cells 26)).cell? ⟨qb, qo + (k * 13 + j), none⟩ = M.cells[j]? := fun j hj => ((HB1.out.alloc HB1.out.size _).cell (p := ⟨qb, qo + (k * 13 + j), none⟩) hqb).trans (HQ.out.2 qb qo rfl k M hX j hj)
        have d0 : (w1.alloc (.cells M.cells 26)).cell? ⟨qb, qo + k * 13, none⟩ = some (.string M.hdr.path) := row_cell hrow2 (j := 0) (by decide) rfl
        have d1 := row_cell hrow2 (j := 1) (by decide) rfl
        have d2 := row_cell hrow2 (j := 2) (by decide) rfl
        have d3 := row_cell hrow2 (j := 3) (by decide) rfl
        have d4 := row_cell hrow2 (j := 4) (by decide) rfl
        have d5 := row_cell hrow2 (j := 5) (by decide) rfl
        have d6 := row_cell hrow2 (j := 6) (by decide) rfl
        have d7 := row_cell hrow2 (j := 7) (by decide) rfl
        have d8 := row_cell hrow2 (j := 8) (by decide) rfl
        have d9 := row_cell hrow2 (j := 9) (by decide) rfl
        have d10 := row_cell hrow2 (j := 10) (by decide) rfl
        have d11 := row_cell hrow2 (j := 11) (by decide) rfl
        have d12 := row_cell hrow2 (j := 12) (by decide) rfl
        have cw := cell_new w1 M.cells 26
        have HB2 := Lib.hid (HB1.out.alloc HB1.out.size (.cells M.cells 26)).drew
        clear hrow2 hX
        change Code.wp _ _ _ _ (w1.alloc (.cells M.cells 26))
        generalize w1.alloc (.cells M.cells 26) = w3 at d0 d1 d2 d3 d4 d5 d6 d7 d8 d9 d10 d11 d12 cw HB2 ⊢
        go_region
        clear d0 d1 d2 d3 d4 d5 d6 d7 d8 d9 d10 d11 d12 cw
        go_wp2_with fail
        go_roundw
        case rel => exact ⟨k + 1, by omega, by rw [Int.natCast_add]; rfl, HB2.out⟩
        case measure => simp [intOf]; omega
    · go_wp2_with fail
      go_ret
      exact ⟨rfl, hbel.out⟩
theorem Lent.mems {base : Nat} {l : List Mem} {q : Option Addr} {c : Nat} {w : World} (h : Lent base l q c w) : MemsAt w q (l ++ marks 16) ∧ l.length + 16 ≤ c ∧ c ≤ 9223372036854775807 := by
  obtain ⟨p, cap, e, hm, h1, h2⟩ := OwnMs.at h
  rw [List.length_append, marks_len] at e h1
  cases e
  exact ⟨hm, h1, h2⟩
theorem Lent.keep {base : Nat} {l : List Mem} {q : Option Addr} {c : Nat} {w w' : World} (h : Lent base l q c w) (hb : Below w.heap.size w w') : Lent base l q c w' := OwnMs.keep h hb
set_option maxHeartbeats 1600000 in
set_option maxRecDepth 100000 in
theorem kept_any (base : Nat) (l : List Mem) (q p : Option Addr) (c cap : Nat) (w : World) (hL : Lent base l q c w) (hP : MemsAt w p l) (hn : (l.length : Int) ≤ 33000000) :
    Calls Tryz.prog 11 #[.slice q l.length c, .slice p l.length cap] w fun e w' => e = .returned (.bool true) ∧ Below w.heap.size w w' := by
  obtain ⟨hm, h1, h2⟩ := hL.mems
  have hk := keptFull_any l q p c cap w hm hP hn
  obtain ⟨n, hnl⟩ : ∃ n, l.length = n := ⟨_, rfl⟩
  rw [hnl] at hk h1 hn ⊢
  have hc1 : (n : Int) + 16 ≤ (c : Int) := by omega
  have hc2 : (c : Int) ≤ 9223372036854775807 := by omega
  have HK := Lib.hid hk
  clear hm hnl hP hL h1 h2 hk
  go_enter Tryz.func11, Tryz.ntmps11
  go_wp2_with fail
  refine HK.out.mono ?_
  rintro e w1 ⟨rfl, hb⟩
  have HB := Lib.hid hb
  clear hb
  go_wp2_with fail
  go_ret
  exact ⟨rfl, HB.out⟩
end Go.Proofs.YthpmocfdnoehoaaGreatDoor
