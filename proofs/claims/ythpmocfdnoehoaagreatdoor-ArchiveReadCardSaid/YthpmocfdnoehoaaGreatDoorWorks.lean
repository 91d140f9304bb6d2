/- Contracts of one, Head, Blocks; of works: a member that is written and read, and one that is not. -/
import Derived.Test.YthpmocfdnoehoaaGreatDoorArcRun
import Derived.Test.YthpmocfdnoehoaaGreatDoorPlace
import Derived.Deep.RegionHeld3
namespace Go.Proofs.YthpmocfdnoehoaaGreatDoor
open Go.RowKit
/-- The member of the examples. -/
def oneM : Mem := ⟨{ path := ⟨#[97]⟩, mode := 420, uid := 0, gid := 0, size := 3, time := 0, typ := 48, link := ⟨#[]⟩, user := ⟨#[]⟩, group := ⟨#[]⟩, major := 0, minor := 0 }, ⟨#[120, 121, 122]⟩⟩
theorem one_ok : MemOk oneM := ⟨by kernel_rfl, rfl⟩
theorem wrGo_one {m : Mem} (h : wrBad 0 m = 0) : (wrGo [m] 0 []).1 = 0 := by
  rw [wrGo, if_neg (by rw [List.length_nil, h]; simp), wrGo]
theorem wrBad_one {m : Mem} (h : MemOk m) (hw : 0 + Go.Proofs.YthpmocfdnoehoaaGreatDoor.whole m.data.size + 1536 ≤ 33554432) : wrBad 0 m = 0 := by
  unfold wrBad
  rw [if_neg (by rw [h.1]; simp), if_neg (by simp [h.2]), if_neg (by omega)]
theorem one_wr : wrGo [oneM] 0 [] = (0, 0, arcOf [oneM]) := by
  have h : wrBad 0 oneM = 0 := wrBad_one one_ok (by have hw : Go.Proofs.YthpmocfdnoehoaaGreatDoor.whole oneM.data.size = 512 := rfl; omega)
  have := (wrGo_fst [oneM] 0 [] (wrGo_one h)).1
  rw [List.nil_append] at this
  exact this
theorem one_small : oneM.small :=
  ⟨⟨by rw [show oneM.hdr.path.size = 1 from rfl]; omega, by rw [show oneM.hdr.link.size = 0 from rfl]; omega, by rw [show oneM.hdr.user.size = 0 from rfl]; omega, by rw [show oneM.hdr.group.size = 0 from rfl]; omega⟩, by rw [show oneM.data.size = 3 from rfl]; omega⟩
theorem one_len : (arcOf [oneM]).length = 2048 := by
  have e : arcOf [] = List.replicate 1024 0 := rfl
  have hw : Go.Proofs.YthpmocfdnoehoaaGreatDoor.whole oneM.data.size = 512 := rfl
  rw [arcOf_cons, List.length_append, memBytes_length one_ok, e, List.length_replicate, hw]
/-- The beginning of it that is shorter. -/
theorem one_cut : rdGo ((arcOf [oneM]).take 1000) (((arcOf [oneM]).take 1000).length + 1) 0 = [.bad 2 512] := by
  have hl := one_len
  obtain ⟨g1, g2⟩ := memAt_back (P := []) (i := 0) (R := arcOf []) one_ok rfl
  rw [List.nil_append, ← arcOf_cons] at g1 g2
  have hk : ((arcOf [oneM]).take 1000).length = 1000 := by rw [List.length_take, hl]; rfl
  rcases memAt_in (k := 1000) g2 (by omega) (by omega) with ⟨h4, h5⟩ | ⟨h4, h5⟩
  · exact rdGo_bad (by omega) (by omega) (by rw [zero_in (by omega)]; exact g1) h5
  · exact absurd h4 (by decide)
set_option maxRecDepth 100000 in
theorem one_any (w : World) : Calls Tryz.prog 15 #[] w fun e w' => e = .returned (.agg oneM.cells) ∧ Below w.heap.size w w' := by
  go_enter Tryz.func15, Tryz.ntmps15
  go_wp2_with fail
  have hc := cell_new w oneM.cells 26
  exact bodyPost_ret (v := .agg oneM.cells) (by simp [results, Tryz.f15, go_sem, hc]; exact ⟨rfl, rfl, rfl, rfl, rfl, rfl, rfl, rfl, rfl, rfl, rfl, rfl, rfl⟩) rfl ⟨rfl, (Below.refl _ _).alloc (Nat.le_refl _) _⟩
set_option maxRecDepth 100000 in
theorem head_any (s : ByteArray) (w : World) (h : (1000 : Int) < (s.size : Int)) : Calls Tryz.prog 17 #[.string s, .int .i64 1000] w fun e w' => e = .returned (.string (s.extract 0 1000)) ∧ w = w' := by
  go_enter Tryz.func17, Tryz.ntmps17
  go_wp2_with fail
  go_ret
  exact ⟨rfl, rfl⟩
attribute [local go_sem] run_eqlM guard_eqlM
set_option maxHeartbeats 3200000 in
set_option maxRecDepth 100000 in
theorem works_any (w : World) (hG : ErrT w) : Calls Tryz.prog 6 #[] w fun e w' => e = .returned (.bool true) ∧ Below w.heap.size w w' := by
  go_enter Tryz.func6, Tryz.ntmps6
  go_wp2_with fail
  obtain ⟨S, hS⟩ : ∃ S : ByteArray, S.data.toList = arcOf [oneM] := ⟨⟨(arcOf [oneM]).toArray⟩, rfl⟩
  have hSz : (S.size : Int) = 2048 := by
    have : S.data.toList.length = 2048 := by rw [hS, one_len]
    have h2 : S.size = S.data.toList.length := rfl
    omega
  have HS := Lib.hid hS
  clear hS
  refine (one_any _).mono ?_
  rintro e w1 ⟨rfl, hb1⟩
  have HB1 := Lib.hid (hb1.alloc hb1.size (.cells oneM.cells 26))
  have HG1 := Lib.hid (hG.below HB1.out hG.2)
  have HM := Lib.hid (memsAt_one w1 oneM)
  clear hb1
  go_wp2_with fail
  refine (write_arc [oneM] _ 1 _ HM.out (by simp) (by intro m hm; rw [List.mem_singleton.1 hm]; exact one_small) (by rw [one_wr]) S HS.out).mono ?_
  rintro e w2 ⟨rfl, hb2⟩
  have HB2 := Lib.hid (HB1.out.trans (hb2.mono HB1.out.size))
  clear hb2 HB1 HG1 HM
  have hok : ∀ m ∈ [oneM], MemOk m := by intro m hm; rw [List.mem_singleton.1 hm]; exact one_ok
  go_wp2_with fail
  refine (read_arc [oneM] hok S HS.out (by omega) _).mono ?_
  rintro e w3 ⟨v, rfl, ho, hb3⟩
  obtain ⟨p, cap, rfl, hm, _, _⟩ := ho.at
  have HB3 := Lib.hid (HB2.out.trans (hb3.mono HB2.out.size))
  have HM := Lib.hid hm
  clear ho hm hb3 HB2 hok
  go_wp2_with fail
  refine (head_any S _ (by omega)).mono ?_
  rintro e w4 ⟨rfl, rfl⟩
  go_wp2_with fail
  refine (read_bad (S.extract 0 1000) [] 2 512 (by rw [Lib.extract_data, HS.out, List.drop_zero]; exact one_cut) (by rw [ByteArray.size_extract]; omega) _).mono ?_
  rintro e w5 ⟨rfl, hb5⟩
  obtain ⟨b, off, rfl, hbl⟩ := HM.out.1 0 (by simp)
  have hrow : ∀ j, j < 13 → w5.cell? ⟨b, off + (0 * 13 + j), none⟩ = oneM.cells[j]? := fun j hj => (hb5.cell (p := ⟨b, off + (0 * 13 + j), none⟩) hbl).trans (HM.out.2 b off rfl 0 oneM rfl j hj)
  have HB5 := Lib.hid (HB3.out.trans (hb5.mono HB3.out.size)).drew
  have HG5 := Lib.hid (hG.below HB5.out hG.2)
  have hz5 : b < w5.heap.size := Nat.lt_of_lt_of_le hbl hb5.size
  clear hb5 HB3 HM hbl
  unfold faultV
  have c0 : w5.cell? ⟨b, off, none⟩ = some (.string oneM.hdr.path) := by simpa using row_cell hrow (j := 0) (by decide) rfl
  have c1 := row_cell hrow (j := 1) (by decide) rfl
  have c2 := row_cell hrow (j := 2) (by decide) rfl
  have c3 := row_cell hrow (j := 3) (by decide) rfl
  have c4 := row_cell hrow (j := 4) (by decide) rfl
  have c5 := row_cell hrow (j := 5) (by decide) rfl
  have c6 := row_cell hrow (j := 6) (by decide) rfl
  have c7 := row_cell hrow (j := 7) (by decide) rfl
  have c8 := row_cell hrow (j := 8) (by decide) rfl
  have c9 := row_cell hrow (j := 9) (by decide) rfl
  have c10 := row_cell hrow (j := 10) (by decide) rfl
  have c11 := row_cell hrow (j := 11) (by decide) rfl
  have c12 := row_cell hrow (j := 12) (by decide) rfl
  have hat := fun w6 (hE : ErrT w6) => at_fault 2 0 512 2 0 512 w6 hE (by decide) (by decide) (by decide)
  unfold faultV at hat
  simp only [Nat.zero_mul, Nat.add_zero] at c1 c2 c3 c4 c5 c6 c7 c8 c9 c10 c11 c12
  clear hrow
  go_wp2_with fail
  go_region_held3 (fun w' => w'.cell? ⟨b, off, none⟩ = some (.string oneM.hdr.path) ∧ w'.cell? ⟨b, off + 1, none⟩ = some (.int .i64 oneM.hdr.mode) ∧ w'.cell? ⟨b, off + 2, none⟩ = some (.int .i64 oneM.hdr.uid) ∧ w'.cell? ⟨b, off + 3, none⟩ = some (.int .i64 oneM.hdr.gid) ∧ w'.cell? ⟨b, off + 4, none⟩ = some (.int .i64 oneM.hdr.size) ∧ w'.cell? ⟨b, off + 5, none⟩ = some (.int .i64 oneM.hdr.time) ∧ w'.cell? ⟨b, off + 6, none⟩ = some (.int .u8 (oneM.hdr.typ.toNat : Int)) ∧ w'.cell? ⟨b, off + 7, none⟩ = some (.string oneM.hdr.link) ∧ w'.cell? ⟨b, off + 8, none⟩ = some (.string oneM.hdr.user) ∧ w'.cell? ⟨b, off + 9, none⟩ = some (.string oneM.hdr.group) ∧ w'.cell? ⟨b, off + 10, none⟩ = some (.int .i64 oneM.hdr.major) ∧ w'.cell? ⟨b, off + 11, none⟩ = some (.int .i64 oneM.hdr.minor) ∧ w'.cell? ⟨b, off + 12, none⟩ = some (.string oneM.data) ∧ Hid (Below w.heap.size w w') ∧ Hid (ErrT w') ∧ b < w'.heap.size)
    (first | exact ⟨c0, c1, c2, c3, c4, c5, c6, c7, c8, c9, c10, c11, c12, HB5, HG5, hz5⟩ | exact ⟨m0, m1, m2, m3, m4, m5, m6, m7, m8, m9, m10, m11, m12, m13, m14, m15⟩ | exact ⟨k0, k1, k2, k3, k4, k5, k6, k7, k8, k9, k10, k11, k12, k13, k14, k15⟩)
    (first | (go_at_call 15; refine (one_any _).mono ?_; rintro e w6 ⟨rfl, hb⟩; rename_i hH _ _; have k0 := (hb.cell (p := ⟨b, off, none⟩) hH.2.2.2.2.2.2.2.2.2.2.2.2.2.2.2).trans hH.1; have k1 := (hb.cell (p := ⟨b, off + 1, none⟩) hH.2.2.2.2.2.2.2.2.2.2.2.2.2.2.2).trans hH.2.1; have k2 := (hb.cell (p := ⟨b, off + 2, none⟩) hH.2.2.2.2.2.2.2.2.2.2.2.2.2.2.2).trans hH.2.2.1; have k3 := (hb.cell (p := ⟨b, off + 3, none⟩) hH.2.2.2.2.2.2.2.2.2.2.2.2.2.2.2).trans hH.2.2.2.1; have k4 := (hb.cell (p := ⟨b, off + 4, none⟩) hH.2.2.2.2.2.2.2.2.2.2.2.2.2.2.2).trans hH.2.2.2.2.1; have k5 := (hb.cell (p := ⟨b, off + 5, none⟩) hH.2.2.2.2.2.2.2.2.2.2.2.2.2.2.2).trans hH.2.2.2.2.2.1; have k6 := (hb.cell (p := ⟨b, off + 6, none⟩) hH.2.2.2.2.2.2.2.2.2.2.2.2.2.2.2).trans hH.2.2.2.2.2.2.1; have k7 := (hb.cell (p := ⟨b, off + 7, none⟩) hH.2.2.2.2.2.2.2.2.2.2.2.2.2.2.2).trans hH.2.2.2.2.2.2.2.1; have k8 := (hb.cell (p := ⟨b, off + 8, none⟩) hH.2.2.2.2.2.2.2.2.2.2.2.2.2.2.2).trans hH.2.2.2.2.2.2.2.2.1; have k9 := (hb.cell (p := ⟨b, off + 9, none⟩) hH.2.2.2.2.2.2.2.2.2.2.2.2.2.2.2).trans hH.2.2.2.2.2.2.2.2.2.1; have k10 := (hb.cell (p := ⟨b, off + 10, none⟩) hH.2.2.2.2.2.2.2.2.2.2.2.2.2.2.2).trans hH.2.2.2.2.2.2.2.2.2.2.1; have k11 := (hb.cell (p := ⟨b, off + 11, none⟩) hH.2.2.2.2.2.2.2.2.2.2.2.2.2.2.2).trans hH.2.2.2.2.2.2.2.2.2.2.2.1; have k12 := (hb.cell (p := ⟨b, off + 12, none⟩) hH.2.2.2.2.2.2.2.2.2.2.2.2.2.2.2).trans hH.2.2.2.2.2.2.2.2.2.2.2.2.1; have k13 := Lib.hid (hH.2.2.2.2.2.2.2.2.2.2.2.2.2.1.out.trans (hb.mono hH.2.2.2.2.2.2.2.2.2.2.2.2.2.1.out.size)); have k14 := Lib.hid (hH.2.2.2.2.2.2.2.2.2.2.2.2.2.2.1.out.below hb hH.2.2.2.2.2.2.2.2.2.2.2.2.2.2.1.out.2); have k15 := Nat.lt_of_lt_of_le hH.2.2.2.2.2.2.2.2.2.2.2.2.2.2.2 hb.size) | (go_at_call 10; refine (hat _ k14.out).mono ?_; rintro e w7 ⟨rfl, hb⟩; have m0 := (hb.cell (p := ⟨b, off, none⟩) k15).trans k0; have m1 := (hb.cell (p := ⟨b, off + 1, none⟩) k15).trans k1; have m2 := (hb.cell (p := ⟨b, off + 2, none⟩) k15).trans k2; have m3 := (hb.cell (p := ⟨b, off + 3, none⟩) k15).trans k3; have m4 := (hb.cell (p := ⟨b, off + 4, none⟩) k15).trans k4; have m5 := (hb.cell (p := ⟨b, off + 5, none⟩) k15).trans k5; have m6 := (hb.cell (p := ⟨b, off + 6, none⟩) k15).trans k6; have m7 := (hb.cell (p := ⟨b, off + 7, none⟩) k15).trans k7; have m8 := (hb.cell (p := ⟨b, off + 8, none⟩) k15).trans k8; have m9 := (hb.cell (p := ⟨b, off + 9, none⟩) k15).trans k9; have m10 := (hb.cell (p := ⟨b, off + 10, none⟩) k15).trans k10; have m11 := (hb.cell (p := ⟨b, off + 11, none⟩) k15).trans k11; have m12 := (hb.cell (p := ⟨b, off + 12, none⟩) k15).trans k12; have m13 := Lib.hid (k13.out.trans (hb.mono k13.out.size)); have m14 := Lib.hid (k14.out.below hb k14.out.2); have m15 := Nat.lt_of_lt_of_le k15 hb.size))
  clear k0 k1 k2 k3 k4 k5 k6 k7 k8 k9 k10 k11 k12 m0 m1 m2 m3 m4 m5 m6 m7 m8 m9 m10 m11 m12 c0 c1 c2 c3 c4 c5 c6 c7 c8 c9 c10 c11 c12
  go_wp2_with fail
  go_ret
  exact ⟨rfl, m13.out⟩
end Go.Proofs.YthpmocfdnoehoaaGreatDoor
