/- The walk of ArchiveCut. -/
import Derived.Test.YthpmocfdnoehoaaDoorWorks
namespace Go.Proofs.YthpmocfdnoehoaaDoor
open Go.RowKit
theorem wrGo_bad : ∀ (l : List Mem) (i : Nat) (acc : Bs), (wrGo l i acc).1 ≠ 0 → (wrGo l i acc).2.2 = []
  | [], i, acc, h => absurd rfl h
  | m :: r, i, acc, h => by
    rw [wrGo] at h ⊢
    split
    · rfl
    · rename_i hb
      rw [if_neg hb] at h
      exact wrGo_bad r _ _ h
/-- Members that may not be written are refused. -/
theorem write_no (l : List Mem) (p : Option Addr) (cap : Nat) (w : World) (hM : MemsAt w p l) (hn : l.length ≤ 1152921504606846975) (hs : ∀ m ∈ l, m.small) (x : Int) (i : Nat) (b : Bs) (h : wrGo l 0 [] = (x, i, b)) (h0 : x ≠ 0) :
    Calls Tryd.prog 5 #[.slice p l.length cap] w fun e w' => e = .returned (.tuple #[.string ⟨#[]⟩, faultV x 0 i]) ∧ Below w.heap.size w w' := by
  refine (write_any l p cap w hM hn hs).mono ?_
  rintro e w' ⟨he, hb⟩
  have h2 := wrGo_bad l 0 [] (by rw [h]; exact h0)
  rw [h2, h, if_neg h0] at he
  exact ⟨he, hb⟩
set_option maxHeartbeats 3200000 in
set_option maxRecDepth 100000 in
theorem cut_no (l : List Mem) (p : Option Addr) (cap : Nat) (n : Int) (w : World) (hM : MemsAt w p l) (hn : l.length * 144 ≤ 140737488355328) (hs : ∀ m ∈ l, m.small) (hG : ErrT w) (x : Int) (i : Nat) (b : Bs) (h : wrGo l 0 [] = (x, i, b)) (h0 : x ≠ 0) :
    Calls Tryd.prog 4 #[.slice p l.length cap, .int .i64 n] w fun e w' => e = .returned (.bool true) ∧ Below w.heap.size w w' := by
  have hcp := copy_any l p cap w hM hn
  have hwr := fun q c w1 (hM1 : MemsAt w1 q l) => write_no l q c w1 hM1 (by omega) hs x i b h h0
  unfold faultV at hwr
  have HG := Lib.hid hG
  clear hM hs h h0 hn hG
  go_enter Tryd.func4, Tryd.ntmps4
  go_wp2_with fail
  refine hcp.mono ?_
  rintro e w1 ⟨v, rfl, ho, hb1⟩
  obtain ⟨q, c, rfl, hm, _, _⟩ := ho.at
  have h2 := hwr q c w1 hm
  have HB1 := Lib.hid hb1
  clear hcp hwr ho hm hb1
  go_wp2_with fail
  refine h2.mono ?_
  rintro e w2 ⟨rfl, hb2⟩
  have HB2 := Lib.hid (HB1.out.trans (hb2.mono HB1.out.size))
  clear h2 hb2
  go_wp2_with fail
  refine (works_any _ (HG.out.below HB2.out HG.out.2)).mono ?_
  rintro e w3 ⟨rfl, hb3⟩
  have HB3 := Lib.hid (HB2.out.trans (hb3.mono HB2.out.size))
  go_wp2_with fail
  go_ret
  exact ⟨rfl, HB3.out⟩
set_option maxHeartbeats 3200000 in
set_option maxRecDepth 100000 in
theorem cut_yes (l : List Mem) (p : Option Addr) (cap : Nat) (n : Int) (w : World) (hM : MemsAt w p l) (hn : l.length * 144 ≤ 140737488355328) (hs : ∀ m ∈ l, m.small) (hG : ErrT w) (h0 : (wrGo l 0 []).1 = 0) (hn1 : -9223372036854775808 ≤ n) (hn2 : n ≤ 9223372036854775807) :
    Calls Tryd.prog 4 #[.slice p l.length cap, .int .i64 n] w fun e w' => e = .returned (.bool true) ∧ Below w.heap.size w w' := by
  obtain ⟨S, hS⟩ : ∃ S : ByteArray, S.data.toList = arcOf l := ⟨⟨(arcOf l).toArray⟩, rfl⟩
  have hok := (wrGo_fst l 0 [] h0).2.1
  have hz1 := read_small hok h0
  have hz2 : 1024 ≤ (arcOf l).length := by unfold arcOf; rw [List.length_append, List.length_replicate]; omega
  have hSl : S.size = (arcOf l).length := by rw [← hS]; rfl
  have hcp := copy_any l p cap w hM hn
  have hwr := fun q c w1 (hM1 : MemsAt w1 q l) => write_arc l q c w1 hM1 (by omega) hs h0 S hS
  have hS1 : (S.size : Int) ≤ 33554432 := by omega
  have hS2 : (1024 : Int) ≤ (S.size : Int) := by omega
  obtain ⟨k, hk⟩ : ∃ k, pick n S.size = k := ⟨_, rfl⟩
  have hpk := fun w1 => pick_any n S.size w1 (by omega) (by omega) hn1 hn2
  rw [hk] at hpk
  have hbd := pick_bd n S.size (by omega)
  rw [hk] at hbd
  obtain ⟨K, rfl⟩ : ∃ K : Nat, k = K := ⟨k.toNat, by omega⟩
  obtain ⟨ms, j, hj⟩ := rd_less hok (k := K) (by omega)
  have hext : (S.extract 0 K).data.toList = (arcOf l).take K := by rw [Lib.extract_data, hS, List.drop_zero, Nat.sub_zero]
  have hrd := read_bad (S.extract 0 K) ms 2 j (by rw [hext]; exact hj) (by rw [ByteArray.size_extract]; omega)
  have hnum := fun w1 => num_any _ _ 2 w1 (isNum_fault 2 0 j) (by decide) (by decide)
  unfold faultV at hrd
  have HG := Lib.hid hG
  clear hM hs h0 hn hG hext hj hk hok hz1 hz2 hSl hS
  go_enter Tryd.func4, Tryd.ntmps4
  go_wp2_with fail
  refine hcp.mono ?_
  rintro e w1 ⟨v, rfl, ho, hb1⟩
  obtain ⟨q, c, rfl, hm, _, _⟩ := ho.at
  have h2 := hwr q c w1 hm
  have HB1 := Lib.hid hb1
  clear hcp hwr ho hm hb1
  go_wp2_with fail
  refine h2.mono ?_
  rintro e w2 ⟨rfl, hb2⟩
  have HB2 := Lib.hid (HB1.out.trans (hb2.mono HB1.out.size))
  clear h2 hb2
  go_wp2_with fail
  refine (hpk _).mono ?_
  rintro e w3 ⟨rfl, rfl⟩
  clear hpk
  go_wp2_with fail
  refine (hrd _).mono ?_
  rintro e w3 ⟨rfl, hb3⟩
  have HB3 := Lib.hid (HB2.out.trans (hb3.mono HB2.out.size))
  clear hrd hb3 HB2
  go_wp2_with fail
  refine (hnum _).mono ?_
  rintro e w4 ⟨rfl, hb4⟩
  have HB4 := Lib.hid (HB3.out.trans (hb4.mono HB3.out.size))
  clear hnum hb4 HB3
  go_wp2_with fail
  refine (works_any _ (HG.out.below HB4.out HG.out.2)).mono ?_
  rintro e w5 ⟨rfl, hb5⟩
  have HB5 := Lib.hid (HB4.out.trans (hb5.mono HB4.out.size))
  go_wp2_with fail
  go_ret
  exact ⟨rfl, HB5.out⟩
theorem cut_any (l : List Mem) (p : Option Addr) (cap : Nat) (n : Int) (w : World) (hM : MemsAt w p l) (hn : l.length * 144 ≤ 140737488355328) (hs : ∀ m ∈ l, m.small) (hG : ErrT w) (hn1 : -9223372036854775808 ≤ n) (hn2 : n ≤ 9223372036854775807) :
    Calls Tryd.prog 4 #[.slice p l.length cap, .int .i64 n] w fun e w' => e = .returned (.bool true) ∧ Below w.heap.size w w' := by
  by_cases h0 : (wrGo l 0 []).1 = 0
  · exact cut_yes l p cap n w hM hn hs hG h0 hn1 hn2
  · exact cut_no l p cap n w hM hn hs hG _ _ _ rfl h0
end Go.Proofs.YthpmocfdnoehoaaDoor
