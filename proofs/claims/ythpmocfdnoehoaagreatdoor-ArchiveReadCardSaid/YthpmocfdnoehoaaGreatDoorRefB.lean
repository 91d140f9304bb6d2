/- Contracts of the reference's small functions: Sum, nought, in, Blocks, filled, added. -/
import Derived.Test.YthpmocfdnoehoaaGreatDoorRefA
import Derived.Test.YthpmocfdnoehoaaGreatDoorWrite
import Derived.Test.YthpmocfdnoehoaaGreatDoorWithin
namespace Go.Proofs.YthpmocfdnoehoaaGreatDoor
open Go.RowKit
set_option maxHeartbeats 1600000 in
set_option maxRecDepth 100000 in
theorem Sum_any (s : ByteArray) (w : World) (hs : (s.size : Int) ≤ 33554432) :
    Calls Tryz.prog 39 #[.string s] w fun e w' => e = .returned (.int .i64 (sumTo s.data.toList s.size)) ∧ Below w.heap.size w w' := by
  go_enter Tryz.func39, Tryz.ntmps39
  go_wp2_with fail
  go_loopw [3, 4] (fun sv iv wr => ∃ k : Nat, k ≤ s.size ∧ iv = .int .i64 k ∧ sv = .int .i64 (sumTo s.data.toList k) ∧ Hid (Below w.heap.size w wr)) (fun _ iv _ => s.size - (intOf iv).toNat)
  case atStart => exact ⟨0, Nat.zero_le _, rfl, rfl, Below.refl _ _⟩
  case round =>
    obtain ⟨k, hk, rfl, rfl, hbel⟩ := hrel
    have hbd := sumTo_bd s.data.toList k
    obtain ⟨y, hy⟩ : ∃ y, sumTo s.data.toList k = y := ⟨_, rfl⟩
    rw [hy] at hbd ⊢
    have HY := Lib.hid hy
    clear hy
    by_cases hlt : k < s.size
    · have hget := get_eq s k hlt
      have hub := (s[k]).toNat_lt
      by_cases h1 : 148 ≤ k
      · by_cases h2 : k < 156
        · have HS := Lib.hid (show sumTo s.data.toList (k + 1) = y + 32 by rw [sumTo, if_pos ⟨h1, h2⟩, HY.out])
          clear hget
          go_wp2_with fail
          exact ⟨⟨k + 1, by omega, by rw [Int.natCast_add]; rfl, by rw [HS.out], hbel⟩, by simp [intOf]; omega⟩
        · have HS := Lib.hid (show sumTo s.data.toList (k + 1) = y + (s[k].toNat : Int) by rw [sumTo, if_neg (by omega), hget, HY.out])
          clear hget
          go_wp2_with fail
          exact ⟨⟨k + 1, by omega, by rw [Int.natCast_add]; rfl, by rw [HS.out], hbel⟩, by simp [intOf]; omega⟩
      · have HS := Lib.hid (show sumTo s.data.toList (k + 1) = y + (s[k].toNat : Int) by rw [sumTo, if_neg (by omega), hget, HY.out])
        clear hget
        go_wp2_with fail
        exact ⟨⟨k + 1, by omega, by rw [Int.natCast_add]; rfl, by rw [HS.out], hbel⟩, by simp [intOf]; omega⟩
    · obtain rfl : k = s.size := by omega
      go_wp2_with fail
      go_ret
      exact ⟨ret_int HY.out.symm, hbel.out⟩
set_option maxHeartbeats 1600000 in
set_option maxRecDepth 100000 in
theorem nought_any (s : ByteArray) (w : World) (hs : (s.size : Int) ≤ 140737488355328) :
    Calls Tryz.prog 41 #[.string s] w fun e w' => e = .returned (.bool (nulIn s)) ∧ Below w.heap.size w w' := by
  go_enter Tryz.func41, Tryz.ntmps41
  go_wp2_with fail
  go_loopw [3] (fun iv wr => ∃ k : Nat, k ≤ s.size ∧ iv = .int .i64 k ∧ Hid (∀ i, i < k → s.data.toList.getD i 0 ≠ 0) ∧ Hid (Below w.heap.size w wr)) (fun iv _ => s.size - (intOf iv).toNat)
  case atStart => exact ⟨0, Nat.zero_le _, rfl, (fun i hi => absurd hi (by omega)), Below.refl _ _⟩
  case round =>
    obtain ⟨k, hk, rfl, hno, hbel⟩ := hrel
    by_cases hlt : k < s.size
    · have hget := get_eq s k hlt
      by_cases h0 : s[k] = 0
      · have h0' : (s[k]).toNat = 0 := by rw [h0]; rfl
        have HG := Lib.hid hget
        have H0 := Lib.hid h0
        clear hget h0
        go_wp2_with fail
        go_ret
        refine ⟨ret_bool ?_, hbel.out⟩
        unfold nulIn
        symm
        rw [List.contains_iff_mem]
        have hl : k < s.data.toList.length := hlt
        have : s.data.toList[k] = 0 := by
          have h := HG.out
          rw [H0.out, List.getD_eq_getElem?_getD, List.getElem?_eq_getElem hl] at h
          exact h
        rw [← this]
        exact List.getElem_mem hl
      · have h0' : ¬ (s[k]).toNat = 0 := fun e => h0 (UInt8.toNat_inj.1 e)
        have HG := Lib.hid hget
        have H0 := Lib.hid h0
        clear hget h0
        go_wp2_with fail
        refine ⟨⟨k + 1, by omega, by rw [Int.natCast_add]; rfl, fun i hi => ?_, hbel⟩, by simp [intOf]; omega⟩
        by_cases hik : i < k
        · exact hno.out i hik
        · obtain rfl : i = k := by omega
          rw [HG.out]
          exact H0.out
    · obtain rfl : k = s.size := by omega
      go_wp2_with fail
      go_ret
      refine ⟨ret_bool ?_, hbel.out⟩
      unfold nulIn
      symm
      rw [← Bool.not_eq_true, List.contains_iff_mem]
      intro hm
      obtain ⟨i, hi, he⟩ := List.getElem_of_mem hm
      refine hno.out i hi ?_
      rw [List.getD_eq_getElem?_getD, List.getElem?_eq_getElem hi, he]
      rfl
theorem in_any (x m : Int) (w : World) :
    Calls Tryz.prog 43 #[.int .i64 x, .int .i64 m] w fun e w' => e = .returned (.bool (inB m x)) ∧ w = w' := by
  go_enter Tryz.func43, Tryz.ntmps43
  go_wp2_with fail
  all_goals go_ret
  · exact ⟨ret_bool (by unfold inB; rw [decide_eq_true (show 0 ≤ x by omega), Bool.true_and]), rfl⟩
  · exact ⟨ret_bool (by unfold inB; rw [decide_eq_false (show ¬ 0 ≤ x by omega), Bool.false_and]), rfl⟩
theorem blocksR_any (n : Nat) (w : World) (h : (n : Int) ≤ 9223372036854774784) : Calls Tryz.prog 19 #[.int .i64 n] w fun e w' => e = .returned (.int .i64 ((Go.Proofs.YthpmocfdnoehoaaGreatDoor.whole n / 512 : Nat) : Int)) ∧ w = w' := by
  cases h0 : ((n : Int) % 512 == 0)
  all_goals
    go_enter Tryz.func19, Tryz.ntmps19
    go_wp2_with fail
    go_ret
    refine ⟨ret_int ?_, rfl⟩
    first
      | rw [beq_iff_eq] at h0
      | rw [beq_eq_false_iff_ne] at h0
    unfold whole
    omega
set_option maxHeartbeats 1600000 in
set_option maxRecDepth 100000 in
theorem added_any (base : Nat) (l : Bs) (v : Value) (s : ByteArray) (w : World) (hv : OwnB base l v w) (hb : base ≤ w.heap.size) (hs : (l.length : Int) + (s.size : Int) ≤ 140737488355328) :
    Calls Tryz.prog 20 #[v, .string s] w fun e w' => ∃ v', e = .returned v' ∧ OwnB base (l ++ s.data.toList) v' w' ∧ Below base w w' := by
  obtain ⟨i0, hi, hz0, hz1, hz2⟩ := info_parts infoB
  have HV := Lib.hid hv
  clear hv
  go_enter Tryz.func20, Tryz.ntmps20
  go_wp2_with fail
  go_loopw [0, 5] (fun v iv wr => ∃ k : Nat, k ≤ s.size ∧ iv = .int .i64 k ∧ Hid (OwnB base (l ++ s.data.toList.take k) v wr) ∧ Hid (Below base w wr)) (fun _ iv _ => s.size - (intOf iv).toNat)
  case atStart => exact ⟨0, Nat.zero_le _, rfl, (by rw [List.take_zero, List.append_nil]; exact HV.out), Below.refl _ _⟩
  case round =>
    obtain ⟨k, hk, rfl, hown, hbel⟩ := hrel
    have hsl : s.data.toList.length = s.size := rfl
    have hfl : (l ++ s.data.toList.take k).length = l.length + k := by rw [List.length_append, List.length_take]; omega
    have hsz := Nat.le_trans hb hbel.out.size
    by_cases hlt : k < s.size
    · have HS := Lib.hid (show l ++ s.data.toList.take (k + 1) = (l ++ s.data.toList.take k) ++ [s[k]] by
        rw [List.append_assoc, List.take_add_one, List.getElem?_eq_getElem (by exact hlt)]; rfl)
      clear hsl
      go_wp2_with (first
        | (at_builtin; refine wpList_append_own _ rfl _ _ 48 rfl base 5 i0 (.int .u8 0) 1 1 Tryz.underlying48 hi hz0 hz1 hz2 rfl (by decide) _ _ _ rfl (hown.out.alloc _) ⟨wr.heap.size, 0, none⟩ 1 1 [byteV (s[k]'(by omega))] rfl rfl (new1 wr _ _) (one1 _) (by rw [hfl]; unfold maxLen; omega) (by rw [hfl]; omega) (by rw [World.size_alloc]; omega) ?_; intro v' w1 hown' hgrow _)
        | go_in)
      case roundEnd =>
        have h := hown.out.app hbel.out hsz hown' hgrow
        rw [← HS.out] at h
        exact ⟨⟨k + 1, by omega, by rw [Int.natCast_add]; rfl, h.1, h.2⟩, by simp [intOf]; omega⟩
    · have e : s.data.toList.take k = s.data.toList := List.take_of_length_le (by omega)
      have h := hown.out
      rw [e] at h
      have HH := Lib.hid h
      clear h e
      go_wp2_with fail
      go_ret
      exact ⟨_, rfl, HH.out, hbel.out⟩
theorem filledOf_nil (n : Nat) : filledOf [] n = List.replicate n 0 := by
  unfold filledOf; rw [List.nil_append, List.take_of_length_le (by rw [List.length_replicate]; omega)]
set_option maxHeartbeats 1600000 in
set_option maxRecDepth 100000 in
theorem filled_any (d : ByteArray) (w : World) (hd : (d.size : Int) ≤ 33554432) :
    Calls Tryz.prog 21 #[.string d] w fun e w' => e = .returned (.string ⟨(List.replicate (Go.Proofs.YthpmocfdnoehoaaGreatDoor.whole d.size - d.size) 0).toArray⟩) ∧ Below w.heap.size w w' := by
  have hw := whole_le d.size
  have hq : Go.Proofs.YthpmocfdnoehoaaGreatDoor.whole d.size / 512 * 512 = Go.Proofs.YthpmocfdnoehoaaGreatDoor.whole d.size := by unfold whole; omega
  have hbk := fun w1 => blocksR_any d.size w1 (by omega)
  obtain ⟨Q, hQ⟩ : ∃ Q, Go.Proofs.YthpmocfdnoehoaaGreatDoor.whole d.size = Q := ⟨_, rfl⟩
  rw [hQ] at hw hq hbk ⊢
  have hF := fun w1 => Filled_any ⟨#[]⟩ (Q - d.size) w1 (by omega)
  rw [show (ByteArray.mk #[]).data.toList = [] from rfl, filledOf_nil] at hF
  have hsub : ((Q - d.size : Nat) : Int) = (Q : Int) / 512 * 512 - (d.size : Int) := by omega
  have hqb : (Q : Int) / 512 ≤ 65537 := by omega
  have hqn : (0 : Int) ≤ (Q : Int) / 512 := by omega
  clear hQ
  rw [hsub] at hF
  go_enter Tryz.func21, Tryz.ntmps21
  go_wp2_with fail
  refine (hbk _).mono ?_
  rintro e w1 ⟨rfl, rfl⟩
  clear hbk
  go_wp2_with fail
  refine (hF _).mono ?_
  rintro e w2 ⟨rfl, hb⟩
  have HB := Lib.hid hb
  clear hb hF
  go_wp2_with fail
  go_ret
  exact ⟨rfl, HB.out⟩
end Go.Proofs.YthpmocfdnoehoaaGreatDoor
