/- Contract of the reference's number. -/
import Derived.Test.YthpmocfdnoehoaaGreatDoorRefR
namespace Go.Proofs.YthpmocfdnoehoaaGreatDoor
open Go.RowKit
/-- What number answers. -/
def numV (l : Bs) : Value := .tuple #[.int .i64 (if numOk l = true then numX l else 0), .bool (numOk l)]
theorem numD_at : ∀ {l : Bs} {k : Nat}, k ≤ l.length → (∀ i, i < k → l.getD i 0 = 32) → (k < l.length → l.getD k 0 ≠ 32) → numD l = l.drop k
  | l, 0, _, _, h => by
    cases l with
    | nil => rfl
    | cons x r =>
      have hx : x ≠ 32 := by simpa using h (by simp)
      unfold numD
      rw [List.dropWhile_cons, if_neg (by simpa using hx)]
      rfl
  | [], k + 1, hk, _, _ => by simp at hk
  | x :: r, k + 1, hk, h, h2 => by
    have hx : x = 32 := by simpa using h 0 (by omega)
    have ih := numD_at (l := r) (k := k) (by simpa using hk) (fun i hi => by simpa using h (i + 1) (by omega)) (fun hlt => by simpa using h2 (by simpa using hlt))
    unfold numD at ih ⊢
    rw [List.dropWhile_cons, if_pos (by simpa using hx), ih]
    rfl
theorem takeWhile_eq {p : UInt8 → Bool} : ∀ {l : Bs} {k : Nat}, k ≤ l.length → (∀ i, i < k → p (l.getD i 0) = true) → (k < l.length → p (l.getD k 0) = false) → l.takeWhile p = l.take k
  | l, 0, _, _, h => by
    cases l with
    | nil => rfl
    | cons x r =>
      have hx : p x = false := by simpa using h (by simp)
      rw [List.takeWhile_cons, if_neg (by simp [hx])]
      rfl
  | [], k + 1, hk, _, _ => by simp at hk
  | x :: r, k + 1, hk, h, h2 => by
    have hx : p x = true := by simpa using h 0 (by omega)
    rw [List.takeWhile_cons, if_pos hx, takeWhile_eq (l := r) (k := k) (by simpa using hk) (fun i hi => by simpa using h (i + 1) (by omega)) (fun hlt => by simpa using h2 (by simpa using hlt))]
    rfl
theorem drop_getD (l : Bs) (a i : Nat) : (l.drop a).getD i 0 = l.getD (a + i) 0 := by
  rw [List.getD_eq_getElem?_getD, List.getElem?_drop, List.getD_eq_getElem?_getD]
theorem numV_no {l : Bs} {k j : Nat} (hD : numD l = l.drop k) (hR : (numD l).takeWhile isOct = (l.drop k).take j) (hj : j = 0) : numV l = .tuple #[.int .i64 0, .bool false] := by
  have h0 : (numR l).length = 0 := by unfold numR; rw [hR, hj]; rfl
  have hok : numOk l = false := by unfold numOk; rw [h0]; rfl
  unfold numV; rw [hok]; rfl
theorem numV_bad {l : Bs} {k j t : Nat} (hD : numD l = l.drop k) (hR : (numD l).takeWhile isOct = (l.drop k).take j) (hjl : k + j ≤ t) (ht : t < l.length) (hb : ¬ l.getD t 0 = 0) (hb2 : ¬ l.getD t 0 = 32) : numV l = .tuple #[.int .i64 0, .bool false] := by
  have hlen : (numR l).length = j := by unfold numR; rw [hR, List.length_take, List.length_drop]; omega
  have hok : numOk l = false := by
    unfold numOk
    rw [hlen, hD, List.drop_drop, Bool.and_eq_false_iff]
    right
    rw [← Bool.not_eq_true, List.all_eq_true]
    intro h
    have he : (l.drop (k + j))[t - (k + j)]? = some (l.getD t 0) := by
      rw [List.getElem?_drop, show k + j + (t - (k + j)) = t by omega, List.getD_eq_getElem?_getD, List.getElem?_eq_getElem ht]
      rfl
    have := h _ (List.mem_of_getElem? he)
    simp only [Bool.or_eq_true, beq_iff_eq] at this
    rcases this with h | h
    · exact hb2 h
    · exact hb h
  unfold numV; rw [hok]; rfl
theorem numV_yes {l : Bs} {k j : Nat} (hD : numD l = l.drop k) (hR : (numD l).takeWhile isOct = (l.drop k).take j) (hj : 0 < j) (hjl : k + j ≤ l.length) (hr : ∀ t, k + j ≤ t → t < l.length → l.getD t 0 = 0 ∨ l.getD t 0 = 32) : numV l = .tuple #[.int .i64 (octVal ((l.drop k).take j)), .bool true] := by
  have hlen : (numR l).length = j := by unfold numR; rw [hR, List.length_take, List.length_drop]; omega
  have hok : numOk l = true := by
    unfold numOk
    rw [hlen, hD, List.drop_drop, decide_eq_true hj, Bool.true_and, List.all_eq_true]
    intro x hx
    obtain ⟨i, hi⟩ := List.getElem?_of_mem hx
    rw [List.getElem?_drop] at hi
    have hlt := (List.getElem?_eq_some_iff.1 hi).1
    have := hr (k + j + i) (by omega) hlt
    rw [List.getD_eq_getElem?_getD, hi] at this
    rcases this with h | h
    · have : x = 0 := h
      simp [this]
    · have : x = 32 := h
      simp [this]
  unfold numV; rw [hok, if_pos rfl]
  unfold numX numR
  rw [hR]
theorem octVal_next {l : Bs} {j : Nat} (h : j < l.length) : octVal (l.take (j + 1)) = 8 * octVal (l.take j) + (((l.getD j 0).toNat : Int) - 48) := by
  rw [List.take_succ_eq_append_getElem h, octVal_snoc, List.getD_eq_getElem?_getD, List.getElem?_eq_getElem h]
  rfl
theorem octVal_small {l : Bs} {j : Nat} (hj : j ≤ l.length) (hj2 : j ≤ 12) (h : ∀ i, i < j → isOct (l.getD i 0) = true) : 0 ≤ octVal (l.take j) ∧ octVal (l.take j) ≤ 68719476736 := by
  have hb := octVal_bd j (l.take j) (by rw [List.length_take]; omega) (fun b hb => by
    obtain ⟨i, hi⟩ := List.getElem?_of_mem hb
    rw [List.getElem?_take] at hi
    split at hi
    · rename_i hij
      have := h i hij
      rw [List.getD_eq_getElem?_getD, hi] at this
      exact this
    · cases hi)
  have h12 : (8 : Int) ^ j ≤ 8 ^ 12 := by
    have := Nat.pow_le_pow_right (n := 8) (by decide) hj2
    exact_mod_cast this
  have h13 : (8 : Int) ^ 12 = 68719476736 := by decide
  exact ⟨hb.1, by omega⟩
set_option maxHeartbeats 3200000 in
set_option maxRecDepth 100000 in
theorem numberR_any (s : ByteArray) (w : World) (hs : s.size ≤ 12) :
    Calls Tryz.prog 77 #[.string s] w fun e w' => e = .returned (numV s.data.toList) ∧ Below w.heap.size w w' := by
  have hsl : s.data.toList.length = s.size := rfl
  have hs2 : (s.size : Int) ≤ 12 := by omega
  have HSL := Lib.hid hsl
  have HS := Lib.hid hs
  clear hsl hs
  go_enter Tryz.func77, Tryz.ntmps77
  go_wp2_with fail
  go_loopw [4] (fun iv wr => ∃ k : Nat, (k : Int) ≤ (s.size : Int) ∧ iv = .int .i64 k ∧ Hid (∀ i, i < k → s.data.toList.getD i 0 = 32) ∧ Hid (Below w.heap.size w wr)) (fun iv _ => s.size - (intOf iv).toNat)
  case atStart => exact ⟨0, by omega, rfl, (fun i hi => absurd hi (by omega)), Below.refl _ _⟩
  case round =>
    obtain ⟨k, hk, rfl, hno, hbel⟩ := hrel
    have hor : ((k : Int) < (s.size : Int) ∧ s.data.toList.getD k 0 = 32) ∨ ¬ ((k : Int) < (s.size : Int) ∧ s.data.toList.getD k 0 = 32) := Classical.em _
    rcases hor with ⟨hlt, h32⟩ | hex
    · have hks : k < s.size := by omega
      have hget := get_eq s k hks
      rw [h32] at hget
      have h0' : (s[k]).toNat = 32 := by rw [← hget]; rfl
      have HG := Lib.hid h32
      clear hget h32
      go_wp2_with fail
      refine ⟨⟨k + 1, by omega, by rw [Int.natCast_add]; rfl, fun i hi => ?_, hbel⟩, by simp [intOf]; omega⟩
      by_cases hik : i < k
      · exact hno.out i hik
      · obtain rfl : i = k := by omega
        exact HG.out
    · have HD := Lib.hid (show numD s.data.toList = s.data.toList.drop k from numD_at (by have := HSL.out; omega) hno.out (fun hlt h32 => hex ⟨by have := HSL.out; omega, h32⟩))
      have hq : (∃ hks : k < s.size, ¬ (s[k]).toNat = 32) ∨ ¬ (k : Int) < (s.size : Int) := by
        by_cases hlt : k < s.size
        · left
          refine ⟨hlt, fun e => hex ⟨by omega, ?_⟩⟩
          rw [get_eq s k hlt]
          exact UInt8.toNat_inj.1 e
        · right; omega
      clear hex hno
      rcases hq with ⟨hks, h0'⟩ | hlt
      all_goals
        go_wp2_with fail
        go_loopw [4, 6] (fun iv xv wr2 => ∃ q : Nat, Hid (k ≤ q) ∧ (q : Int) ≤ (s.size : Int) ∧ iv = .int .i64 q ∧ Hid (∀ i, i < q - k → isOct ((s.data.toList.drop k).getD i 0) = true) ∧ xv = .int .i64 (octVal ((s.data.toList.drop k).take (q - k))) ∧ Hid (Below w.heap.size w wr2)) (fun iv _ _ => s.size - (intOf iv).toNat)
        case atStart => exact ⟨k, Nat.le_refl _, by omega, rfl, (fun i hi => absurd hi (by omega)), by rw [Nat.sub_self]; rfl, hbel⟩
        case round =>
          obtain ⟨q, hkq, hjs, rfl, hoct, rfl, hbel2⟩ := hrel
          have hsm := octVal_small (l := s.data.toList.drop k) (j := q - k) (by rw [List.length_drop]; have := HSL.out; have := hkq.out; omega) (by omega) hoct.out
          obtain ⟨X, hX⟩ : ∃ X, octVal ((s.data.toList.drop k).take (q - k)) = X := ⟨_, rfl⟩
          rw [hX] at hsm ⊢
          have HX := Lib.hid hX
          clear hX
          have hor2 : (∃ hq : q < s.size, (48 : Int) ≤ (((s[q]).toNat : Nat) : Int) ∧ (((s[q]).toNat : Nat) : Int) ≤ 55) ∨ ¬ (∃ hq : q < s.size, (48 : Int) ≤ (((s[q]).toNat : Nat) : Int) ∧ (((s[q]).toNat : Nat) : Int) ≤ 55) := Classical.em _
          rcases hor2 with ⟨hqs, h48, h55⟩ | hex2
          · have hget := get_eq s q hqs
            have hub := (s[q]).toNat_lt
            have HGD := Lib.hid (show (s.data.toList.drop k).getD (q - k) 0 = s[q] by rw [drop_getD, show k + (q - k) = q by have := hkq.out; omega]; exact hget)
            have HNX := Lib.hid (octVal_next (l := s.data.toList.drop k) (j := q - k) (by rw [List.length_drop]; have := HSL.out; have := hkq.out; omega))
            clear hget
            go_wp2_with fail
            refine ⟨⟨q + 1, (by have := hkq.out; show _ ≤ _; omega), by omega, by rw [Int.natCast_add]; rfl, fun i hi => ?_, ?_, hbel2⟩, by simp [intOf]; omega⟩
            · by_cases hik : i < q - k
              · exact hoct.out i hik
              · obtain rfl : i = q - k := by omega
                rw [HGD.out]
                unfold isOct
                rw [decide_eq_true (by omega), decide_eq_true (by omega)]
                rfl
            · rw [show q + 1 - k = q - k + 1 by have := hkq.out; omega, HNX.out, HGD.out, HX.out]
              exact congrArg (Value.int .i64) (by omega)
          · have HR := Lib.hid (show (numD s.data.toList).takeWhile isOct = (s.data.toList.drop k).take (q - k) by
              rw [HD.out]
              refine takeWhile_eq (by rw [List.length_drop]; have := HSL.out; have := hkq.out; omega) hoct.out (fun hlt3 => ?_)
              rw [List.length_drop] at hlt3
              have hq2 : q < s.size := by have := HSL.out; have := hkq.out; omega
              rw [drop_getD, show k + (q - k) = q by have := hkq.out; omega, get_eq s q hq2]
              rw [← Bool.not_eq_true]
              intro hoc
              unfold isOct at hoc
              rw [Bool.and_eq_true, decide_eq_true_eq, decide_eq_true_eq] at hoc
              exact hex2 ⟨hq2, by omega, by omega⟩)
            have hq3 : (∃ hq : q < s.size, ¬ (48 : Int) ≤ (((s[q]).toNat : Nat) : Int)) ∨ (∃ hq : q < s.size, (48 : Int) ≤ (((s[q]).toNat : Nat) : Int) ∧ ¬ (((s[q]).toNat : Nat) : Int) ≤ 55) ∨ ¬ (q : Int) < (s.size : Int) := by
              by_cases hq2 : q < s.size
              · by_cases h48 : (48 : Int) ≤ (((s[q]).toNat : Nat) : Int)
                · exact .inr (.inl ⟨hq2, h48, fun h55 => hex2 ⟨hq2, h48, h55⟩⟩)
                · exact .inl ⟨hq2, h48⟩
              · exact .inr (.inr (by omega))
            clear hex2 hoct
            rcases hq3 with ⟨hq2, h48⟩ | ⟨hq2, h48, h55⟩ | hq2
            all_goals
              by_cases hj0 : (q : Int) = (k : Int)
              · obtain rfl : q = k := by omega
                have HV := Lib.hid (numV_no HD.out HR.out (by omega))
                clear hj0
                first
                  | (go_wp2_with fail; go_ret2; exact ⟨congrArg Ending.returned HV.out.symm, hbel2.out⟩)
                  | (exfalso; omega)
              · have hjp : 0 < q - k := by have := hkq.out; omega
                have hbq : ((q : Int) == (k : Int)) = false := by rw [beq_eq_false_iff_ne]; exact hj0
                go_wp2_with fail
                go_loopw [4] (fun iv ws => ∃ t : Nat, Hid (k + (q - k) ≤ t) ∧ (t : Int) ≤ (s.size : Int) ∧ iv = .int .i64 t ∧ Hid (∀ i, k + (q - k) ≤ i → i < t → s.data.toList.getD i 0 = 0 ∨ s.data.toList.getD i 0 = 32) ∧ Hid (Below w.heap.size w ws)) (fun iv _ => s.size - (intOf iv).toNat)
                case atStart => exact ⟨q, (by have := hkq.out; show _ ≤ _; omega), by omega, rfl, (fun i h1 h2 => absurd h1 (by have := hkq.out; omega)), hbel2⟩
                case round =>
                  obtain ⟨t, ht1, ht2, rfl, hno3, hbel3⟩ := hrel
                  by_cases htl : (t : Int) < (s.size : Int)
                  · have hts : t < s.size := by omega
                    have hget3 := get_eq s t hts
                    by_cases hz0 : s.data.toList.getD t 0 = 0
                    · rw [hz0] at hget3
                      have h03 : (s[t]).toNat = 0 := by rw [← hget3]; rfl
                      have HZ := Lib.hid hz0
                      clear hget3 hz0
                      go_wp2_with fail
                      refine ⟨⟨t + 1, (by have := ht1.out; show _ ≤ _; omega), by omega, by rw [Int.natCast_add]; rfl, fun i h1 h2 => ?_, hbel3⟩, by simp [intOf]; omega⟩
                      by_cases hik : i < t
                      · exact hno3.out i h1 hik
                      · obtain rfl : i = t := by omega
                        exact .inl HZ.out
                    · by_cases hz1 : s.data.toList.getD t 0 = 32
                      · rw [hz1] at hget3
                        have h03 : (s[t]).toNat = 32 := by rw [← hget3]; rfl
                        have HZ := Lib.hid hz1
                        clear hget3 hz0 hz1
                        go_wp2_with fail
                        refine ⟨⟨t + 1, (by have := ht1.out; show _ ≤ _; omega), by omega, by rw [Int.natCast_add]; rfl, fun i h1 h2 => ?_, hbel3⟩, by simp [intOf]; omega⟩
                        by_cases hik : i < t
                        · exact hno3.out i h1 hik
                        · obtain rfl : i = t := by omega
                          exact .inr HZ.out
                      · have h03 : ¬ (s[t]).toNat = 0 := fun e => hz0 (by rw [hget3]; exact UInt8.toNat_inj.1 e)
                        have h04 : ¬ (s[t]).toNat = 32 := fun e => hz1 (by rw [hget3]; exact UInt8.toNat_inj.1 e)
                        have hb3 : ((((s[t]).toNat : Nat) : Int) == 0) = false := by rw [beq_eq_false_iff_ne]; omega
                        have hb4 : ((((s[t]).toNat : Nat) : Int) == 32) = false := by rw [beq_eq_false_iff_ne]; omega
                        have HV := Lib.hid (numV_bad HD.out HR.out ht1.out (by have := HSL.out; omega) hz0 hz1)
                        clear hget3 hz0 hz1
                        first
                          | (go_wp2_with fail; done)
                          | (go_wp2_with fail; go_ret2; exact ⟨congrArg Ending.returned HV.out.symm, hbel3.out⟩; done)
                          | (go_wp2_with fail; go_ret2; exact ⟨congrArg Ending.returned HV.out.symm, hbel3.out⟩; all_goals (exfalso; first | omega | simp_all))
                          | (go_wp2_with fail; trace_state; all_goals (exfalso; first | omega | simp_all))
                  · have HV := Lib.hid (numV_yes HD.out HR.out hjp (by have := HSL.out; have := hkq.out; omega) (fun i h1 h2 => hno3.out i h1 (by have := HSL.out; omega)))
                    rw [HX.out] at HV
                    go_wp2_with fail
                    go_ret2
                    exact ⟨congrArg Ending.returned HV.out.symm, hbel3.out⟩
end Go.Proofs.YthpmocfdnoehoaaGreatDoor
