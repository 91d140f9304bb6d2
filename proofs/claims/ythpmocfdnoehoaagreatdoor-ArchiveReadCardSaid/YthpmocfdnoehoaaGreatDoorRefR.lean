/- Contracts of the reference's functions that read: text, noughts, behind. -/
import Derived.Test.YthpmocfdnoehoaaGreatDoorRefB
import Derived.Test.YthpmocfdnoehoaaGreatDoorDecode
import Derived.Test.YthpmocfdnoehoaaGreatDoorPiece
namespace Go.Proofs.YthpmocfdnoehoaaGreatDoor
open Go.RowKit
theorem textOf_at : ∀ {l : Bs} {k : Nat}, (∀ i, i < k → l.getD i 0 ≠ 0) → l[k]? = some 0 → textOf l = l.take k
  | [], k, _, h => by simp at h
  | x :: r, 0, _, h => by
    obtain rfl : x = 0 := by simpa using h
    rfl
  | x :: r, k + 1, h, h1 => by
    have hx : x ≠ 0 := by simpa using h 0 (by omega)
    have ih := textOf_at (l := r) (k := k) (fun i hi => by simpa using h (i + 1) (by omega)) (by simpa using h1)
    unfold textOf at ih ⊢
    rw [List.takeWhile_cons, if_pos (by simpa using hx), ih]
    rfl
theorem textOf_no {l : Bs} (h : ∀ i, i < l.length → l.getD i 0 ≠ 0) : textOf l = l := by
  unfold textOf
  refine takeWhile_all fun x hx => ?_
  obtain ⟨i, hi, rfl⟩ := List.getElem_of_mem hx
  have := h i hi
  rw [List.getD_eq_getElem?_getD, List.getElem?_eq_getElem hi] at this
  simpa using this
set_option maxHeartbeats 1600000 in
set_option maxRecDepth 100000 in
theorem textR_any (s : ByteArray) (w : World) (hs : (s.size : Int) ≤ 140737488355328) :
    Calls Tryz.prog 78 #[.string s] w fun e w' => e = .returned (.string ⟨(textOf s.data.toList).toArray⟩) ∧ Below w.heap.size w w' := by
  go_enter Tryz.func78, Tryz.ntmps78
  go_wp2_with fail
  go_loopw [3] (fun iv wr => ∃ k : Nat, k ≤ s.size ∧ iv = .int .i64 k ∧ Hid (∀ i, i < k → s.data.toList.getD i 0 ≠ 0) ∧ Hid (Below w.heap.size w wr)) (fun iv _ => s.size - (intOf iv).toNat)
  case atStart => exact ⟨0, Nat.zero_le _, rfl, (fun i hi => absurd hi (by omega)), Below.refl _ _⟩
  case round =>
    obtain ⟨k, hk, rfl, hno, hbel⟩ := hrel
    by_cases hlt : k < s.size
    · have hget := get_eq s k hlt
      have hl : s.data.toList[k]? = some s[k] := List.getElem?_eq_getElem (by exact hlt)
      have HL := Lib.hid hl
      clear hl
      by_cases h0 : s[k] = 0
      · have h0' : (s[k]).toNat = 0 := by rw [h0]; rfl
        have H0 := Lib.hid h0
        clear hget h0
        go_wp2_with fail
        go_ret
        refine ⟨?_, hbel.out⟩
        rw [textOf_at hno.out (by rw [HL.out, H0.out])]
        refine congrArg (fun b => Ending.returned (.string b)) (ByteArray.ext (Array.ext' ?_))
        rw [Lib.extract_data, List.drop_zero, Nat.sub_zero]
      · have h0' : ¬ (s[k]).toNat = 0 := fun e => h0 (UInt8.toNat_inj.1 e)
        have HG := Lib.hid hget
        have H0 := Lib.hid h0
        clear hget h0
        go_wp2_with fail
        refine ⟨⟨k + 1, by omega, by rw [Int.natCast_add]; rfl, fun i hi => ?_, hbel⟩, by simp [intOf]; omega⟩
        by_cases hik : i < k
        · exact hno.out i hik
        · obtain rfl : i = k := by omega
          rw [HG.out]
          exact H0.out
    · obtain rfl : k = s.size := by omega
      go_wp2_with fail
      go_ret
      refine ⟨?_, hbel.out⟩
      rw [textOf_no hno.out, ← bytes_eq rfl]
      rfl
set_option maxHeartbeats 1600000 in
set_option maxRecDepth 100000 in
theorem noughts_any (s : ByteArray) (f : Nat) (w : World) (hf : f + 512 ≤ s.size) (hs : (s.size : Int) ≤ 140737488355328) :
    Calls Tryz.prog 56 #[.string s, .int .i64 f, .int .i64 ((f : Int) + 512)] w fun e w' => e = .returned (.bool (zeroAt s.data.toList f)) ∧ Below w.heap.size w w' := by
  have hf2 : (f : Int) + 512 ≤ (s.size : Int) := by omega
  go_enter Tryz.func56, Tryz.ntmps56
  go_wp2_with fail
  go_loopw [7] (fun iv wr => ∃ k : Nat, f ≤ k ∧ k ≤ f + 512 ∧ iv = .int .i64 k ∧ Hid (∀ i, f ≤ i → i < k → s.data.toList.getD i 0 = 0) ∧ Hid (Below w.heap.size w wr)) (fun iv _ => f + 512 - (intOf iv).toNat)
  case atStart => exact ⟨f, Nat.le_refl _, by omega, rfl, (fun i h1 h2 => absurd h2 (by omega)), Below.refl _ _⟩
  case round =>
    obtain ⟨k, hk1, hk2, rfl, hno, hbel⟩ := hrel
    have HK1 := Lib.hid hk1
    have HK2 := Lib.hid hk2
    clear hk1 hk2
    have hsl : s.data.toList.length = s.size := rfl
    by_cases hlt : (k : Int) < (f : Int) + 512
    · have hks : k < s.size := by omega
      have hget := get_eq s k hks
      by_cases h0 : s[k] = 0
      · have h0' : (s[k]).toNat = 0 := by rw [h0]; rfl
        have HG := Lib.hid hget
        have H0 := Lib.hid h0
        clear hget h0 hsl
        go_wp2_with fail
        refine ⟨⟨k + 1, by have := HK1.out; omega, by omega, by rw [Int.natCast_add]; rfl, fun i h1 h2 => ?_, hbel⟩, by simp [intOf]; omega⟩
        by_cases hik : i < k
        · exact hno.out i h1 hik
        · obtain rfl : i = k := by omega
          rw [HG.out]
          exact H0.out
      · have h0' : ¬ (s[k]).toNat = 0 := fun e => h0 (UInt8.toNat_inj.1 e)
        have HG := Lib.hid hget
        have H0 := Lib.hid h0
        have HSL := Lib.hid hsl
        clear hget h0 hsl
        go_wp2_with fail
        go_ret
        refine ⟨ret_bool ?_, hbel.out⟩
        symm
        unfold zeroAt
        rw [← Bool.not_eq_true, List.all_eq_true]
        intro hz
        have he : ((s.data.toList.drop f).take 512)[k - f]? = some s[k] := by
          rw [List.getElem?_take, if_pos (by have := HK1.out; omega), List.getElem?_drop, show f + (k - f) = k by have := HK1.out; omega]
          exact List.getElem?_eq_getElem (by exact hks)
        have := hz _ (List.mem_of_getElem? he)
        exact H0.out (by simpa using this)
    · go_wp2_with fail
      go_ret
      refine ⟨ret_bool ?_, hbel.out⟩
      symm
      unfold zeroAt
      rw [List.all_eq_true]
      intro x hx
      obtain ⟨i, hi⟩ := List.getElem?_of_mem hx
      rw [List.getElem?_take] at hi
      split at hi
      · rw [List.getElem?_drop] at hi
        have h2 := hno.out (f + i) (by omega) (by omega)
        rw [List.getD_eq_getElem?_getD, hi] at h2
        simpa using h2
      · cases hi
theorem endGo_step {l : Bs} {f i : Nat} (hf : 0 < f) : endGo l f i = if l.length < i + 512 then (2, i) else if zeroAt l i = false then (3, i) else if l.length ≤ i + 512 then (0, 0) else endGo l (f - 1) (i + 512) := by
  obtain ⟨g, rfl⟩ : ∃ g, f = g + 1 := ⟨f - 1, by omega⟩
  rfl
def endT (x : Int × Nat) : Value := .tuple #[.int .i64 x.1, .int .i64 x.2]
set_option maxHeartbeats 1600000 in
set_option maxRecDepth 100000 in
theorem behindR_any (s : ByteArray) (a : Nat) (w : World) (ha : a ≤ s.size) (hs : (s.size : Int) ≤ 140737488355328) :
    Calls Tryz.prog 57 #[.string s, .int .i64 a] w fun e w' => e = .returned (endT (endGo s.data.toList (s.size + 1) a)) ∧ Below w.heap.size w w' := by
  obtain ⟨E, hE⟩ : ∃ E, endGo s.data.toList (s.size + 1) a = E := ⟨_, rfl⟩
  have HE := Lib.hid hE
  have hsl : s.data.toList.length = s.size := rfl
  rw [hE]
  have ha2 : (a : Int) ≤ (s.size : Int) := by omega
  clear hE
  go_enter Tryz.func57, Tryz.ntmps57
  go_wp2_with fail
  go_loopw [1, 6] (fun av bv wr => ∃ (i f b : Nat), av = .int .i64 i ∧ bv = .int .i64 b ∧ (i : Int) ≤ (s.size : Int) + 512 ∧ (b : Int) ≤ (i : Int) ∧ Hid (s.size < f + i) ∧ Hid ((b = 0 ∧ i ≤ s.size) ∨ (0 < b ∧ i < s.size) → E = endGo s.data.toList f i) ∧ Hid (0 < b → s.size ≤ i → E = (0, 0)) ∧ Hid (b = 0 → i ≤ s.size) ∧ Hid (Below w.heap.size w wr)) (fun av _ _ => s.size + 1024 - (intOf av).toNat)
  case atStart => exact ⟨a, s.size + 1, 0, rfl, rfl, by omega, by omega, (by show _ < _; omega), fun _ => HE.out.symm, (fun h => absurd h (by omega)), fun _ => by omega, Below.refl _ _⟩
  case round =>
    obtain ⟨i, f, b, rfl, rfl, hi, hbi, hf, h1, h2, h3, hbel⟩ := hrel
    by_cases hin : (i : Int) < (s.size : Int)
    · have hEq := Lib.hid (show E = endGo s.data.toList f i from h1.out (by omega))
      have hf0 := Lib.hid (show 0 < f by have := hf.out; omega)
      by_cases hsh : (s.size : Int) < (i : Int) + 512
      · go_wp2_with fail
        go_ret2
        exact ⟨congrArg Ending.returned (show _ = endT E by rw [hEq.out, endGo_step hf0.out, if_pos (by omega)]; rfl), hbel.out⟩
      · have hnn := fun w1 => noughts_any s i w1 (by omega) hs
        have HNN := Lib.hid hnn
        clear hnn
        go_wp2_with fail
        refine (HNN.out _).mono ?_
        rintro e w1 ⟨rfl, hb1⟩
        have HB1 := Lib.hid (hbel.out.trans (hb1.mono hbel.out.size))
        clear hb1 HNN
        cases hz : zeroAt s.data.toList i with
        | false =>
          go_wp2_with fail
          go_ret2
          exact ⟨congrArg Ending.returned (show _ = endT E by rw [hEq.out, endGo_step hf0.out, if_neg (by omega), if_pos hz]; rfl), HB1.out⟩
        | true =>
          have HZ := Lib.hid hz
          have hbz : (0 : Int) ≤ (b : Int) := by omega
          have HSL := Lib.hid hsl
          clear hz hsl
          go_wp2_with fail
          refine ⟨⟨i + 512, f - 1, b + 1, by rw [Int.natCast_add]; rfl, by rw [Int.natCast_add]; rfl, by omega, by omega, (by have := hf.out; show _ < _; omega), fun h => ?_, fun _ h => ?_, fun h => by omega, HB1⟩, by simp [intOf]; omega⟩
          · have hh : i + 512 < s.size := by omega
            rw [hEq.out, endGo_step hf0.out, if_neg (by rw [HSL.out]; omega), if_neg (by rw [HZ.out]; simp), if_neg (by rw [HSL.out]; omega)]
          · rw [hEq.out, endGo_step hf0.out, if_neg (by rw [HSL.out]; omega), if_neg (by rw [HZ.out]; simp), if_pos (by rw [HSL.out]; omega)]
    · by_cases hb0 : (b : Int) = 0
      · have hb00 : b = 0 := by omega
        have hle := h3.out hb00
        have hEq := Lib.hid (show E = endGo s.data.toList f i from h1.out (.inl ⟨hb00, hle⟩))
        have hf0 := Lib.hid (show 0 < f by have := hf.out; omega)
        clear hb00
        have hsh : (s.size : Int) < (i : Int) + 512 := by omega
        go_wp2_with fail
        go_ret2
        exact ⟨congrArg Ending.returned (show _ = endT E by rw [hEq.out, endGo_step hf0.out, if_pos (by omega)]; rfl), hbel.out⟩
      · have he := Lib.hid (h2.out (by omega) (by omega))
        go_wp2_with fail
        go_ret2
        exact ⟨congrArg Ending.returned (show _ = endT E by rw [he.out]; rfl), hbel.out⟩
end Go.Proofs.YthpmocfdnoehoaaGreatDoor
