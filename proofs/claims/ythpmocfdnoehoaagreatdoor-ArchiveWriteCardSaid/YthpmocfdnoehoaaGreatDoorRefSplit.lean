/- Contract of the reference's Split: the same as splitOf. -/
import Derived.Test.YthpmocfdnoehoaaGreatDoorRefA
import Derived.Test.YthpmocfdnoehoaaGreatDoorSplit
namespace Go.Proofs.YthpmocfdnoehoaaGreatDoor
open Go.RowKit
/-- A slash behind which 1 to 100 bytes stand. -/
def qual (p : ByteArray) (j : Nat) : Prop := p.data.toList[j]? = some 47 ∧ j + 2 ≤ p.size ∧ p.size ≤ j + 101
theorem win_at (p : ByteArray) (h : 100 < p.size) (j : Nat) : (win p)[j]? = if j < 100 then p.data.toList[p.size - 101 + j]? else none := by
  unfold win
  rw [List.getElem?_take]
  by_cases hj : j < 100
  · rw [if_pos (by omega), if_pos hj, List.getElem?_drop, Nat.sub_sub]
  · rw [if_neg (by omega), if_neg hj]
theorem win_none (p : ByteArray) (h : 100 < p.size) (hn : ∀ j, j < p.size → ¬ qual p j) : Lib.indexByte (win p) 47 = -1 := by
  have hg := Lib.indexByte_ge (win p) 47
  obtain ⟨o, ho⟩ : ∃ o, Lib.indexByte (win p) 47 = o := ⟨_, rfl⟩
  by_cases h0 : o < 0
  · omega
  · obtain ⟨k, rfl⟩ : ∃ k : Nat, o = k := ⟨o.toNat, by omega⟩
    have hs := (Lib.indexByte_some ho).1
    rw [win_at p h] at hs
    split at hs
    · rename_i hk
      exact absurd ⟨hs, by omega, by omega⟩ (hn (p.size - 101 + k) (by omega))
    · cases hs
theorem win_first (p : ByteArray) (h : 100 < p.size) (k : Nat) (hq : qual p k) (hn : ∀ j, j < k → ¬ qual p j) : Lib.indexByte (win p) 47 = (k : Int) - (p.size : Int) + 101 := by
  have hg := Lib.indexByte_ge (win p) 47
  obtain ⟨hq1, hq2, hq3⟩ := hq
  have hw : (win p)[k + 101 - p.size]? = some 47 := by
    rw [win_at p h, if_pos (by omega), show p.size - 101 + (k + 101 - p.size) = k by omega]
    exact hq1
  obtain ⟨o, ho⟩ : ∃ o, Lib.indexByte (win p) 47 = o := ⟨_, rfl⟩
  by_cases h0 : o < 0
  · have : o = -1 := by omega
    subst this
    exact absurd hw (Lib.indexByte_none ho _)
  · obtain ⟨m, rfl⟩ : ∃ m : Nat, o = m := ⟨o.toNat, by omega⟩
    obtain ⟨hs, hlt⟩ := Lib.indexByte_some ho
    have h1 : ¬ k + 101 - p.size < m := fun hh => hlt _ hh hw
    rw [win_at p h] at hs
    split at hs
    · rename_i hm
      have h2 : ¬ m < k + 101 - p.size := fun hh => hn (p.size - 101 + m) (by omega) ⟨hs, by omega, by omega⟩
      omega
    · cases hs
/-- What Split answers. -/
def splitV (p : ByteArray) : Value := match splitOf p with
  | none => .tuple #[.string ⟨#[]⟩, .string ⟨#[]⟩, .int .i64 9]
  | some (a, b) => .tuple #[.string a, .string b, .int .i64 0]
theorem splitV_short {p : ByteArray} (h : p.size ≤ 100) : splitV p = .tuple #[.string ⟨#[]⟩, .string p, .int .i64 0] := by
  unfold splitV splitOf; rw [if_pos h]
theorem splitV_none {p : ByteArray} (h : 100 < p.size) (hn : ∀ j, j < p.size → ¬ qual p j) : splitV p = .tuple #[.string ⟨#[]⟩, .string ⟨#[]⟩, .int .i64 9] := by
  unfold splitV splitOf; rw [if_neg (by omega), win_none p h hn, if_pos (.inl (by decide))]
theorem splitV_bad {p : ByteArray} (h : 100 < p.size) (k : Nat) (hq : qual p k) (hn : ∀ j, j < k → ¬ qual p j) (hk : k < 1 ∨ 155 < k) : splitV p = .tuple #[.string ⟨#[]⟩, .string ⟨#[]⟩, .int .i64 9] := by
  unfold splitV splitOf; rw [if_neg (by omega), win_first p h k hq hn, if_pos (by omega)]
theorem splitV_some {p : ByteArray} (h : 100 < p.size) (k : Nat) (hq : qual p k) (hn : ∀ j, j < k → ¬ qual p j) (h1 : 1 ≤ k) (h2 : k ≤ 155) : splitV p = .tuple #[.string (p.extract 0 k), .string (p.extract (k + 1) p.size), .int .i64 0] := by
  have hq2 := hq.2
  unfold splitV splitOf
  rw [if_neg (by omega), win_first p h k hq hn, if_neg (by omega), show p.size - 100 - 1 + ((k : Int) - (p.size : Int) + 101).toNat = k by omega]
set_option maxHeartbeats 1600000 in
set_option maxRecDepth 100000 in
theorem SplitR_any (p : ByteArray) (w : World) (hp : (p.size : Int) ≤ 140737488355328) :
    Calls Tryz.prog 42 #[.string p] w fun e w' => e = .returned (splitV p) ∧ Below w.heap.size w w' := by
  by_cases h0 : (p.size : Int) ≤ 100
  · have hs := splitV_short (p := p) (by omega)
    go_enter Tryz.func42, Tryz.ntmps42
    go_wp2_with fail
    go_ret3
    exact ⟨congrArg Ending.returned hs.symm, Below.refl _ _⟩
  · have hbig : (100 : Int) < (p.size : Int) := by omega
    go_enter Tryz.func42, Tryz.ntmps42
    go_wp2_with fail
    go_loopw [5] (fun iv wr => ∃ k : Nat, k ≤ p.size ∧ iv = .int .i64 k ∧ Hid (∀ i, i < k → ¬ qual p i) ∧ Hid (Below w.heap.size w wr)) (fun iv _ => p.size - (intOf iv).toNat)
    case atStart => exact ⟨0, Nat.zero_le _, rfl, (fun i hi => absurd hi (by omega)), Below.refl _ _⟩
    case round =>
      obtain ⟨k, hk, rfl, hno, hbel⟩ := hrel
      by_cases hlt : k < p.size
      · have hl : p.data.toList[k]? = some p[k] := List.getElem?_eq_getElem (by exact hlt)
        have HL := Lib.hid hl
        clear hl
        by_cases h47 : p[k] = 47
        · have hn47 : p[k].toNat = 47 := by rw [h47]; rfl
          have H47 := Lib.hid h47
          clear h47
          by_cases hb1 : (k : Int) + 2 ≤ (p.size : Int)
          · by_cases hb2 : (p.size : Int) ≤ (k : Int) + 101
            · have HQ : Hid (qual p k) := ⟨by rw [HL.out, H47.out], by omega, by omega⟩
              by_cases hk1 : (k : Int) < 1
              · go_wp2_with fail
                go_ret3
                exact ⟨congrArg Ending.returned (splitV_bad (by omega) k HQ.out hno.out (.inl (by omega))).symm, hbel.out⟩
              · by_cases hk2 : (155 : Int) < (k : Int)
                · go_wp2_with fail
                  go_ret3
                  exact ⟨congrArg Ending.returned (splitV_bad (by omega) k HQ.out hno.out (.inr (by omega))).symm, hbel.out⟩
                · go_wp2_with fail
                  go_region
                  go_wp2_with fail
                  go_ret3
                  exact ⟨congrArg Ending.returned (splitV_some (by omega) k HQ.out hno.out (by omega) (by omega)).symm, hbel.out.drew⟩
            · have HQ : Hid (¬ qual p k) := fun h => hb2 (by have := h.2.2; omega)
              go_wp2_with fail
              refine ⟨⟨k + 1, by omega, by rw [Int.natCast_add]; rfl, fun i hi => ?_, hbel⟩, by simp [intOf]; omega⟩
              by_cases hik : i < k
              · exact hno.out i hik
              · obtain rfl : i = k := by omega
                exact HQ.out
          · have HQ : Hid (¬ qual p k) := fun h => hb1 (by have := h.2.1; omega)
            go_wp2_with fail
            refine ⟨⟨k + 1, by omega, by rw [Int.natCast_add]; rfl, fun i hi => ?_, hbel⟩, by simp [intOf]; omega⟩
            by_cases hik : i < k
            · exact hno.out i hik
            · obtain rfl : i = k := by omega
              exact HQ.out
        · have HQ : Hid (¬ qual p k) := fun h => h47 (by have h1 := h.1; rw [HL.out] at h1; exact Option.some.inj h1)
          have hn47 : ¬ p[k].toNat = 47 := fun e => h47 (UInt8.toNat_inj.1 e)
          clear h47
          go_wp2_with fail
          refine ⟨⟨k + 1, by omega, by rw [Int.natCast_add]; rfl, fun i hi => ?_, hbel⟩, by simp [intOf]; omega⟩
          by_cases hik : i < k
          · exact hno.out i hik
          · obtain rfl : i = k := by omega
            exact HQ.out
      · go_wp2_with fail
        obtain rfl : k = p.size := by omega
        go_ret3
        exact ⟨congrArg Ending.returned (splitV_none (by omega) hno.out).symm, hbel.out⟩
end Go.Proofs.YthpmocfdnoehoaaGreatDoor
