/- Contract of path.Split. -/
import Derived.Test.YthpmocfdnoehoaaGreatDoorProg
import Derived.Test.YthpmocfdnoehoaaGreatDoorSmall
import Derived.Test.YthpmocfdnoehoaaGreatDoorShelf
import Derived.WalkSpells
import Derived.WalkLawsBesides
import Derived.Deep.QuietTactic
import Derived.BigQuiet
namespace Go.Proofs.YthpmocfdnoehoaaGreatDoor
open Go.RowKit

/-- The bytes of a long path among which its slash is looked for. -/
def win (p : ByteArray) : Bs := List.take (p.size - 1 - (p.size - 100 - 1)) (List.drop (p.size - 100 - 1) p.data.toList)
theorem indexByte_le (l : Bs) (c : UInt8) : Lib.indexByte l c < l.length ∨ Lib.indexByte l c = -1 := by
  have h := Lib.indexByte_ge l c
  by_cases e : Lib.indexByte l c = -1
  · exact .inr e
  · obtain ⟨o, ho⟩ := Int.eq_ofNat_of_zero_le (a := Lib.indexByte l c) (by omega)
    have h2 := (Lib.indexByte_some (o := o) ho).1
    have h3 := (List.getElem?_eq_some_iff.1 h2).1
    left; omega
theorem win_bd (p : ByteArray) (h : 100 < p.size) : -1 ≤ Lib.indexByte (win p) 47 ∧ Lib.indexByte (win p) 47 ≤ 99 := by
  have h1 := Lib.indexByte_ge (win p) 47
  have h2 := indexByte_le (win p) 47
  have h3 : (win p).length ≤ 100 := by simp only [win, List.length_take]; omega
  omega
/-- A path as a header says it: prefix and name; none: it can't. -/
def splitOf (p : ByteArray) : Option (ByteArray × ByteArray) :=
  if p.size ≤ 100 then some (⟨#[]⟩, p) else
  if Lib.indexByte (win p) 47 < 0 ∨ p.size + Lib.indexByte (win p) 47 < 102 ∨ 256 < p.size + Lib.indexByte (win p) 47 then none else
  some (p.extract 0 (p.size - 100 - 1 + (Lib.indexByte (win p) 47).toNat), p.extract (p.size - 100 - 1 + (Lib.indexByte (win p) 47).toNat + 1) p.size)
theorem idx_eq (s : ByteArray) (c : Int) (w : World) (i : Int) (h : Lib.indexByte s.data.toList c.toNat.toUInt8 = i) :
    Calls Tryz.prog 65 #[.string s, .int .u8 c] w fun e w' => e = .returned (.int .i64 i) ∧ w = w' :=
  (Tryz.strings_IndexByte s c w).mono fun _ _ ⟨he, hw⟩ => ⟨by rw [he, h], hw.symm⟩
theorem win_eq (p : ByteArray) : (p.extract (p.size - 100 - 1) (p.size - 1)).data.toList = win p := by
  rw [Lib.extract_data]; rfl
set_option maxHeartbeats 400000 in
theorem split_short (p : ByteArray) (w : World) (hp : p.size ≤ 100) :
    Calls Tryz.prog 46 #[.string p] w fun e w' => e = .returned (.tuple #[.string ⟨#[]⟩, .string p, .nilIface]) ∧ w = w' := by
  go_enter Tryz.func46, Tryz.ntmps46
  go_wp2_with fail
  go_ret3
  exact ⟨rfl, rfl⟩
set_option maxHeartbeats 400000 in
theorem split_bad (p : ByteArray) (w : World) (hp : 100 < p.size) (hm : p.size ≤ 140737488355328) (hb : Lib.indexByte (win p) 47 < 0 ∨ p.size + Lib.indexByte (win p) 47 < 102 ∨ 256 < p.size + Lib.indexByte (win p) 47) :
    Calls Tryz.prog 46 #[.string p] w fun e w' => e = .returned (.tuple #[.string ⟨#[]⟩, .string ⟨#[]⟩, errV 9]) ∧ w = w' := by
  have hw := win_bd p hp
  go_enter Tryz.func46, Tryz.ntmps46
  go_wp2_with fail
  obtain ⟨i, hi⟩ : ∃ i, Lib.indexByte (win p) 47 = i := ⟨_, rfl⟩
  rw [hi] at hb hw
  refine (idx_eq _ _ _ i (by rw [← hi, ← win_eq]; rfl)).mono ?_
  clear hi
  rintro e w' ⟨rfl, rfl⟩
  by_cases h1 : i < 0
  · go_wp2_with fail
    go_ret3
    exact ⟨rfl, rfl⟩
  · by_cases h2 : p.size + i < 102
    · go_wp2_with fail
      go_ret3
      exact ⟨rfl, rfl⟩
    · have h3 : 256 < p.size + i := by omega
      go_wp2_with fail
      go_ret3
      exact ⟨rfl, rfl⟩
set_option maxHeartbeats 400000 in
theorem split_long (p : ByteArray) (k : Nat) (w : World) (hp : 100 < p.size) (hm : p.size ≤ 140737488355328) (hk : Lib.indexByte (win p) 47 = k) (h1 : 102 ≤ p.size + k) (h2 : p.size + k ≤ 256) :
    Calls Tryz.prog 46 #[.string p] w fun e w' => e = .returned (.tuple #[.string (p.extract 0 (p.size - 100 - 1 + k)), .string (p.extract (p.size - 100 - 1 + k + 1) p.size), .nilIface]) ∧ ∃ n, w.drewN n = w' := by
  have hw := win_bd p hp
  have HK := Lib.hid hk
  rw [hk] at hw
  clear hk
  go_enter Tryz.func46, Tryz.ntmps46
  go_wp2_with fail
  refine (idx_eq _ _ _ (k : Int) (by rw [← HK.out, ← win_eq]; rfl)).mono ?_
  rintro e w' ⟨rfl, rfl⟩
  go_wp2_with fail
  go_quiet (fail)
  go_wp2_with fail
  go_ret3
  exact ⟨rfl, _, rfl⟩
theorem split_yes (p a b : ByteArray) (w : World) (hm : p.size ≤ 140737488355328) (h : splitOf p = some (a, b)) :
    Calls Tryz.prog 46 #[.string p] w fun e w' => e = .returned (.tuple #[.string a, .string b, .nilIface]) ∧ ∃ n, w.drewN n = w' := by
  unfold splitOf at h
  split at h
  · rename_i h1
    simp only [Option.some.injEq, Prod.mk.injEq] at h
    obtain ⟨rfl, rfl⟩ := h
    exact (split_short p w h1).mono fun _ _ ⟨he, hw⟩ => ⟨he, 0, hw⟩
  · rename_i h1
    split at h
    · simp at h
    · rename_i h2
      simp only [Option.some.injEq, Prod.mk.injEq] at h
      obtain ⟨rfl, rfl⟩ := h
      obtain ⟨k, hk⟩ := Int.eq_ofNat_of_zero_le (a := Lib.indexByte (win p) 47) (by omega)
      have := split_long p k w (by omega) hm hk (by omega) (by omega)
      rw [hk, Int.toNat_natCast]
      exact this
theorem split_no (p : ByteArray) (w : World) (hm : p.size ≤ 140737488355328) (h : splitOf p = none) :
    Calls Tryz.prog 46 #[.string p] w fun e w' => e = .returned (.tuple #[.string ⟨#[]⟩, .string ⟨#[]⟩, errV 9]) ∧ w = w' := by
  unfold splitOf at h
  split at h
  · simp at h
  · rename_i h1
    split at h
    · rename_i h2
      exact split_bad p w (by omega) hm h2
    · simp at h
end Go.Proofs.YthpmocfdnoehoaaGreatDoor
