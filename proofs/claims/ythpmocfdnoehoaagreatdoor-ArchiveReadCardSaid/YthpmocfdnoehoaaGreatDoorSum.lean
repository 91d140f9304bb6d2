/- Contract of (*ustar.block).sum: the sum of a header's bytes, those of the sum itself as blanks. -/
import Derived.Test.YthpmocfdnoehoaaGreatDoorProg
import Derived.Test.YthpmocfdnoehoaaGreatDoorPlain
import Derived.WalkSpells
import Derived.WalkLawsBesides
import Derived.Deep.QuietTactic
import Derived.BigQuiet
namespace Go.Proofs.YthpmocfdnoehoaaGreatDoor
open Go.RowKit
/-- The sum of the first k bytes of a header. -/
def sumTo (l : Bs) : Nat → Int
  | 0 => 0
  | k + 1 => sumTo l k + (if 148 ≤ k ∧ k < 156 then 32 else ((l.getD k 0).toNat : Int))
theorem sumTo_bd (l : Bs) : ∀ k, 0 ≤ sumTo l k ∧ sumTo l k ≤ 256 * k := by
  intro k
  induction k with
  | zero => simp [sumTo]
  | succ k ih =>
    simp only [sumTo]
    have h := (l.getD k 0).toNat_lt
    split <;> omega
set_option maxHeartbeats 400000 in
set_option maxRecDepth 100000 in
theorem sum_any (b : Nat) (l : Bs) (w : World) (hb : w.heap[b]? = some (blk 90 l)) (hl : l.length = 512) :
    Calls Tryz.prog 49 #[.pointer (some ⟨b, 0, none⟩)] w fun e w' => e = .returned (.int .i64 (sumTo l 512)) ∧ ∃ n, w.drewN n = w' := by
  go_enter Tryz.func49, Tryz.ntmps49
  have HB := Lib.hid hb
  clear hb
  have hl2 : 512 ≤ l.length := by omega
  clear hl
  go_wp2
  go_loopw [3, 4, 5, 7] (fun sv _ _ iv wr => ∃ (k n : Nat) (s : Int), k ≤ 512 ∧ 0 ≤ s ∧ s ≤ 256 * k ∧ Hid (s = sumTo l k) ∧ iv = .int .i64 k ∧ sv = .int .i64 s ∧ wr = w.drewN n)
    (fun _ _ _ iv _ => 512 - (intOf iv).toNat)
  case atStart => exact ⟨0, 0, 0, by omega, by omega, by omega, rfl, rfl, rfl, rfl⟩
  case round =>
    obtain ⟨k, n, s, hk, hs0, hs1, hs, rfl, rfl, rfl⟩ := hrel
    by_cases hlt : k < 512
    · obtain ⟨x, hx⟩ : ∃ x : UInt8, l[k]? = some x := ⟨_, List.getElem?_eq_getElem (i := k) (by omega)⟩
      have hxl := x.toNat_lt
      have hxd : l.getD k 0 = x := by rw [List.getD_eq_getElem?_getD, hx]; rfl
      have hcell : w.cell? ⟨b, k, none⟩ = some (.int .u8 (x.toNat : Int)) := blk_cell HB.out hx
      have HX := Lib.hid hx
      have HD := Lib.hid hxd
      clear hx hxd
      go_wp2
      go_quiet (fail)
      by_cases h1 : 148 ≤ k
      · by_cases h2 : k < 156
        · go_wp2
          go_roundw
          case rel => exact ⟨k + 1, _, s + 32, by omega, by omega, by omega, by show s + 32 = _; rw [sumTo, if_pos ⟨h1, h2⟩, ← hs.out], by go_num, rfl, rfl⟩
          case measure => simp [intOf]; omega
        · go_wp2
          go_roundw
          case rel => exact ⟨k + 1, _, s + x.toNat, by omega, by omega, by omega, by show s + (x.toNat : Int) = _; rw [sumTo, if_neg (by omega), ← hs.out, HD.out], by go_num, rfl, rfl⟩
          case measure => simp [intOf]; omega
      · have h3 : decide (148 ≤ (k : Int)) = false := by simp; omega
        go_wp2
        go_roundw
        case rel => exact ⟨k + 1, _, s + x.toNat, by omega, by omega, by omega, by show s + (x.toNat : Int) = _; rw [sumTo, if_neg (by omega), ← hs.out, HD.out], by go_num, rfl, rfl⟩
        case measure => simp [intOf]; omega
    · go_wp2
      go_ret
      refine ⟨ret_int ?_, n, rfl⟩
      rw [hs.out, show k = 512 from by omega]
end Go.Proofs.YthpmocfdnoehoaaGreatDoor
