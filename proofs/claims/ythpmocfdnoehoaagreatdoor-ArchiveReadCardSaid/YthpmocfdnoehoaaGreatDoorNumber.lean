/- Contract of (*ustar.block).number: the block with the digits of x laid at a place. -/
import Derived.Test.YthpmocfdnoehoaaGreatDoorProg
import Derived.Test.YthpmocfdnoehoaaGreatDoorPlain
import Derived.WalkSpells
import Derived.WalkLawsBesides
namespace Go.Proofs.YthpmocfdnoehoaaGreatDoor
open Go.RowKit
theorem digit_byte (x : Int) : Value.int .u8 (48 + x % 8) = byteV (48 + x % 8).toNat.toUInt8 := by
  have h : (48 + x % 8).toNat < 256 := by omega
  have h2 : ((48 + x % 8).toNat : Int) = 48 + x % 8 := by omega
  simp [byteV, Nat.mod_eq_of_lt h, h2]
set_option maxHeartbeats 400000 in
theorem number_any (b i d : Nat) (l : Bs) (x : Int) (w : World) (hb : w.heap[b]? = some (blk 90 l)) (hl : l.length = 512) (hd : i + d ≤ 512) (h0 : 0 ≤ x) (h1 : x ≤ 9223372036854775807) :
    Calls Tryz.prog 48 #[.pointer (some ⟨b, 0, none⟩), .int .i64 i, .int .i64 d, .int .i64 x] w fun e w' =>
      e = .returned (.tuple #[]) ∧ setBlk w b (blk 90 (over l i (octal d x))) = w' := by
  go_enter Tryz.func48, Tryz.ntmps48
  go_wp2
  have HB := Lib.hid hb
  clear hb
  have hlen := hl
  have hl2 : l.length ≤ 512 := by omega
  have hl3 : 512 ≤ l.length := by omega
  clear hl hlen
  go_loopw [3, 8] (fun xv iv wr => ∃ (j : Nat) (y z : Int), j ≤ d ∧ Hid (z = (j : Int) - 1) ∧ 0 ≤ y ∧ y ≤ 9223372036854775807 ∧ Hid (y = div8 x (d - j)) ∧ iv = .int .i64 z ∧ xv = .int .i64 y ∧ Hid (wr = setBlk w b (blk 90 (over l (i + j) (octal (d - j) x)))))
    (fun _ iv _ => (intOf iv + 1).toNat)
  case atStart =>
    refine ⟨d, x, _, Nat.le_refl _, rfl, h0, h1, ?_, rfl, rfl, ?_⟩
    · rw [Nat.sub_self]; rfl
    · show w = setBlk w b (blk 90 (over l (i + d) (octal (d - d) x)))
      rw [Nat.sub_self, show over l (i + d) (octal 0 x) = l by simp [over, octal], setBlk_self HB.out]
  case round =>
    obtain ⟨j, y, z, hj, hz, hy0, hy1, hy, rfl, rfl, hwr⟩ := hrel
    cases j with
    | zero =>
      have hz' : z < 0 := by have := hz.out; omega
      go_wp2
      go_end0
      refine ⟨rfl, ?_⟩
      have := hwr.out
      rw [Nat.add_zero, Nat.sub_zero] at this
      exact this.symm
    | succ m =>
      obtain rfl : z = (m : Int) := by have := hz.out; omega
      have hbs := blk_lt HB.out
      have hwb : wr.heap[b]? = some (blk 90 (over l (i + (m + 1)) (octal (d - (m + 1)) x))) := by rw [hwr.out]; exact setBlk_heap hbs
      have hol : (over l (i + (m + 1)) (octal (d - (m + 1)) x)).length = l.length := over_length (by rw [octal_length]; omega)
      obtain ⟨v, hcell⟩ : ∃ v, wr.cell? ⟨b, i + m, none⟩ = some (byteV v) := ⟨_, blk_cell hwb (List.getElem?_eq_getElem (i := i + m) (by omega))⟩
      have hfro := blk_frozen (i := i + m) hwb
      have HW := Lib.hid hwb
      have HO := Lib.hid hol
      clear hwb hol hbs
      go_wp2
      go_roundw
      case rel =>
        refine ⟨m, y / 8, _, by omega, ?_, by omega, by omega, ?_, rfl, rfl, ?_⟩
        · exact rfl
        · show y / 8 = div8 x (d - m)
          rw [show d - m = (d - (m + 1)) + 1 from by omega]
          show _ = div8 x (d - (m + 1)) / 8
          rw [← hy.out]
        · show _ = _
          rw [digit_byte, blk_set HW.out, hwr.out, setBlk_setBlk, show i + (m + 1) = (i + m) + 1 from by omega, over_set (by rw [octal_length]; omega), show d - m = (d - (m + 1)) + 1 from by omega, octal_snoc, ← hy.out]
      case measure => simp [intOf]
end Go.Proofs.YthpmocfdnoehoaaGreatDoor
