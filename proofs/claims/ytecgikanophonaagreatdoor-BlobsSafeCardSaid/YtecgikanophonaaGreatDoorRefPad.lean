/- Contract of strataref03.padded. -/
import Derived.Test.YtecgikanophonaaGreatDoorRowC
import Derived.Test.YtecgikanophonaaGreatDoorShaM
import Derived.Test.YtecgikanophonaaGreatDoorOwnB
namespace Go.Proofs.YtecgikanophonaaGreatDoor
open Go Go.RowKit
theorem app_take {B C D : List UInt8} (A : List UInt8) (h : B = C ++ D) : A ++ B = A ++ C ++ D := by rw [h, List.append_assoc]
def lenZ : Value → Nat
  | .slice _ n _ => (120 - n % 64) % 64
  | _ => 0
theorem newV (w : World) (u : Value) (t : TypeId) : (w.alloc (.cells #[u] t)).cell? ((⟨w.heap.size, 0, none⟩ : Addr).add 0) = some u := by
  rw [show ((⟨w.heap.size, 0, none⟩ : Addr).add 0) = ⟨w.heap.size, 0, none⟩ by simp [Addr.add]]
  exact cell_of_heapN (heap_new w _)
set_option maxHeartbeats 3200000 in
set_option maxRecDepth 100000 in
theorem refPad_any (s : ByteArray) (w : World) (hs : s.size ≤ 140000000000000) :
    Calls Tryz.prog 42 #[.string s] w fun e w' => ∃ v, e = .returned v ∧ RowC w.heap.size ((padB s.data.toList).map byteV) v w' ∧ Below w.heap.size w w' := by
  obtain ⟨i0, hi, hz0, hz1, hz2⟩ := info_parts infoB
  have hcv := Lib.run_convert_string_bytes (P := Tryz.prog) w 9 98 5 s Tryz.underlying9 Tryz.underlying98 Tryz.underlying5
  obtain ⟨hrow, hbel⟩ := rowC_conv w 5 s w.heap.size (Nat.le_refl _) (by unfold maxLen; omega)
  generalize Lib.bytesWorld w 5 s = W1 at hcv hrow hbel
  generalize grownCap w s.size 0 5 = cp at hcv hrow
  have HROW := Lib.hid hrow
  have HB1 := Lib.hid hbel
  have hll : (s.data.toList.map byteV).length = s.size := by rw [List.length_map]; exact Array.length_toList
  have HLL := Lib.hid hll
  clear hrow hbel hll
  go_enter Tryz.func42, Tryz.ntmps42
  go_wp2_with (at_builtin; refine wpList_appC rfl _ _ 98 rfl w.heap.size 5 i0 (.int .u8 0) 1 Tryz.underlying98 hi hz0 hz1 hz2 rfl (s.data.toList.map byteV) _ rfl (HROW.out.keep ((Below.refl _ _).alloc (Nat.le_refl _) _)) (byteV 128) ⟨W1.heap.size, 0, none⟩ rfl (new1 W1 128 _ 0 _ rfl) rfl (by rw [HLL.out]; unfold maxLen; omega) (by rw [HLL.out]; omega) (by rw [World.size_alloc]; have := HB1.out.size; omega) ?_; intro v1 w1 hr1 hb1; have HR1 := Lib.hid hr1; have HB2 := Lib.hid hb1; clear hr1 hb1)
  have hn : s.data.toList.length = s.size := Array.length_toList
  have HN := Lib.hid hn
  have hz63 : zeros s.size ≤ 63 := by unfold zeros; omega
  have HR0 : Hid (RowC w.heap.size ((s.data.toList ++ [128] ++ List.replicate 0 0).map byteV) v1 w1) := Lib.hid (by rw [List.replicate_zero, List.append_nil, List.map_append]; exact HR1.out)
  have HB0 : Hid (Below w.heap.size w w1) := Lib.hid (HB1.out.trans (((Below.refl w.heap.size W1).alloc HB1.out.size _).trans HB2.out))
  clear HR1 HB2 HROW HB1 hcv hn
  go_loopw [3] (fun v wr => ∃ j : Nat, j ≤ zeros s.size ∧ Hid (RowC w.heap.size ((s.data.toList ++ [128] ++ List.replicate j 0).map byteV) v wr) ∧ Hid (Below w.heap.size w wr)) (fun v _ => lenZ v)
  case atStart => exact ⟨0, Nat.zero_le _, HR0, HB0⟩
  case round =>
    obtain ⟨j, hj, HR, HB⟩ := hrel
    have hlj : ((s.data.toList ++ [128] ++ List.replicate j 0).map byteV).length = s.size + 1 + j := by
      rw [List.length_map, List.length_append, List.length_append, HN.out, List.length_replicate]
      rfl
    obtain ⟨p, cap, rfl, -⟩ := HR.out.slice
    rw [hlj] at HR ⊢
    have HLJ := Lib.hid hlj
    have hzz : zeros s.size = (119 - s.size % 64) % 64 := rfl
    by_cases h56 : ((s.size + 1 + j : Nat) : Int) % 64 = 56
    · have hjz : j = zeros s.size := by omega
      subst hjz
      clear hlj hzz hj
      go_wp2_with fail
      have hbb : ((((s.size : Int) + 1 + (zeros s.size : Int)) % 64 != 56) : Bool) = false := by
        rw [Int.natCast_add, Int.natCast_add] at h56
        exact bne_eq_false_iff_eq.2 h56
      simp only [hbb]
      go_loopw [3, 4] (fun v iv wr => ∃ m : Nat, (m : Int) ≤ 8 ∧ iv = .int .i64 (7 - (m : Int)) ∧ Hid (RowC w.heap.size ((s.data.toList ++ [128] ++ List.replicate (zeros s.size) 0 ++ (len8 s.size).take m).map byteV) v wr) ∧ Hid (Below w.heap.size w wr)) (fun _ iv _ => (intOf iv + 1).toNat)
      case atStart => exact ⟨0, by omega, rfl, Lib.hid (by rw [List.take_zero, List.append_nil]; exact HR.out), HB⟩
      case round =>
        obtain ⟨m, hm, rfl, HR, HB⟩ := hrel
        have hlm : ((s.data.toList ++ [128] ++ List.replicate (zeros s.size) 0 ++ (len8 s.size).take m).map byteV).length = s.size + 1 + zeros s.size + m := by
          rw [List.length_map, List.length_append, List.length_append, List.length_append, HN.out, List.length_replicate, List.length_take]
          show s.size + 1 + zeros s.size + min m 8 = _
          omega
        have HLJ := Lib.hid hlm
        by_cases hlt : (m : Int) < 8
        · rcases (show m = 0 ∨ m = 1 ∨ m = 2 ∨ m = 3 ∨ m = 4 ∨ m = 5 ∨ m = 6 ∨ m = 7 by omega) with rfl | rfl | rfl | rfl | rfl | rfl | rfl | rfl
          · clear hlm
            go_wp2_with (first | (at_builtin; refine wpList_appC rfl _ _ 98 rfl w.heap.size 5 i0 (.int .u8 0) 1 Tryz.underlying98 hi hz0 hz1 hz2 rfl _ _ rfl (HR.out.keep ((Below.refl _ _).alloc (Nat.le_refl _) _)) _ ⟨wr.heap.size, 0, none⟩ rfl (newV wr _ _) rfl (by rw [HLJ.out]; unfold maxLen; omega) (by rw [HLJ.out]; omega) (by rw [World.size_alloc]; have := HB.out.size; omega) ?_; intro v1 w1 hr1 hb1; have HR1 := Lib.hid hr1; have HB2 := Lib.hid (HB.out.trans (((Below.refl w.heap.size wr).alloc HB.out.size _).trans hb1)); clear hr1 hb1) | go_in)
            go_roundw
            case rel =>
              refine ⟨1, by omega, rfl, Lib.hid ?_, HB2⟩
              rw [show s.data.toList ++ [128] ++ List.replicate (zeros s.size) 0 ++ (len8 s.size).take 1 = (s.data.toList ++ [128] ++ List.replicate (zeros s.size) 0 ++ (len8 s.size).take 0) ++ [UInt8.ofNat (8 * s.size / 2 ^ 56)] from app_take _ (show (len8 s.size).take 1 = (len8 s.size).take 0 ++ [UInt8.ofNat (8 * s.size / 2 ^ 56)] from rfl), List.map_append]
              refine Eq.mp (congrArg (fun u => RowC w.heap.size (_ ++ [u]) v1 w1) (congrArg (Value.int .u8) ?_)) HR1.out
              rw [UInt8.toNat_ofNat']
              omega
            case measure => simp [intOf]
          · clear hlm
            go_wp2_with (first | (at_builtin; refine wpList_appC rfl _ _ 98 rfl w.heap.size 5 i0 (.int .u8 0) 1 Tryz.underlying98 hi hz0 hz1 hz2 rfl _ _ rfl (HR.out.keep ((Below.refl _ _).alloc (Nat.le_refl _) _)) _ ⟨wr.heap.size, 0, none⟩ rfl (newV wr _ _) rfl (by rw [HLJ.out]; unfold maxLen; omega) (by rw [HLJ.out]; omega) (by rw [World.size_alloc]; have := HB.out.size; omega) ?_; intro v1 w1 hr1 hb1; have HR1 := Lib.hid hr1; have HB2 := Lib.hid (HB.out.trans (((Below.refl w.heap.size wr).alloc HB.out.size _).trans hb1)); clear hr1 hb1) | go_in)
            go_roundw
            case rel =>
              refine ⟨2, by omega, rfl, Lib.hid ?_, HB2⟩
              rw [show s.data.toList ++ [128] ++ List.replicate (zeros s.size) 0 ++ (len8 s.size).take 2 = (s.data.toList ++ [128] ++ List.replicate (zeros s.size) 0 ++ (len8 s.size).take 1) ++ [UInt8.ofNat (8 * s.size / 2 ^ 48)] from app_take _ (show (len8 s.size).take 2 = (len8 s.size).take 1 ++ [UInt8.ofNat (8 * s.size / 2 ^ 48)] from rfl), List.map_append]
              refine Eq.mp (congrArg (fun u => RowC w.heap.size (_ ++ [u]) v1 w1) (congrArg (Value.int .u8) ?_)) HR1.out
              rw [UInt8.toNat_ofNat']
              omega
            case measure => simp [intOf]
          · clear hlm
            go_wp2_with (first | (at_builtin; refine wpList_appC rfl _ _ 98 rfl w.heap.size 5 i0 (.int .u8 0) 1 Tryz.underlying98 hi hz0 hz1 hz2 rfl _ _ rfl (HR.out.keep ((Below.refl _ _).alloc (Nat.le_refl _) _)) _ ⟨wr.heap.size, 0, none⟩ rfl (newV wr _ _) rfl (by rw [HLJ.out]; unfold maxLen; omega) (by rw [HLJ.out]; omega) (by rw [World.size_alloc]; have := HB.out.size; omega) ?_; intro v1 w1 hr1 hb1; have HR1 := Lib.hid hr1; have HB2 := Lib.hid (HB.out.trans (((Below.refl w.heap.size wr).alloc HB.out.size _).trans hb1)); clear hr1 hb1) | go_in)
            go_roundw
            case rel =>
              refine ⟨3, by omega, rfl, Lib.hid ?_, HB2⟩
              rw [show s.data.toList ++ [128] ++ List.replicate (zeros s.size) 0 ++ (len8 s.size).take 3 = (s.data.toList ++ [128] ++ List.replicate (zeros s.size) 0 ++ (len8 s.size).take 2) ++ [UInt8.ofNat (8 * s.size / 2 ^ 40)] from app_take _ (show (len8 s.size).take 3 = (len8 s.size).take 2 ++ [UInt8.ofNat (8 * s.size / 2 ^ 40)] from rfl), List.map_append]
              refine Eq.mp (congrArg (fun u => RowC w.heap.size (_ ++ [u]) v1 w1) (congrArg (Value.int .u8) ?_)) HR1.out
              rw [UInt8.toNat_ofNat']
              omega
            case measure => simp [intOf]
          · clear hlm
            go_wp2_with (first | (at_builtin; refine wpList_appC rfl _ _ 98 rfl w.heap.size 5 i0 (.int .u8 0) 1 Tryz.underlying98 hi hz0 hz1 hz2 rfl _ _ rfl (HR.out.keep ((Below.refl _ _).alloc (Nat.le_refl _) _)) _ ⟨wr.heap.size, 0, none⟩ rfl (newV wr _ _) rfl (by rw [HLJ.out]; unfold maxLen; omega) (by rw [HLJ.out]; omega) (by rw [World.size_alloc]; have := HB.out.size; omega) ?_; intro v1 w1 hr1 hb1; have HR1 := Lib.hid hr1; have HB2 := Lib.hid (HB.out.trans (((Below.refl w.heap.size wr).alloc HB.out.size _).trans hb1)); clear hr1 hb1) | go_in)
            go_roundw
            case rel =>
              refine ⟨4, by omega, rfl, Lib.hid ?_, HB2⟩
              rw [show s.data.toList ++ [128] ++ List.replicate (zeros s.size) 0 ++ (len8 s.size).take 4 = (s.data.toList ++ [128] ++ List.replicate (zeros s.size) 0 ++ (len8 s.size).take 3) ++ [UInt8.ofNat (8 * s.size / 2 ^ 32)] from app_take _ (show (len8 s.size).take 4 = (len8 s.size).take 3 ++ [UInt8.ofNat (8 * s.size / 2 ^ 32)] from rfl), List.map_append]
              refine Eq.mp (congrArg (fun u => RowC w.heap.size (_ ++ [u]) v1 w1) (congrArg (Value.int .u8) ?_)) HR1.out
              rw [UInt8.toNat_ofNat']
              omega
            case measure => simp [intOf]
          · clear hlm
            go_wp2_with (first | (at_builtin; refine wpList_appC rfl _ _ 98 rfl w.heap.size 5 i0 (.int .u8 0) 1 Tryz.underlying98 hi hz0 hz1 hz2 rfl _ _ rfl (HR.out.keep ((Below.refl _ _).alloc (Nat.le_refl _) _)) _ ⟨wr.heap.size, 0, none⟩ rfl (newV wr _ _) rfl (by rw [HLJ.out]; unfold maxLen; omega) (by rw [HLJ.out]; omega) (by rw [World.size_alloc]; have := HB.out.size; omega) ?_; intro v1 w1 hr1 hb1; have HR1 := Lib.hid hr1; have HB2 := Lib.hid (HB.out.trans (((Below.refl w.heap.size wr).alloc HB.out.size _).trans hb1)); clear hr1 hb1) | go_in)
            go_roundw
            case rel =>
              refine ⟨5, by omega, rfl, Lib.hid ?_, HB2⟩
              rw [show s.data.toList ++ [128] ++ List.replicate (zeros s.size) 0 ++ (len8 s.size).take 5 = (s.data.toList ++ [128] ++ List.replicate (zeros s.size) 0 ++ (len8 s.size).take 4) ++ [UInt8.ofNat (8 * s.size / 2 ^ 24)] from app_take _ (show (len8 s.size).take 5 = (len8 s.size).take 4 ++ [UInt8.ofNat (8 * s.size / 2 ^ 24)] from rfl), List.map_append]
              refine Eq.mp (congrArg (fun u => RowC w.heap.size (_ ++ [u]) v1 w1) (congrArg (Value.int .u8) ?_)) HR1.out
              rw [UInt8.toNat_ofNat']
              omega
            case measure => simp [intOf]
          · clear hlm
            go_wp2_with (first | (at_builtin; refine wpList_appC rfl _ _ 98 rfl w.heap.size 5 i0 (.int .u8 0) 1 Tryz.underlying98 hi hz0 hz1 hz2 rfl _ _ rfl (HR.out.keep ((Below.refl _ _).alloc (Nat.le_refl _) _)) _ ⟨wr.heap.size, 0, none⟩ rfl (newV wr _ _) rfl (by rw [HLJ.out]; unfold maxLen; omega) (by rw [HLJ.out]; omega) (by rw [World.size_alloc]; have := HB.out.size; omega) ?_; intro v1 w1 hr1 hb1; have HR1 := Lib.hid hr1; have HB2 := Lib.hid (HB.out.trans (((Below.refl w.heap.size wr).alloc HB.out.size _).trans hb1)); clear hr1 hb1) | go_in)
            go_roundw
            case rel =>
              refine ⟨6, by omega, rfl, Lib.hid ?_, HB2⟩
              rw [show s.data.toList ++ [128] ++ List.replicate (zeros s.size) 0 ++ (len8 s.size).take 6 = (s.data.toList ++ [128] ++ List.replicate (zeros s.size) 0 ++ (len8 s.size).take 5) ++ [UInt8.ofNat (8 * s.size / 2 ^ 16)] from app_take _ (show (len8 s.size).take 6 = (len8 s.size).take 5 ++ [UInt8.ofNat (8 * s.size / 2 ^ 16)] from rfl), List.map_append]
              refine Eq.mp (congrArg (fun u => RowC w.heap.size (_ ++ [u]) v1 w1) (congrArg (Value.int .u8) ?_)) HR1.out
              rw [UInt8.toNat_ofNat']
              omega
            case measure => simp [intOf]
          · clear hlm
            go_wp2_with (first | (at_builtin; refine wpList_appC rfl _ _ 98 rfl w.heap.size 5 i0 (.int .u8 0) 1 Tryz.underlying98 hi hz0 hz1 hz2 rfl _ _ rfl (HR.out.keep ((Below.refl _ _).alloc (Nat.le_refl _) _)) _ ⟨wr.heap.size, 0, none⟩ rfl (newV wr _ _) rfl (by rw [HLJ.out]; unfold maxLen; omega) (by rw [HLJ.out]; omega) (by rw [World.size_alloc]; have := HB.out.size; omega) ?_; intro v1 w1 hr1 hb1; have HR1 := Lib.hid hr1; have HB2 := Lib.hid (HB.out.trans (((Below.refl w.heap.size wr).alloc HB.out.size _).trans hb1)); clear hr1 hb1) | go_in)
            go_roundw
            case rel =>
              refine ⟨7, by omega, rfl, Lib.hid ?_, HB2⟩
              rw [show s.data.toList ++ [128] ++ List.replicate (zeros s.size) 0 ++ (len8 s.size).take 7 = (s.data.toList ++ [128] ++ List.replicate (zeros s.size) 0 ++ (len8 s.size).take 6) ++ [UInt8.ofNat (8 * s.size / 2 ^ 8)] from app_take _ (show (len8 s.size).take 7 = (len8 s.size).take 6 ++ [UInt8.ofNat (8 * s.size / 2 ^ 8)] from rfl), List.map_append]
              refine Eq.mp (congrArg (fun u => RowC w.heap.size (_ ++ [u]) v1 w1) (congrArg (Value.int .u8) ?_)) HR1.out
              rw [UInt8.toNat_ofNat']
              omega
            case measure => simp [intOf]
          · clear hlm
            go_wp2_with (first | (at_builtin; refine wpList_appC rfl _ _ 98 rfl w.heap.size 5 i0 (.int .u8 0) 1 Tryz.underlying98 hi hz0 hz1 hz2 rfl _ _ rfl (HR.out.keep ((Below.refl _ _).alloc (Nat.le_refl _) _)) _ ⟨wr.heap.size, 0, none⟩ rfl (newV wr _ _) rfl (by rw [HLJ.out]; unfold maxLen; omega) (by rw [HLJ.out]; omega) (by rw [World.size_alloc]; have := HB.out.size; omega) ?_; intro v1 w1 hr1 hb1; have HR1 := Lib.hid hr1; have HB2 := Lib.hid (HB.out.trans (((Below.refl w.heap.size wr).alloc HB.out.size _).trans hb1)); clear hr1 hb1) | go_in)
            go_roundw
            case rel =>
              refine ⟨8, by omega, rfl, Lib.hid ?_, HB2⟩
              rw [show s.data.toList ++ [128] ++ List.replicate (zeros s.size) 0 ++ (len8 s.size).take 8 = (s.data.toList ++ [128] ++ List.replicate (zeros s.size) 0 ++ (len8 s.size).take 7) ++ [UInt8.ofNat (8 * s.size / 2 ^ 0)] from app_take _ (show (len8 s.size).take 8 = (len8 s.size).take 7 ++ [UInt8.ofNat (8 * s.size / 2 ^ 0)] from rfl), List.map_append]
              refine Eq.mp (congrArg (fun u => RowC w.heap.size (_ ++ [u]) v1 w1) (congrArg (Value.int .u8) ?_)) HR1.out
              rw [UInt8.toNat_ofNat']
              omega
            case measure => simp [intOf]
        · obtain rfl : m = 8 := by omega
          go_wp2_with fail
          go_ret
          refine ⟨_, rfl, ?_, HB.out⟩
          have hp : padB s.data.toList = s.data.toList ++ [128] ++ List.replicate (zeros s.size) 0 ++ (len8 s.size).take 8 := by
            unfold padB
            rw [HN.out]
            rfl
          rw [hp]
          exact HR.out
    · have hjz : j < zeros s.size := by omega
      go_wp2_with (first | (at_builtin; refine wpList_appC rfl _ _ 98 rfl w.heap.size 5 i0 (.int .u8 0) 1 Tryz.underlying98 hi hz0 hz1 hz2 rfl _ _ rfl (HR.out.keep ((Below.refl _ _).alloc (Nat.le_refl _) _)) _ ⟨wr.heap.size, 0, none⟩ rfl (newV wr _ _) rfl (by rw [HLJ.out]; unfold maxLen; omega) (by rw [HLJ.out]; omega) (by rw [World.size_alloc]; have := HB.out.size; omega) ?_; intro v1 w1 hr1 hb1; have HR1 := Lib.hid hr1; have HB2 := Lib.hid (HB.out.trans (((Below.refl w.heap.size wr).alloc HB.out.size _).trans hb1)); clear hr1 hb1) | go_in)
      case roundEnd =>
        have hl1 : ((s.data.toList ++ [128] ++ List.replicate j 0).map byteV ++ [Value.int .u8 0]) = (s.data.toList ++ [128] ++ List.replicate (j + 1) 0).map byteV := by
          rw [List.replicate_succ', ← List.append_assoc, List.map_append (l₂ := [0])]
          rfl
        rw [hl1] at HR1
        obtain ⟨p1, cap1, rfl, -⟩ := HR1.out.slice
        refine ⟨⟨j + 1, by omega, HR1, HB2⟩, ?_⟩
        have hl2 : ((s.data.toList ++ [128] ++ List.replicate (j + 1) 0).map byteV).length = s.size + 1 + (j + 1) := by
          rw [← hl1, List.length_append, HLJ.out]
          rfl
        rw [hl2]
        show (120 - (s.size + 1 + (j + 1)) % 64) % 64 < (120 - (s.size + 1 + j) % 64) % 64
        omega
end Go.Proofs.YtecgikanophonaaGreatDoor
