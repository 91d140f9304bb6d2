/- Contract of stratakit.Num at an Errno and at a Fault. -/
import Derived.Test.YtlcompihcmhbiaaGreatDoorErrs
namespace Go.Proofs.YtlcompihcmhbiaaGreatDoor
open Go.RowKit
/-- errors.Is knows e by the number m. -/
def IsNum (e : Value) (m : Int) : Prop := ∀ (k : Int) (w : World), Calls Tryz.prog 62 #[e, errV k] w fun r w' => r = .returned (.bool (m == k)) ∧ Below w.heap.size w w'
theorem isNum_errno (n : Int) : IsNum (errV n) n := fun k w => (is_errno n k w).mono fun _ _ ⟨h, hw⟩ => ⟨h, by rw [← hw]; exact Below.refl _ _⟩
theorem isNum_fault (n l a : Int) : IsNum (faultV n l a) n := fun k w => is_fault n l a k w
set_option maxHeartbeats 400000 in
theorem num_nil (w : World) : Calls Tryz.prog 24 #[.nilIface] w fun e w' => e = .returned (.int .i64 0) ∧ w = w' := by
  go_enter Tryz.func24, Tryz.ntmps24
  go_wp2_with fail
  go_ret
  exact ⟨rfl, rfl⟩
set_option maxHeartbeats 800000 in
set_option maxRecDepth 100000 in
theorem num_any (t : TypeId) (x : Value) (m : Int) (w : World) (hI : IsNum (.iface t x) m) (h1 : 1 ≤ m) (h2 : m ≤ 32) :
    Calls Tryz.prog 24 #[.iface t x] w fun e w' => e = .returned (.int .i64 m) ∧ Below w.heap.size w w' := by
  go_enter Tryz.func24, Tryz.ntmps24
  go_wp2_with fail
  go_loopw [3, 4] (fun fv nv wr => ∃ k v : Int, 1 ≤ k ∧ k ≤ 33 ∧ nv = .int .i64 k ∧ fv = .int .i64 v ∧ Hid ((m < k → v = m) ∧ (k ≤ m → v = 0)) ∧ Hid (Below w.heap.size w wr)) (fun _ nv _ => (33 - intOf nv).toNat)
  case atStart => exact ⟨1, 0, by omega, by omega, rfl, rfl, ⟨fun h => by omega, fun _ => rfl⟩, Below.refl _ _⟩
  case round =>
    obtain ⟨k, v, hk1, hk2, rfl, rfl, hv, hb⟩ := hrel
    by_cases hlt : k ≤ 32
    · rcases Int.lt_trichotomy k m with hm | hm | hm
      · have hmk : (m == k) = false := by rw [beq_eq_false_iff_ne]; omega
        have HM := Lib.hid hmk
        clear hmk
        go_wp2_with fail
        refine (hI k _).mono ?_
        rintro e w1 ⟨rfl, hb1⟩
        rw [HM.out]
        have HB := Lib.hid (hb.out.trans (hb1.mono hb.out.size))
        clear hb1
        go_wp2_with fail
        go_roundw
        case rel => exact ⟨k + 1, v, by omega, by omega, rfl, rfl, ⟨fun h => by omega, fun _ => hv.out.2 (by omega)⟩, HB.out⟩
        case measure => simp [intOf]; omega
      · have hv0 : v = 0 := hv.out.2 (by omega)
        subst hv0
        obtain ⟨j, hj⟩ : ∃ j, j = m := ⟨_, rfl⟩
        have hmk : (m == k) = true := by rw [beq_iff_eq]; omega
        have HM := Lib.hid hmk
        have HK := Lib.hid hm
        clear hmk hj j
        have hkm1 : k ≤ m := by omega
        have hkm2 : m ≤ k := by omega
        clear hm
        go_wp2_with fail
        refine (hI k _).mono ?_
        rintro e w1 ⟨rfl, hb1⟩
        rw [HM.out]
        have HB := Lib.hid (hb.out.trans (hb1.mono hb.out.size))
        clear hb1
        go_wp2_with fail
        go_roundw
        case rel => exact ⟨k + 1, k, by omega, by omega, rfl, rfl, ⟨fun _ => HK.out, fun h => by omega⟩, HB.out⟩
        case measure => simp [intOf]; omega
      · have hv0 : v = m := hv.out.1 (by omega)
        have hmk : (m == k) = false := by rw [beq_eq_false_iff_ne]; omega
        have HM := Lib.hid hmk
        subst hv0
        clear hmk
        go_wp2_with fail
        refine (hI k _).mono ?_
        rintro e w1 ⟨rfl, hb1⟩
        rw [HM.out]
        have HB := Lib.hid (hb.out.trans (hb1.mono hb.out.size))
        clear hb1
        go_wp2_with fail
        go_roundw
        case rel => exact ⟨k + 1, v, by omega, by omega, rfl, rfl, ⟨fun _ => rfl, fun h => by omega⟩, HB.out⟩
        case measure => simp [intOf]; omega
    · have hv0 : v = m := hv.out.1 (by omega)
      subst hv0
      have hne : (v == 0) = false := by rw [beq_eq_false_iff_ne]; omega
      have hm0 : (v == (0 : Int)) = false := hne
      have HM := Lib.hid hm0
      go_wp2_with fail
      refine (hI 0 _).mono ?_
      rintro e w1 ⟨rfl, hb1⟩
      rw [HM.out]
      have HB := Lib.hid (hb.out.trans (hb1.mono hb.out.size))
      clear hb1
      go_wp2_with fail
      go_ret
      exact ⟨rfl, HB.out⟩
end Go.Proofs.YtlcompihcmhbiaaGreatDoor
