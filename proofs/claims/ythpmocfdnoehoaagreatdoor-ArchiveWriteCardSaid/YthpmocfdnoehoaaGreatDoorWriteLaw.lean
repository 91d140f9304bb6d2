/- The walk of ArchiveWrite. -/
import Derived.Test.YthpmocfdnoehoaaGreatDoorKept
import Derived.Test.YthpmocfdnoehoaaGreatDoorWorks
namespace Go.Proofs.YthpmocfdnoehoaaGreatDoor
open Go.RowKit
/-- What the reference's Write answers. -/
def wrV (x : Int × Nat × Bs) : Value := .tuple #[.string ⟨x.2.2.toArray⟩, .int .i64 x.1, .int .i64 x.2.1]
def WriteRSaid : Prop := ∀ (l : List Mem) (p : Option Addr) (cap : Nat) (w : World), MemsAt w p l → l.length ≤ 1152921504606846975 → (∀ m ∈ l, m.small) →
    Calls Tryz.prog 7 #[.slice p l.length cap] w fun e w' => e = .returned (wrV (wrGo l 0 [])) ∧ Below w.heap.size w w'
theorem MemsAt.below {w w' : World} {p : Option Addr} {l : List Mem} (h : MemsAt w p l) {B : Nat} (hb : Below B w w') (hB : w.heap.size ≤ B) : MemsAt w' p l := by
  refine ⟨fun i hi => ?_, fun b off hp i m hm j hj => ?_⟩
  · obtain ⟨b, off, hp, hlt⟩ := h.1 i hi
    exact ⟨b, off, hp, Nat.lt_of_lt_of_le hlt hb.size⟩
  · obtain ⟨b', off', hp', hlt⟩ := h.1 i (List.getElem?_eq_some_iff.1 hm).1
    rw [hp] at hp'
    cases hp'
    exact (hb.cell (p := ⟨b, off + (i * 13 + j), none⟩) (Nat.lt_of_lt_of_le hlt hB)).trans (h.2 b off hp i m hm j hj)
theorem encErr_range (h : Hdr) : encErr h = 0 ∨ (1 ≤ encErr h ∧ encErr h ≤ 32) := by
  unfold encErr
  split
  · right; omega
  · split
    · right; omega
    · split
      · right; omega
      · split
        · left; rfl
        · right; omega
theorem wrBad_range (n : Nat) (m : Mem) : wrBad n m = 0 ∨ (1 ≤ wrBad n m ∧ wrBad n m ≤ 32) := by
  have h := encErr_range m.hdr
  unfold wrBad
  split
  · exact h
  · split
    · right; omega
    · split
      · right; omega
      · left; rfl
theorem wr_range : ∀ (l : List Mem) (i : Nat) (acc : Bs), (wrGo l i acc).1 = 0 ∨ (1 ≤ (wrGo l i acc).1 ∧ (wrGo l i acc).1 ≤ 32)
  | [], _, _ => .inl rfl
  | m :: r, i, acc => by
    rw [wrGo]
    split
    · exact wrBad_range acc.length m
    · exact wr_range r _ _
set_option maxHeartbeats 6400000 in
set_option maxRecDepth 100000 in
theorem writeLaw_any (hWR : WriteRSaid) (l : List Mem) (p : Option Addr) (cap : Nat) (w : World) (hM : MemsAt w p l) (hn : l.length * 144 ≤ 140737488355328) (hs : ∀ m ∈ l, m.small) (hG : ErrT w) :
    Calls Tryz.prog 3 #[.slice p l.length cap] w fun e w' => e = .returned (.bool true) ∧ Below w.heap.size w w' := by
  obtain ⟨n, hnl⟩ : ∃ n, l.length = n := ⟨_, rfl⟩
  have hn3 : (n : Int) ≤ 1000000000000 := by omega
  have HN := Lib.hid hnl
  have HM := Lib.hid hM
  have HS := Lib.hid hs
  have HG := Lib.hid hG
  have HWR := Lib.hid hWR
  rw [hnl]
  clear hnl hM hs hG hWR hn
  go_enter Tryz.func3, Tryz.ntmps3
  go_wp2_with fail
  go_loopw [3, 4] (fun sv iv wr => ∃ (k : Nat) (z : Int), k ≤ n ∧ iv = .int .i64 k ∧ sv = .int .i64 z ∧ 512 * (k : Int) ≤ z ∧ z ≤ 200000000000000 ∧ Hid (Below w.heap.size w wr)) (fun _ iv _ => n - (intOf iv).toNat)
  case atStart => exact ⟨0, 0, Nat.zero_le _, rfl, rfl, by omega, by omega, Below.refl _ _⟩
  case round =>
    obtain ⟨k, z, hk, rfl, rfl, hz1, hz2, hbel⟩ := hrel
    by_cases hlt : k < n
    · by_cases hzs : z ≤ 16777216
      · obtain ⟨m, hm⟩ : ∃ m, l[k]? = some m := ⟨_, List.getElem?_eq_getElem (i := k) (by have := HN.out; omega)⟩
        obtain ⟨b, off, rfl, hb⟩ := HM.out.1 k (by have := HN.out; omega)
        have hrow : ∀ j, j < 13 → wr.cell? ⟨b, off + (k * 13 + j), none⟩ = m.cells[j]? := fun j hj => (hbel.out.cell (p := ⟨b, off + (k * 13 + j), none⟩) hb).trans (HM.out.2 b off rfl k m hm j hj)
        have c12 := row_cell hrow (j := 12) (by decide) rfl
        have hsm := (HS.out m (List.mem_of_getElem? hm)).2
        have hds : (m.data.size : Int) ≤ 140737488351232 := by omega
        have hd0 : (0 : Int) ≤ (m.data.size : Int) := by omega
        clear hrow hm hsm
        go_wp2_with fail
        exact ⟨⟨k + 1, _, by omega, by rw [Int.natCast_add]; rfl, rfl, by omega, by omega, hbel⟩, by simp [intOf]; omega⟩
      · go_wp2_with fail
        refine (works_any _ (HG.out.below hbel.out HG.out.2)).mono ?_
        rintro e w9 ⟨rfl, hb9⟩
        have HB9 := Lib.hid (hbel.out.trans (hb9.mono hbel.out.size))
        clear hb9
        go_wp2_with fail
        go_ret
        exact ⟨rfl, HB9.out⟩
    · by_cases hzs : z ≤ 16777216
      · go_wp2_with fail
        obtain rfl : k = n := by omega
        have hn5 : (k : Int) ≤ 32768 := by omega
        have h1 := HWR.out l p cap wr (MemsAt.below HM.out hbel.out (Nat.le_refl _)) (by have := HN.out; omega) HS.out
        rw [HN.out] at h1
        refine h1.mono ?_
        rintro e w1 ⟨rfl, hb1⟩
        have HB1 := Lib.hid (hbel.out.trans (hb1.mono hbel.out.size))
        clear h1 hb1 hbel
        obtain ⟨⟨x, i, bs⟩, hx⟩ : ∃ t, wrGo l 0 [] = t := ⟨_, rfl⟩
        have hxr := wr_range l 0 []
        rw [hx] at hxr ⊢
        have HX := Lib.hid hx
        unfold wrV
        clear hx
        go_wp2_with fail
        have h2 := lent_any l p cap w1 (MemsAt.below HM.out HB1.out (Nat.le_refl _)) (by have := HN.out; omega)
        rw [HN.out] at h2
        refine h2.mono ?_
        rintro e w2 ⟨q, c, rfl, hL, hb2⟩
        have HL := Lib.hid hL
        have HB2 := Lib.hid (HB1.out.trans (hb2.mono HB1.out.size))
        clear h2 hL hb2 HB1
        go_wp2_with fail
        have h3 := write_any l q c w2 HL.out.mems.1.take (by have := HN.out; omega) HS.out
        unfold WrPost at h3
        rw [HX.out, HN.out] at h3
        refine h3.mono ?_
        rintro e w3 ⟨rfl, hb3⟩
        have HL3 := Lib.hid (HL.out.keep hb3)
        have HB3 := Lib.hid (HB2.out.trans (hb3.mono HB2.out.size))
        have HG3 := Lib.hid (HG.out.below HB3.out HG.out.2)
        clear h3 hb3 HB2 HL
        have hat : ∀ w4 : World, ErrT w4 → Calls Tryz.prog 10 #[if x = 0 then .nilIface else faultV x 0 i, .int .i64 x, .int .i64 0, .int .i64 i] w4 fun e w' => e = .returned (.bool true) ∧ Below w4.heap.size w4 w' := fun w4 hE => by
          by_cases h0 : x = 0
          · rw [if_pos h0, h0]
            exact (at_nil 0 i w4).mono fun _ _ ⟨he, hw⟩ => ⟨he, by rw [← hw]; exact Below.refl _ _⟩
          · rw [if_neg h0]
            refine (at_fault x 0 i x 0 i w4 hE (by omega) (by omega) (by omega)).mono fun _ _ ⟨he, hw⟩ => ⟨he.trans ?_, hw⟩
            simp
        obtain ⟨E, hE⟩ : ∃ E : Value, (if x = 0 then .nilIface else faultV x 0 i) = E := ⟨_, rfl⟩
        dsimp only
        rw [hE]
        have HE := Lib.hid hE
        rw [hE] at hat
        have HAT := Lib.hid hat
        clear hat hE
        go_wp2_with fail
        refine (HAT.out _ HG3.out).mono ?_
        rintro e w4 ⟨rfl, hb4⟩
        have HL4 := Lib.hid (HL3.out.keep hb4)
        have HB4 := Lib.hid (HB3.out.trans (hb4.mono HB3.out.size))
        clear hb4 HB3 HL3 HG3 HAT
        go_wp2_with fail
        have h5 := kept_any _ l q p c cap w4 HL4.out (MemsAt.below HM.out HB4.out (Nat.le_refl _)) (by have := HN.out; omega)
        rw [HN.out] at h5
        refine h5.mono ?_
        rintro e w5 ⟨rfl, hb5⟩
        have HB5 := Lib.hid (HB4.out.trans (hb5.mono HB4.out.size))
        clear h5 hb5 HB4 HL4
        go_wp2_with fail
        refine (works_any _ (HG.out.below HB5.out HG.out.2)).mono ?_
        rintro e w6 ⟨rfl, hb6⟩
        have HB6 := Lib.hid (HB5.out.trans (hb6.mono HB5.out.size))
        clear hb6 HB5
        go_wp2_with fail
        go_ret
        exact ⟨rfl, HB6.out⟩
      · go_wp2_with fail
        refine (works_any _ (HG.out.below hbel.out HG.out.2)).mono ?_
        rintro e w9 ⟨rfl, hb9⟩
        have HB9 := Lib.hid (hbel.out.trans (hb9.mono hbel.out.size))
        clear hb9
        go_wp2_with fail
        go_ret
        exact ⟨rfl, HB9.out⟩
end Go.Proofs.YthpmocfdnoehoaaGreatDoor
