/- Contract of ustar.Encode where it refuses; and both together. -/
import Derived.Test.YthpmocfdnoehoaaGreatDoorEncode
namespace Go.Proofs.YthpmocfdnoehoaaGreatDoor
open Go.RowKit
def nums7 (h : Hdr) : Bool := inB 2097151 h.mode && inB 2097151 h.uid && inB 2097151 h.gid && inB 2097151 h.major && inB 2097151 h.minor
def nums11 (h : Hdr) : Bool := inB 8589934591 h.size && inB 8589934591 h.time
/-- What Encode is refused by; 0: by nothing. -/
def encErr (h : Hdr) : Int :=
  if wrongB h then 6 else
  match splitOf h.path with
  | none => 9
  | some _ => if 100 < h.link.size then 17 else if nums7 h && nums11 h then 0 else 1
/-- The header's bytes. -/
def encOf (h : Hdr) : Bs :=
  match splitOf h.path with
  | none => []
  | some (pre, name) => hdrBytes h pre.data.toList name.data.toList
/-- Every text of the header is of at most 2^47 bytes. -/
def Hdr.small (h : Hdr) : Prop := h.path.size ≤ 140737488355328 ∧ h.link.size ≤ 140737488355328 ∧ h.user.size ≤ 140737488355328 ∧ h.group.size ≤ 140737488355328
set_option maxHeartbeats 400000 in
set_option maxRecDepth 100000 in
theorem encode_wrong (h : Hdr) (w : World) (hm : h.small) (hw : wrongB h = true) :
    Calls Tryz.prog 24 #[.agg h.cells] w fun e w' => e = .returned (.tuple #[.string ⟨#[]⟩, errV 6]) ∧ Below w.heap.size w w' := by
  obtain ⟨hp, hk, hu, hg⟩ := hm
  have HW := Lib.hid hw
  clear hw
  go_enter Tryz.func24, Tryz.ntmps24
  go_wp2_with fail
  refine (wrong_any h _ hp hk hu hg).mono ?_
  rintro e w1 ⟨rfl, hb1⟩
  rw [HW.out]
  have HF1 := Lib.hid (((Below.refl w.heap.size w).alloc (Nat.le_refl _) (.cells h.cells 24)).trans (hb1.mono (by simp)))
  clear hb1
  go_wp2_with fail
  go_ret2
  exact ⟨rfl, HF1.out⟩
set_option maxHeartbeats 400000 in
set_option maxRecDepth 100000 in
theorem encode_path (h : Hdr) (w : World) (hm : h.small) (hw : wrongB h = false) (hs : splitOf h.path = none) :
    Calls Tryz.prog 24 #[.agg h.cells] w fun e w' => e = .returned (.tuple #[.string ⟨#[]⟩, errV 9]) ∧ Below w.heap.size w w' := by
  obtain ⟨hp, hk, hu, hg⟩ := hm
  have HW := Lib.hid hw
  have HS := Lib.hid hs
  clear hw hs
  go_enter Tryz.func24, Tryz.ntmps24
  go_wp2_with fail
  refine (wrong_any h _ hp hk hu hg).mono ?_
  rintro e w1 ⟨rfl, hb1⟩
  rw [HW.out]
  have hz : w.heap.size < w1.heap.size := by have := hb1.size; simp at this; omega
  have hc1 : ∀ i : Nat, w1.cell? ⟨w.heap.size, i, none⟩ = h.cells[i]? := fun i => (hb1.cell (p := ⟨w.heap.size, i, none⟩) (by simp)).trans (cell_new w h.cells _ i)
  have HF1 := Lib.hid (((Below.refl w.heap.size w).alloc (Nat.le_refl _) (.cells h.cells 24)).trans (hb1.mono (by simp)))
  clear hb1
  go_wp2_with fail
  refine (split_no h.path _ hp HS.out).mono ?_
  rintro e w2 ⟨rfl, rfl⟩
  unfold errV
  go_wp2_with fail
  go_ret2
  exact ⟨rfl, HF1.out⟩
set_option maxHeartbeats 400000 in
set_option maxRecDepth 100000 in
theorem encode_link (h : Hdr) (pre name : ByteArray) (w : World) (hm : h.small) (hw : wrongB h = false) (hs : splitOf h.path = some (pre, name)) (hl : 100 < h.link.size) :
    Calls Tryz.prog 24 #[.agg h.cells] w fun e w' => e = .returned (.tuple #[.string ⟨#[]⟩, errV 17]) ∧ Below w.heap.size w w' := by
  obtain ⟨hp, hk, hu, hg⟩ := hm
  have HW := Lib.hid hw
  have HS := Lib.hid hs
  clear hw hs
  go_enter Tryz.func24, Tryz.ntmps24
  go_wp2_with fail
  refine (wrong_any h _ hp hk hu hg).mono ?_
  rintro e w1 ⟨rfl, hb1⟩
  rw [HW.out]
  have hz : w.heap.size < w1.heap.size := by have := hb1.size; simp at this; omega
  have hc1 : ∀ i : Nat, w1.cell? ⟨w.heap.size, i, none⟩ = h.cells[i]? := fun i => (hb1.cell (p := ⟨w.heap.size, i, none⟩) (by simp)).trans (cell_new w h.cells _ i)
  have HF1 := Lib.hid (((Below.refl w.heap.size w).alloc (Nat.le_refl _) (.cells h.cells 24)).trans (hb1.mono (by simp)))
  clear hb1
  go_wp2_with fail
  refine (split_yes h.path pre name _ hp HS.out).mono ?_
  rintro e w2 ⟨rfl, n, hw2⟩
  have hc2 : ∀ i : Nat, w2.cell? ⟨w.heap.size, i, none⟩ = h.cells[i]? := fun i => by rw [← hw2]; exact hc1 i
  have HF2 := Lib.hid (show Below w.heap.size w w2 by rw [← hw2]; exact below_drewN HF1.out n)
  clear hw2 hc1 hz HF1
  go_wp2_with fail
  go_ret2
  exact ⟨rfl, HF2.out⟩
set_option maxHeartbeats 800000 in
set_option maxRecDepth 100000 in
theorem encode_num (h : Hdr) (pre name : ByteArray) (w : World) (hm : h.small) (hw : wrongB h = false) (hs : splitOf h.path = some (pre, name)) (hl : h.link.size ≤ 100) (hn : (nums7 h && nums11 h) = false) :
    Calls Tryz.prog 24 #[.agg h.cells] w fun e w' => e = .returned (.tuple #[.string ⟨#[]⟩, errV 1]) ∧ Below w.heap.size w w' := by
  obtain ⟨hp, hk, hu, hg⟩ := hm
  have HW := Lib.hid hw
  have HS := Lib.hid hs
  have HN := Lib.hid hn
  clear hw hs hn
  go_enter Tryz.func24, Tryz.ntmps24
  go_wp2_with fail
  refine (wrong_any h _ hp hk hu hg).mono ?_
  rintro e w1 ⟨rfl, hb1⟩
  rw [HW.out]
  have hz : w.heap.size < w1.heap.size := by have := hb1.size; simp at this; omega
  have hc1 : ∀ i : Nat, w1.cell? ⟨w.heap.size, i, none⟩ = h.cells[i]? := fun i => (hb1.cell (p := ⟨w.heap.size, i, none⟩) (by simp)).trans (cell_new w h.cells _ i)
  have HF1 := Lib.hid (((Below.refl w.heap.size w).alloc (Nat.le_refl _) (.cells h.cells 24)).trans (hb1.mono (by simp)))
  clear hb1
  go_wp2_with fail
  refine (split_yes h.path pre name _ hp HS.out).mono ?_
  rintro e w2 ⟨rfl, n, hw2⟩
  have hc2 : ∀ i : Nat, w2.cell? ⟨w.heap.size, i, none⟩ = h.cells[i]? := fun i => by rw [← hw2]; exact hc1 i
  have hz2 : w.heap.size < w2.heap.size := by rw [← hw2]; exact hz
  have HF2 := Lib.hid (show Below w.heap.size w w2 by rw [← hw2]; exact below_drewN HF1.out n)
  clear hw2 hc1 hz HF1
  go_wp2_with fail
  refine (within_any _ _ 5 (fun i => [h.mode, h.uid, h.gid, h.major, h.minor].getD i 0) _ (by omega) ?hq).mono ?_
  case hq =>
    intro i hi
    match i, hi with
    | 0, _ | 1, _ | 2, _ | 3, _ | 4, _ => simp
  rintro e w3 ⟨rfl, hw3⟩
  rw [show ((List.range 5).all fun i => inB 2097151 ([h.mode, h.uid, h.gid, h.major, h.minor].getD i 0)) = nums7 h by
    simp [List.range, List.range.loop, nums7, Bool.and_assoc]]
  have hc3 : ∀ i : Nat, w3.cell? ⟨w.heap.size, i, none⟩ = h.cells[i]? := fun i => by rw [← hw3, cell_alloc' hz2]; exact hc2 i
  have hz3 : w.heap.size < w3.heap.size := by rw [← hw3]; simp; omega
  have HF3 := Lib.hid (show Below w.heap.size w w3 by rw [← hw3]; exact HF2.out.alloc (Nat.le_of_lt hz2) _)
  clear hw3 hc2 hz2 HF2
  obtain ⟨x, hx⟩ : ∃ x, nums7 h = x := ⟨_, rfl⟩
  have HX := Lib.hid hx
  rw [hx]
  clear hx
  cases x with
  | false =>
    go_wp2_with fail
    go_ret2
    exact ⟨rfl, HF3.out⟩
  | true =>
    go_wp2_with fail
    refine (within_any _ _ 2 (fun i => [h.size, h.time].getD i 0) _ (by omega) ?hq2).mono ?_
    case hq2 =>
      intro i hi
      match i, hi with
      | 0, _ | 1, _ => simp
    rintro e w4 ⟨rfl, hw4⟩
    rw [show ((List.range 2).all fun i => inB 8589934591 ([h.size, h.time].getD i 0)) = nums11 h by
      simp [List.range, List.range.loop, nums11]]
    have HF4 := Lib.hid (show Below w.heap.size w w4 by rw [← hw4]; exact HF3.out.alloc (Nat.le_of_lt hz3) _)
    rw [show nums11 h = false by have := HN.out; rw [HX.out] at this; simpa using this]
    clear hw4 hc3 hz3 HF3
    go_wp2_with fail
    go_ret2
    exact ⟨rfl, HF4.out⟩
theorem splitOf_bd {p a b : ByteArray} (h : splitOf p = some (a, b)) : a.size ≤ 155 ∧ b.size ≤ 100 := by
  unfold splitOf at h
  split at h
  · rename_i h1
    simp only [Option.some.injEq, Prod.mk.injEq] at h
    obtain ⟨rfl, rfl⟩ := h
    exact ⟨Nat.zero_le _, h1⟩
  · rename_i h1
    split at h
    · simp at h
    · rename_i h2
      simp only [Option.some.injEq, Prod.mk.injEq] at h
      obtain ⟨rfl, rfl⟩ := h
      have hw := win_bd p (by omega)
      simp only [ByteArray.size_extract]
      omega
theorem encode_any (h : Hdr) (w : World) (hm : h.small) :
    Calls Tryz.prog 24 #[.agg h.cells] w fun e w' => e = .returned (.tuple #[if encErr h = 0 then .string ⟨(encOf h).toArray⟩ else .string ⟨#[]⟩, if encErr h = 0 then .nilIface else errV (encErr h)]) ∧ Below w.heap.size w w' := by
  unfold encErr encOf
  by_cases hw : wrongB h = true
  · rw [if_pos hw, if_neg (by decide), if_neg (by decide)]
    exact encode_wrong h w hm hw
  · rw [if_neg hw]
    have hw' : wrongB h = false := by simpa using hw
    cases hs : splitOf h.path with
    | none => exact encode_path h w hm hw' hs
    | some pn =>
      obtain ⟨pre, name⟩ := pn
      obtain ⟨hpre, hname⟩ := splitOf_bd hs
      simp only []
      by_cases hl : 100 < h.link.size
      · rw [if_pos hl, if_neg (by decide), if_neg (by decide)]
        exact encode_link h pre name w hm hw' hs hl
      · rw [if_neg hl]
        by_cases hn : (nums7 h && nums11 h) = true
        · rw [if_pos hn, if_pos rfl, if_pos rfl]
          simp only [nums7, nums11, inB, Bool.and_eq_true, decide_eq_true_eq] at hn
          have hw2 := hw'
          simp only [wrongB, Bool.or_eq_false_iff, decide_eq_false_iff_not] at hw2
          exact encode_ok h pre name w hm.1 (by omega) (by omega) (by omega) hw' hs hpre hname (by omega) (by omega) (by omega) (by omega) (by omega) (by omega) (by omega)
        · rw [if_neg hn, if_neg (by decide), if_neg (by decide)]
          exact encode_num h pre name w hm hw' hs (by omega) (by simpa using hn)
end Go.Proofs.YthpmocfdnoehoaaGreatDoor
