/- Contracts of ustar.text and ustar.value: a header's fields read. -/
import Derived.Test.YthpmocfdnoehoaaGreatDoorSplit
import Derived.Shelf.Strings.SlTrimAscii
namespace Go.Proofs.YthpmocfdnoehoaaGreatDoor
open Go.RowKit
/-- A text's field: what stands ahead of the first byte 0. -/
def textOf (l : Bs) : Bs := l.takeWhile (· != 0)
theorem takeWhile_all {α : Type} {p : α → Bool} : ∀ {l : List α}, (∀ x ∈ l, p x = true) → l.takeWhile p = l
  | [], _ => rfl
  | x :: l, h => by rw [List.takeWhile_cons, if_pos (h x (by simp)), takeWhile_all (fun y hy => h y (by simp [hy]))]
theorem textOf_none {l : Bs} (h : Lib.indexByte l 0 = -1) : textOf l = l := by
  have := Lib.indexByte_none h
  unfold textOf
  refine takeWhile_all (fun x hx => ?_)
  obtain ⟨k, hk⟩ := List.getElem?_of_mem hx
  have h2 := this k
  rw [hk] at h2
  simp at h2 ⊢
  exact h2
theorem textOf_some {l : Bs} {o : Nat} (h : Lib.indexByte l 0 = o) : textOf l = l.take o := by
  obtain ⟨h1, h2⟩ := Lib.indexByte_some h
  have ho : o < l.length := (List.getElem?_eq_some_iff.1 h1).1
  unfold textOf
  have e : l = l.take o ++ 0 :: l.drop (o + 1) := by
    have h3 := (List.getElem?_eq_some_iff.1 h1).2
    rw [← h3, List.getElem_cons_drop, List.take_append_drop]
  conv => lhs; rw [e]
  rw [List.takeWhile_append_of_pos]
  · simp
  · intro x hx
    obtain ⟨k, hk⟩ := List.getElem?_of_mem hx
    rw [List.getElem?_take] at hk
    split at hk
    · have := h2 k (by assumption)
      rw [hk] at this
      simp at this ⊢
      exact this
    · simp at hk
theorem bytes_eq {s : ByteArray} {l : Bs} (h : s.data.toList = l) : s = ⟨l.toArray⟩ := by
  cases s with
  | mk d => subst h; simp
set_option maxHeartbeats 400000 in
theorem text_any (s : ByteArray) (w : World) (hs : s.size ≤ 140737488355328) :
    Calls Tryz.prog 84 #[.string s] w fun e w' => e = .returned (.string ⟨(textOf s.data.toList).toArray⟩) ∧ w = w' := by
  obtain ⟨i, hi⟩ : ∃ i, Lib.indexByte s.data.toList 0 = i := ⟨_, rfl⟩
  have hg := Lib.indexByte_ge s.data.toList 0
  have hl := indexByte_le s.data.toList 0
  rw [hi] at hg hl
  have hl2 : i ≤ s.size := by have : s.data.toList.length = s.size := rfl; omega
  have HI := Lib.hid hi
  clear hi hl
  go_enter Tryz.func84, Tryz.ntmps84
  go_wp2_with fail
  refine (idx_eq s 0 _ i HI.out).mono ?_
  rintro e w' ⟨rfl, rfl⟩
  by_cases h0 : i < 0
  · go_wp2_with fail
    go_ret
    refine ⟨?_, rfl⟩
    rw [textOf_none (by have := HI.out; omega), ← bytes_eq rfl]
    rfl
  · obtain ⟨o, rfl⟩ := Int.eq_ofNat_of_zero_le (a := i) (by omega)
    go_wp2_with fail
    go_ret
    refine ⟨?_, rfl⟩
    rw [textOf_some HI.out]
    show Ending.returned (.string (s.extract 0 o)) = _
    rw [bytes_eq (s := s.extract 0 o) (l := s.data.toList.take o) (by rw [Lib.extract_data]; simp)]
end Go.Proofs.YthpmocfdnoehoaaGreatDoor
