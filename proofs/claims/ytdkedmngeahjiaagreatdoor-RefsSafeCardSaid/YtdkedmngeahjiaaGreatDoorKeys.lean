/- Contracts of maps.Keys and slices.Sorted at a table, and of maps.Clone. -/
import Derived.Test.YtdkedmngeahjiaaGreatDoorDisk
import Derived.Test.YtdkedmngeahjiaaGreatDoorShelf
import Derived.CallsIn
namespace Go.Proofs.YtdkedmngeahjiaaGreatDoor
open Go Go.RowKit Go.Maps Go.Sort Go.Shelf
theorem strKeys_tab (l : Tab) : strKeys (tabD l) = l.map (·.1) := by
  show (l.map tentry).map (fun p => strOf p.1) = _
  rw [List.map_map]
  rfl
theorem before_lt : ∀ {a b : Bs}, bytesBefore a b = true → a < b
  | [], [], h => by cases h
  | [], y :: ys, _ => List.nil_lt_cons y ys
  | _ :: _, [], h => by cases h
  | x :: xs, y :: ys, h => by
    rw [List.cons_lt_cons_iff]
    unfold bytesBefore at h
    simp only [Bool.or_eq_true, Bool.and_eq_true, decide_eq_true_eq, beq_iff_eq] at h
    rcases h with h | ⟨h, h2⟩
    · exact .inl h
    · exact .inr ⟨h, before_lt h2⟩
theorem keys_sorted {l : Tab} {ss : List Bs} (hr : Rising l) (hp : ss.Perm (strKeys (tabD l))) : ss.mergeSort (fun x y => decide (x ≤ y)) = l.map (·.1) := by
  rw [strKeys_tab] at hp
  have h1 := mergeSort_of_perm hp
  refine h1.trans (List.mergeSort_of_pairwise ?_)
  rw [List.pairwise_map]
  exact List.Pairwise.imp (fun {a b} h => decide_eq_true (List.le_of_lt (before_lt h))) hr
def nameV (p : Bs × Nat) : Value := .string ⟨p.1.toArray⟩
theorem keys_call (b : Nat) (w : World) : Calls Tryz.prog 53 #[.map (some b)] w fun e w' => e = .returned (.func (.func 114) #[] #[.pointer (some ⟨w.heap.size, 0, none⟩)]) ∧ w' = w.alloc (.cells #[.map (some b)] 85) :=
  (callsIn_wide (n := 5)).1 (Tryz.maps_Keys_53 (some b) w)
theorem sorted_call {w : World} {b : Nat} {l : Tab} (h : TabM w b l) (hl : l.length ≤ 8796093022208) :
    Calls Tryz.prog 52 #[.func (.func 114) #[] #[.pointer (some ⟨w.heap.size, 0, none⟩)]] (w.alloc (.cells #[.map (some b)] 85)) fun e w' => ∃ v, e = .returned v ∧ w'.ownsRow (w.heap.size + 1) 9 1 v l.length (l.map nameV) ∧ Below (w.heap.size + 1) (w.alloc (.cells #[.map (some b)] 85)) w' := by
  have hr := h.rising key_string
  have hsz : Maps.size (tabD l) = l.length := by show (l.map tentry).length = _; exact List.length_map _
  refine ((callsIn_wide (n := 5)).1 (Tryz.slices_Sorted_keys_52_53 b l.length (tabD l) ptrElem w h (by rw [hsz]; unfold maxLen; omega) (by rw [hsz]; omega))).mono ?_
  rintro e w' ⟨v, ss, rfl, hp, hrow, -, hb⟩
  rw [World.size_alloc] at hrow hb
  have hk := keys_sorted hr hp
  have hlen : ss.length = l.length := by rw [hp.length_eq, strKeys_tab, List.length_map]
  rw [hk, hlen, List.map_map] at hrow
  exact ⟨v, rfl, hrow, hb⟩
theorem clone_call {w : World} {b : Nat} {l : Tab} (h : TabM w b l) : Calls Tryz.prog 97 #[.map (some b)] w fun e w' => e = .returned (.map (some w.heap.size)) ∧ TabM w' w.heap.size l ∧ Below w.heap.size w w' :=
  (AnyW.maps_Clone_owns Tryz.cloneT 9 ptrElem b l.length (tabD l) w h).mono fun _ _ ⟨h1, h2, _, h4⟩ => ⟨h1, h2, h4⟩
end Go.Proofs.YtdkedmngeahjiaaGreatDoor
