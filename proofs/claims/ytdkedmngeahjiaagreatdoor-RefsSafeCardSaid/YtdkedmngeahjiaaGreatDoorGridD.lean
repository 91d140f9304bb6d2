/- Rows of elements that a call owns: reading, storing an element, several rows apart. -/
import Derived.Test.YtdkedmngeahjiaaGreatDoorDisk
import Derived.Test.YtdkedmngeahjiaaGreatDoorRowApp
namespace Go.Proofs.YtdkedmngeahjiaaGreatDoor
open Go Go.RowKit
/-- An array with values written from a place on. -/
def curPut (cur : Array Value) (o : Nat) : List Value → Array Value
  | [] => cur
  | v :: r => curPut (cur.setIfInBounds o v) (o + 1) r
theorem curPut_size (cur : Array Value) (o : Nat) (vals : List Value) : (curPut cur o vals).size = cur.size := by
  induction vals generalizing cur o with
  | nil => rfl
  | cons v r ih => rw [curPut, ih, Array.size_setIfInBounds]
theorem curPut_at (cur : Array Value) (o : Nat) (vals : List Value) (h : o + vals.length ≤ cur.size) (j : Nat) : (curPut cur o vals)[j]? = if o ≤ j ∧ j < o + vals.length then vals[j - o]? else cur[j]? := by
  induction vals generalizing cur o with
  | nil => rw [curPut, if_neg (by rw [List.length_nil]; omega)]
  | cons v r ih =>
    rw [List.length_cons] at h
    rw [curPut, ih _ _ (by rw [Array.size_setIfInBounds]; omega), List.length_cons, Array.getElem?_setIfInBounds]
    by_cases h1 : o + 1 ≤ j ∧ j < o + 1 + r.length
    · rw [if_pos h1, if_pos (by omega), show j - o = j - (o + 1) + 1 by omega, List.getElem?_cons_succ]
    · rw [if_neg h1]
      by_cases h2 : o = j
      · subst h2
        rw [if_pos rfl, if_pos (show o < cur.size by omega), if_pos (show o ≤ o ∧ o < o + (r.length + 1) by omega), Nat.sub_self]
        rfl
      · rw [if_neg h2, if_neg (by omega)]
section
variable {α : Type} (T sz : Nat) (cl : α → Array Value)
def flatG (xs : List α) : List Value := xs.flatMap (fun x => (cl x).toList)
variable {T sz cl}
theorem flatG_snoc (xs : List α) (x : α) : flatG cl (xs ++ [x]) = flatG cl xs ++ (cl x).toList := by unfold flatG; simp
theorem flatG_len (hc : ∀ x, (cl x).size = sz) (xs : List α) : (flatG cl xs).length = xs.length * sz := by
  induction xs with
  | nil => simp [flatG]
  | cons x r ih =>
    unfold flatG at ih ⊢
    rw [List.flatMap_cons, List.length_append, ih, Array.length_toList, hc, List.length_cons, Nat.succ_mul]
    omega
theorem flatG_at (hc : ∀ x, (cl x).size = sz) : ∀ (xs : List α) (q r : Nat), r < sz → (flatG cl xs)[q * sz + r]? = (xs[q]?).bind (fun x => (cl x)[r]?)
  | [], q, r, _ => by simp [flatG]
  | x :: xs, 0, r, h => by
    unfold flatG
    rw [List.flatMap_cons, Nat.zero_mul, Nat.zero_add, List.getElem?_append_left (by rw [Array.length_toList, hc]; exact h), Array.getElem?_toList]
    rfl
  | x :: xs, q + 1, r, h => by
    have ih := flatG_at hc xs q r h
    unfold flatG at ih ⊢
    rw [List.flatMap_cons, List.getElem?_append_right (by rw [Array.length_toList, hc, Nat.succ_mul]; omega), Array.length_toList, hc, show (q + 1) * sz + r - sz = q * sz + r by rw [Nat.succ_mul]; omega, ih, List.getElem?_cons_succ]
variable (T sz cl)
/-- A row of the call's own that holds these elements. -/
def OwnG (base : Nat) (xs : List α) (v : Value) (w : World) : Prop := w.ownsRow base T sz v xs.length (flatG cl xs)
/-- A slice that reads as these elements. -/
def Reads (w : World) (v : Value) (xs : List α) : Prop :=
  (v = .slice none 0 0 ∧ xs = []) ∨ ∃ g cap cur, v = .slice (some ⟨g, 0, none⟩) xs.length cap ∧ xs.length ≤ cap ∧ cap ≤ maxLen ∧ w.heap[g]? = some (.cells cur T (0, 0)) ∧ ∀ i x, xs[i]? = some x → ∀ j, j < sz → cur[i * sz + j]? = (cl x)[j]?
variable {T sz cl}
theorem OwnG.keep {base : Nat} {xs : List α} {v : Value} {w w' : World} {row : Option Nat} (h : OwnG T sz cl base xs v w) (hg : w.grownBy w' row) (hne : ∀ b, v.ownBlock = some b → row ≠ some b) : OwnG T sz cl base xs v w' := by
  refine World.ownsRow.kept h hg ?_
  cases hv : v.ownBlock with
  | none => exact .inl rfl
  | some b => exact .inr (fun e => hne b hv e.symm)
theorem OwnG.reads (hc : ∀ x, (cl x).size = sz) {base : Nat} {xs : List α} {v : Value} {w : World} (h : OwnG T sz cl base xs v w) : Reads T sz cl w v xs := by
  rcases h.2 with ⟨h1, h2⟩ | ⟨g, cap, cur, h1, h2, h3, h4, h5, h6, h7⟩
  · exact .inl ⟨h1, List.eq_nil_of_length_eq_zero h2⟩
  · refine .inr ⟨g, cap, cur, h1, h4, h5, h3, fun i x hx j hj => ?_⟩
    have hi := (List.getElem?_eq_some_iff.1 hx).1
    have h8 := flatG_at hc xs i j hj
    rw [hx, ← h7, List.getElem?_take, if_pos ?_, Array.getElem?_toList] at h8
    · exact h8
    · have : (i + 1) * sz ≤ xs.length * sz := Nat.mul_le_mul_right _ hi
      rw [Nat.succ_mul] at this
      omega
theorem Reads.keep {xs : List α} {v : Value} {w w' : World} {row : Option Nat} (h : Reads T sz cl w v xs) (hg : w.grownBy w' row) (hne : ∀ b, v.ownBlock = some b → row ≠ some b) : Reads T sz cl w' v xs := by
  rcases h with h | ⟨g, cap, cur, rfl, h1, h2, h3, h4⟩
  · exact .inl h
  · exact .inr ⟨g, cap, cur, rfl, h1, h2, (hg.block g (blk_lt h3) (fun e => hne g rfl e.symm)).trans h3, h4⟩
/-- A beginning of a row that lies in the same block. -/
theorem Reads.front (hc : ∀ x, (cl x).size = sz) {base : Nat} {xs ys : List α} {v u : Value} {w w' : World} (h : Reads T sz cl w v ys) (ho : OwnG T sz cl base (ys ++ xs) u w') (hb : u.ownBlock = v.ownBlock) : Reads T sz cl w' v ys := by
  rcases h with h | ⟨g, cap, cur, rfl, h1, h2, h3, h4⟩
  · exact .inl h
  · rcases ho.reads hc with ⟨rfl, h5⟩ | ⟨g', cap', cur', rfl, h5, h6, h7, h8⟩
    · cases hb
    · obtain rfl : g' = g := by simpa [Value.ownBlock] using hb
      refine .inr ⟨g', cap, cur', rfl, h1, h2, h7, fun i x hx j hj => h8 i x ?_ j hj⟩
      rw [List.getElem?_append_left (List.getElem?_eq_some_iff.1 hx).1]
      exact hx
theorem OwnG.app {base : Nat} {xs : List α} {x : α} {v : Value} {w : World} (h : w.ownsRow base T sz v (xs.length + 1) (flatG cl xs ++ (cl x).toList)) : OwnG T sz cl base (xs ++ [x]) v w := by
  unfold OwnG
  rw [flatG_snoc, List.length_append]
  exact h
/-- An element stored. -/
theorem OwnG.store (hc : ∀ x, (cl x).size = sz) {base n cap g i : Nat} {xs : List α} {x : α} {w : World} (h : OwnG T sz cl base xs (.slice (some ⟨g, 0, none⟩) n cap) w) (hi : i < xs.length) :
    ∃ cur, w.heap[g]? = some (.cells cur T (0, 0)) ∧ i * sz + sz ≤ cur.size ∧ OwnG T sz cl base (xs.set i x) (.slice (some ⟨g, 0, none⟩) n cap) (setBlk w g (.cells (curPut cur (i * sz) (cl x).toList) T (0, 0))) := by
  rcases h.2 with ⟨h1, _⟩ | ⟨g', cap', cur, h1, h2, h3, h4, h5, h6, h7⟩
  · cases h1
  · cases h1
    have h8 : (i + 1) * sz ≤ xs.length * sz := Nat.mul_le_mul_right _ hi
    have h9 : xs.length * sz ≤ cap * sz := Nat.mul_le_mul_right _ h4
    rw [Nat.succ_mul] at h8
    have hl : (cl x).toList.length = sz := by rw [Array.length_toList, hc]
    refine ⟨cur, h3, by omega, ⟨by rw [flatG_len hc], .inr ⟨g, cap, _, by rw [List.length_set], h2, setBlk_heap (blk_lt h3), by rw [List.length_set]; exact h4, h5, by rw [curPut_size]; exact h6, ?_⟩⟩⟩
    refine List.ext_getElem? fun j => ?_
    rw [List.getElem?_take, List.length_set]
    by_cases hj : j < xs.length * sz
    · have hsz : 0 < sz := by
        cases sz with
        | zero => simp at hj
        | succ k => omega
      have hjd : j = j / sz * sz + j % sz := by rw [Nat.mul_comm]; exact (Nat.div_add_mod j sz).symm
      have hr := Nat.mod_lt j hsz
      have f1 := flatG_at hc (xs.set i x) (j / sz) (j % sz) hr
      have f2 := flatG_at hc xs (j / sz) (j % sz) hr
      rw [← hjd] at f1 f2
      rw [if_pos hj, Array.getElem?_toList, curPut_at _ _ _ (by rw [hl]; omega), f1, hl, List.getElem?_set]
      have f3 : cur[j]? = (xs[j / sz]?).bind (fun x => (cl x)[j % sz]?) := by
        rw [← f2, ← h7, List.getElem?_take, if_pos hj, Array.getElem?_toList]
      by_cases he : i = j / sz
      · have hj2 : j = i * sz + j % sz := by rw [he]; exact hjd
        rw [if_pos (show i * sz ≤ j ∧ j < i * sz + sz by omega), if_pos he, if_pos hi, Array.getElem?_toList, show j - i * sz = j % sz by omega]
        rfl
      · rw [if_neg (show ¬ (i * sz ≤ j ∧ j < i * sz + sz) from ?_), if_neg he, f3]
        intro ⟨h10, h11⟩
        apply he
        have a1 : i ≤ j / sz := (Nat.le_div_iff_mul_le hsz).2 h10
        have a2 : j / sz < i + 1 := (Nat.div_lt_iff_lt_mul hsz).2 (by rw [Nat.succ_mul]; omega)
        omega
    · rw [if_neg hj, List.getElem?_eq_none (by rw [flatG_len hc, List.length_set]; omega)]
end
end Go.Proofs.YtdkedmngeahjiaaGreatDoor
