/- Contracts of the functions on lists of members: CopyMembers. -/
import Derived.Test.YthpmocfdnoehoaaGreatDoorWrite
import Derived.Test.YthpmocfdnoehoaaGreatDoorMember
import Derived.Maps.AppendAt
namespace Go.Proofs.YthpmocfdnoehoaaGreatDoor
open Go.RowKit
def memCells (ms : List Mem) : List Value := ms.flatMap (fun m => m.cells.toList)
theorem memCells_snoc (p : List Mem) (m : Mem) : memCells (p ++ [m]) = memCells p ++ m.cells.toList := by
  unfold memCells; simp
theorem memCells_at : ∀ (ms : List Mem) (i j : Nat) (m : Mem), ms[i]? = some m → j < 13 → (memCells ms)[i * 13 + j]? = m.cells[j]?
  | [], i, j, m, h, _ => by simp at h
  | x :: r, 0, j, m, h, hj => by
    obtain rfl : x = m := by simpa using h
    unfold memCells
    rw [List.flatMap_cons, Nat.zero_mul, Nat.zero_add, List.getElem?_append_left (by simpa using hj), Array.getElem?_toList]
  | x :: r, i + 1, j, m, h, hj => by
    have h' : r[i]? = some m := by simpa using h
    have ih := memCells_at r i j m h' hj
    unfold memCells at ih ⊢
    rw [List.flatMap_cons, List.getElem?_append_right (by simp; omega), ← ih]
    congr 1
    simp
    omega
/-- A slice of members that a call has made. -/
def OwnMs (base : Nat) (ms : List Mem) (v : Value) (w : World) : Prop := w.ownsRow base 26 13 v ms.length (memCells ms) ∧ (v = .slice none 0 0 ↔ ms = [])
theorem OwnMs.keep {base : Nat} {ms : List Mem} {v : Value} {w w' : World} (h : OwnMs base ms v w) (hb : Below w.heap.size w w') : OwnMs base ms v w' := by
  refine ⟨?_, h.2⟩
  refine ⟨h.1.1, ?_⟩
  rcases h.1.2 with h2 | ⟨g, cap, cur, h1, h2, h3, h4⟩
  · exact .inl h2
  · exact .inr ⟨g, cap, cur, h1, h2, (hb.block g (blk_lt h3)).trans h3, h4⟩
theorem OwnMs.at {base : Nat} {ms : List Mem} {v : Value} {w : World} (h : OwnMs base ms v w) : ∃ p cap, v = .slice p ms.length cap ∧ MemsAt w p ms ∧ ms.length ≤ cap ∧ cap ≤ 9223372036854775807 := by
  rcases h.1.2 with ⟨h1, h2⟩ | ⟨g, cap, cur, h1, h2, h3, h4, h5, h6, h7⟩
  · have : ms = [] := List.eq_nil_of_length_eq_zero h2
    subst this
    exact ⟨none, 0, h1, ⟨(fun i hi => by cases hi), (fun b off hb => by cases hb)⟩, Nat.le_refl _, by omega⟩
  · refine ⟨_, cap, h1, ⟨fun i _ => ⟨g, 0, rfl, blk_lt h3⟩, fun b off hb i m hm j hj => ?_⟩, h4, by unfold maxLen at h5; omega⟩
    cases hb
    rw [Nat.zero_add, cell_of_heapN h3, ← memCells_at ms i j m hm hj, ← h7, List.getElem?_take, if_pos ?_, Array.getElem?_toList]
    have := (List.getElem?_eq_some_iff.1 hm).1
    omega
theorem info33 : (Tryz.prog.info? 26).map (fun i => (i.zero, i.size, i.bytes)) = some (some (.agg zm), 13, 144) := by kernel_rfl
theorem new13 (w : World) (m : Mem) (t : TypeId) : ∀ (j : Nat) (u : Value), (m.cells.toList)[j]? = some u → (w.alloc (.cells m.cells t)).cell? ((⟨w.heap.size, 0, none⟩ : Addr).add j) = some u := by
  intro j u h
  rw [show ((⟨w.heap.size, 0, none⟩ : Addr).add j) = ⟨w.heap.size, j, none⟩ by simp [Addr.add]; intro e; exact e.symm, cell_new, ← h, Array.getElem?_toList]
theorem one13 (m : Mem) : ∀ u ∈ m.cells.toList, u.oneCell' = true := by
  intro u hu
  simp only [Mem.cells, List.mem_cons, List.not_mem_nil, or_false] at hu
  rcases hu with rfl | rfl | rfl | rfl | rfl | rfl | rfl | rfl | rfl | rfl | rfl | rfl | rfl <;> rfl
theorem OwnMs.app {base : Nat} {ms : List Mem} {m : Mem} {v v' : Value} {w0 w w1 : World} {tmp : Obj} (h : OwnMs base ms v w) (hw : Below base w0 w) (hb : base ≤ w.heap.size) (hown' : w1.ownsRow base 26 13 v' (ms.length + 1) (memCells ms ++ m.cells.toList)) (hg : (w.alloc tmp).grownBy w1 v.ownBlock) :
    OwnMs base (ms ++ [m]) v' w1 ∧ Below base w0 w1 := by
  refine ⟨⟨by rw [memCells_snoc, List.length_append]; exact hown', ⟨fun e => ?_, fun e => by simp at e⟩⟩, ?_⟩
  · subst e
    rcases hown'.2 with ⟨_, h2⟩ | ⟨g, cap, cur, h1, _⟩
    · omega
    · cases h1
  · refine hw.trans (((Below.refl base w).alloc hb tmp).grown hg (by simp; omega) fun j ej => ?_)
    rcases h.1.2 with ⟨rfl, _⟩ | ⟨g, cap, cur, rfl, hb', _, _⟩
    · simp [Value.ownBlock] at ej
    · obtain rfl : g = j := by simpa [Value.ownBlock] using ej
      exact hb'
end Go.Proofs.YthpmocfdnoehoaaGreatDoor
