/- Contracts of the functions on lists of members: CopyMembers. -/
import Derived.Test.YthpmocfdnoehoaaDoorWrite
import Derived.Test.YthpmocfdnoehoaaDoorMember
import Derived.Maps.AppendAt
namespace Go.Proofs.YthpmocfdnoehoaaDoor
open Go.RowKit
def memCells (ms : List Mem) : List Value := ms.flatMap (fun m => m.cells.toList)
theorem memCells_snoc (p : List Mem) (m : Mem) : memCells (p ++ [m]) = memCells p ++ m.cells.toList := by
  unfold memCells; simp
theorem memCells_at : ∀ (ms : List Mem) (i j : Nat) (m : Mem), ms[i]? = some m → j < 13 → (memCells ms)[i * 13 + j]? = m.cells[j]?
  | [], i, j, m, h, _ => by simp at h
  | x :: r, 0, j, m, h, hj => by
    obtain rfl : x = m := by simpa using h
    unfold memCells
    rw [List.flatMap_cons, Nat.zero_mul, Nat.zero_add, List.getElem?_append_left (by simpa using hj), Array.getElem?_toList]
  | x :: r, i + 1, j, m, h, hj => by
    have h' : r[i]? = some m := by simpa using h
    have ih := memCells_at r i j m h' hj
    unfold memCells at ih ⊢
    rw [List.flatMap_cons, List.getElem?_append_right (by simp; omega), ← ih]
    congr 1
    simp
    omega
/-- A slice of members that a call has made. -/
def OwnMs (base : Nat) (ms : List Mem) (v : Value) (w : World) : Prop := w.ownsRow base 33 13 v ms.length (memCells ms) ∧ (v = .slice none 0 0 ↔ ms = [])
theorem OwnMs.keep {base : Nat} {ms : List Mem} {v : Value} {w w' : World} (h : OwnMs base ms v w) (hb : Below w.heap.size w w') : OwnMs base ms v w' := by
  refine ⟨?_, h.2⟩
  refine ⟨h.1.1, ?_⟩
  rcases h.1.2 with h2 | ⟨g, cap, cur, h1, h2, h3, h4⟩
  · exact .inl h2
  · exact .inr ⟨g, cap, cur, h1, h2, (hb.block g (blk_lt h3)).trans h3, h4⟩
theorem OwnMs.at {base : Nat} {ms : List Mem} {v : Value} {w : World} (h : OwnMs base ms v w) : ∃ p cap, v = .slice p ms.length cap ∧ MemsAt w p ms ∧ ms.length ≤ cap ∧ cap ≤ 9223372036854775807 := by
  rcases h.1.2 with ⟨h1, h2⟩ | ⟨g, cap, cur, h1, h2, h3, h4, h5, h6, h7⟩
  · have : ms = [] := List.eq_nil_of_length_eq_zero h2
    subst this
    exact ⟨none, 0, h1, ⟨(fun i hi => by cases hi), (fun b off hb => by cases hb)⟩, Nat.le_refl _, by omega⟩
  · refine ⟨_, cap, h1, ⟨fun i _ => ⟨g, 0, rfl, blk_lt h3⟩, fun b off hb i m hm j hj => ?_⟩, h4, by unfold maxLen at h5; omega⟩
    cases hb
    rw [Nat.zero_add, cell_of_heapN h3, ← memCells_at ms i j m hm hj, ← h7, List.getElem?_take, if_pos ?_, Array.getElem?_toList]
    have := (List.getElem?_eq_some_iff.1 hm).1
    omega
theorem info33 : (Tryd.prog.info? 33).map (fun i => (i.zero, i.size, i.bytes)) = some (some (.agg zm), 13, 144) := by kernel_rfl
theorem new13 (w : World) (m : Mem) (t : TypeId) : ∀ (j : Nat) (u : Value), (m.cells.toList)[j]? = some u → (w.alloc (.cells m.cells t)).cell? ((⟨w.heap.size, 0, none⟩ : Addr).add j) = some u := by
  intro j u h
  rw [show ((⟨w.heap.size, 0, none⟩ : Addr).add j) = ⟨w.heap.size, j, none⟩ by simp [Addr.add]; intro e; exact e.symm, cell_new, ← h, Array.getElem?_toList]
theorem one13 (m : Mem) : ∀ u ∈ m.cells.toList, u.oneCell' = true := by
  intro u hu
  simp only [Mem.cells, List.mem_cons, List.not_mem_nil, or_false] at hu
  rcases hu with rfl | rfl | rfl | rfl | rfl | rfl | rfl | rfl | rfl | rfl | rfl | rfl | rfl <;> rfl
theorem OwnMs.app {base : Nat} {ms : List Mem} {m : Mem} {v v' : Value} {w0 w w1 : World} {tmp : Obj} (h : OwnMs base ms v w) (hw : Below base w0 w) (hb : base ≤ w.heap.size) (hown' : w1.ownsRow base 33 13 v' (ms.length + 1) (memCells ms ++ m.cells.toList)) (hg : (w.alloc tmp).grownBy w1 v.ownBlock) :
    OwnMs base (ms ++ [m]) v' w1 ∧ Below base w0 w1 := by
  refine ⟨⟨by rw [memCells_snoc, List.length_append]; exact hown', ⟨fun e => ?_, fun e => by simp at e⟩⟩, ?_⟩
  · subst e
    rcases hown'.2 with ⟨_, h2⟩ | ⟨g, cap, cur, h1, _⟩
    · omega
    · cases h1
  · refine hw.trans (((Below.refl base w).alloc hb tmp).grown hg (by simp; omega) fun j ej => ?_)
    rcases h.1.2 with ⟨rfl, _⟩ | ⟨g, cap, cur, rfl, hb', _, _⟩
    · simp [Value.ownBlock] at ej
    · obtain rfl : g = j := by simpa [Value.ownBlock] using ej
      exact hb'
set_option maxHeartbeats 1600000 in
set_option maxRecDepth 100000 in
theorem copy_any (l : List Mem) (p : Option Addr) (cap : Nat) (w : World) (hM : MemsAt w p l) (hn : l.length * 144 ≤ 140737488355328) :
    Calls Tryd.prog 6 #[.slice p l.length cap] w fun e w' => ∃ v, e = .returned v ∧ OwnMs w.heap.size l v w' ∧ Below w.heap.size w w' := by
  obtain ⟨i0, hi, hz0, hz1, hz2⟩ := info_parts info33
  go_enter Tryd.func6, Tryd.ntmps6
  go_wp2_with fail
  obtain ⟨n, hnl⟩ : ∃ n, l.length = n := ⟨_, rfl⟩
  rw [hnl] at hn ⊢
  have HN := Lib.hid hnl
  have HM := Lib.hid hM
  clear hnl hM
  go_loopw [3, 4] (fun v iv wr => ∃ k : Nat, k ≤ n ∧ iv = .int .i64 k ∧ Hid (OwnMs w.heap.size (l.take k) v wr) ∧ Hid (Below w.heap.size w wr)) (fun _ iv _ => n - (intOf iv).toNat)
  case atStart => exact ⟨0, Nat.zero_le _, rfl, ⟨World.ownsRow_nil _ _ _ _, by simp⟩, Below.refl _ _⟩
  case round =>
    obtain ⟨k, hk, rfl, hown, hbel⟩ := hrel
    by_cases hlt : k < n
    · obtain ⟨m, hm⟩ : ∃ m, l[k]? = some m := ⟨_, List.getElem?_eq_getElem (i := k) (by have := HN.out; omega)⟩
      have htk : l.take (k + 1) = l.take k ++ [m] := by rw [List.take_add_one, hm]; rfl
      have hlk : (l.take k).length = k := by rw [List.length_take]; have := HN.out; omega
      obtain ⟨b, off, rfl, hb⟩ := HM.out.1 k (by have := HN.out; omega)
      have hrow : ∀ j, j < 13 → wr.cell? ⟨b, off + (k * 13 + j), none⟩ = m.cells[j]? := fun j hj => (hbel.out.cell (p := ⟨b, off + (k * 13 + j), none⟩) hb).trans (HM.out.2 b off rfl k m hm j hj)
      have c0 : wr.cell? ⟨b, off + k * 13, none⟩ = some (.string m.hdr.path) := row_cell hrow (j := 0) (by decide) rfl
      have c1 := row_cell hrow (j := 1) (by decide) rfl
      have c2 := row_cell hrow (j := 2) (by decide) rfl
      have c3 := row_cell hrow (j := 3) (by decide) rfl
      have c4 := row_cell hrow (j := 4) (by decide) rfl
      have c5 := row_cell hrow (j := 5) (by decide) rfl
      have c6 := row_cell hrow (j := 6) (by decide) rfl
      have c7 := row_cell hrow (j := 7) (by decide) rfl
      have c8 := row_cell hrow (j := 8) (by decide) rfl
      have c9 := row_cell hrow (j := 9) (by decide) rfl
      have c10 := row_cell hrow (j := 10) (by decide) rfl
      have c11 := row_cell hrow (j := 11) (by decide) rfl
      have c12 := row_cell hrow (j := 12) (by decide) rfl
      have HTK := Lib.hid htk
      have HLK := Lib.hid hlk
      clear hm htk hrow hlk
      have hsz := hbel.out.size
      go_wp2_with (first
        | (at_builtin; refine wpList_append_own _ rfl _ _ 22 rfl w.heap.size 33 i0 (.agg zm) 13 144 Tryd.underlying22 hi hz0 hz1 hz2 rfl (by decide) _ _ _ rfl (hown.out.1.alloc _) ⟨wr.heap.size, 0, none⟩ 1 1 m.cells.toList rfl rfl (new13 wr m _) (one13 m) (by rw [HLK.out]; unfold maxLen; omega) (by rw [HLK.out]; omega) (by rw [World.size_alloc]; omega) ?_; intro v' w1 hown' hgrow _)
        | go_in)
      case roundEnd =>
        have h := hown.out.app (m := m) hbel.out hsz (by rw [HLK.out] at hown' ⊢; exact hown') hgrow
        rw [← HTK.out] at h
        exact ⟨⟨k + 1, by omega, by rw [Int.natCast_add]; rfl, h.1, h.2⟩, by simp [intOf]; omega⟩
    · go_wp2_with fail
      have e : l.take k = l := List.take_of_length_le (by have := HN.out; omega)
      have h := hown.out
      rw [e] at h
      go_ret
      exact ⟨_, rfl, h, hbel.out⟩
end Go.Proofs.YthpmocfdnoehoaaDoor
