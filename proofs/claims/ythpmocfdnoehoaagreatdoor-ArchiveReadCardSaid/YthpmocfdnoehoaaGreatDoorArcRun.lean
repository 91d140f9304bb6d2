/- archive.Write and Read of an archive that may be written. -/
import Derived.Test.YthpmocfdnoehoaaGreatDoorSame
import Derived.Test.YthpmocfdnoehoaaGreatDoorRead
import Derived.Test.YthpmocfdnoehoaaGreatDoorArc
namespace Go.Proofs.YthpmocfdnoehoaaGreatDoor
open Go.RowKit
theorem mem_inj {a b : List Mem} (h : a.map RdX.mem = b.map RdX.mem) : a = b := by
  induction a generalizing b with
  | nil => cases b with
    | nil => rfl
    | cons y ys => simp at h
  | cons x xs ih => cases b with
    | nil => simp at h
    | cons y ys =>
      rw [List.map_cons, List.map_cons] at h
      obtain ⟨h1, h2⟩ := List.cons.inj h
      rw [RdX.mem.inj h1, ih h2]
/-- What was written is read. -/
theorem read_arc (l : List Mem) (hl : ∀ m ∈ l, MemOk m) (S : ByteArray) (hS : S.data.toList = arcOf l) (hsz : S.size ≤ 33554432) (w : World) :
    Calls Tryz.prog 16 #[.string S] w fun e w' => ∃ v, e = .returned (.tuple #[v, .nilIface]) ∧ OwnMs w.heap.size l v w' ∧ Below w.heap.size w w' := by
  refine (read_walk S w hsz).mono ?_
  rintro e w' ⟨h, hb⟩
  rw [hS, rd_all hl] at h
  rcases h with ⟨ms, v, h1, rfl, h2, h3⟩ | ⟨ms, x, i, h1, _⟩
  · have := mem_inj h1
    subst this
    exact ⟨v, rfl, ⟨h2, h3⟩, hb⟩
  · exact absurd h1.symm (no_bad _ [] _ _ _)
/-- A shorter beginning is refused. -/
theorem read_bad (S : ByteArray) (ms : List Mem) (x : Int) (j : Nat) (hS : rdGo S.data.toList (S.data.toList.length + 1) 0 = ms.map .mem ++ [.bad x j]) (hsz : S.size ≤ 33554432) (w : World) :
    Calls Tryz.prog 16 #[.string S] w fun e w' => e = .returned (.tuple #[.slice none 0 0, faultV x 0 j]) ∧ Below w.heap.size w w' := by
  refine (read_walk S w hsz).mono ?_
  rintro e w' ⟨h, hb⟩
  rw [hS] at h
  rcases h with ⟨ms', v, h1, _⟩ | ⟨ms', x', i, h1, rfl⟩
  · exact absurd h1 (no_bad _ [] _ _ _)
  · obtain ⟨rfl, rfl⟩ := one_bad (ms'.map .mem) [] ms _ _ _ _ h1.symm
    exact ⟨rfl, hb⟩
/-- Members that may be written are written. -/
theorem write_arc (l : List Mem) (p : Option Addr) (cap : Nat) (w : World) (hM : MemsAt w p l) (hn : l.length ≤ 1152921504606846975) (hs : ∀ m ∈ l, m.small) (h0 : (wrGo l 0 []).1 = 0) (S : ByteArray) (hS : S.data.toList = arcOf l) :
    Calls Tryz.prog 9 #[.slice p l.length cap] w fun e w' => e = .returned (.tuple #[.string S, .nilIface]) ∧ Below w.heap.size w w' := by
  refine (write_any l p cap w hM hn hs).mono ?_
  rintro e w' h
  have hw := (wrGo_fst l 0 [] h0).1
  unfold WrPost at h
  rw [hw] at h
  obtain ⟨he, hb⟩ := h
  exact ⟨by rw [he, if_pos rfl, List.nil_append, bytes_eq hS], hb⟩
theorem memsAt_one (w : World) (m : Mem) : MemsAt (w.alloc (.cells m.cells 26)) (some ⟨w.heap.size, 0, none⟩) [m] := by
  refine ⟨fun i _ => ⟨w.heap.size, 0, rfl, by rw [World.size_alloc]; omega⟩, fun b off hb i x hx j hj => ?_⟩
  cases hb
  have hi : i = 0 := by
    have := (List.getElem?_eq_some_iff.1 hx).1
    simp at this
    exact this
  subst hi
  obtain rfl : m = x := by simpa using hx
  rw [cell_new]
  simp
theorem read_small {l : List Mem} (hl : ∀ m ∈ l, MemOk m) (h0 : (wrGo l 0 []).1 = 0) : (arcOf l).length ≤ 33554432 := by
  by_cases h : l = []
  · subst h
    show (List.replicate 1024 (0 : UInt8)).length ≤ 33554432
    rw [List.length_replicate]
    omega
  · have := (wrGo_fst l 0 [] h0).2.2 h
    simpa using this
end Go.Proofs.YthpmocfdnoehoaaGreatDoor
