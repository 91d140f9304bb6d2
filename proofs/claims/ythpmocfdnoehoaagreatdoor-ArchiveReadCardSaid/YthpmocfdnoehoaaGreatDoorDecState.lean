/- Plain: the state inside Decode's loop over the fields of numbers. -/
import Derived.Test.YthpmocfdnoehoaaGreatDoorValue
import Derived.Test.YthpmocfdnoehoaaGreatDoorSum
import Derived.Test.YthpmocfdnoehoaaGreatDoorWorld
namespace Go.Proofs.YthpmocfdnoehoaaGreatDoor
open Go.RowKit
def fld (l : Bs) (a b : Nat) : Bs := (l.drop a).take (b - a)
theorem extract_fld (s : ByteArray) (a b : Nat) : (s.extract a b).data.toList = fld s.data.toList a b := by rw [Lib.extract_data]; rfl
/-- The cells of a header without anything. -/
@[reducible] def zh : Array Value := #[.string ⟨#[]⟩, .int .i64 0, .int .i64 0, .int .i64 0, .int .i64 0, .int .i64 0, .int .u8 0, .string ⟨#[]⟩, .string ⟨#[]⟩, .string ⟨#[]⟩, .int .i64 0, .int .i64 0]
/-- A header whose first k numbers are read. -/
def hdrK (l : Bs) (k : Nat) : Hdr where
  path := ⟨(textOf (l.take 100)).toArray⟩
  mode := if 0 < k then numX (fld l 100 108) else 0
  uid := if 1 < k then numX (fld l 108 116) else 0
  gid := if 2 < k then numX (fld l 116 124) else 0
  size := if 3 < k then numX (fld l 124 136) else 0
  time := if 4 < k then numX (fld l 136 148) else 0
  typ := l.getD 156 0
  link := ⟨(textOf (fld l 157 257)).toArray⟩
  user := ⟨(textOf (fld l 265 297)).toArray⟩
  group := ⟨(textOf (fld l 297 329)).toArray⟩
  major := if 6 < k then numX (fld l 329 337) else 0
  minor := if 7 < k then numX (fld l 337 345) else 0
@[reducible] def arrP (r : Nat) : Array Value := #[.int .i64 100, .int .i64 108, .pointer (some ⟨r + 2, 1, none⟩), .int .i64 108, .int .i64 116, .pointer (some ⟨r + 2, 2, none⟩), .int .i64 116, .int .i64 124, .pointer (some ⟨r + 2, 3, none⟩),
  .int .i64 124, .int .i64 136, .pointer (some ⟨r + 2, 4, none⟩), .int .i64 136, .int .i64 148, .pointer (some ⟨r + 2, 5, none⟩), .int .i64 148, .int .i64 156, .pointer (some ⟨r + 3, 0, none⟩),
  .int .i64 329, .int .i64 337, .pointer (some ⟨r + 2, 10, none⟩), .int .i64 337, .int .i64 345, .pointer (some ⟨r + 2, 11, none⟩)]
/-- Where field k lies. -/
def fromK : Nat → Nat | 0 => 100 | 1 => 108 | 2 => 116 | 3 => 124 | 4 => 136 | 5 => 148 | 6 => 329 | _ => 337
def toK : Nat → Nat | 0 => 108 | 1 => 116 | 2 => 124 | 3 => 136 | 4 => 148 | 5 => 156 | 6 => 337 | _ => 345
structure DecS (w0 : World) (l : Bs) (k : Nat) (w : World) : Prop where
  size : w0.heap.size + 5 ≤ w.heap.size
  hr : w.heap[w0.heap.size]? = some (.cells zh 24 (0, 0))
  hc : w.heap[w0.heap.size + 1]? = some (blk 90 l)
  hh : w.heap[w0.heap.size + 2]? = some (.cells (hdrK l k).cells 24 (0, 0))
  hs : w.heap[w0.heap.size + 3]? = some (.cells #[.int .i64 (if 5 < k then numX (fld l 148 156) else 0)] 2 (0, 0))
  ha : w.heap[w0.heap.size + 4]? = some (.cells (arrP w0.heap.size) 162 (0, 0))
  bel : Below w0.heap.size w0 w
theorem DecS.keep {w0 : World} {l : Bs} {k : Nat} {w w' : World} (h : DecS w0 l k w) (hb : Below w.heap.size w w') : DecS w0 l k w' := by
  have hz := h.size
  exact ⟨Nat.le_trans hz hb.size, (hb.block _ (by omega)).trans h.hr, (hb.block _ (by omega)).trans h.hc, (hb.block _ (by omega)).trans h.hh, (hb.block _ (by omega)).trans h.hs, (hb.block _ (by omega)).trans h.ha, h.bel.trans (hb.mono (by omega))⟩
theorem DecS.drewN {w0 : World} {l : Bs} {k : Nat} {w : World} (h : DecS w0 l k w) (n : Nat) : DecS w0 l k (w.drewN n) :=
  ⟨h.size, h.hr, h.hc, h.hh, h.hs, h.ha, below_drewN h.bel n⟩
theorem setCell_blk {w : World} {b i : Nat} {c : Array Value} {t : TypeId} {v : Value} (h : w.heap[b]? = some (.cells c t (0, 0))) : w.setCell ⟨b, i, none⟩ v = setBlk w b (.cells (c.setIfInBounds i v) t (0, 0)) := by
  refine heap_ext (fun k => ?_) rfl rfl rfl rfl
  rw [setBlk_at]
  simp only [World.setCell, Array.getElem?_modify]
  by_cases e : b = k
  · subst e
    rw [if_pos rfl, if_pos rfl, if_pos (blk_lt h), h]
    simp
  · rw [if_neg e, if_neg e]
theorem frozen_blk {w : World} {b i : Nat} {c : Array Value} {t : TypeId} (h : w.heap[b]? = some (.cells c t (0, 0))) : w.frozen? ⟨b, i, none⟩ = false := by
  simp [World.frozen?, h]
theorem DecS.setH {w0 : World} {l : Bs} {k i : Nat} {w : World} {x : Int} (h : DecS w0 l k w) (he : (hdrK l k).cells.setIfInBounds i (.int .i64 x) = (hdrK l (k + 1)).cells) (hk : (5 < k) = (5 < k + 1)) :
    DecS w0 l (k + 1) (w.setCell ⟨w0.heap.size + 2, i, none⟩ (.int .i64 x)) := by
  rw [setCell_blk h.hh, he]
  have hz := h.size
  refine ⟨by rw [setBlk_size]; exact hz, (setBlk_other (by omega)).trans h.hr, (setBlk_other (by omega)).trans h.hc, setBlk_heap (by omega), ?_, (setBlk_other (by omega)).trans h.ha, ?_⟩
  · rw [setBlk_other (by omega), h.hs]; simp only [hk]
  · exact ⟨h.bel.os, h.bel.tape, h.bel.output, by rw [setBlk_size]; exact h.bel.size, fun j hj => (setBlk_other (by omega)).trans (h.bel.block j hj)⟩
theorem DecS.setS {w0 : World} {l : Bs} {w : World} (h : DecS w0 l 5 w) :
    DecS w0 l 6 (w.setCell ⟨w0.heap.size + 3, 0, none⟩ (.int .i64 (numX (fld l 148 156)))) := by
  rw [setCell_blk h.hs]
  have hz := h.size
  refine ⟨by rw [setBlk_size]; exact hz, (setBlk_other (by omega)).trans h.hr, (setBlk_other (by omega)).trans h.hc, ?_, ?_, (setBlk_other (by omega)).trans h.ha, ?_⟩
  · rw [setBlk_other (by omega), h.hh]; rfl
  · rw [setBlk_heap (by omega)]; rfl
  · exact ⟨h.bel.os, h.bel.tape, h.bel.output, by rw [setBlk_size]; exact h.bel.size, fun j hj => (setBlk_other (by omega)).trans (h.bel.block j hj)⟩
/-- What the round of field k reads and writes. -/
theorem DecS.round {w0 : World} {l : Bs} {k : Nat} {w : World} (h : DecS w0 l k w) (hk : k < 8) : ∃ (tb te : Nat) (old : Int),
    w.cell? ⟨w0.heap.size + 4, k * 3, none⟩ = some (.int .i64 (fromK k : Nat)) ∧ w.cell? ⟨w0.heap.size + 4, k * 3 + 1, none⟩ = some (.int .i64 (toK k : Nat)) ∧ w.cell? ⟨w0.heap.size + 4, k * 3 + 2, none⟩ = some (.pointer (some ⟨tb, te, none⟩)) ∧
    tb < w.heap.size ∧ w.cell? ⟨tb, te, none⟩ = some (.int .i64 old) ∧ w.frozen? ⟨tb, te, none⟩ = false ∧
    ∀ w', DecS w0 l k w' → DecS w0 l (k + 1) (w'.setCell ⟨tb, te, none⟩ (.int .i64 (numX (fld l (fromK k) (toK k))))) := by
  have hz := h.size
  have ca := fun i => cell_of_heapN (i := i) h.ha
  have ch := fun i => cell_of_heapN (i := i) h.hh
  have cs := fun i => cell_of_heapN (i := i) h.hs
  match k, hk with
  | 0, _ => exact ⟨_, 1, _, ca 0, ca 1, ca 2, by omega, ch 1, frozen_blk h.hh, fun w' h' => h'.setH rfl (by decide)⟩
  | 1, _ => exact ⟨_, 2, _, ca 3, ca 4, ca 5, by omega, ch 2, frozen_blk h.hh, fun w' h' => h'.setH rfl (by decide)⟩
  | 2, _ => exact ⟨_, 3, _, ca 6, ca 7, ca 8, by omega, ch 3, frozen_blk h.hh, fun w' h' => h'.setH rfl (by decide)⟩
  | 3, _ => exact ⟨_, 4, _, ca 9, ca 10, ca 11, by omega, ch 4, frozen_blk h.hh, fun w' h' => h'.setH rfl (by decide)⟩
  | 4, _ => exact ⟨_, 5, _, ca 12, ca 13, ca 14, by omega, ch 5, frozen_blk h.hh, fun w' h' => h'.setH rfl (by decide)⟩
  | 5, _ => exact ⟨_, 0, _, ca 15, ca 16, ca 17, by omega, cs 0, frozen_blk h.hs, fun w' h' => h'.setS⟩
  | 6, _ => exact ⟨_, 10, _, ca 18, ca 19, ca 20, by omega, ch 10, frozen_blk h.hh, fun w' h' => h'.setH rfl (by decide)⟩
  | 7, _ => exact ⟨_, 11, _, ca 21, ca 22, ca 23, by omega, ch 11, frozen_blk h.hh, fun w' h' => h'.setH rfl (by decide)⟩
theorem fromK_to (k : Nat) : fromK k ≤ toK k ∧ toK k ≤ 345 ∧ toK k - fromK k ≤ 12 := by
  unfold fromK toK
  split <;> simp
end Go.Proofs.YthpmocfdnoehoaaGreatDoor
