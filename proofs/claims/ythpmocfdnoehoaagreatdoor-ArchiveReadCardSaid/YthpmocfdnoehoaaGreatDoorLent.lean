/- Contracts of the kit's marks: MarkText, markMembers, FullMembers, LentMembers, KeptFullMembers, KeptMembers. -/
import Derived.Test.YthpmocfdnoehoaaGreatDoorSame
namespace Go.Proofs.YthpmocfdnoehoaaGreatDoor
open Go.RowKit
/-- The text of a mark. -/
def byteI (x : Int) : UInt8 := (x % 256).toNat.toUInt8
def markT (k : Nat) (i : Int) : ByteArray := ⟨#[35, byteI k, byteI ((k : Int) / 256), byteI i, byteI (i / 256)]⟩
def markM (k : Nat) (i : Int) : Mem := ⟨{ path := ⟨#[]⟩, mode := -7, uid := 0, gid := 0, size := 0, time := 0, typ := 0, link := ⟨#[]⟩, user := ⟨#[]⟩, group := ⟨#[]⟩, major := 0, minor := 0 }, markT k i⟩
theorem conv_new (w : World) (l : Bs) : (convert 48 9 (.slice (some ⟨w.heap.size, 0, none⟩) l.length l.length)).run Tryz.prog (w.alloc (.cells (l.map byteV).toArray 5)) = .ok (.string ⟨l.toArray⟩) (w.alloc (.cells (l.map byteV).toArray 5)) := by
  exact run_convert_bytes_back (P := Tryz.prog) (w.alloc (.cells (l.map byteV).toArray 5)) 48 9 5 ⟨w.heap.size, 0, none⟩ l.length l Tryz.underlying48 Tryz.underlying5 Tryz.underlying9 (fun j hj => by
    rw [show ((⟨w.heap.size, 0, none⟩ : Addr).add j) = ⟨w.heap.size, j, none⟩ by simp [Addr.add]; intro e; exact e.symm, cell_new]
    simp [hj]
    rfl)
theorem byteV_int (x : Int) : byteV (byteI x) = .int .u8 (x % 256) := by
  unfold byteV byteI
  rw [Nat.toUInt8, UInt8.toNat_ofNat']
  congr 1
  omega
theorem mark_conv (k : Nat) (i : Int) (w : World) (hk : k ≤ 1000) : (convert 48 9 (.slice (some ⟨w.heap.size, 0, none⟩) 5 5)).run Tryz.prog (w.alloc (.cells #[.int .u8 35, .int .u8 ((k : Int) % 256), .int .u8 ((k : Int) / 256), .int .u8 (i % 256), .int .u8 (i / 256 % 256)] 5)) = .ok (.string (markT k i)) (w.alloc (.cells #[.int .u8 35, .int .u8 ((k : Int) % 256), .int .u8 ((k : Int) / 256), .int .u8 (i % 256), .int .u8 (i / 256 % 256)] 5)) := by
  have h := conv_new w [35, byteI k, byteI ((k : Int) / 256), byteI i, byteI (i / 256)]
  have e : (([35, byteI k, byteI ((k : Int) / 256), byteI i, byteI (i / 256)] : Bs).map byteV).toArray = #[.int .u8 35, .int .u8 ((k : Int) % 256), .int .u8 ((k : Int) / 256), .int .u8 (i % 256), .int .u8 (i / 256 % 256)] := by
    simp only [List.map_cons, List.map_nil, byteV_int]
    rw [show (k : Int) / 256 % 256 = (k : Int) / 256 by omega]
    rfl
  rw [e] at h
  exact h
set_option maxHeartbeats 1600000 in
set_option maxRecDepth 100000 in
theorem markText_any (k : Nat) (i : Int) (w : World) (hk : k ≤ 1000) (hi : i ≤ 33554432) (hi2 : -33554432 ≤ i) :
    Calls Tryz.prog 64 #[.int .i64 k, .int .i64 i] w fun e w' => e = .returned (.string (markT k i)) ∧ Below w.heap.size w w' := by
  have hc := mark_conv k i w hk
  go_enter Tryz.func64, Tryz.ntmps64
  go_wp2_with fail
  go_ret
  exact ⟨rfl, (Below.refl _ _).alloc (Nat.le_refl _) _⟩
set_option maxHeartbeats 1600000 in
set_option maxRecDepth 100000 in
theorem markM_any (k : Nat) (i : Int) (w : World) (hk : k ≤ 1000) (hi : i ≤ 33554432) (hi2 : -33554432 ≤ i) :
    Calls Tryz.prog 44 #[.int .i64 k, .int .i64 i] w fun e w' => e = .returned (.agg (markM k i).cells) ∧ Below w.heap.size w w' := by
  go_enter Tryz.func44, Tryz.ntmps44
  go_wp2_with fail
  refine (markText_any k i _ hk hi hi2).mono ?_
  rintro e w1 ⟨rfl, hb⟩
  have hz : w.heap.size < (w.alloc (.cells zm 26)).heap.size := by rw [World.size_alloc]; omega
  have hr : w1.heap[w.heap.size]? = some (.cells zm 26 (0, 0)) := (hb.block w.heap.size hz).trans (heap_new w (.cells zm 26))
  have HB := Lib.hid (((Below.refl _ w).alloc (Nat.le_refl _) (.cells zm 26)).trans (hb.mono (Nat.le_of_lt hz)))
  have HR := Lib.hid hr
  have cr : ∀ i : Nat, w1.cell? ⟨w.heap.size, i, none⟩ = zm[i]? := fun i => cell_of_heapN hr
  have fr : ∀ i : Nat, w1.frozen? ⟨w.heap.size, i, none⟩ = false := fun i => frozen_blk hr
  clear hb hr hz
  go_wp2_with fail
  rw [set13 HR.out _ _ _ _ _ _ _ _ _ _ _ _ _]
  have hh : (setBlk w1 w.heap.size (.cells (markM k i).cells 26 (0, 0))).heap[w.heap.size]? = some (.cells (markM k i).cells 26 (0, 0)) := setBlk_heap (blk_lt HR.out)
  have hc : ∀ j : Nat, (setBlk w1 w.heap.size (.cells (markM k i).cells 26 (0, 0))).cell? ⟨w.heap.size, j, none⟩ = (markM k i).cells[j]? := fun j => cell_of_heapN hh
  have hB : Below w.heap.size w (setBlk w1 w.heap.size (.cells (markM k i).cells 26 (0, 0))) := HB.out.setBlk (Nat.le_refl _)
  change bodyPost _ _ _ _ _ (setBlk w1 w.heap.size (.cells (markM k i).cells 26 (0, 0)))
  generalize setBlk w1 w.heap.size (.cells (markM k i).cells 26 (0, 0)) = w2 at hc hB
  exact bodyPost_ret (v := .agg (markM k i).cells) (by simp [results, Tryz.f44, go_sem, hc]) rfl ⟨rfl, hB⟩
end Go.Proofs.YthpmocfdnoehoaaGreatDoor
