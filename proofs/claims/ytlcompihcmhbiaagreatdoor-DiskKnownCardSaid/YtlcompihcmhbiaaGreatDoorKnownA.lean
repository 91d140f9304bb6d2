/- Contracts of the small makers of disks that DiskKnown uses. -/
import Derived.Test.YtlcompihcmhbiaaGreatDoorDWorks
namespace Go.Proofs.YtlcompihcmhbiaaGreatDoor
open Go Go.RowKit Go.Maps Go.Shelf
def bT : ByteArray := ⟨#[116]⟩
def fr0 : DM := DM.new 99
def fr1 : DM := (fr0.op (.create bA)).1
def fr2 : DM := (fr1.op (.write bA bXY)).1
theorem fe1 : fr0.op (.create bA) = (fr1, 0) := op_eq (by kernel_rfl)
theorem fe2 : fr1.op (.write bA bXY) = (fr2, 0) := op_eq (by kernel_rfl)
def bg1 : DM := (fr0.op (.create bT)).1
def bg2 : DM := (bg1.op (.write bT bXY)).1
def bg3 : DM := (bg2.op (.sync bT)).1
def bg4 : DM := (bg3.op (.rename bT bA)).1
theorem be1 : fr0.op (.create bT) = (bg1, 0) := op_eq (by kernel_rfl)
theorem be2 : bg1.op (.write bT bXY) = (bg2, 0) := op_eq (by kernel_rfl)
theorem be3 : bg2.op (.sync bT) = (bg3, 0) := op_eq (by kernel_rfl)
theorem be4 : bg3.op (.rename bT bA) = (bg4, 0) := op_eq (by kernel_rfl)
def tu1 : DM := (bg4.op .flush).1
def tu2 : DM := (tu1.op (.remove bA)).1
def tu3 : DM := (tu2.op (.create bA)).1
theorem te1 : bg4.op .flush = (tu1, 0) := op_eq (by kernel_rfl)
theorem te2 : tu1.op (.remove bA) = (tu2, 0) := op_eq (by kernel_rfl)
theorem te3 : tu2.op (.create bA) = (tu3, 0) := op_eq (by kernel_rfl)
set_option maxHeartbeats 1600000 in
set_option maxRecDepth 100000 in
theorem fresh_any (w w1 : World) (hb : Below w.heap.size w w1) : Calls Tryz.prog 33 #[] w1 fun e w' => ∃ a, e = .returned (.pointer (some ⟨a, 0, none⟩)) ∧ Mine w w' a 2 fr2 := by
  have hnw := new_m w w1 hb 99 (by decide) (by decide)
  clear hb
  go_enter Tryz.func33, Tryz.ntmps33
  go_wp2_with fail
  refine hnw.mono ?_
  rintro e w2 ⟨a, rfl, hm⟩
  have M2 := Lib.hid hm
  clear hm
  go_wp2_with fail
  refine (create_m M2.out (by decide) bA (by decide) (v := .nilIface) fe1 rfl).mono ?_
  rintro e w3 ⟨rfl, hm⟩
  have M3 := Lib.hid hm
  clear hm
  go_wp2_with fail
  refine (write_m M3.out (by decide) bA bXY (by decide) (by decide) (v := .nilIface) fe2 rfl).mono ?_
  rintro e w4 ⟨rfl, hm⟩
  have M4 := Lib.hid hm
  clear hm
  go_wp2_with fail
  go_ret
  exact ⟨a, rfl, M4.out⟩
set_option maxHeartbeats 1600000 in
set_option maxRecDepth 100000 in
theorem begun_any (w w1 : World) (hb : Below w.heap.size w w1) : Calls Tryz.prog 34 #[] w1 fun e w' => ∃ a, e = .returned (.pointer (some ⟨a, 0, none⟩)) ∧ Mine w w' a 4 bg4 := by
  have hnw := new_m w w1 hb 99 (by decide) (by decide)
  clear hb
  go_enter Tryz.func34, Tryz.ntmps34
  go_wp2_with fail
  refine hnw.mono ?_
  rintro e w2 ⟨a, rfl, hm⟩
  have M2 := Lib.hid hm
  clear hm
  go_wp2_with fail
  refine (create_m M2.out (by decide) bT (by decide) (v := .nilIface) be1 rfl).mono ?_
  rintro e w3 ⟨rfl, hm⟩
  have M3 := Lib.hid hm
  clear hm
  go_wp2_with fail
  refine (write_m M3.out (by decide) bT bXY (by decide) (by decide) (v := .nilIface) be2 rfl).mono ?_
  rintro e w4 ⟨rfl, hm⟩
  have M4 := Lib.hid hm
  clear hm
  go_wp2_with fail
  refine (sync_m M4.out (by decide) bT (by decide) (v := .nilIface) be3 rfl).mono ?_
  rintro e w5 ⟨rfl, hm⟩
  have M5 := Lib.hid hm
  clear hm
  go_wp2_with fail
  refine (rename_m M5.out (by decide) bT bA (by decide) (by decide) (v := .nilIface) be4 rfl).mono ?_
  rintro e w6 ⟨rfl, hm⟩
  have M6 := Lib.hid hm
  clear hm
  go_wp2_with fail
  go_ret
  exact ⟨a, rfl, M6.out⟩
set_option maxHeartbeats 1600000 in
set_option maxRecDepth 100000 in
theorem turned_any (w w1 : World) (hb : Below w.heap.size w w1) : Calls Tryz.prog 35 #[] w1 fun e w' => ∃ a, e = .returned (.pointer (some ⟨a, 0, none⟩)) ∧ Mine w w' a 7 tu3 := by
  have hnw := begun_any w w1 hb
  clear hb
  go_enter Tryz.func35, Tryz.ntmps35
  go_wp2_with fail
  refine hnw.mono ?_
  rintro e w2 ⟨a, rfl, hm⟩
  have M2 := Lib.hid hm
  clear hm
  go_wp2_with fail
  refine (flush_m M2.out (by decide) (v := .nilIface) te1 rfl).mono ?_
  rintro e w3 ⟨rfl, hm⟩
  have M3 := Lib.hid hm
  clear hm
  go_wp2_with fail
  refine (remove_m M3.out (by decide) bA (by decide) (v := .nilIface) te2 rfl).mono ?_
  rintro e w4 ⟨rfl, hm⟩
  have M4 := Lib.hid hm
  clear hm
  go_wp2_with fail
  refine (create_m M4.out (by decide) bA (by decide) (v := .nilIface) te3 rfl).mono ?_
  rintro e w5 ⟨rfl, hm⟩
  have M5 := Lib.hid hm
  clear hm
  go_wp2_with fail
  go_ret
  exact ⟨a, rfl, M5.out⟩
theorem shown_m {w w1 : World} {a n : Nat} {m : DM} (h : Mine w w1 a n m) (hn : n < 1000) (ho : m.off = false) : Calls Tryz.prog 14 #[.pointer (some ⟨a, 0, none⟩)] w1 fun e w' => ∃ v u, e = .returned (.tuple #[.agg #[v, u], .bool true]) ∧ TextsRd w' v m.namesOf ∧ TextsRd w' u m.datas ∧ Mine w w' a n m := by
  refine (shown_any h.1 (by omega) ho).mono ?_
  rintro e w' ⟨v, u, rfl, hv, hu, hb⟩
  exact ⟨v, u, rfl, hv.rd, hu.rd, h.below hb⟩
set_option maxHeartbeats 1600000 in
set_option maxRecDepth 100000 in
/-- after, where nothing is shown. -/
theorem after_none {w w1 : World} {a n : Nat} {m : DM} {S : Nat → Prop} (h : DiskAt w1 a n m S) (hn : n < 1000) (hSl : ∀ b, S b → w.heap.size ≤ b) (hb : Below w.heap.size w w1) (kv : Value) (ks : List Int) (hk : IntsRd S w1 kv ks) (h1 : ((m.crash ks).revive).namesOf = []) (h2 : ((m.crash ks).revive).off = false) :
    Calls Tryz.prog 32 #[.pointer (some ⟨a, 0, none⟩), kv, .slice none 0 0] w1 fun e w' => e = .returned (.bool true) ∧ Below w.heap.size w w' := by
  have hcr := crash_any h kv ks hk (by omega)
  have hlt := h.lt
  have hbz := hb.size
  obtain ⟨kp, kcap, rfl, -⟩ := hk
  clear h
  go_enter Tryz.func32, Tryz.ntmps32
  go_wp2_with fail
  refine hcr.mono ?_
  rintro e w2 ⟨rfl, hp2⟩
  have HP2 := Lib.hid hp2
  have HB2 := Lib.hid (hb.trans (hp2.2.toBelow hSl hbz))
  clear hp2 hcr
  go_wp2_with fail
  refine (revive_any HP2.out.1).mono ?_
  rintro e w3 ⟨rfl, hp3⟩
  have HP3 := Lib.hid hp3
  have HB3 := Lib.hid (HB2.out.trans (hp3.2.toBelow (fun b hb2 => hb2.elim (hSl b) (fun h => by have := h.1; omega)) HB2.out.size))
  clear hp3
  go_wp2_with fail
  refine (shown_any HP3.out.1 (by omega) h2).mono ?_
  rintro e w4 ⟨v, u, rfl, hv, hu, hb4⟩
  have hv := hv.rd
  have hu := hu.rd
  have HB4 := Lib.hid (HB3.out.trans (hb4.mono HB3.out.size))
  rw [h1] at hv
  obtain ⟨vp, vc, rfl, -⟩ := hv
  obtain ⟨up, uc, rfl, -⟩ := hu
  clear hb4
  go_wp2_with fail
  refine wp_loop_rounds 1 ?_
  rw [rounds_succ]
  go_wp2_with fail
  go_ret
  exact ⟨rfl, HB4.out.alloc HB4.out.size _⟩
set_option maxHeartbeats 1600000 in
set_option maxRecDepth 100000 in
/-- after, where one file is shown. -/
theorem after_one {w w1 : World} {a n : Nat} {m : DM} {S : Nat → Prop} (h : DiskAt w1 a n m S) (hn : n < 1000) (hSl : ∀ b, S b → w.heap.size ≤ b) (hb : Below w.heap.size w w1) (kv : Value) (ks : List Int) (hk : IntsRd S w1 kv ks) (s d : ByteArray) (b0 c0 : Nat) (hw : w1.heap[b0]? = some (.cells #[.string s, .string d] 9 (0, 0))) (hbS : ¬ S b0) (h1 : ((m.crash ks).revive).namesOf = [s]) (h3 : ((m.crash ks).revive).datas = [d]) (h2 : ((m.crash ks).revive).off = false) :
    Calls Tryz.prog 32 #[.pointer (some ⟨a, 0, none⟩), kv, .slice (some ⟨b0, 0, none⟩) 2 c0] w1 fun e w' => e = .returned (.bool true) ∧ Below w.heap.size w w' := by
  have hcr := crash_any h kv ks hk (by omega)
  have hlt := h.lt
  have hbz := hb.size
  obtain ⟨kp, kcap, rfl, -⟩ := hk
  clear h
  go_enter Tryz.func32, Tryz.ntmps32
  go_wp2_with fail
  refine hcr.mono ?_
  rintro e w2 ⟨rfl, hp2⟩
  have HP2 := Lib.hid hp2
  have HB2 := Lib.hid (hb.trans (hp2.2.toBelow hSl hbz))
  clear hp2 hcr
  go_wp2_with fail
  refine (revive_any HP2.out.1).mono ?_
  rintro e w3 ⟨rfl, hp3⟩
  have HP3 := Lib.hid hp3
  have HB3 := Lib.hid (HB2.out.trans (hp3.2.toBelow (fun b hb2 => hb2.elim (hSl b) (fun h => by have := h.1; omega)) HB2.out.size))
  clear hp3
  go_wp2_with fail
  refine (shown_any HP3.out.1 (by omega) h2).mono ?_
  rintro e w4 ⟨v, u, rfl, hv, hu, hb4⟩
  have hv := hv.rd
  have hu := hu.rd
  have HB4 := Lib.hid (HB3.out.trans (hb4.mono HB3.out.size))
  rw [h1] at hv
  rw [h3] at hu
  obtain ⟨vp, vc, rfl, hv1⟩ := hv
  obtain ⟨up, uc, rfl, hu1⟩ := hu
  obtain ⟨vb, vo, rfl, hvl, cv⟩ := hv1 0 s rfl
  obtain ⟨ub, uo, rfl, hul, cu⟩ := hu1 0 d rfl
  rw [Nat.add_zero] at cv cu
  have hw2 := (HP2.out.2.block b0 (blk_lt hw) hbS).trans hw
  have hw3 := (HP3.out.2.block b0 (blk_lt hw2) (fun hg => hg.elim hbS (fun h => by have := blk_lt hw; have := h.1; omega))).trans hw2
  have hw4 := (hb4.block b0 (blk_lt hw3)).trans hw3
  have q0 : w4.cell? ⟨b0, 0, none⟩ = some (.string s) := cell_of_heapN hw4
  have q1 : w4.cell? ⟨b0, 1, none⟩ = some (.string d) := cell_of_heapN hw4
  have hq := blk_lt hw4
  clear hb4 hv1 hu1 hw2 hw3 hw4 hw
  go_wp2_with fail
  refine wp_loop_rounds 2 ?_
  rw [rounds_succ]
  go_wp2_with fail
  refine wp_region_tailD 23 mixedD (by kernel_rfl) ?_
  simp only [List.take_succ_cons, List.take_zero, List.drop_succ_cons, List.drop_zero]
  have hw0 : IntKind.i64.wrap 0 = 0 := by decide
  have hw1 : IntKind.i64.wrap 1 = 1 := by decide
  repeat still_step
  refine wpStill_nil ?_
  go_wp2_with fail
  rw [rounds_succ]
  go_wp2_with fail
  go_ret
  exact ⟨rfl, (HB4.out.alloc HB4.out.size _).drew⟩
end Go.Proofs.YtlcompihcmhbiaaGreatDoor
