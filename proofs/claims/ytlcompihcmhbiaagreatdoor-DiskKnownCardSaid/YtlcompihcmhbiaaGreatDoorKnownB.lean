/- Contract of struck: what is armed. -/
import Derived.Test.YtlcompihcmhbiaaGreatDoorKnownA
namespace Go.Proofs.YtlcompihcmhbiaaGreatDoor
open Go Go.RowKit Go.Maps Go.Shelf
theorem arm_m {w w1 : World} {a n : Nat} {m : DM} (h : Mine w w1 a n m) (x : Int) (kv : Value) (ks : List Int) (hk : IntsRd (fun b => w.heap.size ≤ b ∧ b < w1.heap.size) w1 kv ks) (hl : ks.length ≤ 1000) (hx : x ≤ 1000) {m' : DM} (he : m.arm x ks = m') :
    Calls Tryz.prog 23 #[.pointer (some ⟨a, 0, none⟩), .int .i64 x, .agg #[kv]] w1 fun e w' => e = .returned (.tuple #[]) ∧ Mine w w' a n m' :=
  (arm_any h.1 x kv ks hk (by omega) (by omega)).mono fun _ _ ⟨h1, h2⟩ => ⟨h1, he ▸ h.post h2⟩
/-- Numbers in a block of their own. -/
theorem ints_block {S : Nat → Prop} {w : World} {b : Nat} {ks : List Int} (h : w.heap[b]? = some (.cells (ks.map (Value.int .i64)).toArray 3 (0, 0))) (hk : ∀ k ∈ ks, -9223372036854775808 ≤ k ∧ k ≤ 9223372036854775807) (hl : ks.length ≤ 1000) : IntsRd S w (.slice (some ⟨b, 0, none⟩) ks.length ks.length) ks := by
  refine ⟨_, _, rfl, ⟨Nat.le_refl _, Nat.le_trans hl (by unfold maxLen; omega)⟩, fun j k hj => ⟨hk k (List.mem_of_getElem? hj), b, 0, rfl, ?_, blk_lt h, .inr ⟨_, _, h⟩⟩⟩
  rw [Nat.zero_add, cell_of_heapN h, ← Array.getElem?_toList, List.getElem?_map, hj]
  rfl
theorem arm_lit {w w1 : World} {a n : Nat} {m : DM} (h : Mine w w1 a n m) (x : Int) (ks : List Int) (hk : ∀ k ∈ ks, -9223372036854775808 ≤ k ∧ k ≤ 9223372036854775807) (hl : ks.length ≤ 1000) (hx : x ≤ 1000) {m' : DM} (he : m.arm x ks = m') :
    Calls Tryz.prog 23 #[.pointer (some ⟨a, 0, none⟩), .int .i64 x, .agg #[.slice (some ⟨w1.heap.size, 0, none⟩) ks.length ks.length]] (w1.alloc (.cells (ks.map (Value.int .i64)).toArray 3)) fun e w' => e = .returned (.tuple #[]) ∧ Mine w w' a n m' :=
  arm_m (h.below ((Below.refl _ w1).alloc (Nat.le_refl _) _)) x _ ks (ints_block (heap_new _ _) hk hl) hl hx he
theorem list_t {w w1 : World} {a n : Nat} {m : DM} (h : Mine w w1 a n m) (hn : n < 1000) (s : ByteArray) {l : List ByteArray} {v : Value} (he : m.lists s = l) (hv : errE (if m.off then 27 else 0) = v) :
    Calls Tryz.prog 11 #[.pointer (some ⟨a, 0, none⟩), .string s] w1 fun e w' => ∃ u, e = .returned (.tuple #[u, v]) ∧ (∃ p cap, u = .slice p l.length cap ∧ ∀ (i : Nat) (t : ByteArray), l[i]? = some t → ∃ b off, p = some ⟨b, off, none⟩ ∧ w1.heap.size ≤ b ∧ b < w'.heap.size ∧ w'.cell? ⟨b, off + i, none⟩ = some (.string t)) ∧
      DiskAt w' a n m (fun b => w.heap.size ≤ b ∧ b < w1.heap.size) ∧ Below w1.heap.size w1 w' := by
  refine (list_any h.1 s (by omega)).mono ?_
  rintro e w' ⟨u, rfl, hu, hb⟩
  rw [he] at hu
  refine ⟨u, by rw [hv], ?_, h.1.below hb, hb⟩
  rcases hu.2 with ⟨h1, h2⟩ | ⟨g, cap, cur, h1, h2, h3, h4, h5, h6, h7⟩
  · have : l = [] := List.eq_nil_of_length_eq_zero h2
    subst this
    exact ⟨none, 0, h1, fun i t ht => by cases ht⟩
  · refine ⟨some ⟨g, 0, none⟩, cap, h1, fun i t ht => ⟨g, 0, rfl, h2, blk_lt h3, ?_⟩⟩
    have hl := (List.getElem?_eq_some_iff.1 ht).1
    rw [Nat.zero_add, cell_of_heapN h3, ← Array.getElem?_toList]
    have e : (cur.toList.take (l.length * 1))[i]? = (l.map strV)[i]? := by rw [h7]
    rw [List.getElem?_take, if_pos (by omega), List.getElem?_map, ht] at e
    exact e
theorem Off.cellU {S : Nat → Prop} {w w' : World} (h : Off S w w') {b off : Nat} (hb : b < w.heap.size) (hS : ¬ S b) : w'.cell? ⟨b, off, none⟩ = w.cell? ⟨b, off, none⟩ := cell_of_heap (h.block b hb hS)
theorem mine_of {w w1 w' : World} {a n : Nat} {m : DM} {S : Nat → Prop} (hb : Below w.heap.size w w1) (hp : DiskPost a n m S w1 w') (hS : ∀ b, S b → w.heap.size ≤ b) : Mine w w' a n m := by
  have hz := hb.size
  refine ⟨hp.1.sup ?_ (fun b hb => hb.2), hb.trans (hp.2.toBelow hS hz)⟩
  rintro b (h1 | ⟨h1, h2⟩)
  · exact ⟨hS b h1, hp.1.lt b (.inl h1)⟩
  · exact ⟨by omega, h2⟩
def bX : ByteArray := ⟨#[120]⟩
def st0 : DM := DM.new 99
def st1 : DM := st0.arm 2 [1]
def st2 : DM := (st1.op (.create bA)).1
def st3 : DM := (st2.op (.create bA)).1
def st4 : DM := (st3.op (.write bA bX)).1
def st5 : DM := (st4.op .flush).1
def st6 : DM := (st5.op (.create ⟨#[]⟩)).1
def st7 : DM := (st6.revive.op (.write bA bXY)).1
def st8 : DM := st7.arm 1 []
def st9 : DM := (st8.op (.sync bB)).1
def st10 : DM := (st9.op (.sync bA)).1
def st11 : DM := st10.arm 1 [0, 1]
def st12 : DM := (st11.revive.op (.rename bA bB)).1
def st13 : DM := (st12.revive.arm 1 []).arm 0 []
def st14 : DM := (st13.op (.remove bA)).1
theorem se2 : st1.op (.create bA) = (st2, 0) := op_eq (by kernel_rfl)
theorem se3 : st2.op (.create bA) = (st3, 11) := op_eq (by kernel_rfl)
theorem se4 : st3.op (.write bA bX) = (st4, 27) := op_eq (by kernel_rfl)
theorem se5 : st4.op .flush = (st5, 27) := op_eq (by kernel_rfl)
theorem se6 : st5.op (.create ⟨#[]⟩) = (st6, 27) := op_eq (by kernel_rfl)
theorem sr6 : st6.revive.reads bA = (⟨#[]⟩, 0) := by kernel_rfl
theorem se7 : st6.revive.op (.write bA bXY) = (st7, 0) := op_eq (by kernel_rfl)
theorem se9 : st8.op (.sync bB) = (st9, 10) := op_eq (by kernel_rfl)
theorem se10 : st9.op (.sync bA) = (st10, 27) := op_eq (by kernel_rfl)
theorem sr11 : st11.revive.reads bA = (⟨#[]⟩, 0) := by kernel_rfl
theorem se12 : st11.revive.op (.rename bA bB) = (st12, 27) := op_eq (by kernel_rfl)
theorem sl12 : st12.revive.lists ⟨#[]⟩ = [⟨#[97]⟩] := by kernel_rfl
theorem se14 : st13.op (.remove bA) = (st14, 0) := op_eq (by kernel_rfl)
theorem su14 : st14.used = 0 := by kernel_rfl
set_option maxHeartbeats 3200000 in
set_option maxRecDepth 100000 in
theorem struck_any (w w0 : World) (hb0 : Below w.heap.size w w0) (hG : ErrT w) : Calls Tryz.prog 36 #[] w0 fun e w' => e = .returned (.bool true) ∧ Below w.heap.size w w' := by
  have HG := Lib.hid hG
  have HB0 := Lib.hid hb0
  clear hG hb0
  go_enter Tryz.func36, Tryz.ntmps36
  go_wp2_with fail
  refine (new_m w _ HB0.out 99 (by decide) (by decide)).mono ?_
  rintro e w1 ⟨a, rfl, hm⟩
  have M1 := Lib.hid hm
  clear hm
  go_wp2_with fail
  refine (arm_lit M1.out 2 [1] (by decide) (by decide) (by decide) (m' := st1) rfl).mono ?_
  rintro e w2 ⟨rfl, hm⟩
  have M2 := Lib.hid (hm)
  clear hm M1
  go_wp2_with fail
  refine (create_m M2.out (by decide) bA (by decide) (v := .nilIface) se2 rfl).mono ?_
  rintro e w3 ⟨rfl, hm⟩
  have M3 := Lib.hid (hm)
  clear hm M2
  go_wp2_with fail
  refine (create_m M3.out (by decide) bA (by decide) (v := errE 11) se3 rfl).mono ?_
  rintro e w4 ⟨rfl, hm⟩
  have M4 := Lib.hid (hm)
  clear hm M3
  go_wp2_with fail
  refine (plain_E 11 (.inr ⟨by decide, by decide⟩) 11 _ (HG.out.below M4.out.2 HG.out.2)).mono ?_
  rintro e w5 ⟨rfl, hm⟩
  have M5 := Lib.hid (M4.out.below hm)
  clear hm M4
  go_wp2_with fail
  refine (write_m M5.out (by decide) bA bX (by decide) (by decide) (v := errE 27) se4 rfl).mono ?_
  rintro e w6 ⟨rfl, hm⟩
  have M6 := Lib.hid (hm)
  clear hm M5
  go_wp2_with fail
  refine (plain_E 27 (.inr ⟨by decide, by decide⟩) 27 _ (HG.out.below M6.out.2 HG.out.2)).mono ?_
  rintro e w7 ⟨rfl, hm⟩
  have M7 := Lib.hid (M6.out.below hm)
  clear hm M6
  go_wp2_with fail
  refine (flush_m M7.out (by decide)   (v := errE 27) se5 rfl).mono ?_
  rintro e w8 ⟨rfl, hm⟩
  have M8 := Lib.hid (hm)
  clear hm M7
  go_wp2_with fail
  refine (plain_E 27 (.inr ⟨by decide, by decide⟩) 27 _ (HG.out.below M8.out.2 HG.out.2)).mono ?_
  rintro e w9 ⟨rfl, hm⟩
  have M9 := Lib.hid (M8.out.below hm)
  clear hm M8
  go_wp2_with fail
  refine (create_m M9.out (by decide) ⟨#[]⟩ (by decide) (v := errE 27) se6 rfl).mono ?_
  rintro e w10 ⟨rfl, hm⟩
  have M10 := Lib.hid (hm)
  clear hm M9
  go_wp2_with fail
  refine (plain_E 27 (.inr ⟨by decide, by decide⟩) 27 _ (HG.out.below M10.out.2 HG.out.2)).mono ?_
  rintro e w11 ⟨rfl, hm⟩
  have M11 := Lib.hid (M10.out.below hm)
  clear hm M10
  go_wp2_with fail
  refine (revive_m M11.out).mono ?_
  rintro e w12 ⟨rfl, hm⟩
  have M12 := Lib.hid (hm)
  clear hm M11
  go_wp2_with fail
  refine (read_m M12.out bA (by decide) (v := .nilIface) sr6 rfl).mono ?_
  rintro e w13 ⟨rfl, hw⟩
  subst hw
  go_wp2_with fail
  refine (write_m M12.out (by decide) bA bXY (by decide) (by decide) (v := .nilIface) se7 rfl).mono ?_
  rintro e w13 ⟨rfl, hm⟩
  have M13 := Lib.hid (hm)
  clear hm M12
  go_wp2_with fail
  refine (arm_m M13.out 1 _ [] (ints_none _ _) (by decide) (by decide) (m' := st8) rfl).mono ?_
  rintro e w14 ⟨rfl, hm⟩
  have M14 := Lib.hid (hm)
  clear hm M13
  go_wp2_with fail
  refine (sync_m M14.out (by decide) bB (by decide) (v := errE 10) se9 rfl).mono ?_
  rintro e w15 ⟨rfl, hm⟩
  have M15 := Lib.hid (hm)
  clear hm M14
  go_wp2_with fail
  refine (plain_E 10 (.inr ⟨by decide, by decide⟩) 10 _ (HG.out.below M15.out.2 HG.out.2)).mono ?_
  rintro e w16 ⟨rfl, hm⟩
  have M16 := Lib.hid (M15.out.below hm)
  clear hm M15
  go_wp2_with fail
  refine (sync_m M16.out (by decide) bA (by decide) (v := errE 27) se10 rfl).mono ?_
  rintro e w17 ⟨rfl, hm⟩
  have M17 := Lib.hid (hm)
  clear hm M16
  go_wp2_with fail
  refine (plain_E 27 (.inr ⟨by decide, by decide⟩) 27 _ (HG.out.below M17.out.2 HG.out.2)).mono ?_
  rintro e w18 ⟨rfl, hm⟩
  have M18 := Lib.hid (M17.out.below hm)
  clear hm M17
  go_wp2_with fail
  refine (arm_lit M18.out 1 [0, 1] (by decide) (by decide) (by decide) (m' := st11) rfl).mono ?_
  rintro e w19 ⟨rfl, hm⟩
  have M19 := Lib.hid (hm)
  clear hm M18
  go_wp2_with fail
  refine (revive_m M19.out).mono ?_
  rintro e w20 ⟨rfl, hm⟩
  have M20 := Lib.hid (hm)
  clear hm M19
  go_wp2_with fail
  refine (read_m M20.out bA (by decide) (v := .nilIface) sr11 rfl).mono ?_
  rintro e w21 ⟨rfl, hw⟩
  subst hw
  go_wp2_with fail
  refine (rename_m M20.out (by decide) bA bB (by decide) (by decide) (v := errE 27) se12 rfl).mono ?_
  rintro e w21 ⟨rfl, hm⟩
  have M21 := Lib.hid (hm)
  clear hm M20
  go_wp2_with fail
  refine (plain_E 27 (.inr ⟨by decide, by decide⟩) 27 _ (HG.out.below M21.out.2 HG.out.2)).mono ?_
  rintro e w22 ⟨rfl, hm⟩
  have M22 := Lib.hid (M21.out.below hm)
  clear hm M21
  go_wp2_with fail
  refine (revive_m M22.out).mono ?_
  rintro e w23 ⟨rfl, hm⟩
  have M23 := Lib.hid (hm)
  clear hm M22
  go_wp2_with fail
  refine (list_t M23.out (by decide) ⟨#[]⟩ (v := .nilIface) sl12 rfl).mono ?_
  rintro e w24 ⟨u, rfl, hu, hd, hb⟩
  obtain ⟨up, uc, rfl, hu1⟩ := hu
  obtain ⟨ub, uo, rfl, hub, hub2, huc⟩ := hu1 0 ⟨#[97]⟩ rfl
  rw [Nat.add_zero] at huc
  have hwb := M23.out.2
  have HW24 := Lib.hid (hwb.trans (hb.mono hwb.size))
  have HD24 := Lib.hid hd
  have HUC := Lib.hid huc
  clear hd hwb hb hu1 huc M23
  go_wp2_with fail
  refine (arm_any HD24.out 1 _ [] (ints_none _ _) (by decide) (by decide)).mono ?_
  rintro e w25 ⟨rfl, hp⟩
  have HD25 := Lib.hid hp.1
  have HW25 := Lib.hid (HW24.out.trans (hp.2.toBelow (fun i hi => hi.1) HW24.out.size))
  have HUC2 := Lib.hid ((hp.2.cellU hub2 (show ¬ (w.heap.size ≤ ub ∧ ub < w23.heap.size) by omega)).trans HUC.out)
  have hub3 : ub < w25.heap.size := Nat.lt_of_lt_of_le hub2 hp.2.size
  have hS25 : ¬ grow (fun b => w.heap.size ≤ b ∧ b < w23.heap.size) w24 w25 ub := by
    rintro (h | h)
    · exact absurd h.2 (by omega)
    · exact absurd h.1 (by omega)
  have HW24s := HW24.out.size
  clear hp HUC HW24
  go_wp2_with fail
  refine (arm_any HD25.out 0 _ [] (ints_none _ _) (by decide) (by decide)).mono ?_
  rintro e w26 ⟨rfl, hp⟩
  have huc : w26.cell? ⟨ub, uo, none⟩ = some (.string ⟨#[97]⟩) := (hp.2.cellU hub3 hS25).trans HUC2.out
  have M26 := Lib.hid (show Mine w w26 a _ st13 from mine_of HW25.out hp (fun b hb => hb.elim (fun h => h.1) (fun h => Nat.le_trans HW24s h.1)))
  clear hp HD25 HD24 HW25
  go_wp2_with fail
  refine (remove_m M26.out (by decide) bA (by decide) (v := .nilIface) se14 rfl).mono ?_
  rintro e w27 ⟨rfl, hm⟩
  have M27 := Lib.hid hm
  clear hm M26
  go_wp2_with fail
  refine (used_m M27.out (by decide) su14).mono ?_
  rintro e w28 ⟨rfl, hm⟩
  have M28 := Lib.hid hm
  clear hm M27
  go_wp2_with fail
  go_ret
  exact ⟨rfl, M28.out.2⟩
end Go.Proofs.YtlcompihcmhbiaaGreatDoor
