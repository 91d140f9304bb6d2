/- Contracts of same, and of works: what each law of the chapter asks first. -/
import Derived.Test.YtlcompihcmhbiaaGreatDoorShown
import Derived.Test.YtlcompihcmhbiaaGreatDoorDmLaw
namespace Go.Proofs.YtlcompihcmhbiaaGreatDoor
open Go Go.RowKit Go.Maps Go.Shelf
set_option maxHeartbeats 1600000 in
set_option maxRecDepth 100000 in
theorem same_any (w : World) (v1 u1 v2 u2 : Value) (n1 d1 n2 d2 : List ByteArray) (hv1 : TextsRd w v1 n1) (hu1 : TextsRd w u1 d1) (hv2 : TextsRd w v2 n2) (hu2 : TextsRd w u2 d2) (hn : n1.length ≤ 8000000000000) (hd : d1.length ≤ 8000000000000) :
    Calls Tryz.prog 17 #[.agg #[v1, u1], .agg #[v2, u2]] w fun e w' => e = .returned (.bool (sameT n1 n2 && sameT d1 d2)) ∧ Below w.heap.size w w' := by
  have k1 := fun (W : World) (hb : Below w.heap.size w W) => same_texts W v1 v2 n1 n2 (hv1.below hb) (hv2.below hb) hn
  have k2 := fun (W : World) (hb : Below w.heap.size w W) => same_texts W u1 u2 d1 d2 (hu1.below hb) (hu2.below hb) hd
  clear hv1 hu1 hv2 hu2
  obtain ⟨hbb, hz, g0, g1⟩ := box2 w (.cells #[v1, u1] 43) (.cells #[v2, u2] 43)
  generalize sameT n1 n2 = x at k1 ⊢
  generalize sameT d1 d2 = y at k2 ⊢
  have kk1 := k1 _ hbb
  have hmid : ∀ W, Below ((w.alloc (.cells #[v1, u1] 43)).alloc (.cells #[v2, u2] 43)).heap.size ((w.alloc (.cells #[v1, u1] 43)).alloc (.cells #[v2, u2] 43)) W → W.cell? ⟨w.heap.size, 1, none⟩ = some u1 ∧ W.cell? ⟨w.heap.size + 1, 1, none⟩ = some u2 ∧ Hid (Below w.heap.size w W) := fun W hb =>
    ⟨cell_of_heapN (box_below g0 hb), cell_of_heapN (box_below g1 hb), Lib.hid (hbb.trans (hb.mono (by omega)))⟩
  have HM := Lib.hid hmid
  clear hmid hbb hz g0 g1 k1
  cases x <;> cases y
  all_goals
    go_enter Tryz.func17, Tryz.ntmps17
    go_wp2_with fail
    refine kk1.mono ?_
    rintro e w3 ⟨rfl, hb⟩
    obtain ⟨q0, q1, HB⟩ := HM.out w3 hb
    clear hb
    go_wp2_with (go_at_call 49; refine (k2 _ HB.out).mono ?_; rintro e w4 ⟨rfl, hb⟩; have HB4 := Lib.hid (HB.out.trans (hb.mono HB.out.size)); clear hb)
    go_ret
    exact ⟨rfl, by first | exact HB4.out | exact HB.out⟩
/-- A disk of the call's own. -/
def Mine (w w' : World) (a n : Nat) (m : DM) : Prop := DiskAt w' a n m (fun b => w.heap.size ≤ b ∧ b < w'.heap.size) ∧ Below w.heap.size w w'
theorem Mine.post {w w1 w' : World} {a n n' : Nat} {m m' : DM} (h : Mine w w1 a n m) (hp : DiskPost a n' m' (fun b => w.heap.size ≤ b ∧ b < w1.heap.size) w1 w') : Mine w w' a n' m' := by
  have hz := h.2.size
  have hz2 := hp.2.size
  refine ⟨hp.1.sup ?_ (fun b hb => hb.2), h.2.trans (hp.2.toBelow (fun i hi => hi.1) hz)⟩
  rintro b (⟨h1, h2⟩ | ⟨h1, h2⟩)
  · exact ⟨h1, by omega⟩
  · exact ⟨by omega, h2⟩
theorem Mine.below {w w1 w' : World} {a n : Nat} {m : DM} (h : Mine w w1 a n m) (hb : Below w1.heap.size w1 w') : Mine w w' a n m := h.post (DiskPost.still h.1 hb)
theorem Mine.drews {w w1 : World} {a n q : Nat} {m : DM} (h : Mine w w1 a n m) : Mine w (w1.drewN q) a n m := ⟨h.1.frame (fun _ _ => rfl) (Nat.le_refl _), ⟨h.2.os, h.2.tape, h.2.output, h.2.size, h.2.block⟩⟩
def small (s : ByteArray) : Prop := s.size ≤ 140737488355328
theorem small_max {s : ByteArray} (h : small s) : s.size ≤ maxLen := Nat.le_trans h (by unfold maxLen; omega)
section
variable {w w1 : World} {a n : Nat} {m : DM}
theorem create_m (h : Mine w w1 a n m) (hn : n < 1000) (s : ByteArray) (hs : s.size ≤ 1000) {m' : DM} {x : Int} {v : Value} (he : m.op (.create s) = (m', x)) (hv : errE x = v) :
    Calls Tryz.prog 27 #[.pointer (some ⟨a, 0, none⟩), .string s] w1 fun e w' => e = .returned v ∧ Mine w w' a (n + 1) m' := by
  refine (create_any h.1 s (small_max (show s.size ≤ _ by omega)) (by omega)).mono ?_
  intro e w' hp
  have h1 := hp.2
  rw [he] at h1
  exact ⟨by rw [hp.1, he, hv], h.post h1⟩
theorem write_m (h : Mine w w1 a n m) (hn : n < 1000) (s d : ByteArray) (hs : s.size ≤ 1000) (hd : d.size ≤ 1000) {m' : DM} {x : Int} {v : Value} (he : m.op (.write s d) = (m', x)) (hv : errE x = v) :
    Calls Tryz.prog 28 #[.pointer (some ⟨a, 0, none⟩), .string s, .string d] w1 fun e w' => e = .returned v ∧ Mine w w' a (n + 1) m' := by
  have hr := h.1.ok.room
  refine (write_any h.1 s d (small_max (show s.size ≤ _ by omega)) (show d.size ≤ _ by omega) (Nat.le_trans (Nat.mul_le_mul (Nat.le_of_lt hn) hr) (by decide)) (by omega)).mono ?_
  intro e w' hp
  have h1 := hp.2
  rw [he] at h1
  exact ⟨by rw [hp.1, he, hv], h.post h1⟩
theorem sync_m (h : Mine w w1 a n m) (hn : n < 1000) (s : ByteArray) (hs : s.size ≤ 1000) {m' : DM} {x : Int} {v : Value} (he : m.op (.sync s) = (m', x)) (hv : errE x = v) :
    Calls Tryz.prog 12 #[.pointer (some ⟨a, 0, none⟩), .string s] w1 fun e w' => e = .returned v ∧ Mine w w' a (n + 1) m' := by
  refine (sync_any h.1 s (small_max (show s.size ≤ _ by omega)) (by omega)).mono ?_
  intro e w' hp
  have h1 := hp.2
  rw [he] at h1
  exact ⟨by rw [hp.1, he, hv], h.post h1⟩
theorem remove_m (h : Mine w w1 a n m) (hn : n < 1000) (s : ByteArray) (hs : s.size ≤ 1000) {m' : DM} {x : Int} {v : Value} (he : m.op (.remove s) = (m', x)) (hv : errE x = v) :
    Calls Tryz.prog 31 #[.pointer (some ⟨a, 0, none⟩), .string s] w1 fun e w' => e = .returned v ∧ Mine w w' a (n + 1) m' := by
  refine (remove_any h.1 s (small_max (show s.size ≤ _ by omega)) (by omega)).mono ?_
  intro e w' hp
  have h1 := hp.2
  rw [he] at h1
  exact ⟨by rw [hp.1, he, hv], h.post h1⟩
theorem rename_m (h : Mine w w1 a n m) (hn : n < 1000) (o s : ByteArray) (ho : o.size ≤ 1000) (hs : s.size ≤ 1000) {m' : DM} {x : Int} {v : Value} (he : m.op (.rename o s) = (m', x)) (hv : errE x = v) :
    Calls Tryz.prog 30 #[.pointer (some ⟨a, 0, none⟩), .string o, .string s] w1 fun e w' => e = .returned v ∧ Mine w w' a (n + 1) m' := by
  refine (rename_any h.1 o s (small_max (show o.size ≤ _ by omega)) (small_max (show s.size ≤ _ by omega)) (by omega)).mono ?_
  intro e w' hp
  have h1 := hp.2
  rw [he] at h1
  exact ⟨by rw [hp.1, he, hv], h.post h1⟩
theorem flush_m (h : Mine w w1 a n m) (hn : n < 1000) {m' : DM} {x : Int} {v : Value} (he : m.op .flush = (m', x)) (hv : errE x = v) :
    Calls Tryz.prog 13 #[.pointer (some ⟨a, 0, none⟩)] w1 fun e w' => e = .returned v ∧ Mine w w' a (n + 1) m' := by
  refine (flush_any h.1 (by omega)).mono ?_
  intro e w' hp
  have h1 := hp.2
  rw [he] at h1
  exact ⟨by rw [hp.1, he, hv], h.post h1⟩
theorem read_m (h : Mine w w1 a n m) (s : ByteArray) (hs : s.size ≤ 1000) {d : ByteArray} {x : Int} {v : Value} (he : m.reads s = (d, x)) (hv : errE x = v) :
    Calls Tryz.prog 18 #[.pointer (some ⟨a, 0, none⟩), .string s] w1 fun e w' => e = .returned (.tuple #[.string d, v]) ∧ w1 = w' := by
  refine (read_any h.1 s (small_max (show s.size ≤ _ by omega))).mono ?_
  rintro e w' ⟨rfl, hw⟩
  exact ⟨by rw [he, ← hv], hw⟩
theorem used_m (h : Mine w w1 a n m) (hn : n < 1000) {x : Nat} (he : m.used = x) :
    Calls Tryz.prog 26 #[.pointer (some ⟨a, 0, none⟩)] w1 fun e w' => e = .returned (.int .i64 x) ∧ Mine w w' a n m := by
  have hr := h.1.ok.room
  refine (used_any h.1 (Nat.le_trans (Nat.mul_le_mul (Nat.le_of_lt hn) hr) (by decide))).mono ?_
  rintro e w' ⟨rfl, hb⟩
  exact ⟨by rw [he], h.below hb⟩
theorem list_m (h : Mine w w1 a n m) (hn : n < 1000) (s : ByteArray) {l : List ByteArray} {v : Value} (he : m.lists s = l) (hv : errE (if m.off then 27 else 0) = v) :
    Calls Tryz.prog 11 #[.pointer (some ⟨a, 0, none⟩), .string s] w1 fun e w' => ∃ u, e = .returned (.tuple #[u, v]) ∧ OwnTexts w1.heap.size w' u l ∧ Mine w w' a n m := by
  refine (list_any h.1 s (by omega)).mono ?_
  rintro e w' ⟨u, rfl, hu, hb⟩
  rw [he] at hu
  exact ⟨u, by rw [hv], hu, h.below hb⟩
theorem revive_m (h : Mine w w1 a n m) : Calls Tryz.prog 16 #[.pointer (some ⟨a, 0, none⟩)] w1 fun e w' => e = .returned (.tuple #[]) ∧ Mine w w' a n m.revive :=
  (revive_any h.1).mono fun _ _ ⟨h1, h2⟩ => ⟨h1, h.post h2⟩
theorem crash_m (h : Mine w w1 a n m) (hn : n < 1000) (kv : Value) (ks : List Int) (hk : IntsRd (fun b => w.heap.size ≤ b ∧ b < w1.heap.size) w1 kv ks) : Calls Tryz.prog 15 #[.pointer (some ⟨a, 0, none⟩), .agg #[kv]] w1 fun e w' => e = .returned (.tuple #[]) ∧ Mine w w' a n (m.crash ks) :=
  (crash_any h.1 kv ks hk (by omega)).mono fun _ _ ⟨h1, h2⟩ => ⟨h1, h.post h2⟩
end
theorem ints_none (S : Nat → Prop) (w : World) : IntsRd S w (.slice none 0 0) [] := ⟨none, 0, rfl, ⟨Nat.le_refl _, Nat.zero_le _⟩, fun j k hj => by cases hj⟩
theorem new_m (w w1 : World) (hb : Below w.heap.size w w1) (r : Int) (h1 : -9223372036854775808 ≤ r) (h2 : r ≤ 9223372036854775807) : Calls Tryz.prog 8 #[.int .i64 r] w1 fun e w' => ∃ a, e = .returned (.pointer (some ⟨a, 0, none⟩)) ∧ Mine w w' a 0 (DM.new r) := by
  refine (new_any w1 r h1 h2).mono ?_
  rintro e w' ⟨a, rfl, hd, hb2⟩
  have hz := hb.size
  exact ⟨a, rfl, hd.sup (fun b hb3 => ⟨by omega, hb3.2⟩) (fun b hb3 => hb3.2), hb.trans (hb2.mono hz)⟩
def bA : ByteArray := ⟨#[97]⟩
def bB : ByteArray := ⟨#[98]⟩
def bXY : ByteArray := ⟨#[120, 121]⟩
def bZ : ByteArray := ⟨#[122]⟩
def wm0 : DM := DM.new 9
def wm1 : DM := (wm0.op (.create bA)).1
def wm2 : DM := (wm1.op (.create bA)).1
def wm3 : DM := (wm2.op (.write bA bXY)).1
def wm4 : DM := (wm3.op (.sync bA)).1
def wm5 : DM := (wm4.op .flush).1
def wm6 : DM := (wm5.op (.write bA bZ)).1
def wm7 : DM := (wm6.op (.create bB)).1
def wm8 : DM := wm7.crash []
theorem op_eq {m : DM} {c : DCall} {x : Int} (h : (m.op c).2 = x) : m.op c = ((m.op c).1, x) := by rw [← h]
theorem we1 : wm0.op (.create bA) = (wm1, 0) := op_eq (by kernel_rfl)
theorem we2 : wm1.op (.create bA) = (wm2, 11) := op_eq (by kernel_rfl)
theorem we3 : wm2.op (.write bA bXY) = (wm3, 0) := op_eq (by kernel_rfl)
theorem we4 : wm3.op (.sync bA) = (wm4, 0) := op_eq (by kernel_rfl)
theorem we5 : wm4.op .flush = (wm5, 0) := op_eq (by kernel_rfl)
theorem we6 : wm5.op (.write bA bZ) = (wm6, 0) := op_eq (by kernel_rfl)
theorem we7 : wm6.op (.create bB) = (wm7, 0) := op_eq (by kernel_rfl)
theorem wu7 : wm7.used = 3 := by kernel_rfl
theorem wr8 : wm8.reads bA = (⟨#[]⟩, 27) := by kernel_rfl
theorem wr9 : wm8.revive.reads bA = (⟨#[120, 121]⟩, 0) := by kernel_rfl
theorem wl9 : wm8.revive.lists ⟨#[]⟩ = [⟨#[97]⟩] := by kernel_rfl
set_option maxHeartbeats 3200000 in
set_option maxRecDepth 100000 in
theorem works_any (w : World) (hG : ErrT w) : Calls Tryz.prog 9 #[] w fun e w' => e = .returned (.bool true) ∧ Below w.heap.size w w' := by
  have HG := Lib.hid hG
  clear hG
  go_enter Tryz.func9, Tryz.ntmps9
  go_wp2_with fail
  refine (new_m w _ (Below.refl _ _) 9 (by decide) (by decide)).mono ?_
  rintro e w1 ⟨a, rfl, hm⟩
  have M1 := Lib.hid hm
  clear hm
  go_wp2_with fail
  refine (create_m M1.out (by decide) bA (by decide) (v := .nilIface) we1 rfl).mono ?_
  rintro e w2 ⟨rfl, hm⟩
  have M2 := Lib.hid hm
  clear hm M1
  go_wp2_with fail
  refine (create_m M2.out (by decide) bA (by decide) (v := errE 11) we2 rfl).mono ?_
  rintro e w3 ⟨rfl, hm⟩
  have M3 := Lib.hid hm
  clear hm M2
  go_wp2_with fail
  refine (plain_E 11 (.inr ⟨by decide, by decide⟩) 11 _ (HG.out.below M3.out.2 HG.out.2)).mono ?_
  rintro e w4 ⟨rfl, hb⟩
  have M4 := Lib.hid (M3.out.below hb)
  clear hb M3
  go_wp2_with fail
  refine (write_m M4.out (by decide) bA bXY (by decide) (by decide) (v := .nilIface) we3 rfl).mono ?_
  rintro e w5 ⟨rfl, hm⟩
  have M5 := Lib.hid hm
  clear hm M4
  go_wp2_with fail
  refine (sync_m M5.out (by decide) bA (by decide) (v := .nilIface) we4 rfl).mono ?_
  rintro e w6 ⟨rfl, hm⟩
  have M6 := Lib.hid hm
  clear hm M5
  go_wp2_with fail
  refine (flush_m M6.out (by decide) (v := .nilIface) we5 rfl).mono ?_
  rintro e w7 ⟨rfl, hm⟩
  have M7 := Lib.hid hm
  clear hm M6
  go_wp2_with fail
  refine (write_m M7.out (by decide) bA bZ (by decide) (by decide) (v := .nilIface) we6 rfl).mono ?_
  rintro e w8 ⟨rfl, hm⟩
  have M8 := Lib.hid hm
  clear hm M7
  go_wp2_with fail
  refine (create_m M8.out (by decide) bB (by decide) (v := .nilIface) we7 rfl).mono ?_
  rintro e w9 ⟨rfl, hm⟩
  have M9 := Lib.hid hm
  clear hm M8
  go_wp2_with fail
  refine (used_m M9.out (by decide) wu7).mono ?_
  rintro e w10 ⟨rfl, hm⟩
  have M10 := Lib.hid hm
  clear hm M9
  go_wp2_with fail
  refine (crash_m M10.out (by decide) (.slice none 0 0) [] (ints_none _ _)).mono ?_
  rintro e w11 ⟨rfl, hm⟩
  have M11 := Lib.hid (show Mine w w11 a _ wm8 from hm)
  clear hm M10
  go_wp2_with fail
  refine (read_m M11.out bA (by decide) (v := errE 27) wr8 rfl).mono ?_
  rintro e w12 ⟨rfl, hw⟩
  subst hw
  go_wp2_with fail
  refine (revive_m M11.out).mono ?_
  rintro e w12 ⟨rfl, hm⟩
  have M12 := Lib.hid hm
  clear hm M11
  go_wp2_with fail
  refine (read_m M12.out bA (by decide) (v := .nilIface) wr9 rfl).mono ?_
  rintro e w13 ⟨rfl, hw⟩
  subst hw
  go_wp2_with fail
  refine (list_m M12.out (by decide) ⟨#[]⟩ (v := .nilIface) wl9 rfl).mono ?_
  rintro e w13 ⟨u, rfl, hu, hm⟩
  have M13 := Lib.hid hm
  obtain ⟨up, uc, rfl, hu1⟩ := hu.rd
  obtain ⟨ub, uo, rfl, hub, huc⟩ := hu1 0 ⟨#[97]⟩ rfl
  rw [Nat.add_zero] at huc
  have HUC := Lib.hid huc
  clear hm M12 hu hu1 huc
  go_wp2_with fail
  refine (plain_E 27 (.inr ⟨by decide, by decide⟩) 27 _ (HG.out.below M13.out.2 HG.out.2)).mono ?_
  rintro e w14 ⟨rfl, hb⟩
  have M14 := Lib.hid (M13.out.below hb)
  have huc : w14.cell? ⟨ub, uo, none⟩ = some (.string ⟨#[97]⟩) := (hb.cell (p := ⟨ub, uo, none⟩) hub).trans HUC.out
  clear hb M13 HUC
  go_wp2_with fail
  go_ret
  exact ⟨rfl, M14.out.2⟩
end Go.Proofs.YtlcompihcmhbiaaGreatDoor
