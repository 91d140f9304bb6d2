/- Contracts of New, Arm and Crash. -/
import Derived.Test.YtlcompihcmhbiaaGreatDoorMeth
namespace Go.Proofs.YtlcompihcmhbiaaGreatDoor
open Go Go.RowKit Go.Maps Go.Shelf
def DM.arm (m : DM) (n : Int) (ks : List Int) : DM := { m with armed := max n 0, keep := ks }
/-- slices.Clone of numbers. -/
theorem clone_ints {S : Nat → Prop} {w : World} {kv : Value} {ks : List Int} (h : IntsRd S w kv ks) (hl : ks.length * 8 ≤ 140737488355328) :
    Calls Tryz.prog 61 #[kv] w fun e w' => ∃ v, e = .returned v ∧ w'.ownsRow w.heap.size 3 1 v ks.length (ks.map (Value.int .i64)) ∧ Below w.heap.size w w' := by
  obtain ⟨p, cap, rfl, ⟨h1, h2⟩, h3⟩ := h
  cases p with
  | none =>
    have hk : ks = [] := by
      cases ks with
      | nil => rfl
      | cons k r => obtain ⟨_, b, off, e, _⟩ := h3 0 k rfl; cases e
    subst hk
    refine (Tryz.slices_Clone_int_nil 0 cap w).mono ?_
    rintro e w' ⟨rfl, rfl⟩
    exact ⟨_, rfl, ⟨rfl, .inl ⟨rfl, rfl⟩⟩, Below.refl _ _⟩
  | some ad =>
    cases hk : ks with
    | nil =>
      subst hk
      refine (Tryz.slices_Clone_int_zero ad cap w).mono ?_
      rintro e w' ⟨v, rfl, hr, -, hb⟩
      exact ⟨v, rfl, hr, hb⟩
    | cons k r =>
      obtain ⟨-, b, off, e, -, -⟩ := h3 0 k (by rw [hk]; rfl)
      cases e
      rw [← hk]
      refine (Tryz.slices_Clone_int b off ks.length cap ks w (Nat.le_refl _) hl (fun j hj => ?_)).mono ?_
      · obtain ⟨-, b', off', e, hc, -⟩ := h3 j (ks.getD j 0) (by rw [List.getD_eq_getElem?_getD, List.getElem?_eq_getElem hj]; rfl)
        cases e
        exact hc
      · rintro e w' ⟨v, rfl, hr, -, hb⟩
        rw [List.take_length] at hr
        exact ⟨v, rfl, hr, hb⟩
theorem arm_end {w wc : World} {a n : Nat} {m : DM} {S : Nat → Prop} {bn bs : Nat} {pv fv v : Value} {loc : Nat → Nat} {x : Int} {ks : List Int} (h : DiskIn w a n m S bn bs pv fv loc) (hb : Below w.heap.size w wc) (hr : wc.ownsRow w.heap.size 3 1 v ks.length (ks.map (Value.int .i64))) (hx : x ≤ 9223372036854775807) (hk : ∀ k ∈ ks, -9223372036854775808 ≤ k ∧ k ≤ 9223372036854775807) :
    DiskPost a n (m.arm x ks) S w ((wc.setCell ⟨a, 5, none⟩ (.int .i64 (max x 0))).setCell ⟨a, 6, none⟩ v) := by
  have ha := blk_lt h.head
  have hz := hb.size
  have hha : wc.heap[a]? = some (.cells (diskV m bn bs pv fv) 77 (0, 0)) := (hb.block a ha).trans h.head
  have e1 : (wc.setCell ⟨a, 5, none⟩ (.int .i64 (max x 0))).setCell ⟨a, 6, none⟩ v = setBlk wc a (.cells (diskV (m.arm x ks) bn bs pv v) 77 (0, 0)) := by
    rw [setCell_blk hha]
    simp only [setBlk_setCell (blk_lt hha)]
    rfl
  rw [e1]
  have hsz : (setBlk wc a (.cells (diskV (m.arm x ks) bn bs pv v) 77 (0, 0))).heap.size = wc.heap.size := setBlk_size
  have h2 := h.frame (w' := wc) (fun b hS => hb.block b (h.lt b hS)) hz
  have hS' : ∀ b, grow S w (setBlk wc a (.cells (diskV (m.arm x ks) bn bs pv v) 77 (0, 0))) b → b < wc.heap.size := fun b hb2 => by
    rcases hb2 with hb2 | ⟨_, hb2⟩
    · have := h.lt b hb2; omega
    · rw [hsz] at hb2; exact hb2
  have h3 := h2.bigger (S' := grow S w (setBlk wc a (.cells (diskV (m.arm x ks) bn bs pv v) 77 (0, 0)))) grow_sub hS'
  have hk3 : ∀ b, b ≠ a → grow S w (setBlk wc a (.cells (diskV (m.arm x ks) bn bs pv v) 77 (0, 0))) b → (setBlk wc a (.cells (diskV (m.arm x ks) bn bs pv v) 77 (0, 0))).heap[b]? = wc.heap[b]? := fun b hn _ => setBlk_other hn
  refine ⟨⟨bn, bs, pv, v, loc, h3.other (m' := m.arm x ks) hk3 (setBlk_heap (by omega)) (by rw [hsz]; exact Nat.le_refl _) rfl rfl rfl (h3.pendO hk3) ⟨?_, ?_⟩ { h.ok with arm0 := by show 0 ≤ max x 0; omega, arm1 := by show max x 0 ≤ _; omega, keepI := hk }⟩, ((Off.refl S w).below hb (Nat.le_refl _)).setBlk (fun _ => h.sa)⟩
  · have hr0 : wc.ownsRow 0 3 1 v ks.length (ks.map (Value.int .i64)) := by
      refine ⟨hr.1, ?_⟩
      rcases hr.2 with h4 | ⟨g, cap, cur, e, h5, h6⟩
      · exact .inl h4
      · exact .inr ⟨g, cap, cur, e, Nat.zero_le _, h6⟩
    exact row_keep (S := fun _ => True) hr0 (fun _ _ => trivial) (fun b cs _ hc => setBlk_other (ne_blk hha hc (cells_ne (by decide))))
  · intro b hb2
    rcases hr.2 with ⟨rfl, _⟩ | ⟨g, cap, cur, rfl, h5, h6, _⟩
    · cases hb2
    · cases hb2
      exact .inr ⟨h5, by rw [hsz]; exact blk_lt h6⟩
set_option maxHeartbeats 1600000 in
set_option maxRecDepth 100000 in
theorem arm_any {w : World} {a n : Nat} {m : DM} {S : Nat → Prop} (h : DiskAt w a n m S) (x : Int) (kv : Value) (ks : List Int) (hk : IntsRd S w kv ks) (hl : ks.length * 8 ≤ 140737488355328) (hx : x ≤ 9223372036854775807) :
    Calls Tryz.prog 23 #[.pointer (some ⟨a, 0, none⟩), .int .i64 x, .agg #[kv]] w fun e w' => e = .returned (.tuple #[]) ∧ DiskPost a n (m.arm x ks) S w w' := by
  have hcl := fun (w1 : World) (hb : Below w.heap.size w w1) => clone_ints (hk.keep (S' := S) hb.size (fun _ x _ => x) (fun b hb2 _ => hb.block b hb2)) hl
  have hki : ∀ k ∈ ks, -9223372036854775808 ≤ k ∧ k ≤ 9223372036854775807 := fun k hkm => by
    obtain ⟨p, cap, _, _, h3⟩ := hk
    obtain ⟨j, hj⟩ := List.getElem?_of_mem hkm
    exact (h3 j k hj).1
  obtain ⟨bn, bs, pv, fv, loc, h⟩ := h
  obtain ⟨-, -, -, -, -, c5, c6⟩ := h.cells
  have H := Lib.hid h
  have HK := Lib.hid hki
  clear h hk hki
  go_enter Tryz.func23, Tryz.ntmps23
  go_wp2_with fail
  refine (hcl _ ((Below.refl _ w).alloc (Nat.le_refl _) _)).mono ?_
  rintro e wc ⟨v, rfl, hr, hb⟩
  rw [World.size_alloc] at hb hr
  have hb' : Below w.heap.size w wc := ((Below.refl _ w).alloc (Nat.le_refl _) _).trans (hb.mono (by omega))
  have hhc := (hb'.block a (blk_lt H.out.head)).trans H.out.head
  have q5 : wc.cell? ⟨a, 5, none⟩ = some (.int .i64 m.armed) := cell_of_heapN hhc
  have q6 : wc.cell? ⟨a, 6, none⟩ = some fv := cell_of_heapN hhc
  have fq : ∀ i : Nat, wc.frozen? ⟨a, i, none⟩ = false := fun i => frozen_blk hhc
  have hr0 : wc.ownsRow w.heap.size 3 1 v ks.length (ks.map (Value.int .i64)) := by
    refine ⟨hr.1, ?_⟩
    rcases hr.2 with h4 | ⟨g, cap, cur, e, h5, h6⟩
    · exact .inl h4
    · exact .inr ⟨g, cap, cur, e, by omega, h6⟩
  have HE := Lib.hid (arm_end H.out hb' hr0 hx HK.out)
  obtain ⟨vp, vcap, rfl, -⟩ := row_at hr0
  clear hr hr0 hb hb' hhc
  go_wp2_with fail
  go_end0
  exact ⟨rfl, HE.out⟩
set_option maxHeartbeats 1600000 in
set_option maxRecDepth 100000 in
theorem crash_any {w : World} {a n : Nat} {m : DM} {S : Nat → Prop} (h : DiskAt w a n m S) (kv : Value) (ks : List Int) (hk : IntsRd S w kv ks) (hn : n ≤ 8000000000000) :
    Calls Tryz.prog 15 #[.pointer (some ⟨a, 0, none⟩), .agg #[kv]] w fun e w' => e = .returned (.tuple #[]) ∧ DiskPost a n (m.crash ks) S w w' := by
  have hf := fun (w1 : World) (hb : Below w.heap.size w w1) => fail_ok w1 a n m S kv ks (h.below hb) (hk.keep hb.size (fun _ x _ => x) (fun b hb2 _ => hb.block b hb2)) hn
  have hd := Lib.hid h
  obtain ⟨bn, bs, pv, fv, loc, h⟩ := h
  obtain ⟨c0, -⟩ := h.cells
  have hb0 := blk_lt h.head
  clear h
  cases ho : m.off with
  | true =>
    have e : m.crash ks = m := by unfold DM.crash; rw [ho]; rfl
    rw [ho] at c0
    rw [e]
    go_enter Tryz.func15, Tryz.ntmps15
    go_wp2_with fail
    go_end0
    exact ⟨rfl, DiskPost.still hd.out ((Below.refl _ w).alloc (Nat.le_refl _) _)⟩
  | false =>
    have e : m.crash ks = m.fail ks := by unfold DM.crash; rw [ho]; rfl
    rw [ho] at c0
    rw [e]
    go_enter Tryz.func15, Tryz.ntmps15
    go_wp2_with fail
    refine (hf _ ((Below.refl _ w).alloc (Nat.le_refl _) _)).mono ?_
    rintro e w1 ⟨rfl, hp⟩
    have HP := Lib.hid (hp.boxes ((Below.refl _ w).alloc (Nat.le_refl _) _) (fun b hb2 => .inl hb2) hd.out.lt)
    clear hp
    go_wp2_with fail
    go_end0
    exact ⟨rfl, HP.out⟩
theorem new_end (w : World) (r : Int) (h1 : -9223372036854775808 ≤ r) (h2 : r ≤ 9223372036854775807) : ∃ a, Ending.returned (.pointer (some ⟨w.heap.size + 1 + 1, 0, none⟩)) = .returned (.pointer (some ⟨a, 0, none⟩)) ∧
    DiskAt (((w.alloc (.map #[] 0)).alloc (.map #[] 0)).alloc (.cells #[.bool false, .int .i64 (min (max r 0) 268435456), .map (some w.heap.size), .map (some (w.heap.size + 1)), .slice none 0 0, .int .i64 0, .slice none 0 0] 77)) a 0 (DM.new r) (fun b => w.heap.size ≤ b ∧ b < (((w.alloc (.map #[] 0)).alloc (.map #[] 0)).alloc (.cells #[.bool false, .int .i64 (min (max r 0) 268435456), .map (some w.heap.size), .map (some (w.heap.size + 1)), .slice none 0 0, .int .i64 0, .slice none 0 0] 77)).heap.size) ∧
    Below w.heap.size w (((w.alloc (.map #[] 0)).alloc (.map #[] 0)).alloc (.cells #[.bool false, .int .i64 (min (max r 0) 268435456), .map (some w.heap.size), .map (some (w.heap.size + 1)), .slice none 0 0, .int .i64 0, .slice none 0 0] 77)) := by
  obtain ⟨W1, hW1⟩ : ∃ W1, W1 = ((w.alloc (.map #[] 0)).alloc (.map #[] 0)).alloc (.cells #[.bool false, .int .i64 (min (max r 0) 268435456), .map (some w.heap.size), .map (some (w.heap.size + 1)), .slice none 0 0, .int .i64 0, .slice none 0 0] 77) := ⟨_, rfl⟩
  have hbx := box3 w (.map #[] 0) (.map #[] 0) (.cells #[.bool false, .int .i64 (min (max r 0) 268435456), .map (some w.heap.size), .map (some (w.heap.size + 1)), .slice none 0 0, .int .i64 0, .slice none 0 0] 77)
  rw [← hW1] at hbx ⊢
  obtain ⟨hb, hz, g0, g1, g2⟩ := hbx
  have hT0 : TabM W1 w.heap.size [] := (TabAt.made w).keep (g0.trans (heap_new w _).symm)
  have hT1 : TabM W1 (w.heap.size + 1) [] := by
    have h3 : TabM (((w.alloc (.map #[] 0)).alloc (.map #[] 0))) (w.heap.size + 1) [] := by
      have := TabAt.made (P := Tryz.prog) (k := 9) (w.alloc (.map #[] 0))
      rwa [World.size_alloc] at this
    exact h3.keep (g1.trans (heap_new2 w _ _).symm)
  have hr : ((DM.new r).room : Int) = min (max r 0) 268435456 := by
    show (((min (max r 0) 268435456).toNat : Nat) : Int) = _
    omega
  refine ⟨w.heap.size + 2, rfl, ⟨w.heap.size, w.heap.size + 1, .slice none 0 0, .slice none 0 0, fun _ => 0, ?_⟩, hb⟩
  exact {
    head := by
      rw [g2]
      unfold diskV
      rw [hr]
      rfl
    sa := ⟨by omega, by omega⟩
    sn := ⟨by omega, by omega⟩
    ss := ⟨by omega, by omega⟩
    ne := by omega
    now := hT0
    safe := hT1
    file := fun i f hf => by cases hf
    inj := fun i j hi _ _ => absurd hi (Nat.not_lt_zero _)
    pend := ops_nil _ _ _
    fate := ints_nil _ _
    ok := {
      now := List.Pairwise.nil
      safe := List.Pairwise.nil
      nowI := fun p hp => by cases hp
      safeI := fun p hp => by cases hp
      pendI := fun k i hk => by cases hk
      file := fun f hf => by cases hf
      nowN := Nat.le_refl _
      safeN := Nat.le_refl _
      room := by omega
      arm0 := Int.le_refl _
      arm1 := by show (0 : Int) ≤ _; omega
      keepI := fun k hk => by cases hk }
    lt := fun b hb2 => hb2.2 }
set_option maxHeartbeats 1600000 in
set_option maxRecDepth 100000 in
theorem new_any (w : World) (r : Int) (h1 : -9223372036854775808 ≤ r) (h2 : r ≤ 9223372036854775807) :
    Calls Tryz.prog 8 #[.int .i64 r] w fun e w' => ∃ a, e = .returned (.pointer (some ⟨a, 0, none⟩)) ∧ DiskAt w' a 0 (DM.new r) (fun b => w.heap.size ≤ b ∧ b < w'.heap.size) ∧ Below w.heap.size w w' := by
  have hmm := @run_makeMap Tryz.prog
  go_enter Tryz.func8, Tryz.ntmps8
  go_wp2_with fail
  go_ret
  exact new_end w r h1 h2
end Go.Proofs.YtlcompihcmhbiaaGreatDoor
