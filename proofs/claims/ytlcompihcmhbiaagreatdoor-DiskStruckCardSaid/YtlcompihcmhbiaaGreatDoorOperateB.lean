/- The contract of operate where the operation is struck. -/
import Derived.Test.YtlcompihcmhbiaaGreatDoorOperate
namespace Go.Proofs.YtlcompihcmhbiaaGreatDoor
open Go Go.RowKit Go.Maps Go.Shelf
theorem DiskAt.sup {a n : Nat} {m : DM} {S S' : Nat → Prop} {w : World} (h : DiskAt w a n m S) (hs : ∀ b, S b → S' b) (hl : ∀ b, S' b → b < w.heap.size) : DiskAt w a n m S' := by
  obtain ⟨bn, bs, pv, fv, loc, h⟩ := h
  exact ⟨bn, bs, pv, fv, loc, h.bigger hs hl⟩
theorem DiskAt.setBox {w : World} {a n k : Nat} {m : DM} {S : Nat → Prop} (h : DiskAt w a n m S) (hk : ¬ S k) (v : Value) : DiskAt (w.setCell ⟨k, 0, none⟩ v) a n m S := by
  refine h.frame (fun b hb => Below.heap_setCell _ _ _ _ (fun e => hk ?_)) (by rw [World.size_setCell]; omega)
  have e' : b = k := e
  rw [← e']
  exact hb
/-- Behind a failure, the error being written into its box. -/
theorem post_struck {a n : Nat} {m : DM} {S T : Nat → Prop} {w w2 w3 : World} {k : Nat} {v : Value} (h : DiskPost a n m T w2 w3) (ho : Off S w w2) (hT : ∀ b, T b → S b ∨ (w.heap.size ≤ b ∧ b < w2.heap.size)) (hS : ∀ b, S b → b < w.heap.size) (hk : w.heap.size ≤ k) (hk2 : k < w2.heap.size) (hkT : ¬ T k) : DiskPost a n m S w (w3.setCell ⟨k, 0, none⟩ v) := by
  have hz1 := ho.size
  have hz2 := h.2.size
  have hkS : ¬ S k := fun h => by have := hS k h; omega
  refine ⟨?_, (ho.trans h.2 ?_).setCell _ _ (fun h => absurd h (by show ¬ (k < w.heap.size); omega))⟩
  · refine DiskAt.sup (h.1.frame (fun b hb => Below.heap_setCell _ _ _ _ (fun e => ?_)) (by rw [World.size_setCell]; omega)) ?_ ?_
    · have e' : b = k := e
      rcases hb with hb | ⟨hb, _⟩
      · exact hkT (e' ▸ hb)
      · omega
    · rintro b (hb | ⟨hb, hb2⟩)
      · rcases hT b hb with hb | ⟨hb, hb2⟩
        · exact .inl hb
        · exact .inr ⟨hb, by rw [World.size_setCell]; omega⟩
      · exact .inr ⟨by omega, by rw [World.size_setCell]; exact hb2⟩
    · rintro b (hb | ⟨_, hb2⟩)
      · rw [World.size_setCell]; have := hS b hb; omega
      · exact hb2
  · intro b hb hb2
    rcases hT b hb2 with h3 | ⟨h3, _⟩
    · exact h3
    · omega
set_option maxHeartbeats 3200000 in
set_option maxRecDepth 100000 in
theorem operate_hit (hF : FailOk) {w : World} {a n : Nat} {m : DM} {S : Nat → Prop} (hnn : n + 1 ≤ 8000000000000) (h : DiskAt w a n m S) (kR kA : Nat) (lR lA : Array Value) (ho : m.off = false) (ha : m.armed = 1) (eR : Enters Tryz.prog kR) (eA : Enters Tryz.prog kA) (m' : DM)
    (hR : ∀ W, Below w.heap.size w W → Calls Tryz.prog kR lR W fun e w' => e = .returned .nilIface ∧ Below W.heap.size W w')
    (hA : ∀ W, DiskAt W a n m.tick S → Off (fun b => b = a) w W → Calls Tryz.prog kA lA W fun e w' => e = .returned (.tuple #[]) ∧ DiskPost a (n + 1) m' S W w') :
    Calls Tryz.prog 41 #[.pointer (some ⟨a, 0, none⟩), .func (.func kR) #[] lR, .bool false, .func (.func kA) #[] lA] w fun e w' => e = .returned (errV 27) ∧ DiskPost a (n + 1) (m'.fail m'.keep) S w w' := by
  obtain ⟨bn, bs, pv, fv, loc, h⟩ := h
  obtain ⟨c0, -, -, -, -, c5, -⟩ := h.cells
  have hb0 := blk_lt h.head
  rw [ho] at c0
  have H := Lib.hid h
  clear h
  have eg' : ∀ (args : Array Value) (w : World), (callFunc kR args).run Tryz.prog w = .ok (.enter kR args) w := eR
  have eg2 : ∀ (args : Array Value) (w : World), (callFunc kA args).run Tryz.prog w = .ok (.enter kA args) w := eA
  have hmf : ∀ (fn : Fn) (first cap : Array Value) (w : World), (Instr.makeFunc fn first cap).run Tryz.prog w = .ok (.func fn first cap) w := fun _ _ _ _ => rfl
  have htk := fun w1 => H.out.tickAt (w1 := w1)
  have e : m.tick.armed = 0 := by show (if 1 ≤ m.armed then m.armed - 1 else 0) = 0; rw [ha]; rfl
  rw [e] at htk
  rw [ha] at c5
  go_enter_defers Tryz.func41, Tryz.ntmps41
  go_wp2_with (go_at_fn kR; refine (hR _ (below2 w _ _)).mono ?_; rintro e w1 ⟨rfl, hb1⟩; obtain ⟨cd, c5', f5, ce, fe, HB, HD, HE, hz1, hz2, hz3, hz4⟩ := op_boxes H.out hb1; clear hb1; rw [ha] at c5')
  refine wp_region_tailD 7 mixedD (by kernel_rfl) ?_
  simp only [List.take_succ_cons, List.take_zero, List.drop_succ_cons, List.drop_zero]
  repeat still_step
  refine wpStill_nil ?_
  go_wp2_with (go_at_fn kA; refine (hA _ (htk _ (HB.out.alloc (by omega) _ |>.drew)).1 (htk _ (HB.out.alloc (by omega) _ |>.drew)).2).mono ?_; rintro e w2 ⟨rfl, hp⟩; obtain ⟨g3, g1, g2, f2, HE2, HO, hz5, hz6⟩ := op_behind H.out rfl HB.out HD.out HE.out hp.2; have HP := Lib.hid hp; have HO := Lib.hid HO; have HE2 := Lib.hid HE2; clear hp)
  refine leaves_cons (f := 81) (args := #[.pointer (some ⟨w1.heap.size, 0, none⟩), .pointer (some ⟨w.heap.size, 0, none⟩), .pointer (some ⟨w.heap.size + 1, 0, none⟩)]) (by simp) (by simp [go_sem]) ?_
  have hlt := fun b hb => H.out.lt b hb
  have hne : ∀ b, grow S (((w1.alloc (.cells #[.bool true] 4)).drewN 1).setCell ⟨a, 5, none⟩ (.int .i64 0)) w2 b → b ≠ w.heap.size + 1 := fun b hb e => by
    rcases hb with hb | ⟨hb, _⟩
    · have := hlt b hb; omega
    · simp at hb; omega
  have hd2 : DiskAt (w2.setCell ⟨w.heap.size + 1, 0, none⟩ .nilIface) a (n + 1) m' _ := HP.out.1.frame (fun b hb => Below.heap_setCell _ _ _ _ (hne b hb)) (by rw [World.size_setCell]; omega)
  have hc : (w2.setCell ⟨w.heap.size + 1, 0, none⟩ .nilIface).heap[w.heap.size + 1]? = some (.cells #[.nilIface] 33 (0, 0)) := by
    rw [setCell_blk HE2.out, setBlk_heap (blk_lt HE2.out)]
    rfl
  refine (deferred_yes hF hnn hd2 .returning w.heap.size (w.heap.size + 1) w1.heap.size .nilIface ((cell_set_other _ (by omega)).trans g1) hc ((cell_set_other _ (by omega)).trans g3) (fun h => hne _ h rfl)).mono ?_
  rintro e u' w'' ⟨rfl, rfl, w3, hp3, hc3, rfl⟩
  have hc4 : (w3.setCell ⟨w.heap.size + 1, 0, none⟩ (errV 27)).cell? ⟨w.heap.size + 1, 0, none⟩ = some (errV 27) := by
    rw [setCell_blk hc3, cell_of_heapN (setBlk_heap (blk_lt hc3))]
    rfl
  refine ⟨errV 27, ?_, rfl, ?_⟩
  · unfold errV at hc4 ⊢
    simp [results, Tryz.f41, go_sem, hc4]
  · refine post_struck hp3 (HO.out.setCell _ _ (fun h => absurd h (by show ¬ (w.heap.size + 1 < w.heap.size); omega))) ?_ hlt (by omega) (by rw [World.size_setCell]; omega) (fun h => hne _ h rfl)
    rintro b (hb | ⟨hb, hb2⟩)
    · exact .inl hb
    · simp at hb
      exact .inr ⟨by omega, by rw [World.size_setCell]; exact hb2⟩
set_option maxHeartbeats 3200000 in
set_option maxRecDepth 100000 in
theorem operate_late (hF : FailOk) {w : World} {a n : Nat} {m : DM} {S : Nat → Prop} (hnn : n ≤ 8000000000000) (h : DiskAt w a n m S) (kR kA : Nat) (lR lA : Array Value) (ho : m.off = false) (ha : m.armed = 1) (eR : Enters Tryz.prog kR)
    (hR : ∀ W, Below w.heap.size w W → Calls Tryz.prog kR lR W fun e w' => e = .returned .nilIface ∧ Below W.heap.size W w') :
    Calls Tryz.prog 41 #[.pointer (some ⟨a, 0, none⟩), .func (.func kR) #[] lR, .bool true, .func (.func kA) #[] lA] w fun e w' => e = .returned (errV 27) ∧ DiskPost a n (m.tick.fail m.keep) S w w' := by
  obtain ⟨bn, bs, pv, fv, loc, h⟩ := h
  obtain ⟨c0, -, -, -, -, c5, -⟩ := h.cells
  have hb0 := blk_lt h.head
  rw [ho] at c0
  have H := Lib.hid h
  clear h
  have eg' : ∀ (args : Array Value) (w : World), (callFunc kR args).run Tryz.prog w = .ok (.enter kR args) w := eR
  have hmf : ∀ (fn : Fn) (first cap : Array Value) (w : World), (Instr.makeFunc fn first cap).run Tryz.prog w = .ok (.func fn first cap) w := fun _ _ _ _ => rfl
  have htk := fun w1 => H.out.tickAt (w1 := w1)
  have e : m.tick.armed = 0 := by show (if 1 ≤ m.armed then m.armed - 1 else 0) = 0; rw [ha]; rfl
  rw [e] at htk
  rw [ha] at c5
  go_enter_defers Tryz.func41, Tryz.ntmps41
  go_wp2_with (go_at_fn kR; refine (hR _ (below2 w _ _)).mono ?_; rintro e w1 ⟨rfl, hb1⟩; obtain ⟨cd, c5', f5, ce, fe, HB, HD, HE, hz1, hz2, hz3, hz4⟩ := op_boxes H.out hb1; clear hb1; rw [ha] at c5')
  refine wp_region_tailD 7 mixedD (by kernel_rfl) ?_
  simp only [List.take_succ_cons, List.take_zero, List.drop_succ_cons, List.drop_zero]
  repeat still_step
  refine wpStill_nil ?_
  obtain ⟨hd1, ho1⟩ := htk _ (HB.out.alloc (by omega) (.cells #[.bool true] 4) |>.drew)
  obtain ⟨g3, g1, g2, f2, HE2, HO, hz5, hz6⟩ := op_behind H.out rfl HB.out HD.out HE.out (Off.refl S (((w1.alloc (.cells #[.bool true] 4)).drewN 1).setCell ⟨a, 5, none⟩ (.int .i64 0)))
  have HE2 := Lib.hid HE2
  have HO := Lib.hid HO
  have HP := Lib.hid (show DiskAt (((w1.alloc (.cells #[.bool true] 4)).drewN 1).setCell ⟨a, 5, none⟩ (.int .i64 0)) a n m.tick S from hd1)
  clear hd1 ho1
  go_wp2_with fail
  refine leaves_cons (f := 81) (args := #[.pointer (some ⟨w1.heap.size, 0, none⟩), .pointer (some ⟨w.heap.size, 0, none⟩), .pointer (some ⟨w.heap.size + 1, 0, none⟩)]) (by simp) (by simp [go_sem]) ?_
  have hlt := fun b hb => H.out.lt b hb
  have hne : ¬ S (w.heap.size + 1) := fun hb => by have := hlt _ hb; omega
  revert g3 g1 HE2 HO HP hz6
  generalize ((w1.alloc (.cells #[.bool true] 4)).drewN 1).setCell ⟨a, 5, none⟩ (.int .i64 0) = W
  intro g3 g1 hz6 HE2 HO HP
  have hd2 : DiskAt (W.setCell ⟨w.heap.size + 1, 0, none⟩ .nilIface) a n m.tick S := HP.out.setBox hne .nilIface
  have hc : (W.setCell ⟨w.heap.size + 1, 0, none⟩ .nilIface).heap[w.heap.size + 1]? = some (.cells #[.nilIface] 33 (0, 0)) := by
    rw [setCell_blk HE2.out, setBlk_heap (blk_lt HE2.out)]
    rfl
  refine (deferred_yes hF hnn hd2 .returning w.heap.size (w.heap.size + 1) w1.heap.size .nilIface ((cell_set_other _ (by omega)).trans g1) hc ((cell_set_other _ (by omega)).trans g3) hne).mono ?_
  rintro e u' w'' ⟨rfl, rfl, w3, hp3, hc3, rfl⟩
  have hc4 : (w3.setCell ⟨w.heap.size + 1, 0, none⟩ (errV 27)).cell? ⟨w.heap.size + 1, 0, none⟩ = some (errV 27) := by
    rw [setCell_blk hc3, cell_of_heapN (setBlk_heap (blk_lt hc3))]
    rfl
  refine ⟨errV 27, ?_, rfl, ?_⟩
  · unfold errV at hc4 ⊢
    simp [results, Tryz.f41, go_sem, hc4]
  · exact post_struck hp3 (HO.out.setCell _ _ (fun h => absurd h (by show ¬ (w.heap.size + 1 < w.heap.size); omega))) (fun b hb => .inl hb) hlt (by omega) (by rw [World.size_setCell]; omega) hne
end Go.Proofs.YtlcompihcmhbiaaGreatDoor
