/- The walk of DiskSafe. -/
import Derived.Test.YtlcompihcmhbiaaGreatDoorSafeLaw
import Derived.Test.YtlcompihcmhbiaaGreatDoorHeld
import Derived.Test.YtlcompihcmhbiaaGreatDoorFreeMake
import Derived.Test.YtlcompihcmhbiaaGreatDoorTailFast
namespace Go.Proofs.YtlcompihcmhbiaaGreatDoor
open Go Go.RowKit Go.Maps Go.Shelf
/-- A slice of truth values that the call has made. -/
def Flags (w : World) (g K : Nat) (f : Nat → Bool) : Prop := ∃ cs, w.heap[g]? = some (.cells cs 4 (0, 0)) ∧ cs.size = K ∧ ∀ i, i < K → cs[i]? = some (.bool (f i))
theorem infoBool : (Tryz.prog.info? 4).map (fun i => (i.zero, i.size, i.bytes)) = some (some (.bool false), 1, 1) := by kernel_rfl
theorem run_flags (w : World) (K : Nat) (hK : K ≤ 8000000000000) : (Instr.makeSlice 48 (.int .i64 K) (.int .i64 K)).run Tryz.prog w = .ok (.slice (some ⟨w.heap.size, 0, none⟩) K K) (w.alloc (.cells (madeCells #[.bool false] K) 4)) := by
  obtain ⟨i0, hi, hz0, hz1, hz2⟩ := info_parts infoBool
  have h := run_make (P := Tryz.prog) w 48 4 i0 (.bool false) Tryz.underlying48 hi hz0 .i64 .i64 K K (by omega) (Int.le_refl _) (by rw [hz2]; omega) (by omega)
  rw [hz1, Int.toNat_natCast, Nat.mul_one] at h
  exact h
theorem flags_made (w : World) (K : Nat) : Flags (w.alloc (.cells (madeCells #[.bool false] K) 4)) w.heap.size K (fun _ => false) := by
  refine ⟨_, heap_new w _, size_madeCells _ _, fun i hi => ?_⟩
  unfold madeCells
  have e : (Array.range K)[i]? = some i := by simp [hi]
  rw [Array.getElem?_map, e]
  show some ((#[Value.bool false] : Array Value)[i % 1]!) = _
  rw [Nat.mod_one]
  rfl
/-- What DiskSafe holds beside the disk: what was shown, the last fate, the flags. -/
structure SafeM (PT PG : Nat → Prop) (v u : Value) (ns ds : List ByteArray) (bl bw g K : Nat) (lv : Value) (wr : World) (f : Nat → Bool) : Prop where
  names : TextsIn PT wr v ns
  datas : TextsIn PT wr u ds
  last : wr.heap[bl]? = some (.cells #[lv] 26 (0, 0))
  was : wr.heap[bw]? = some (.cells #[v, u] 43 (0, 0))
  flags : Flags wr g K f
  sub : ∀ b, PT b → PG b
  pl : PT bl
  pw : PT bw
  pg : PG g
  ng : ¬ PT g
theorem SafeM.keep {PT PG : Nat → Prop} {v u : Value} {ns ds : List ByteArray} {bl bw g K : Nat} {lv : Value} {wr w' : World} {f : Nat → Bool} (h : SafeM PT PG v u ns ds bl bw g K lv wr f) (hs : Same PG wr w') : SafeM PT PG v u ns ds bl bw g K lv w' f := by
  have hs2 : Same PT wr w' := fun b hb => hs b (h.sub b hb)
  obtain ⟨cs, h1, h2, h3⟩ := h.flags
  exact { h with names := h.names.keep hs2, datas := h.datas.keep hs2, last := (hs2 bl h.pl).trans h.last, was := (hs2 bw h.pw).trans h.was, flags := ⟨cs, (hs g h.pg).trans h1, h2, h3⟩ }
theorem SafeM.flag {PT PG : Nat → Prop} {v u : Value} {ns ds : List ByteArray} {bl bw g K : Nat} {lv : Value} {wr : World} {f : Nat → Bool} (h : SafeM PT PG v u ns ds bl bw g K lv wr f) {q : Nat} (hq : q < K) : wr.cell? ⟨g, q, none⟩ = some (.bool (f q)) ∧ wr.frozen? ⟨g, q, none⟩ = false := by
  obtain ⟨cs, h1, h2, h3⟩ := h.flags
  exact ⟨by rw [cell_of_heapN h1]; exact h3 q hq, frozen_blk h1⟩
theorem SafeM.set {PT PG : Nat → Prop} {v u : Value} {ns ds : List ByteArray} {bl bw g K : Nat} {lv : Value} {wr : World} {f : Nat → Bool} (h : SafeM PT PG v u ns ds bl bw g K lv wr f) {q : Nat} (hq : q < K) (x : Bool) : SafeM PT PG v u ns ds bl bw g K lv (wr.setCell ⟨g, q, none⟩ (.bool x)) (fun i => if i = q then x else f i) := by
  have hs2 : Same PT wr (wr.setCell ⟨g, q, none⟩ (.bool x)) := fun b hb => Below.heap_setCell _ _ _ _ (fun e => h.ng (by have e2 : b = g := e; rw [← e2]; exact hb))
  obtain ⟨cs, h1, h2, h3⟩ := h.flags
  refine { h with names := h.names.keep hs2, datas := h.datas.keep hs2, last := (hs2 bl h.pl).trans h.last, was := (hs2 bw h.pw).trans h.was, flags := ⟨cs.setIfInBounds q (.bool x), ?_, ?_, fun i hi => ?_⟩ }
  · rw [setCell_blk h1]
    exact setBlk_heap (blk_lt h1)
  · rw [Array.size_setIfInBounds]; exact h2
  · rw [Array.getElem?_setIfInBounds]
    by_cases e : q = i
    · subst e
      rw [if_pos rfl, if_pos (by omega)]
      show _ = some (Value.bool (if q = q then x else f q))
      rw [if_pos rfl]
    · rw [if_neg e]
      show _ = some (Value.bool (if i = q then x else f i))
      rw [if_neg (fun h => e h.symm)]
      exact h3 i hi
theorem sameT_refl (l : List ByteArray) : sameT l l = true := decide_eq_true rfl
theorem cell6 {w : World} {b off i j : Nat} {cs : Array Value} {v : Value} (h : ∀ j, j < 6 → w.cell? ⟨b, off + (i * 6 + j), none⟩ = cs[j]?) (hj : j < 6) (hv : cs[j]? = some v) : w.cell? ⟨b, off + i * 6 + j, none⟩ = some v := by
  rw [Nat.add_assoc]; exact (h j hj).trans hv
theorem toList_ne {x y : ByteArray} (h : ¬ x = y) : (x.toList == y.toList) = false := beq_eq_false_iff_ne.2 fun e => h (by
  rw [ByteArray.toList_eq, ByteArray.toList_eq] at e
  apply ByteArray.ext
  exact Array.toList_inj.1 e)
theorem flags_next {f f' : Nat → Bool} {l : Tab} {s : StepM} {t : Nat} {p : Bs × Nat} {x : Bool} (h : ∀ (j : Nat) (p : Bs × Nat), l[j]? = some p → f' j = false → f j = false ∧ (j < t → touchB s (nameB p) = false)) (hp : l[t]? = some p) (hx : x = (f' t || touchB s (nameB p))) :
    ∀ (j : Nat) (p' : Bs × Nat), l[j]? = some p' → (fun i => if i = t then x else f' i) j = false → f j = false ∧ (j < t + 1 → touchB s (nameB p') = false) := fun j p' hp' hj => by
  by_cases e : j = t
  · subst e
    obtain rfl : p = p' := Option.some.inj (hp.symm.trans hp')
    have hx2 : x = false := by simpa using hj
    rw [hx, Bool.or_eq_false_iff] at hx2
    exact ⟨(h j p hp hx2.1).1, fun _ => hx2.2⟩
  · have hj2 : f' j = false := by simpa [e] using hj
    exact ⟨(h j p' hp' hj2).1, fun hlt => (h j p' hp' hj2).2 (by omega)⟩
theorem touch_t {s : StepM} {nm : ByteArray} {b : Bool} (h : b = true ∨ nm = s.name ∨ (s.act = 4 ∧ nm = s.data)) : true = (b || touchB s nm) := by
  unfold touchB
  rcases h with rfl | h | ⟨h1, h2⟩
  · rfl
  · rw [decide_eq_true h]; simp
  · rw [decide_eq_true h1, decide_eq_true h2]; simp
theorem touch_f {s : StepM} {nm : ByteArray} {b : Bool} (h1 : b = false) (h2 : ¬ nm = s.name) (h3 : ¬ s.act = 4 ∨ ¬ nm = s.data) : false = (b || touchB s nm) := by
  unfold touchB
  rw [h1, decide_eq_false h2]
  rcases h3 with h3 | h3
  · rw [decide_eq_false h3]; rfl
  · rw [decide_eq_false h3]; simp
/-- The box of the argument. -/
def SafeIn (w : World) (xs : Array Value) (W : World) : Prop := W.heap[w.heap.size]? = some (.cells xs 28 (0, 0)) ∧ Below w.heap.size w W
def SafeInB (w : World) (xs : Array Value) (b : Nat) (W : World) : Prop := SafeIn w xs W ∧ W.heap[b]? = some (.cells #[.slice none 0 0] 26 (0, 0)) ∧ w.heap.size < b
theorem SafeIn.cell {w W : World} {xs : Array Value} (h : SafeIn w xs W) (i : Nat) : W.cell? ⟨w.heap.size, i, none⟩ = xs[i]? := cell_of_heapN h.1
set_option maxHeartbeats 6400000 in
set_option maxRecDepth 100000 in
theorem safe_any (w : World) (hG : ErrT w) (v1 v2 v3 v4 : Value) (l1 l2 : List StepM) (fs : List (List Int)) (ks : List Int) (h1 : StepsAt w v1 l1) (h2 : FatesAt w v2 fs) (h3 : StepsAt w v3 l2) (h4 : IntsRd (fun b => w.heap.size ≤ b) w v4 ks)
    (n1 : l1.length ≤ 1760000000000) (n2 : l2.length ≤ 1760000000000) (n3 : fs.length ≤ 8000000000000) (g1 : ∀ s ∈ l1, s.Fits) (g2 : ∀ s ∈ l2, s.Fits) :
    Calls Tryz.prog 3 #[.agg #[v1, v2, v3, v4]] w fun e w' => e = .returned (.bool true) ∧ Below w.heap.size w w' := by
  obtain ⟨p1, c1, rfl, hS1⟩ := h1
  obtain ⟨p2, c2, rfl, hF⟩ := h2
  obtain ⟨p3, c3, rfl, hS2⟩ := h3
  obtain ⟨k1, hk1⟩ : ∃ k1, l1.length = k1 := ⟨_, rfl⟩
  obtain ⟨k2, hk2⟩ : ∃ k2, fs.length = k2 := ⟨_, rfl⟩
  obtain ⟨k3, hk3⟩ : ∃ k3, l2.length = k3 := ⟨_, rfl⟩
  rw [hk1] at n1 ⊢
  rw [hk2] at n3 ⊢
  rw [hk3] at n2 ⊢
  obtain ⟨p4, c4, e4⟩ : ∃ p4 c4, v4 = .slice p4 ks.length c4 := by
    obtain ⟨p4, c4, e4, -⟩ := h4
    exact ⟨p4, c4, e4⟩
  obtain ⟨k4, hk4⟩ : ∃ k4, ks.length = k4 := ⟨_, rfl⟩
  rw [hk4] at e4
  subst e4
  clear hk4
  have HK1 := Lib.hid hk1
  have HK2 := Lib.hid hk2
  have HK3 := Lib.hid hk3
  have HS1 := Lib.hid hS1
  have HS2 := Lib.hid hS2
  have HF := Lib.hid hF
  have H4 := Lib.hid h4
  have HG := Lib.hid hG
  have HG1 := Lib.hid g1
  have HG2 := Lib.hid g2
  clear hk1 hk2 hk3 hS1 hS2 hF h4 hG g1 g2
  go_enter Tryz.func3, Tryz.ntmps3
  go_wp2_with fail
  have hI0 : SafeIn w #[.slice p1 k1 c1, .slice p2 k2 c2, .slice p3 k3 c3, .slice p4 k4 c4] (w.alloc (.cells #[.slice p1 k1 c1, .slice p2 k2 c2, .slice p3 k3 c3, .slice p4 k4 c4] 28)).drew := ⟨heap_new w _, ((Below.refl _ w).alloc (Nat.le_refl _) _).drew⟩
  refine wp_region_make (SafeIn w #[.slice p1 k1 c1, .slice p2 k2 c2, .slice p3 k3 c3, .slice p4 k4 c4]) (SafeInB w #[.slice p1 k1 c1, .slice p2 k2 c2, .slice p3 k3 c3, .slice p4 k4 c4]) 8 (fun b => .pointer (some ⟨b, 0, none⟩)) 12 (fun _ _ hB => hB.1) (by kernel_rfl) (by kernel_rfl) hI0 ?_
  clear hI0
  simp only [List.take_succ_cons, List.take_zero, List.drop_succ_cons, List.drop_zero]
  refine .inr ⟨by decide, _, yg_still rfl (fun W hI => by go_simp; rfl), ?_⟩
  refine .inr ⟨by decide, _, yg_still rfl (fun W hI => by have c := hI.cell 0; go_simp; rfl), ?_⟩
  refine .inr ⟨by decide, _, yg_still rfl (fun W hI => by go_simp; rfl), ?_⟩
  refine .inr ⟨by decide, _, yg_still rfl (fun W hI => by have c := hI.cell 1; go_simp; rfl), ?_⟩
  refine .inr ⟨by decide, _, yg_still rfl (fun W hI => by go_simp; rfl), ?_⟩
  refine .inr ⟨by decide, _, yg_still rfl (fun W hI => by have c := hI.cell 2; go_simp; rfl), ?_⟩
  refine .inr ⟨by decide, _, yg_still rfl (fun W hI => by go_simp; rfl), ?_⟩
  refine .inr ⟨by decide, _, yg_still rfl (fun W hI => by have c := hI.cell 3; go_simp; rfl), ?_⟩
  refine .inl ⟨rfl, ⟨rfl, fun W hI => .inl ⟨W.heap.size, W.alloc (.cells #[.slice none 0 0] 26), by go_simp, ⟨⟨(Below.heap_alloc _ _ _ (blk_lt hI.1)).trans hI.1, hI.2.alloc hI.2.size _⟩, heap_new _ _, blk_lt hI.1⟩⟩⟩, ?_⟩
  refine ⟨_, ys_same (fun b => yg_still rfl (fun W hI => by go_simp; rfl)), ?_⟩
  refine ⟨_, ys_same (fun b => yg_still rfl (fun W hI => by go_simp; rfl)), ?_⟩
  refine ⟨_, ys_same (fun b => yg_still rfl (fun W hI => by go_simp; rfl)), ?_⟩
  rintro bl W8 hI8
  change wpList _ _ _ _ _ W8
  simp only [Act.put, List.setIfInBounds_toArray, List.set_cons_succ, List.set_cons_zero]
  have q8 : W8.cell? ⟨bl, 0, none⟩ = some (.slice none 0 0) := cell_of_heapN hI8.2.1
  have f8 : W8.frozen? ⟨bl, 0, none⟩ = false := frozen_blk hI8.2.1
  have HB8 := Lib.hid (hI8.1.2.setCell (p := ⟨bl, 0, none⟩) (Nat.le_of_lt hI8.2.2) (.slice p4 k4 c4))
  have HL8 := Lib.hid (show (W8.setCell ⟨bl, 0, none⟩ (.slice p4 k4 c4)).heap[bl]? = some (.cells #[.slice p4 k4 c4] 26 (0, 0)) by rw [setCell_blk hI8.2.1]; exact setBlk_heap (blk_lt hI8.2.1))
  have hwl := Nat.le_of_lt hI8.2.2
  clear hI8
  go_wp2_with fail
  refine (held_new (P := fun b => b = bl) HB8.out (fun b (hb : b = bl) => hb.symm ▸ blk_lt HL8.out) 1048576 (by decide) (by decide)).mono ?_
  rintro e w2 ⟨a, rfl, hd, hs⟩
  have HD2 := Lib.hid hd
  have HL2 := Lib.hid ((hs bl rfl).trans HL8.out)
  clear hd hs HL8 HB8 q8 f8
  go_wp2_with fail
  refine (works_any _ (HG.out.below HD2.out.bel HG.out.2)).mono ?_
  rintro e w3 ⟨rfl, hb⟩
  have HD3 := Lib.hid (HD2.out.below hb)
  have HL3 := Lib.hid ((HD2.out.same hb bl rfl).trans HL2.out)
  clear hb HD2 HL2
  go_wp2_with fail
  go_loopw [8] (fun iv wr => ∃ k : Nat, k ≤ k1 ∧ iv = .int .i64 k ∧ Hid (Held w wr (fun b => b = bl) a k (runs (DM.new 1048576) (l1.take k))) ∧ Hid (wr.heap[bl]? = some (.cells #[.slice p4 k4 c4] 26 (0, 0)))) (fun iv _ => k1 - (intOf iv).toNat)
  case atStart => exact ⟨0, Nat.zero_le _, rfl, HD3, HL3⟩
  case round =>
    obtain ⟨k, hk, rfl, hd, hl⟩ := hrel
    by_cases hlt : k < k1
    · obtain ⟨m, hm⟩ : ∃ m, l1[k]? = some m := ⟨_, List.getElem?_eq_getElem (i := k) (by have := HK1.out; omega)⟩
      obtain ⟨b, off, kv, rfl, hb, hc, -⟩ := HS1.out k m hm
      have hrow : ∀ j, j < 6 → wr.cell? ⟨b, off + (k * 6 + j), none⟩ = (m.cells kv)[j]? := fun j hj => (hd.out.bel.cell (p := ⟨b, off + (k * 6 + j), none⟩) hb).trans (hc j hj)
      have d0 : wr.cell? ⟨b, off + k * 6, none⟩ = some (.int .i64 m.act) := cell6 hrow (j := 0) (by decide) rfl
      have d1 := cell6 hrow (j := 1) (by decide) rfl
      have d2 := cell6 hrow (j := 2) (by decide) rfl
      have d3 := cell6 hrow (j := 3) (by decide) rfl
      have d4 := cell6 hrow (j := 4) (by decide) rfl
      have d5 := cell6 hrow (j := 5) (by decide) rfl
      have HF1 := Lib.hid (HG1.out m (List.mem_of_getElem? hm))
      have HN := Lib.hid (runs_next (m := DM.new 1048576) hm)
      have hroom : k * (runs (DM.new 1048576) (l1.take k)).room ≤ 4611686018427387904 := by
        rw [runs_room]
        show k * 1048576 ≤ _
        omega
      have HR := Lib.hid hroom
      clear hrow hm hc hroom
      go_wp2_with fail
      refine (held_change hd.out m kv HF1.out (by omega) HR.out).mono ?_
      rintro e w4 ⟨rfl, hd4, hs4⟩
      rw [← HN.out] at hd4
      have HD4 := Lib.hid hd4
      have HL4 := Lib.hid ((hs4 bl rfl).trans hl.out)
      clear hd4 hs4 d0 d1 d2 d3 d4 d5
      go_wp2_with fail
      case roundEnd =>
        exact ⟨⟨k + 1, by omega, by rw [Int.natCast_add]; rfl, HD4, HL4⟩, by simp [intOf]; omega⟩
    · obtain rfl : k = k1 := by omega
      have hall : l1.take k = l1 := List.take_of_length_le (by rw [HK1.out]; exact Nat.le_refl _)
      rw [hall] at hd
      obtain ⟨hcalm, hroom, hkeep⟩ := runs_inv l1 (DM.new 1048576) ⟨rfl, rfl⟩
      generalize runs (DM.new 1048576) l1 = m1 at hd hcalm hroom hkeep
      have HC := Lib.hid hcalm
      have HR := Lib.hid (show m1.room = 1048576 from hroom)
      have HKP := Lib.hid (show m1.keep = [] from hkeep)
      clear hlt hall hcalm hroom hkeep
      go_wp2_with fail
      refine (held_list hd.out (by omega) HC.out.1).mono ?_
      rintro e w4 ⟨u, rfl, hu, hb4⟩
      have HD4 := Lib.hid (hd.out.keeps hb4)
      have HL4 := Lib.hid ((hd.out.same hb4 bl rfl).trans hl.out)
      obtain ⟨up, uc, rfl, hu1⟩ := hu
      have HU4 := Lib.hid (show TextsIn (fun b => b = bl ∨ (wr.heap.size ≤ b ∧ b < w4.heap.size)) w4 (.slice up m1.namesOf.length uc) m1.namesOf from TextsIn.mono ⟨up, uc, rfl, hu1⟩ (fun b h => .inr h))
      obtain ⟨P, hP⟩ : ∃ P : Nat → Prop, P = fun b => b = bl ∨ (wr.heap.size ≤ b ∧ b < w4.heap.size) := ⟨_, rfl⟩
      have HPB : Hid (P bl) := Lib.hid (by rw [hP]; exact .inl rfl)
      rw [← hP] at HD4 HU4
      have hnl : m1.namesOf.length ≤ k := by
        have h1 := hd.out.ok.nowN
        show (m1.now.map nameB).length ≤ k
        rw [List.length_map]
        exact h1
      obtain ⟨K, hKe⟩ : ∃ K, m1.namesOf.length = K := ⟨_, rfl⟩
      rw [hKe] at hnl HU4 ⊢
      have HKE := Lib.hid hKe
      have HO1 := Lib.hid hd.out.ok
      have HNM := Lib.hid (fun (s : ByteArray) (hs : s ∈ m1.namesOf) => hd.out.name_le hs)
      clear hd hl hb4 hu1 hP hKe
      go_wp2_with fail
      go_loopw [11] (fun iv wr => ∃ j : Nat, j ≤ K ∧ iv = .int .i64 j ∧ Hid (Held w wr P a k (syncs m1 (m1.namesOf.take j))) ∧ Hid (TextsIn P wr (.slice up K uc) m1.namesOf) ∧ Hid (wr.heap[bl]? = some (.cells #[.slice p4 k4 c4] 26 (0, 0)))) (fun iv _ => K - (intOf iv).toNat)
      case atStart => exact ⟨0, Nat.zero_le _, rfl, HD4, HU4, HL4⟩
      case round =>
        obtain ⟨j, hj, rfl, hd, hu, hl⟩ := hrel
        by_cases hlt : j < K
        · obtain ⟨s, hs⟩ : ∃ s, m1.namesOf[j]? = some s := ⟨_, List.getElem?_eq_getElem (i := j) (by have := HKE.out; omega)⟩
          have hsm := List.mem_of_getElem? hs
          obtain ⟨i, hi⟩ := names_get HO1.out.now hsm
          have hsy := syncs_inv (m1.namesOf.take j) m1 HC.out (fun s hs => names_get HO1.out.now (List.mem_of_mem_take hs))
          have hop := sync_op hsy.calm (s := s) (i := i) (by unfold DM.get; rw [hsy.now]; exact hi)
          have hsy2 := syncs_inv (m1.namesOf.take (j + 1)) m1 HC.out (fun s hs => names_get HO1.out.now (List.mem_of_mem_take hs))
          have HSY := Lib.hid hsy2
          have HOP := Lib.hid (show errE ((syncs m1 (m1.namesOf.take j)).op (.sync s)).2 = .nilIface by rw [hop]; rfl)
          have HN := Lib.hid (syncs_next (m := m1) hs)
          have HSZ := Lib.hid (HNM.out s hsm)
          obtain ⟨pp, cc, ec, hut⟩ := hu.out
          cases ec
          obtain ⟨b, off, rfl, hPb, hcs⟩ := hut j s hs
          clear hs hsm hi hsy hop hsy2 hut
          go_wp2_with fail
          refine (held_sync hd.out s HSZ.out (by omega)).mono ?_
          rintro e w5 ⟨rfl, hd5, hs5⟩
          rw [HOP.out]
          rw [← HN.out] at hd5
          have HD5 := Lib.hid (hd5.fit k (by rw [HSY.out.now]; exact HO1.out.nowN) (by rw [HSY.out.safe, HSY.out.pend]; exact HO1.out.safeN))
          have HU5 := Lib.hid (hu.out.keep hs5)
          have HL5 := Lib.hid ((hs5 bl HPB.out).trans hl.out)
          clear hd5 hs5 hcs
          go_wp2_with fail
          case roundEnd =>
            exact ⟨⟨j + 1, by omega, by rw [Int.natCast_add]; rfl, HD5, HU5, HL5⟩, by simp [intOf]; omega⟩
        · obtain rfl : j = K := by omega
          have hall : m1.namesOf.take j = m1.namesOf := List.take_of_length_le (by rw [HKE.out]; exact Nat.le_refl _)
          rw [hall] at hd
          have hsy := syncs_inv m1.namesOf m1 HC.out (fun s hs => names_get HO1.out.now hs)
          have hfl := flush_op hsy.calm
          have hst := flushed_still HC.out HO1.out
          have hm3 : ((syncs m1 m1.namesOf).op .flush).1.keep = [] ∧ ((syncs m1 m1.namesOf).op .flush).1.room = 1048576 ∧ ((syncs m1 m1.namesOf).op .flush).1.now.length ≤ k ∧ ((syncs m1 m1.namesOf).op .flush).1.safe.length + ((syncs m1 m1.namesOf).op .flush).1.pend.length ≤ k := by
            rw [hfl]
            refine ⟨hsy.keep.trans HKP.out, hsy.room.trans HR.out, ?_, ?_⟩
            · show (syncs m1 m1.namesOf).now.length ≤ k
              rw [hsy.now]
              exact HO1.out.nowN
            · show (syncs m1 m1.namesOf).now.length + 0 ≤ k
              rw [hsy.now]
              exact HO1.out.nowN
          have HE3 := Lib.hid (show errE ((syncs m1 m1.namesOf).op .flush).2 = .nilIface by rw [hfl]; rfl)
          have HDX := Lib.hid (hd.out.sub (Q := fun b => b = bl) (fun b hb => hb.symm ▸ HPB.out))
          have HM3 := Lib.hid hm3
          have HST := Lib.hid hst
          clear hlt hall hsy hfl hst hm3 hd hu HPB
          go_wp2_with fail
          refine (held_flush HDX.out (by omega)).mono ?_
          rintro e w5 ⟨rfl, hd5, hs5⟩
          rw [HE3.out]
          generalize ((syncs m1 m1.namesOf).op .flush).1 = m3 at hd5 HM3 HST
          have HD5 := Lib.hid (hd5.fit k HM3.out.2.2.1 HM3.out.2.2.2)
          have HL5 := Lib.hid ((hs5 bl rfl).trans hl.out)
          clear hd5 hs5 HE3 HDX hl
          go_wp2_with fail
          obtain ⟨K3, hK3⟩ : ∃ K3, m3.now.length = K3 := ⟨_, rfl⟩
          refine (held_shownK HD5.out (by omega) HST.out.calm.1 hK3).mono ?_
          rintro e w6 ⟨vp, vc, up3, uc3, rfl, hv, hu, hb6⟩
          obtain ⟨PT, hd7, hv7, hu7, hpw, hw7, hsm, hsub, hwlt⟩ := held_was HD5.out hb6 hv hu (.cells #[.slice vp K3 vc, .slice up3 K3 uc3] 43)
          have HD7 := Lib.hid hd7
          have HV7 := Lib.hid hv7
          have HU7 := Lib.hid hu7
          have HL7 := Lib.hid ((hsm bl rfl).trans HL5.out)
          have HPL := Lib.hid (hsub bl rfl)
          have HKL := Lib.hid hK3
          have HK3k := Lib.hid (show K3 ≤ k by rw [← hK3]; exact HD5.out.ok.nowN)
          have HW7 := Lib.hid hw7
          have HPW := Lib.hid hpw
          clear hb6 HD5 HL5 hK3 hv hu hd7 hv7 hu7 hpw hw7 hsm hsub
          go_wp2_with fail
          generalize w6.heap.size = bw at HW7 HPW hwlt ⊢
          generalize w6.alloc (.cells #[.slice vp K3 vc, .slice up3 K3 uc3] 43) = w7 at HD7 HV7 HU7 HL7 HW7 ⊢
          go_loopw [14] (fun iv wr => ∃ i : Nat, i ≤ k2 ∧ (i : Int) ≤ 50 ∧ iv = .int .i64 i ∧ Hid (Held w wr PT a k m3) ∧ Hid (TextsIn PT wr (.slice vp K3 vc) m3.namesOf) ∧ Hid (TextsIn PT wr (.slice up3 K3 uc3) m3.datas) ∧ Hid (wr.heap[bl]? = some (.cells #[.slice p4 k4 c4] 26 (0, 0))) ∧ Hid (wr.heap[bw]? = some (.cells #[.slice vp K3 vc, .slice up3 K3 uc3] 43 (0, 0)))) (fun iv _ => k2 - (intOf iv).toNat)
          case atStart => exact ⟨0, Nat.zero_le _, by omega, rfl, HD7, HV7, HU7, HL7, HW7⟩
          case round =>
            obtain ⟨i, hi, hi50, rfl, hd, hv, hu, hl, hw⟩ := hrel
            clear HD7 HV7 HU7 HL7 HW7
            by_cases hlt : (i : Int) < (k2 : Int) ∧ (i : Int) < 50
            · obtain ⟨hlt1, hlt2⟩ := hlt
              obtain ⟨ks2, hks⟩ : ∃ ks2, fs[i]? = some ks2 := ⟨_, List.getElem?_eq_getElem (i := i) (by have := HK2.out; omega)⟩
              obtain ⟨b, off, kv, rfl, hb, hc, hkr⟩ := HF.out i ks2 hks
              have d0 : wr.cell? ⟨b, off + i, none⟩ = some kv := (hd.out.bel.cell (p := ⟨b, off + i, none⟩) hb).trans hc
              have HKR := Lib.hid hkr
              clear hks hc hkr
              have HRV := Lib.hid (HST.out.fail hd.out.ok HM3.out.1 ks2)
              go_wp2_with fail
              refine (held_crash hd.out kv ks2 HKR.out (by omega)).mono ?_
              rintro e x1 ⟨rfl, hd1, hs1⟩
              have HD1 := Lib.hid hd1
              have HS1' := Lib.hid hs1
              clear hd1 hs1 d0
              go_wp2_with fail
              refine (held_revive HD1.out).mono ?_
              rintro e x2 ⟨rfl, hd1, hs1⟩
              rw [HRV.out] at hd1
              have HD2 := Lib.hid hd1
              have HSM := Lib.hid (show Same PT wr x2 from fun b hb => (hs1 b hb).trans (HS1'.out b hb))
              clear hd1 hs1 HD1 HS1' HRV
              go_wp2_with fail
              refine (held_shownK HD2.out (by omega) HST.out.calm.1 HKL.out).mono ?_
              rintro e x3 ⟨vp2, vc2, up2, uc2, rfl, hv2, hu2, hb2⟩
              have hb3 : Below x2.heap.size x2 (x3.alloc (.cells #[.slice vp2 K3 vc2, .slice up2 K3 uc2] 43)) := hb2.alloc hb2.size _
              have HD3 := Lib.hid (HD2.out.below hb3)
              have HSM3 := Lib.hid (show Same PT wr _ from fun b hb => ((HD2.out.same hb3) b hb).trans (HSM.out b hb))
              have hx3 : ∀ {v l}, TextsIn (fun b => x2.heap.size ≤ b ∧ b < x3.heap.size) x3 v l → TextsRd (x3.alloc (.cells #[.slice vp2 K3 vc2, .slice up2 K3 uc2] 43)) v l := fun h => (h.keep (fun b hb => Below.heap_alloc x3 _ b hb.2)).rd
              have HSA := same_any (x3.alloc (.cells #[.slice vp2 K3 vc2, .slice up2 K3 uc2] 43)) (.slice vp2 K3 vc2) (.slice up2 K3 uc2) (.slice vp K3 vc) (.slice up3 K3 uc3) m3.namesOf m3.datas m3.namesOf m3.datas (hx3 hv2) (hx3 hu2) (hv.out.keep HSM3.out).rd (hu.out.keep HSM3.out).rd (by have := HK3k.out; unfold DM.namesOf; rw [List.length_map, HKL.out]; omega) (by have := HK3k.out; unfold DM.datas; rw [List.length_map, HKL.out]; omega)
              rw [show (sameT m3.namesOf m3.namesOf && sameT m3.datas m3.datas) = true by rw [sameT_refl, sameT_refl]; rfl] at HSA
              have HSA := Lib.hid HSA
              have hcw := (HSM3.out bw HPW.out).trans hw.out
              have y0 := cell_of_heapN (i := 0) hcw
              have y1 := cell_of_heapN (i := 1) hcw
              clear hb2 hb3 hx3 hv2 hu2 HSM HD2 hcw
              go_wp2_with fail
              refine HSA.out.mono ?_
              rintro e x4 ⟨rfl, hb4⟩
              have HD4 := Lib.hid (HD3.out.below hb4)
              have HSM4 := Lib.hid (show Same PT wr x4 from fun b hb => ((HD3.out.same hb4) b hb).trans (HSM3.out b hb))
              clear hb4 HD3 HSM3 HSA y0 y1
              go_wp2_with fail
              case roundEnd =>
                exact ⟨⟨i + 1, by omega, by omega, by rw [Int.natCast_add]; rfl, HD4, hv.out.keep HSM4.out, hu.out.keep HSM4.out, (HSM4.out bl HPL.out).trans hl.out, (HSM4.out bw HPW.out).trans hw.out⟩, by simp [intOf]; omega⟩
            · have hor : ¬ (i : Int) < (k2 : Int) ∨ ((i : Int) < (k2 : Int) ∧ ¬ (i : Int) < 50) := by omega
              have y0 := cell_of_heapN (i := 0) hw.out
              clear hlt
              have hmk := run_flags wr K3 (by have := HK3k.out; omega)
              rcases hor with hlt | ⟨hlt, hlt8⟩
              all_goals
                go_wp2_with fail
                have hbk := (Below.refl wr.heap.size wr).alloc (Nat.le_refl _) (.cells (madeCells #[.bool false] K3) 4)
                have hfl := flags_made wr K3
                obtain ⟨PG, hPG⟩ : ∃ PG : Nat → Prop, PG = fun b => PT b ∨ b = wr.heap.size := ⟨_, rfl⟩
                have HDG := Lib.hid (show Held w (wr.alloc (.cells (madeCells #[.bool false] K3) 4)) PG a k m3 from (hd.out.keeps hbk).sub (fun b hb => by rw [hPG] at hb; exact hb.elim .inl (fun h => .inr ⟨by omega, by rw [World.size_alloc]; omega⟩)))
                have HVG := Lib.hid (hv.out.keep (hd.out.same hbk))
                have HUG := Lib.hid (hu.out.keep (hd.out.same hbk))
                have HLG := Lib.hid ((hd.out.same hbk bl HPL.out).trans hl.out)
                have HWG := Lib.hid ((hd.out.same hbk bw HPW.out).trans hw.out)
                have HFG := Lib.hid hfl
                have hgT : ¬ PT wr.heap.size := fun h => absurd (hd.out.lt _ h) (by omega)
                have hgw := hd.out.bel.size
                have HSUB := Lib.hid (show ∀ b, PT b → PG b from fun b hb => by rw [hPG]; exact .inl hb)
                generalize wr.alloc (.cells (madeCells #[.bool false] K3) 4) = w9 at HDG HVG HUG HLG HWG HFG ⊢
                have HPGG := Lib.hid (show PG wr.heap.size by rw [hPG]; exact .inr rfl)
                generalize wr.heap.size = g at HFG HPGG hgT hgw ⊢
                clear hd hv hu hl hw hbk hfl hPG hmk y0
                have HNM3 := Lib.hid (fun (s : ByteArray) (hs : s ∈ m3.namesOf) => HDG.out.name_le hs)
                have HDZ3 := Lib.hid (fun (p : Bs × Nat) (hp : p ∈ m3.now) => show m3.files[p.2]!.data.size ≤ 1048576 from HM3.out.2.1 ▸ (HDG.out.ok.file _ (get!_mem (HDG.out.ok.nowI p hp))).2)
                have HKE3 := Lib.hid (show ∀ (j : Nat) (p : Bs × Nat), m3.now[j]? = some p → (fun _ => false) j = false → m3.Keeps p.1 p.2 m3.files[p.2]!.data from fun j p hp _ => Still_keeps HST.out HDG.out.ok (List.mem_of_getElem? hp))
                have HMG := Lib.hid (show SafeM PT PG (.slice vp K3 vc) (.slice up3 K3 uc3) m3.namesOf m3.datas bl bw g K3 (.slice p4 k4 c4) w9 (fun _ => false) from ⟨HVG.out, HUG.out, HLG.out, HWG.out, HFG.out, HSUB.out, HPL.out, HPW.out, HPGG.out, hgT⟩)
                clear HVG HUG HLG HWG HFG HSUB HPGG hgT
                go_loopw [18] (fun iv wr => ∃ (q : Nat) (m : DM) (f : Nat → Bool), q ≤ k3 ∧ iv = .int .i64 q ∧ Hid (Held w wr PG a (k + q) m) ∧ Hid (SafeM PT PG (.slice vp K3 vc) (.slice up3 K3 uc3) m3.namesOf m3.datas bl bw g K3 (.slice p4 k4 c4) wr f) ∧ Hid (m.Calm ∧ m.room = 1048576) ∧ Hid (∀ (j : Nat) (p : Bs × Nat), m3.now[j]? = some p → f j = false → m.Keeps p.1 p.2 m3.files[p.2]!.data)) (fun iv _ => k3 - (intOf iv).toNat)
                case atStart => exact ⟨0, m3, fun _ => false, Nat.zero_le _, rfl, HDG, HMG, Lib.hid ⟨HST.out.calm, HM3.out.2.1⟩, HKE3⟩
                case round =>
                  obtain ⟨q, m, f, hq, rfl, hd, hM, hm, hk⟩ := hrel
                  clear HKE3 HMG HDG
                  by_cases hlt3 : q < k3
                  · obtain ⟨s, hs⟩ : ∃ s, l2[q]? = some s := ⟨_, List.getElem?_eq_getElem (i := q) (by have := HK3.out; omega)⟩
                    obtain ⟨b, off, kv, rfl, hb, hc, hkr⟩ := HS2.out q s hs
                    obtain ⟨kp, kc, rfl, -⟩ := hkr
                    generalize s.keep.length = kl at hc
                    have hrow : ∀ j, j < 6 → wr.cell? ⟨b, off + (q * 6 + j), none⟩ = (s.cells (.slice kp kl kc))[j]? := fun j hj => (hd.out.bel.cell (p := ⟨b, off + (q * 6 + j), none⟩) hb).trans (hc j hj)
                    have d0 : wr.cell? ⟨b, off + q * 6, none⟩ = some (.int .i64 s.act) := cell6 hrow (j := 0) (by decide) rfl
                    have d1 : wr.cell? ⟨b, off + q * 6 + 1, none⟩ = some (.int .i64 s.who) := cell6 hrow (j := 1) (by decide) rfl
                    have d2 : wr.cell? ⟨b, off + q * 6 + 2, none⟩ = some (.string s.name) := cell6 hrow (j := 2) (by decide) rfl
                    have d3 : wr.cell? ⟨b, off + q * 6 + 3, none⟩ = some (.string s.data) := cell6 hrow (j := 3) (by decide) rfl
                    have d4 : wr.cell? ⟨b, off + q * 6 + 4, none⟩ = some (.int .i64 s.num) := cell6 hrow (j := 4) (by decide) rfl
                    have d5 : wr.cell? ⟨b, off + q * 6 + 5, none⟩ = some (.slice kp kl kc) := cell6 hrow (j := 5) (by decide) rfl
                    have HF2 := Lib.hid (HG2.out s (List.mem_of_getElem? hs))
                    clear hrow hs hc
                    have hbA := (Below.refl wr.heap.size wr).alloc (Nat.le_refl _) (.cells (s.cells (.slice kp kl kc)) 36)
                    have HDA := Lib.hid (hd.out.keeps hbA)
                    have HMA := Lib.hid (hM.out.keep (hd.out.same hbA))
                    have HXA := Lib.hid (heap_new wr (.cells (s.cells (.slice kp kl kc)) 36))
                    have hxlt := hd.out.bel.size
                    clear hbA
                    unfold StepM.cells at HDA HMA HXA
                    by_cases ha6 : s.act = 6
                    · rw [ha6] at HDA HMA d0
                      go_wp2_with fail
                      case roundEnd => exact ⟨⟨q + 1, m, f, by omega, by rw [Int.natCast_add]; rfl, (HDA.out.sub (fun b hb => .inl hb)).more (by omega), HMA, hm, hk⟩, by simp [intOf]; omega⟩
                    · have hb6 : (s.act == 6) = false := beq_eq_false_iff_ne.2 ha6
                      go_wp2_with fail
                      have hroom : (k + q) * m.room ≤ 4611686018427387904 := by
                        rw [hm.out.2]
                        omega
                      refine (held_change HDA.out s (.slice kp kl kc) HF2.out (by omega) hroom).mono ?_
                      rintro e x1 ⟨rfl, hd1, hs1⟩
                      have HD1 := Lib.hid (hd1.sub (Q := PG) (fun b hb => .inl hb))
                      have HM1 := Lib.hid (HMA.out.keep (fun b hb => hs1 b (.inl hb)))
                      have hx1 := (hs1 wr.heap.size (.inr ⟨Nat.le_refl _, by rw [World.size_alloc]; omega⟩)).trans HXA.out
                      have z0 : x1.cell? ⟨wr.heap.size, 0, none⟩ = some (.int .i64 s.act) := cell_of_heapN hx1
                      have z2 : x1.cell? ⟨wr.heap.size, 2, none⟩ = some (.string s.name) := cell_of_heapN hx1
                      have z3 : x1.cell? ⟨wr.heap.size, 3, none⟩ = some (.string s.data) := cell_of_heapN hx1
                      have HX1 := Lib.hid hx1
                      have HMM := Lib.hid (show (m.op s.call).1.Calm ∧ (m.op s.call).1.room = 1048576 from ⟨hm.out.1.op _, (op_room m _).trans hm.out.2⟩)
                      have HKS := Lib.hid (fun (f' : Nat → Bool) (hf' : ∀ (j : Nat) (p : Bs × Nat), m3.now[j]? = some p → f' j = false → f j = false ∧ ((m.op s.call).2 = 0 → s.act ≠ 2 → s.act ≠ 3 → touchB s (nameB p) = false)) (j : Nat) (p : Bs × Nat) (hp : m3.now[j]? = some p) (hj : f' j = false) => keeps_step hm.out.1 hd.out.ok (hk.out j p hp (hf' j p hp hj).1) s (hf' j p hp hj).2)
                      clear hd1 hs1 hx1 HDA HMA HXA hroom d0 d1 d2 d3 d4 d5
                      generalize (m.op s.call).1 = m' at HD1 HMM HKS
                      generalize (m.op s.call).2 = ex at HKS ⊢
                      by_cases he : ex = 0
                      · subst he
                        rw [show errE 0 = Value.nilIface from rfl]
                        by_cases ha2 : s.act = 2
                        · have HKX := Lib.hid (HKS.out f (fun j p _ hj => ⟨hj, fun _ h2 => absurd ha2 h2⟩))
                          go_wp2_with fail
                          case roundEnd => exact ⟨⟨q + 1, m', f, by omega, by rw [Int.natCast_add]; rfl, HD1, HM1, HMM, HKX⟩, by simp [intOf]; omega⟩
                        · by_cases ha3 : s.act = 3
                          · have HKX := Lib.hid (HKS.out f (fun j p _ hj => ⟨hj, fun _ _ h3 => absurd ha3 h3⟩))
                            go_wp2_with fail
                            case roundEnd => exact ⟨⟨q + 1, m', f, by omega, by rw [Int.natCast_add]; rfl, HD1, HM1, HMM, HKX⟩, by simp [intOf]; omega⟩
                          · have hb2 : (s.act == 2) = false := beq_eq_false_iff_ne.2 ha2
                            have hb3 : (s.act == 3) = false := beq_eq_false_iff_ne.2 ha3
                            go_wp2_with fail
                            have HXL := Lib.hid (show w.heap.size ≤ wr.heap.size from hxlt)
                            obtain ⟨bx, hbx⟩ : ∃ bx, wr.heap.size = bx := ⟨_, rfl⟩
                            have HGX := Lib.hid (show g ≠ bx by have := hd.out.lt g hM.out.pg; omega)
                            rw [hbx] at z0 z2 z3 HX1 HXL ⊢
                            clear z0 z2 z3
                            go_loopw [20] (fun iv wt => ∃ (t : Nat) (f' : Nat → Bool), t ≤ K3 ∧ iv = .int .i64 t ∧ Hid (Held w wt PG a (k + q + 1) m') ∧ Hid (SafeM PT PG (.slice vp K3 vc) (.slice up3 K3 uc3) m3.namesOf m3.datas bl bw g K3 (.slice p4 k4 c4) wt f') ∧ Hid (wt.heap[bx]? = some (.cells #[.int .i64 s.act, .int .i64 s.who, .string s.name, .string s.data, .int .i64 s.num, .slice kp kl kc] 36 (0, 0))) ∧ Hid (∀ (j : Nat) (p : Bs × Nat), m3.now[j]? = some p → f' j = false → f j = false ∧ (j < t → touchB s (nameB p) = false))) (fun iv _ => K3 - (intOf iv).toNat)
                            case atStart => exact ⟨0, f, Nat.zero_le _, rfl, HD1, HM1, HX1, Lib.hid (fun j p _ h => ⟨h, fun h0 => absurd h0 (Nat.not_lt_zero _)⟩)⟩
                            case round =>
                              obtain ⟨t, f', ht, rfl, hd2, hM2, hX2, hf2⟩ := hrel
                              have y0 : wr.cell? ⟨bw, 0, none⟩ = some (.slice vp K3 vc) := cell_of_heapN hM2.out.was
                              by_cases hlt4 : (t : Int) < (K3 : Int)
                              · obtain ⟨p, hp⟩ : ∃ p, m3.now[t]? = some p := ⟨_, List.getElem?_eq_getElem (i := t) (by have := HKL.out; omega)⟩
                                have hnm : m3.namesOf[t]? = some (nameB p) := by unfold DM.namesOf; rw [List.getElem?_map, hp]; rfl
                                obtain ⟨nb, no, rfl, -, hcs⟩ := hM2.out.names.at hnm
                                have hK3i : (K3 : Int) ≤ 2000000000000 := by have := HK3k.out; omega
                                obtain ⟨c8, f8⟩ := hM2.out.flag (q := t) (by omega)
                                have z0 : wr.cell? ⟨bx, 0, none⟩ = some (.int .i64 s.act) := cell_of_heapN hX2.out
                                have z2 : wr.cell? ⟨bx, 2, none⟩ = some (.string s.name) := cell_of_heapN hX2.out
                                have z3 : wr.cell? ⟨bx, 3, none⟩ = some (.string s.data) := cell_of_heapN hX2.out
                                have HD5 := fun (x : Bool) => Lib.hid ((hd2.out.drews (q := 1)).setP (p := ⟨g, t, none⟩) hM2.out.pg hgw (.bool x))
                                have HM5 := fun (x : Bool) => Lib.hid ((hM2.out.keep (w' := wr.drewN 1) (fun _ _ => rfl)).set (q := t) (by omega) x)
                                have HX5 := fun (x : Bool) => Lib.hid (show ((wr.drewN 1).setCell ⟨g, t, none⟩ (.bool x)).heap[bx]? = _ from (Below.heap_setCell (wr.drewN 1) ⟨g, t, none⟩ (.bool x) bx (fun e => HGX.out e.symm)).trans hX2.out)
                                have HFN := fun (x : Bool) (hx : x = (f' t || touchB s (nameB p))) => Lib.hid (flags_next hf2.out hp hx)
                                generalize nameB p = nm at hcs HFN
                                clear hnm hd2 hM2 hX2 hf2 hp
                                cases hft : f' t with
                                | true =>
                                  rw [hft] at c8
                                  go_wp2_with fail
                                  refine wp_region_quietF 32 mixedD (by kernel_rfl) ?_
                                  simp only [List.take_succ_cons, List.take_zero, List.drop_succ_cons, List.drop_zero]
                                  repeat (go_big_quiet_step (fail))
                                  refine wpQuiet_nil ?_
                                  go_wp2_with fail
                                  case roundEnd => exact ⟨⟨t + 1, _, by omega, by rw [Int.natCast_add]; rfl, HD5 true, HM5 true, HX5 true, HFN true (touch_t (.inl hft))⟩, by simp [intOf]; omega⟩
                                | false =>
                                  rw [hft] at c8
                                  by_cases hn : nm = s.name
                                  · subst hn
                                    go_wp2_with fail
                                    refine wp_region_quietF 32 mixedD (by kernel_rfl) ?_
                                    simp only [List.take_succ_cons, List.take_zero, List.drop_succ_cons, List.drop_zero]
                                    repeat (go_big_quiet_step (fail))
                                    refine wpQuiet_nil ?_
                                    go_wp2_with fail
                                    case roundEnd => exact ⟨⟨t + 1, _, by omega, by rw [Int.natCast_add]; rfl, HD5 true, HM5 true, HX5 true, HFN true (touch_t (.inr (.inl rfl)))⟩, by simp [intOf]; omega⟩
                                  · have hbn := toList_ne hn
                                    by_cases ha4 : s.act = 4
                                    · rw [ha4] at z0
                                      have HA4 := Lib.hid ha4
                                      clear ha4
                                      by_cases hn2 : nm = s.data
                                      · subst hn2
                                        go_wp2_with fail
                                        refine wp_region_quietF 32 mixedD (by kernel_rfl) ?_
                                        simp only [List.take_succ_cons, List.take_zero, List.drop_succ_cons, List.drop_zero]
                                        repeat (go_big_quiet_step (fail))
                                        refine wpQuiet_nil ?_
                                        go_wp2_with fail
                                        case roundEnd => exact ⟨⟨t + 1, _, by omega, by rw [Int.natCast_add]; rfl, HD5 true, HM5 true, HX5 true, HFN true (touch_t (.inr (.inr ⟨HA4.out, rfl⟩)))⟩, by simp [intOf]; omega⟩
                                      · have hbn2 := toList_ne hn2
                                        go_wp2_with fail
                                        refine wp_region_quietF 32 mixedD (by kernel_rfl) ?_
                                        simp only [List.take_succ_cons, List.take_zero, List.drop_succ_cons, List.drop_zero]
                                        repeat (go_big_quiet_step (fail))
                                        refine wpQuiet_nil ?_
                                        go_wp2_with fail
                                        case roundEnd => exact ⟨⟨t + 1, _, by omega, by rw [Int.natCast_add]; rfl, HD5 false, HM5 false, HX5 false, HFN false (touch_f hft hn (.inr hn2))⟩, by simp [intOf]; omega⟩
                                    · have hb4 : (s.act == 4) = false := beq_eq_false_iff_ne.2 ha4
                                      go_wp2_with fail
                                      refine wp_region_quietF 32 mixedD (by kernel_rfl) ?_
                                      simp only [List.take_succ_cons, List.take_zero, List.drop_succ_cons, List.drop_zero]
                                      repeat (go_big_quiet_step (fail))
                                      refine wpQuiet_nil ?_
                                      go_wp2_with fail
                                      exact ⟨⟨t + 1, _, by omega, by rw [Int.natCast_add]; rfl, HD5 false, HM5 false, HX5 false, HFN false (touch_f hft hn (.inl ha4))⟩, by simp [intOf]; omega⟩
                              · obtain rfl : t = K3 := by omega
                                have HKX := Lib.hid (HKS.out f' (fun j p hp hj => ⟨(hf2.out j p hp hj).1, fun _ _ _ => (hf2.out j p hp hj).2 (by have h1 := (List.getElem?_eq_some_iff.1 hp).1; have h2 := HKL.out; omega)⟩))
                                go_wp2_with fail
                                case roundEnd => exact ⟨⟨q + 1, m', f', by omega, by rw [Int.natCast_add]; rfl, hd2, hM2, HMM, HKX⟩, by simp [intOf]; omega⟩
                      · have HKX := Lib.hid (HKS.out f (fun j p _ hj => ⟨hj, fun h => absurd h he⟩))
                        rw [errE_nz he]
                        unfold errV
                        go_wp2_with fail
                        case roundEnd => exact ⟨⟨q + 1, m', f, by omega, by rw [Int.natCast_add]; rfl, HD1, HM1, HMM, HKX⟩, by simp [intOf]; omega⟩
                  · obtain rfl : q = k3 := by omega
                    have yl : wr.cell? ⟨bl, 0, none⟩ = some (.slice p4 k4 c4) := cell_of_heapN hM.out.last
                    have HRD := Lib.hid (fun (j : Nat) (p : Bs × Nat) (hp : m3.now[j]? = some p) (hj : f j = false) => keeps_read hd.out.ok hm.out.1.1 (hk.out j p hp hj) ks)
                    clear hlt3 hk hm
                    go_wp2_with fail
                    refine (held_crash hd.out (.slice p4 k4 c4) ks H4.out (by omega)).mono ?_
                    rintro e x1 ⟨rfl, hd1, hs1⟩
                    have HD1 := Lib.hid hd1
                    have HM1 := Lib.hid (hM.out.keep hs1)
                    clear hd1 hs1 hd hM yl
                    go_wp2_with fail
                    refine (held_revive HD1.out).mono ?_
                    rintro e x2 ⟨rfl, hd1, hs1⟩
                    have HD2 := Lib.hid hd1
                    have HM2 := Lib.hid (HM1.out.keep hs1)
                    clear hd1 hs1 HD1 HM1
                    generalize (m.crash ks).revive = mr at HD2 HRD
                    go_wp2_with fail
                    go_loopw [21] (fun iv wr => ∃ (t : Nat), t ≤ K3 ∧ iv = .int .i64 t ∧ Hid (Held w wr PG a (k + q) mr) ∧ Hid (SafeM PT PG (.slice vp K3 vc) (.slice up3 K3 uc3) m3.namesOf m3.datas bl bw g K3 (.slice p4 k4 c4) wr f)) (fun iv _ => K3 - (intOf iv).toNat)
                    case atStart => exact ⟨0, Nat.zero_le _, rfl, HD2, HM2⟩
                    case round =>
                      obtain ⟨t, ht, rfl, hd, hM⟩ := hrel
                      have y0 : wr.cell? ⟨bw, 0, none⟩ = some (.slice vp K3 vc) := cell_of_heapN hM.out.was
                      have y1 : wr.cell? ⟨bw, 1, none⟩ = some (.slice up3 K3 uc3) := cell_of_heapN hM.out.was
                      by_cases hlt4 : (t : Int) < (K3 : Int)
                      · obtain ⟨p, hp⟩ : ∃ p, m3.now[t]? = some p := ⟨_, List.getElem?_eq_getElem (i := t) (by have := HKL.out; omega)⟩
                        have hnm : m3.namesOf[t]? = some (nameB p) := by unfold DM.namesOf; rw [List.getElem?_map, hp]; rfl
                        have hdm : m3.datas[t]? = some m3.files[p.2]!.data := by unfold DM.datas; rw [List.getElem?_map, hp]; rfl
                        obtain ⟨nb, no, rfl, -, hcs⟩ := hM.out.names.at hnm
                        obtain ⟨db, do_, rfl, -, hds⟩ := hM.out.datas.at hdm
                        have hK3i : (K3 : Int) ≤ 2000000000000 := by have := HK3k.out; omega
                        obtain ⟨c8, f8⟩ := hM.out.flag (q := t) (by omega)
                        have HSZ := Lib.hid (HNM3.out (nameB p) (List.mem_of_getElem? hnm))
                        have HRDt := Lib.hid (HRD.out t p hp)
                        have HDZ := Lib.hid (HDZ3.out p (List.mem_of_getElem? hp))
                        generalize nameB p = nm at hcs HSZ HRDt
                        generalize m3.files[p.2]!.data = d at hds HRDt HDZ
                        clear hnm hdm hp
                        cases hft : f t with
                        | true =>
                          rw [hft] at c8
                          go_wp2_with fail
                          refine (held_read hd.out nm HSZ.out).mono ?_
                          rintro e x3 ⟨rfl, hx⟩
                          subst hx
                          go_wp2_with fail
                          refine wp_region_quietF 25 mixedD (by kernel_rfl) ?_
                          simp only [List.take_succ_cons, List.take_zero, List.drop_succ_cons, List.drop_zero]
                          repeat (go_big_quiet_step (fail))
                          refine wpQuiet_nil ?_
                          go_wp2_with fail
                          case roundEnd => exact ⟨⟨t + 1, by omega, by rw [Int.natCast_add]; rfl, hd.out.drews, hM.out.keep (fun _ _ => rfl)⟩, by simp [intOf]; omega⟩
                        | false =>
                          rw [hft] at c8
                          obtain ⟨sv, hrd, hle, hex⟩ := HRDt.out hft
                          have HREAD := held_read hd.out nm HSZ.out
                          rw [hrd] at HREAD
                          simp only [] at HREAD
                          rw [show errE 0 = Value.nilIface from rfl] at HREAD
                          have HREAD := Lib.hid HREAD
                          have hle5 : ¬ sv.size < d.size := by omega
                          have hle1 : (d.size : Int) ≤ (sv.size : Int) := by omega
                          have hle2 : (0 : Int) ≤ (d.size : Int) := by omega
                          have hle3 : ¬ (sv.size : Int) < (d.size : Int) := by omega
                          clear hrd hle
                          go_wp2_with fail
                          refine HREAD.out.mono ?_
                          rintro e x3 ⟨rfl, hx⟩
                          subst hx
                          go_wp2_with fail
                          refine wp_region_quietF 25 mixedD (by kernel_rfl) ?_
                          simp only [List.take_succ_cons, List.take_zero, List.drop_succ_cons, List.drop_zero]
                          repeat (go_big_quiet_step (fail))
                          refine wpQuiet_nil ?_
                          go_wp2_with fail
                          case roundEnd => exact ⟨⟨t + 1, by omega, by rw [Int.natCast_add]; rfl, hd.out.drews, hM.out.keep (fun _ _ => rfl)⟩, by simp [intOf]; omega⟩
                      · obtain rfl : t = K3 := by omega
                        go_wp2_with fail
                        go_ret
                        exact ⟨rfl, hd.out.bel⟩
end Go.Proofs.YtlcompihcmhbiaaGreatDoor
