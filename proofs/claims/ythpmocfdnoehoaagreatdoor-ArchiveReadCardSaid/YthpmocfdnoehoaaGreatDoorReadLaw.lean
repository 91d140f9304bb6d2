/- The walk of ArchiveRead. -/
import Derived.Test.YthpmocfdnoehoaaGreatDoorRefRead
import Derived.Test.YthpmocfdnoehoaaGreatDoorReadBig
import Derived.Test.YthpmocfdnoehoaaGreatDoorApart
import Derived.Test.YthpmocfdnoehoaaGreatDoorWorks
namespace Go.Proofs.YthpmocfdnoehoaaGreatDoor
open Go.RowKit
theorem endGo_range (l : Bs) : ∀ f i, (endGo l f i).1 = 0 ∨ (1 ≤ (endGo l f i).1 ∧ (endGo l f i).1 ≤ 32) := by
  intro f
  induction f with
  | zero => intro i; left; rfl
  | succ f ih =>
    intro i
    rw [endGo]
    split
    · right; show (1 : Int) ≤ 2 ∧ (2 : Int) ≤ 32; decide
    · split
      · right; show (1 : Int) ≤ 3 ∧ (3 : Int) ≤ 32; decide
      · split
        · left; rfl
        · exact ih _
theorem decErrM_range (l : Bs) : decErrM l = 0 ∨ (1 ≤ decErrM l ∧ decErrM l ≤ 32) := by
  unfold decErrM decErr
  split
  · split
    · right; decide
    · split
      · right; decide
      · left; rfl
  · right; decide
theorem memAt_range {l : Bs} {i j : Nat} {e : Int} (h : memAt l i = .bad e j) : 1 ≤ e ∧ e ≤ 32 := by
  unfold memAt at h
  split at h
  · rename_i hne
    obtain ⟨rfl, -⟩ := MemR.bad.inj h
    rcases decErrM_range (blkAt l i) with h0 | h1
    · exact absurd h0 hne
    · exact h1
  · split at h
    · obtain ⟨rfl, -⟩ := MemR.bad.inj h
      decide
    · cases h
theorem rdGo_range (l : Bs) : ∀ (f i : Nat) (e : Int) (j : Nat), RdX.bad e j ∈ rdGo l f i → 1 ≤ e ∧ e ≤ 32 := by
  intro f
  induction f with
  | zero => intro i e j h; simp [rdGo] at h
  | succ f ih =>
    intro i e j h
    rw [rdGo] at h
    split at h
    · obtain ⟨rfl, -⟩ := RdX.bad.inj (List.mem_singleton.1 h)
      decide
    · split at h
      · split at h
        · simp at h
        · rename_i hne
          obtain ⟨rfl, -⟩ := RdX.bad.inj (List.mem_singleton.1 h)
          rcases endGo_range l (l.length + 1) (i + 512) with h0 | h1
          · exact absurd h0 hne
          · exact h1
      · split at h
        · rename_i hm
          obtain ⟨rfl, -⟩ := RdX.bad.inj (List.mem_singleton.1 h)
          exact memAt_range hm
        · rcases List.mem_cons.1 h with h | h
          · cases h
          · exact ih _ e j h
theorem rdGo_few (l : Bs) : ∀ f i, i ≤ l.length → 512 * (rdGo l f i).length ≤ (l.length - i) + 512 := by
  intro f
  induction f with
  | zero => intro i _; simp [rdGo]
  | succ f ih =>
    intro i hi
    rw [rdGo]
    split
    · simp
    · split
      · split <;> simp
      · split
        · simp
        · rename_i m n hm
          have := memAt_next hm
          have := ih n this.2
          rw [List.length_cons]
          omega
/-- What is read of a text, by both. -/
theorem rd_out (s : ByteArray) : ∃ (x i : Int) (ms : List Mem), (x = 0 ∨ (1 ≤ x ∧ x ≤ 32)) ∧ ms.length ≤ 65537 ∧
    (∀ w : World, Calls Tryz.prog 16 #[.string s] w fun e w' => ∃ v, e = .returned (.tuple #[v, if x = 0 then .nilIface else faultV x 0 i]) ∧ OwnMs w.heap.size ms v w' ∧ Below w.heap.size w w') ∧
    (∀ w : World, Calls Tryz.prog 34 #[.string s] w fun e w' => ∃ v, e = .returned (.tuple #[v, .int .i64 x, .int .i64 i]) ∧ OwnMs w.heap.size ms v w' ∧ Below w.heap.size w w') := by
  have nilOwn : ∀ w w' : World, OwnMs w.heap.size [] (.slice none 0 0) w' := fun w w' => ⟨World.ownsRow_nil _ _ _ _, by simp⟩
  by_cases hs : (33554432 : Int) < (s.size : Int)
  · refine ⟨5, 33554432, [], .inr (by decide), by simp, fun w => (read_big s w hs).mono ?_, fun w => (ReadR_big s w hs).mono ?_⟩
    · rintro e w' ⟨rfl, hb⟩
      exact ⟨_, by rw [if_neg (by decide)], nilOwn w w', hb⟩
    · rintro e w' ⟨rfl, hb⟩
      exact ⟨_, rfl, nilOwn w w', hb⟩
  · have hsz : s.size ≤ 33554432 := by omega
    have hfew := rdGo_few s.data.toList (s.data.toList.length + 1) 0 (Nat.zero_le _)
    have hsl : s.data.toList.length = s.size := rfl
    rcases rdGo_shape s.data.toList (s.data.toList.length + 1) 0 with ⟨ms, h⟩ | ⟨ms, x, j, h⟩
    · refine ⟨0, 0, ms, .inl rfl, by rw [h, List.length_map] at hfew; omega, fun w => (read_walk s w hsz).mono ?_, fun w => (ReadR_any s w (by omega)).mono ?_⟩
      · rintro e w' ⟨hp, hb⟩
        rw [h] at hp
        rcases hp with ⟨ms', v, h1, rfl, h2, h3⟩ | ⟨ms', x, i, h1, _⟩
        · have := mem_inj h1
          subst this
          exact ⟨v, by rw [if_pos rfl], ⟨h2, h3⟩, hb⟩
        · exact absurd h1.symm (no_bad _ [] _ _ _)
      · rintro e w' ⟨hp, hb⟩
        rw [h] at hp
        rcases hp with ⟨ms', v, h1, rfl, h2⟩ | ⟨ms', x, i, h1, _⟩
        · have := mem_inj h1
          subst this
          exact ⟨v, rfl, h2, hb⟩
        · exact absurd h1.symm (no_bad _ [] _ _ _)
    · have hr := rdGo_range s.data.toList (s.data.toList.length + 1) 0 x j (by rw [h]; simp)
      refine ⟨x, (j : Nat), [], .inr hr, by simp, fun w => (read_walk s w hsz).mono ?_, fun w => (ReadR_any s w (by omega)).mono ?_⟩
      · rintro e w' ⟨hp, hb⟩
        rw [h] at hp
        rcases hp with ⟨ms', v, h1, _⟩ | ⟨ms', x', i, h1, rfl⟩
        · exact absurd h1 (no_bad _ [] _ _ _)
        · obtain ⟨rfl, rfl⟩ := one_bad (ms'.map .mem) [] ms _ _ _ _ h1.symm
          exact ⟨_, by rw [if_neg (by omega)], nilOwn w w', hb⟩
      · rintro e w' ⟨hp, hb⟩
        rw [h] at hp
        rcases hp with ⟨ms', v, h1, _⟩ | ⟨ms', x', i, h1, rfl⟩
        · exact absurd h1 (no_bad _ [] _ _ _)
        · obtain ⟨rfl, rfl⟩ := one_bad (ms'.map .mem) [] ms _ _ _ _ h1.symm
          exact ⟨_, rfl, nilOwn w w', hb⟩
/-- Several lists of the call's own. -/
def Kps (A : List (Nat × List Mem × Value)) (w : World) : Prop := ∀ x ∈ A, OwnMs x.1 x.2.1 x.2.2 w
theorem Kps.keep {A : List (Nat × List Mem × Value)} {w w' : World} (h : Kps A w) (hb : Below w.heap.size w w') : Kps A w' := fun x hx => (h x hx).keep hb
theorem Kps.cons {A : List (Nat × List Mem × Value)} {w : World} {b : Nat} {ms : List Mem} {v : Value} (h : Kps A w) (ho : OwnMs b ms v w) : Kps ((b, ms, v) :: A) w := fun x hx => by
  rcases List.mem_cons.1 hx with rfl | hx
  · exact ho
  · exact h x hx
theorem Kps.at {A : List (Nat × List Mem × Value)} {w : World} {b n c : Nat} {p : Option Addr} {ms : List Mem} (h : Kps A w) (hm : (b, ms, .slice p n c) ∈ A) : MemsAt w p ms := by
  obtain ⟨q, cap, e, hq, _⟩ := (h _ hm).at
  obtain ⟨rfl, -, -⟩ := Value.slice.inj e
  exact hq
theorem OwnMs.blk {b : Nat} {ms : List Mem} {v : Value} {w : World} (h : OwnMs b ms v w) : ∀ k, v.ownBlock = some k → b ≤ k ∧ k < w.heap.size := h.1.lt
theorem ownsRow_base {w : World} {B B' S s n : Nat} {v : Value} {xs : List Value} (h : w.ownsRow B S s v n xs) (hB : B' ≤ B) : w.ownsRow B' S s v n xs := by
  refine ⟨h.1, ?_⟩
  rcases h.2 with h2 | ⟨g, cap, cur, h1, h2, h3⟩
  · exact .inl h2
  · exact .inr ⟨g, cap, cur, h1, Nat.le_trans hB h2, h3⟩
set_option maxHeartbeats 6400000 in
set_option maxRecDepth 100000 in
theorem readL_any (s t : ByteArray) (w : World) (hG : ErrT w) :
    Calls Tryz.prog 12 #[.string s, .string t] w fun e w' => e = .returned (.bool true) ∧ Below w.heap.size w w' := by
  obtain ⟨x, i, ms, hx, hml, hA, hR⟩ := rd_out s
  obtain ⟨y, j, ns, hy, hnl, hB, hS⟩ := rd_out t
  have hat : ∀ w4 : World, ErrT w4 → Calls Tryz.prog 10 #[if x = 0 then .nilIface else faultV x 0 i, .int .i64 x, .int .i64 0, .int .i64 i] w4 fun e w' => e = .returned (.bool true) ∧ Below w4.heap.size w4 w' := fun w4 hE => by
    by_cases h0 : x = 0
    · rw [if_pos h0, h0]
      exact (at_nil 0 i w4).mono fun _ _ ⟨he, hw⟩ => ⟨he, by rw [← hw]; exact Below.refl _ _⟩
    · rw [if_neg h0]
      refine (at_fault x 0 i x 0 i w4 hE (by omega) (by omega) (by omega)).mono fun _ _ ⟨he, hw⟩ => ⟨he.trans ?_, hw⟩
      simp
  have hnum : ∀ w4 : World, Calls Tryz.prog 32 #[if y = 0 then .nilIface else faultV y 0 j] w4 fun e w' => e = .returned (.int .i64 y) ∧ Below w4.heap.size w4 w' := fun w4 => by
    by_cases h0 : y = 0
    · rw [if_pos h0, h0]
      exact (num_nil w4).mono fun _ _ ⟨he, hw⟩ => ⟨he, by rw [← hw]; exact Below.refl _ _⟩
    · rw [if_neg h0]
      exact num_any _ _ y w4 (isNum_fault y 0 j) (by omega) (by omega)
  obtain ⟨E, hE⟩ : ∃ E : Value, (if x = 0 then .nilIface else faultV x 0 i) = E := ⟨_, rfl⟩
  obtain ⟨F, hF⟩ : ∃ F : Value, (if y = 0 then .nilIface else faultV y 0 j) = F := ⟨_, rfl⟩
  rw [hE] at hA hat
  rw [hF] at hB hnum
  have HA := Lib.hid hA
  have HB := Lib.hid hB
  have HR := Lib.hid hR
  have HS := Lib.hid hS
  have HAT := Lib.hid hat
  have HNUM := Lib.hid hnum
  have HML := Lib.hid hml
  have HNL := Lib.hid hnl
  have HG := Lib.hid hG
  clear hE hF hA hB hR hS hat hnum hx hy hml hnl hG
  go_enter Tryz.func12, Tryz.ntmps12
  go_wp2_with fail
  refine (HR.out _).mono ?_
  rintro e w1 ⟨v1, rfl, ho1, hb1⟩
  obtain ⟨p1, c1, rfl, -, -, -⟩ := ho1.at
  have K1 := Lib.hid (show Kps [(w.heap.size, ms, .slice p1 ms.length c1)] w1 from Kps.cons (fun _ h => by cases h) ho1)
  have B1 := Lib.hid hb1
  clear ho1 hb1
  go_wp2_with fail
  refine (HS.out _).mono ?_
  rintro e w2 ⟨v2, rfl, ho2, hb2⟩
  obtain ⟨p2, c2, rfl, -, -, -⟩ := ho2.at
  have K2 := Lib.hid ((K1.out.keep hb2).cons ho2)
  have B2 := Lib.hid (B1.out.trans (hb2.mono B1.out.size))
  clear ho2 hb2 K1 B1
  go_wp2_with fail
  refine (HA.out _).mono ?_
  rintro e w3 ⟨v3, rfl, ho3, hb3⟩
  obtain ⟨p3, c3, rfl, -, -, -⟩ := ho3.at
  have K3 := Lib.hid ((K2.out.keep hb3).cons ho3)
  have B3 := Lib.hid (B2.out.trans (hb3.mono B2.out.size))
  have A3 := Lib.hid (show ∀ k, Value.ownBlock (.slice p3 ms.length c3) = some k → k < w3.heap.size from fun k hk => (ho3.blk k hk).2)
  have Z3 := Lib.hid (show w.heap.size ≤ w2.heap.size from B2.out.size)
  clear ho3 hb3 K2 B2
  go_wp2_with fail
  refine (HA.out _).mono ?_
  rintro e w4 ⟨v4, rfl, ho4, hb4⟩
  obtain ⟨p4, c4, rfl, -, -, -⟩ := ho4.at
  have K4 := Lib.hid ((K3.out.keep hb4).cons ho4)
  have B4 := Lib.hid (B3.out.trans (hb4.mono B3.out.size))
  have A4 := Lib.hid (show ∀ k, Value.ownBlock (.slice p4 ms.length c4) = some k → w3.heap.size ≤ k ∧ k < w4.heap.size from fun k hk => ho4.blk k hk)
  have Z4 := Lib.hid (show w.heap.size ≤ w3.heap.size from B3.out.size)
  have S3 := Lib.hid hb4.size
  clear ho4 hb4 K3 B3
  go_wp2_with fail
  refine (HB.out _).mono ?_
  rintro e w5 ⟨v5, rfl, ho5, hb5⟩
  obtain ⟨p5, c5, rfl, -, -, -⟩ := ho5.at
  have K5 := Lib.hid ((K4.out.keep hb5).cons ho5)
  have B5 := Lib.hid (B4.out.trans (hb5.mono B4.out.size))
  have A5 := Lib.hid (show ∀ k, Value.ownBlock (.slice p5 ns.length c5) = some k → w4.heap.size ≤ k ∧ k < w5.heap.size from fun k hk => ho5.blk k hk)
  have Z5 := Lib.hid (show w.heap.size ≤ w4.heap.size from B4.out.size)
  have S4 := Lib.hid hb5.size
  clear ho5 hb5 K4 B4
  go_wp2_with fail
  refine (HA.out _).mono ?_
  rintro e w6 ⟨v6, rfl, ho6, hb6⟩
  obtain ⟨p6, c6, rfl, -, -, -⟩ := ho6.at
  have K6 := Lib.hid ((K5.out.keep hb6).cons ho6)
  have B6 := Lib.hid (B5.out.trans (hb6.mono B5.out.size))
  have A6 := Lib.hid (show ∀ k, Value.ownBlock (.slice p6 ms.length c6) = some k → w5.heap.size ≤ k from fun k hk => (ho6.blk k hk).1)
  have Z6 := Lib.hid (show w.heap.size ≤ w5.heap.size from B5.out.size)
  clear ho6 hb6 K5 B5
  go_wp2_with fail
  refine (HAT.out _ (HG.out.below B6.out HG.out.2)).mono ?_
  rintro e w7 ⟨rfl, hb⟩
  have K7 := Lib.hid (K6.out.keep hb)
  have B7 := Lib.hid (B6.out.trans (hb.mono B6.out.size))
  clear hb K6 B6
  go_wp2_with fail
  refine (HAT.out _ (HG.out.below B7.out HG.out.2)).mono ?_
  rintro e w8 ⟨rfl, hb⟩
  have K8 := Lib.hid (K7.out.keep hb)
  have B8 := Lib.hid (B7.out.trans (hb.mono B7.out.size))
  clear hb K7 B7
  go_wp2_with fail
  refine (HNUM.out _).mono ?_
  rintro e w9 ⟨rfl, hb⟩
  have K9 := Lib.hid (K8.out.keep hb)
  have B9 := Lib.hid (B8.out.trans (hb.mono B8.out.size))
  clear hb K8 B8
  go_wp2_with fail
  refine (HAT.out _ (HG.out.below B9.out HG.out.2)).mono ?_
  rintro e w10 ⟨rfl, hb⟩
  have K10 := Lib.hid (K9.out.keep hb)
  have B10 := Lib.hid (B9.out.trans (hb.mono B9.out.size))
  clear hb K9 B9
  go_wp2_with fail
  refine (same_any ms p3 p1 c3 c1 _ (K10.out.at (b := w2.heap.size) (n := ms.length) (c := c3) (by simp)) (K10.out.at (b := w.heap.size) (n := ms.length) (c := c1) (by simp)) (by have := HML.out; omega)).mono ?_
  rintro e w11 ⟨rfl, hb⟩
  have K11 := Lib.hid (K10.out.keep hb)
  have B11 := Lib.hid (B10.out.trans (hb.mono B10.out.size))
  clear hb K10 B10
  go_wp2_with fail
  refine (same_any ms p4 p1 c4 c1 _ (K11.out.at (b := w3.heap.size) (n := ms.length) (c := c4) (by simp)) (K11.out.at (b := w.heap.size) (n := ms.length) (c := c1) (by simp)) (by have := HML.out; omega)).mono ?_
  rintro e w12 ⟨rfl, hb⟩
  have K12 := Lib.hid (K11.out.keep hb)
  have B12 := Lib.hid (B11.out.trans (hb.mono B11.out.size))
  clear hb K11 B11
  go_wp2_with fail
  refine (same_any ns p5 p2 c5 c2 _ (K12.out.at (b := w4.heap.size) (n := ns.length) (c := c5) (by simp)) (K12.out.at (b := w1.heap.size) (n := ns.length) (c := c2) (by simp)) (by have := HNL.out; omega)).mono ?_
  rintro e w13 ⟨rfl, hb⟩
  have K13 := Lib.hid (K12.out.keep hb)
  have B13 := Lib.hid (B12.out.trans (hb.mono B12.out.size))
  clear hb K12 B12
  go_wp2_with fail
  refine (same_any ms p6 p1 c6 c1 _ (K13.out.at (b := w5.heap.size) (n := ms.length) (c := c6) (by simp)) (K13.out.at (b := w.heap.size) (n := ms.length) (c := c1) (by simp)) (by have := HML.out; omega)).mono ?_
  rintro e w14 ⟨rfl, hb⟩
  have K14 := Lib.hid (K13.out.keep hb)
  have B14 := Lib.hid (B13.out.trans (hb.mono B13.out.size))
  clear hb K13 B13
  have hap : Apart #[.slice p3 ms.length c3, .slice p4 ms.length c4, .slice p5 ns.length c5, .slice p6 ms.length c6] := by
    intro a b v u k hv hu hne hvk huk
    have s3 := S3.out
    have s4 := S4.out
    have a3 := A3.out k
    have a4 := A4.out k
    have a5 := A5.out k
    have a6 := A6.out k
    have ha : a < 4 := by simpa using (Array.getElem?_eq_some_iff.1 hv).1
    have hb : b < 4 := by simpa using (Array.getElem?_eq_some_iff.1 hu).1
    rcases (show a = 0 ∨ a = 1 ∨ a = 2 ∨ a = 3 by omega) with rfl | rfl | rfl | rfl <;> rcases (show b = 0 ∨ b = 1 ∨ b = 2 ∨ b = 3 by omega) with rfl | rfl | rfl | rfl <;> (obtain rfl := Option.some.inj hv; obtain rfl := Option.some.inj hu; first | exact absurd rfl hne | (have q1 := a3 hvk; have q2 := a4 huk; omega) | (have q1 := a3 hvk; have q2 := a5 huk; omega) | (have q1 := a3 hvk; have q2 := a6 huk; omega) | (have q1 := a4 hvk; have q2 := a3 huk; omega) | (have q1 := a4 hvk; have q2 := a5 huk; omega) | (have q1 := a4 hvk; have q2 := a6 huk; omega) | (have q1 := a5 hvk; have q2 := a3 huk; omega) | (have q1 := a5 hvk; have q2 := a4 huk; omega) | (have q1 := a5 hvk; have q2 := a6 huk; omega) | (have q1 := a6 hvk; have q2 := a3 huk; omega) | (have q1 := a6 hvk; have q2 := a4 huk; omega) | (have q1 := a6 hvk; have q2 := a5 huk; omega))
  have HAP := Lib.hid hap
  have hA : ApMA w.heap.size w14.heap.size #[.slice p3 ms.length c3, .slice p4 ms.length c4, .slice p5 ns.length c5, .slice p6 ms.length c6] (w14.alloc (.cells #[.slice p3 ms.length c3, .slice p4 ms.length c4, .slice p5 ns.length c5, .slice p6 ms.length c6] 22)) (fun k => if k = 2 then ns else ms) (w14.alloc (.cells #[.slice p3 ms.length c3, .slice p4 ms.length c4, .slice p5 ns.length c5, .slice p6 ms.length c6] 22)) := by
    refine ⟨heap_new _ _, fun k v hv => ?_, Below.refl _ _, by rw [World.size_alloc]; have := B14.out.size; omega⟩
    have hk : k < 4 := by simpa using (Array.getElem?_eq_some_iff.1 hv).1
    have K15 := K14.out.keep ((Below.refl _ w14).alloc (Nat.le_refl _) (.cells #[.slice p3 ms.length c3, .slice p4 ms.length c4, .slice p5 ns.length c5, .slice p6 ms.length c6] 22))
    rcases (show k = 0 ∨ k = 1 ∨ k = 2 ∨ k = 3 by omega) with rfl | rfl | rfl | rfl
    · obtain rfl := Option.some.inj hv
      exact ownsRow_base (K15 (w2.heap.size, ms, .slice p3 ms.length c3) (by simp)).1 Z3.out
    · obtain rfl := Option.some.inj hv
      exact ownsRow_base (K15 (w3.heap.size, ms, .slice p4 ms.length c4) (by simp)).1 Z4.out
    · obtain rfl := Option.some.inj hv
      exact ownsRow_base (K15 (w4.heap.size, ns, .slice p5 ns.length c5) (by simp)).1 Z5.out
    · obtain rfl := Option.some.inj hv
      exact ownsRow_base (K15 (w5.heap.size, ms, .slice p6 ms.length c6) (by simp)).1 Z6.out
  have HAA := Lib.hid hA
  have HBA := Lib.hid (B14.out.alloc B14.out.size (.cells #[.slice p3 ms.length c3, .slice p4 ms.length c4, .slice p5 ns.length c5, .slice p6 ms.length c6] 22))
  have HZ := Lib.hid B14.out.size
  clear hap hA A3 A4 A5 A6 Z3 Z4 Z5 Z6 S3 S4 K14
  go_wp2_with fail
  refine (apartM_any #[.slice p3 ms.length c3, .slice p4 ms.length c4, .slice p5 ns.length c5, .slice p6 ms.length c6] w14.heap.size 4 w.heap.size (fun k => if k = 2 then ns else ms) _ HAA.out HAP.out HZ.out (by show 0 < 4; decide) (by show 4 ≤ 1000; decide) (by show 4 ≤ 4; decide) (by omega) (fun k => ?_)).mono ?_
  · have h1 := HML.out
    have h2 := HNL.out
    by_cases e : k = 2
    · simp only [if_pos e]; omega
    · simp only [if_neg e]; omega
  rintro e w15 ⟨rfl, hb⟩
  have HB15 := Lib.hid (HBA.out.trans hb)
  clear hb
  go_wp2_with fail
  go_ret
  exact ⟨rfl, HB15.out⟩
set_option maxRecDepth 100000 in
theorem readLaw_any (s t : ByteArray) (w : World) (hG : ErrT w) :
    Calls Tryz.prog 4 #[.string s, .string t] w fun e w' => e = .returned (.bool true) ∧ Below w.heap.size w w' := by
  have HG := Lib.hid hG
  clear hG
  go_enter Tryz.func4, Tryz.ntmps4
  go_wp2_with fail
  refine (readL_any s t _ HG.out).mono ?_
  rintro e w1 ⟨rfl, hb⟩
  have HB := Lib.hid hb
  clear hb
  go_wp2_with fail
  refine (works_any _ (HG.out.below HB.out HG.out.2)).mono ?_
  rintro e w2 ⟨rfl, hb2⟩
  have HB2 := Lib.hid (HB.out.trans (hb2.mono HB.out.size))
  clear hb2
  go_wp2_with fail
  go_ret
  exact ⟨rfl, HB2.out⟩
end Go.Proofs.YthpmocfdnoehoaaGreatDoor
