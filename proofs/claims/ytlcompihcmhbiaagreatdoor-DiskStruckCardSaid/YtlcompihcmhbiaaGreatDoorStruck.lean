/- The walk of DiskStruck. -/
import Derived.Test.YtlcompihcmhbiaaGreatDoorStruckLaw
import Derived.Test.YtlcompihcmhbiaaGreatDoorTwo
import Derived.Test.YtlcompihcmhbiaaGreatDoorTailFast
namespace Go.Proofs.YtlcompihcmhbiaaGreatDoor
open Go Go.RowKit Go.Maps Go.Shelf
theorem num_E (x : Int) (hx : x = 0 ∨ (1 ≤ x ∧ x ≤ 32)) (w : World) : Calls Tryz.prog 24 #[errE x] w fun e w' => e = .returned (.int .i64 x) ∧ Below w.heap.size w w' := by
  by_cases h : x = 0
  · subst h
    refine (num_nil w).mono ?_
    rintro e w' ⟨rfl, rfl⟩
    exact ⟨rfl, Below.refl _ _⟩
  · rw [errE_nz h]
    have h1 : 1 ≤ x ∧ x ≤ 32 := by omega
    exact num_any _ _ x w (isNum_errno x) h1.1 h1.2
theorem rowCell {w : World} {b off i j : Nat} {cs : Array Value} {v : Value} (h : ∀ j, j < 6 → w.cell? ⟨b, off + (i * 6 + j), none⟩ = cs[j]?) (hj : j < 6) (hv : cs[j]? = some v) : w.cell? ⟨b, off + i * 6 + j, none⟩ = some v := by
  rw [Nat.add_assoc]; exact (h j hj).trans hv
theorem call_late {s : StepM} (h1 : 1 ≤ s.act) (h2 : s.act ≤ 6) : s.call.late = (decide (s.act = 3) || decide (s.act = 6)) := by
  unfold StepM.call
  repeat' split
  all_goals simp_all [DCall.late]
  all_goals omega
/-- Both disks show the same. -/
theorem arm_names (m : DM) (x : Int) (ks : List Int) : (m.arm x ks).namesOf = m.namesOf ∧ (m.arm x ks).datas = m.datas ∧ (m.arm x ks).now = m.now ∧ (m.arm x ks).off = m.off ∧ (m.arm x ks).room = m.room := ⟨rfl, rfl, rfl, rfl, rfl⟩
/-- What is done at last. -/
structure Ends (w wr : World) (P : Nat → Prop) (a b : Nat) (n : Nat) (ma mb : DM) : Prop where
  two : Two w wr P a n ma b n mb
  off1 : ma.off = false
  off2 : mb.off = false
  now : ma.now = mb.now
  files : ma.datas = mb.datas
set_option maxHeartbeats 6400000 in
set_option maxRecDepth 100000 in
theorem struck_any (w : World) (hG : ErrT w) (v1 v3 : Value) (l1 : List StepM) (nn : Int) (ks : List Int) (h1 : StepsAt w v1 l1) (h3 : IntsRd (fun b => w.heap.size ≤ b) w v3 ks) (hkl : ks.length * 8 ≤ 140737488355328)
    (n1 : l1.length ≤ 1760000000000) (g1 : ∀ s ∈ l1, s.Fits) (m1 : -9223372036854775808 ≤ nn) (m2 : nn ≤ 9223372036854775807) :
    Calls Tryz.prog 6 #[v1, .int .i64 nn, .agg #[v3]] w fun e w' => e = .returned (.bool true) ∧ Below w.heap.size w w' := by
  obtain ⟨p1, c1, rfl, hS1⟩ := h1
  obtain ⟨k1, hk1⟩ : ∃ k1, l1.length = k1 := ⟨_, rfl⟩
  rw [hk1] at n1 ⊢
  obtain ⟨p3, c3, e3⟩ : ∃ p3 c3, v3 = .slice p3 ks.length c3 := by
    obtain ⟨p4, c4, e4, -⟩ := h3
    exact ⟨p4, c4, e4⟩
  obtain ⟨k3, hk3⟩ : ∃ k3, ks.length = k3 := ⟨_, rfl⟩
  rw [hk3] at e3
  subst e3
  clear hk3
  have HK1 := Lib.hid hk1
  have HS1 := Lib.hid hS1
  have H3 := Lib.hid h3
  have HG := Lib.hid hG
  have HG1 := Lib.hid g1
  have HKL := Lib.hid hkl
  clear hk1 hS1 h3 hG g1 hkl
  have hb0 := (Below.refl w.heap.size w).alloc (Nat.le_refl _) (.cells #[.slice p3 k3 c3] 26)
  have HF0 := Lib.hid (heap_new w (.cells #[.slice p3 k3 c3] 26))
  have HB0 := Lib.hid hb0
  clear hb0
  go_enter Tryz.func6, Tryz.ntmps6
  go_wp2_with fail
  refine (held_new (P := fun b => b = w.heap.size) HB0.out (fun b (hb : b = w.heap.size) => hb.symm ▸ blk_lt HF0.out) 65536 (by decide) (by decide)).mono ?_
  rintro e w1 ⟨a, rfl, hd, hs⟩
  have HD1 := Lib.hid hd
  have HF1 := Lib.hid ((hs _ rfl).trans HF0.out)
  clear hd hs HB0 HF0
  go_wp2_with fail
  refine (two_new HD1.out 65536 (by decide) (by decide)).mono ?_
  rintro e w2 ⟨b, rfl, hd, hs⟩
  have HD2 := Lib.hid hd
  have HF2 := Lib.hid ((hs _ rfl).trans HF1.out)
  clear hd hs HD1 HF1
  go_wp2_with fail
  refine (works_any _ (HG.out.below HD2.out.fst.bel HG.out.2)).mono ?_
  rintro e w3 ⟨rfl, hb⟩
  have HD3 := Lib.hid (HD2.out.below hb)
  have HF3 := Lib.hid ((HD2.out.fst.same hb _ rfl).trans HF2.out)
  clear hb HD2 HF2
  go_wp2_with fail
  refine (pick_any nn ((k1 : Int) + 1) w3 (by omega) (by omega) m1 m2).mono ?_
  rintro e w4 ⟨rfl, hx⟩
  subst hx
  have hpk := pick_bd nn ((k1 : Int) + 1) (by omega)
  generalize pick nn ((k1 : Int) + 1) = pk at hpk
  obtain ⟨hp0, hp1⟩ := hpk
  have y0 : w3.cell? ⟨w.heap.size, 0, none⟩ = some (.slice p3 k3 c3) := cell_of_heapN HF3.out
  go_wp2_with fail
  refine (HD3.out.lift (fun e => e = .returned (.tuple #[])) (fun P' hh => held_arm hh (1 + pk) (.slice p3 k3 c3) ks H3.out HKL.out (by omega))).mono ?_
  rintro e w4 ⟨rfl, hd, hs⟩
  have HD4 := Lib.hid hd
  have HF4 := Lib.hid ((hs _ rfl).trans HF3.out)
  clear hd hs HD3 HF3 y0
  go_wp2_with fail
  go_loopw [9, 10] (fun cv iv wr => ∃ (q c : Nat) (mb : DM), q ≤ k1 ∧ c ≤ q ∧ (c : Int) ≤ pk ∧ iv = .int .i64 q ∧ cv = .int .i64 c ∧ Hid (Two w wr (fun b => b = w.heap.size) a q (mb.arm (1 + pk - c) ks) b q mb) ∧ Hid (mb.Calm ∧ mb.room = 65536) ∧ Hid (wr.heap[w.heap.size]? = some (.cells #[.slice p3 k3 c3] 26 (0, 0)))) (fun _ iv _ => k1 - (intOf iv).toNat)
  case atStart => exact ⟨0, 0, DM.new 65536, Nat.zero_le _, Nat.le_refl _, hp0, rfl, rfl, Lib.hid (by simpa using HD4.out), Lib.hid ⟨⟨rfl, rfl⟩, rfl⟩, HF4⟩
  case round =>
    obtain ⟨q, c, mb, hq, hcq, hcp, rfl, rfl, hd, hm, hf⟩ := hrel
    clear HD4 HF4
    by_cases hlt : q < k1
    · obtain ⟨s, hs⟩ : ∃ s, l1[q]? = some s := ⟨_, List.getElem?_eq_getElem (i := q) (by have := HK1.out; omega)⟩
      obtain ⟨bs, off, kv, rfl, hb, hc, hkr⟩ := HS1.out q s hs
      obtain ⟨kp, kc, rfl, -⟩ := hkr
      generalize s.keep.length = kl at hc
      have hrow : ∀ j, j < 6 → wr.cell? ⟨bs, off + (q * 6 + j), none⟩ = (s.cells (.slice kp kl kc))[j]? := fun j hj => (hd.out.fst.bel.cell (p := ⟨bs, off + (q * 6 + j), none⟩) hb).trans (hc j hj)
      have d0 : wr.cell? ⟨bs, off + q * 6, none⟩ = some (.int .i64 s.act) := rowCell hrow (j := 0) (by decide) rfl
      have d1 : wr.cell? ⟨bs, off + q * 6 + 1, none⟩ = some (.int .i64 s.who) := rowCell hrow (j := 1) (by decide) rfl
      have d2 : wr.cell? ⟨bs, off + q * 6 + 2, none⟩ = some (.string s.name) := rowCell hrow (j := 2) (by decide) rfl
      have d3 : wr.cell? ⟨bs, off + q * 6 + 3, none⟩ = some (.string s.data) := rowCell hrow (j := 3) (by decide) rfl
      have d4 : wr.cell? ⟨bs, off + q * 6 + 4, none⟩ = some (.int .i64 s.num) := rowCell hrow (j := 4) (by decide) rfl
      have d5 : wr.cell? ⟨bs, off + q * 6 + 5, none⟩ = some (.slice kp kl kc) := rowCell hrow (j := 5) (by decide) rfl
      have HFT := Lib.hid (HG1.out s (List.mem_of_getElem? hs))
      clear hrow hs hc
      have hbA := (Below.refl wr.heap.size wr).alloc (Nat.le_refl _) (.cells (s.cells (.slice kp kl kc)) 36)
      have HDA := Lib.hid ((hd.out.keeps hbA).sub (Q := fun b => b = w.heap.size ∨ b = wr.heap.size) (fun b hb => hb.elim .inl (fun e => .inr ⟨Nat.le_of_eq e.symm, by rw [World.size_alloc]; omega⟩)))
      have HFA := Lib.hid ((hd.out.fst.same hbA _ rfl).trans hf.out)
      have HXA := Lib.hid (heap_new wr (.cells (s.cells (.slice kp kl kc)) 36))
      have hact : -9223372036854775808 ≤ s.act ∧ s.act ≤ 9223372036854775807 := HFT.out.1
      clear hbA hd hf
      unfold StepM.cells at HDA HFA HXA
      by_cases hlo : s.act < 1
      · go_wp2_with fail
        case roundEnd => exact ⟨⟨q + 1, c, mb, by omega, by omega, hcp, by rw [Int.natCast_add]; rfl, rfl, Lib.hid ((HDA.out.sub (fun b hb => .inl hb)).more (Nat.le_succ _) (Nat.le_succ _)), hm, HFA⟩, by simp [intOf]; omega⟩
      · by_cases hhi : 6 < s.act
        · go_wp2_with fail
          case roundEnd => exact ⟨⟨q + 1, c, mb, by omega, by omega, hcp, by rw [Int.natCast_add]; rfl, rfl, Lib.hid ((HDA.out.sub (fun b hb => .inl hb)).more (Nat.le_succ _) (Nat.le_succ _)), hm, HFA⟩, by simp [intOf]; omega⟩
        · go_wp2_with fail
          have HLA := Lib.hid (call_late (s := s) (by omega) (by omega))
          have hroom : q * mb.room ≤ 4611686018427387904 := by rw [hm.out.2]; omega
          have HRM := Lib.hid hroom
          have hmA : (mb.arm (1 + pk - c) ks).room = mb.room := rfl
          clear hroom d0 d1 d2 d3 d4 d5
          by_cases hr : mb.refused s.call = 0
          · by_cases hx : (c : Int) < pk
            · have hop := arm_op_do hm.out.1.1 (x := 1 + pk - c) (by omega) ks s.call hr
              have hop2 := calm_op_do hm.out.1 hr
              have HOP2 := Lib.hid hop2
              refine (HDA.out.lift (fun e => e = .returned .nilIface) (na' := q + 1) (ma' := (mb.act s.call).arm (1 + pk - c - 1) ks) (fun P' hh => by
                have h := held_change hh s (.slice kp kl kc) HFT.out (by omega) (by rw [hmA]; exact HRM.out)
                rw [hop] at h
                exact h)).mono ?_
              rintro e x1 ⟨rfl, hd, hs⟩
              have HD1 := Lib.hid hd
              have HF1 := Lib.hid ((hs _ (.inl rfl)).trans HFA.out)
              have hx1 := (hs _ (.inr rfl)).trans HXA.out
              have HX1 := Lib.hid hx1
              have e0 : x1.cell? ⟨wr.heap.size, 0, none⟩ = some (.int .i64 s.act) := cell_of_heapN hx1
              have e1 : x1.cell? ⟨wr.heap.size, 1, none⟩ = some (.int .i64 s.who) := cell_of_heapN hx1
              have e2 : x1.cell? ⟨wr.heap.size, 2, none⟩ = some (.string s.name) := cell_of_heapN hx1
              have e3 : x1.cell? ⟨wr.heap.size, 3, none⟩ = some (.string s.data) := cell_of_heapN hx1
              have e4 : x1.cell? ⟨wr.heap.size, 4, none⟩ = some (.int .i64 s.num) := cell_of_heapN hx1
              have e5 : x1.cell? ⟨wr.heap.size, 5, none⟩ = some (.slice kp kl kc) := cell_of_heapN hx1
              clear hd hs HDA HFA HXA hx1 hop hop2
              go_wp2_with fail
              refine (HD1.out.lift2 (fun e => e = .returned .nilIface) (nb' := q + 1) (mb' := mb.act s.call) (fun P' hh => by
                have h := held_change hh s (.slice kp kl kc) HFT.out (by omega) HRM.out
                rw [HOP2.out] at h
                exact h)).mono ?_
              rintro e x2 ⟨rfl, hd, hs⟩
              have HD2 := Lib.hid hd
              have HF2 := Lib.hid ((hs _ (.inl rfl)).trans HF1.out)
              clear hd hs HD1 HF1 e0 e1 e2 e3 e4 e5
              go_wp2_with fail
              refine (num_nil x2).mono ?_
              rintro e x3 ⟨rfl, hx3⟩
              subst hx3
              go_wp2_with fail
              refine (num_nil x2).mono ?_
              rintro e x3 ⟨rfl, hx3⟩
              subst hx3
              go_wp2_with fail
              case roundEnd => exact ⟨⟨q + 1, c + 1, mb.act s.call, by omega, by omega, by omega, by rw [Int.natCast_add]; rfl, by rw [Int.natCast_add]; rfl, Lib.hid (by
                  have := HD2.out.sub (Q := fun b => b = w.heap.size) (fun b hb => .inl hb)
                  rw [show 1 + pk - (c : Int) - 1 = 1 + pk - ((c + 1 : Nat) : Int) by omega] at this
                  exact this), Lib.hid ⟨hm.out.1.act _, (actRoom mb _).trans hm.out.2⟩, HF2⟩, by simp [intOf]; omega⟩
            · obtain rfl : (c : Int) = pk := by omega
              have hop := arm_op_hit hm.out.1.1 ks s.call hr
              have hop2 := calm_op_do hm.out.1 hr
              have HOP2 := Lib.hid hop2
              have hxe : 1 + (c : Int) - c = 1 := by omega
              rw [hxe] at HDA
              obtain ⟨X, hX⟩ : ∃ X, (if s.call.late then mb else mb.act s.call) = X := ⟨_, rfl⟩
              rw [hX] at hop
              have hXo : X.off = false := by
                rw [← hX]
                split
                · exact hm.out.1.1
                · exact (act_off mb _).trans hm.out.1.1
              have hXr : X.room = 65536 := by
                rw [← hX]
                split
                · exact hm.out.2
                · exact (actRoom mb _).trans hm.out.2
              have HX := Lib.hid hX
              have HXO := Lib.hid hXo
              have HXR := Lib.hid hXr
              refine (HDA.out.lift (fun e => e = .returned (errE 27)) (na' := q + 1) (ma' := X.fail ks) (fun P' hh => by
                have h := held_change hh s (.slice kp kl kc) HFT.out (by omega) HRM.out
                rw [hop] at h
                exact h)).mono ?_
              rintro e x1 ⟨rfl, hd, hs⟩
              rw [show errE 27 = errV 27 from rfl]
              unfold errV
              have HD1 := Lib.hid hd
              have HF1 := Lib.hid ((hs _ (.inl rfl)).trans HFA.out)
              have hx1 := (hs _ (.inr rfl)).trans HXA.out
              have e0 : x1.cell? ⟨wr.heap.size, 0, none⟩ = some (.int .i64 s.act) := cell_of_heapN hx1
              have HX1 := Lib.hid hx1
              clear hd hs HDA HFA HXA hx1 hop hop2 hX hXo hXr
              go_wp2_with fail
              refine (num_E 27 (.inr ⟨by decide, by decide⟩) x1).mono ?_
              rintro e x2 ⟨rfl, hb⟩
              have HD2 := Lib.hid (HD1.out.below hb)
              have HF2 := Lib.hid ((HD1.out.fst.same hb _ (.inl rfl)).trans HF1.out)
              have hx2 := (HD1.out.fst.same hb _ (.inr rfl)).trans HX1.out
              have e0 : x2.cell? ⟨wr.heap.size, 0, none⟩ = some (.int .i64 s.act) := cell_of_heapN hx2
              have e1 : x2.cell? ⟨wr.heap.size, 1, none⟩ = some (.int .i64 s.who) := cell_of_heapN hx2
              have e2 : x2.cell? ⟨wr.heap.size, 2, none⟩ = some (.string s.name) := cell_of_heapN hx2
              have e3 : x2.cell? ⟨wr.heap.size, 3, none⟩ = some (.string s.data) := cell_of_heapN hx2
              have e4 : x2.cell? ⟨wr.heap.size, 4, none⟩ = some (.int .i64 s.num) := cell_of_heapN hx2
              have e5 : x2.cell? ⟨wr.heap.size, 5, none⟩ = some (.slice kp kl kc) := cell_of_heapN hx2
              clear hb HD1 HF1 HX1 hx2
              have hway : s.act = 3 ∨ s.act = 6 ∨ (s.act ≠ 3 ∧ s.act ≠ 6) := by omega
              rcases hway with ha | ha | ⟨ha, ha'⟩
              · have hXX := HX.out
                rw [HLA.out, ha] at hXX
                have hXX : mb = X := by simpa using hXX
                have HDT := Lib.hid (show Two w x2 (fun b => b = w.heap.size ∨ b = wr.heap.size) a (q + 1) (X.fail ks) b (q + 1) X from hXX ▸ HD2.out.more (Nat.le_refl _) (Nat.le_succ _))
                have HFT2 := HF2
                have yf : x2.cell? ⟨w.heap.size, 0, none⟩ = some (.slice p3 k3 c3) := cell_of_heapN HF2.out
                rw [ha] at e0
                clear hXX HD2 HF2 e1 e2 e3 e4 e5
                go_wp2_with fail
                refine (HDT.out.lift2 (fun e => e = .returned (.tuple #[])) (nb' := q + 1) (mb' := X.fail ks) (fun P' hh => by
                  have h := held_crash hh (.slice p3 k3 c3) ks H3.out (by omega)
                  rw [crash_eq HXO.out] at h
                  exact h)).mono ?_
                rintro e y1 ⟨rfl, hd, -⟩
                have HE1 := Lib.hid (hd.sub (Q := fun _ => False) (fun _ h => h.elim))
                clear hd HDT HFT2 yf
                go_wp2_with fail
                refine (held_dead HE1.out.fst (by omega) rfl).mono ?_
                rintro e y2 ⟨u, rfl, hb⟩
                have HE2 := Lib.hid (HE1.out.below hb)
                rw [show errE 27 = errV 27 from rfl]
                unfold errV
                clear hb HE1
                go_wp2_with fail
                refine (plain_E 27 (.inr ⟨by decide, by decide⟩) 27 _ (HG.out.below HE2.out.fst.bel HG.out.2)).mono ?_
                rintro e y3 ⟨rfl, hb⟩
                have HE3 := Lib.hid (HE2.out.below hb)
                clear hb HE2
                go_wp2_with fail
                refine (plain_E 27 (.inr ⟨by decide, by decide⟩) 27 _ (HG.out.below HE3.out.fst.bel HG.out.2)).mono ?_
                rintro e y4 ⟨rfl, hb⟩
                have HE4 := Lib.hid (HE3.out.below hb)
                clear hb HE3
                go_wp2_with fail
                refine (held_used HE4.out.fst (by rw [show (X.fail ks).room = 65536 from HXR.out]; omega)).mono ?_
                rintro e y5 ⟨rfl, hb⟩
                rw [show (X.fail ks).used = 0 from rfl]
                have HE5 := Lib.hid (HE4.out.below hb)
                clear hb HE4
                go_wp2_with fail
                refine (HE5.out.lift (fun e => e = .returned (.tuple #[])) (na' := q + 1) (ma' := (X.fail ks).revive) (fun P' hh => held_revive hh)).mono ?_
                rintro e y6 ⟨rfl, hd, -⟩
                have HE6 := Lib.hid hd
                clear hd HE5
                go_wp2_with fail
                refine (HE6.out.lift2 (fun e => e = .returned (.tuple #[])) (nb' := q + 1) (mb' := (X.fail ks).revive) (fun P' hh => held_revive hh)).mono ?_
                rintro e y7 ⟨rfl, hd, -⟩
                have HE7 := Lib.hid hd
                clear hd HE6
                have y5 : True := trivial
                obtain ⟨K, hK⟩ : ∃ K, (X.fail ks).revive.now.length = K := ⟨_, rfl⟩
                have hKn : K ≤ k1 + 1 := by rw [← hK]; exact Nat.le_trans HE7.out.fst.ok.nowN (by omega)
                have hKB : (X.fail ks).revive.now.length = K := hK
                have HKA := Lib.hid hK
                have HKB := Lib.hid hKB
                clear hK hKB
                go_wp2_with fail
                refine (held_shownK HE7.out.fst (by omega) rfl HKA.out).mono ?_
                rintro e z1 ⟨vp, vc, up, uc, rfl, hv, hu, hb⟩
                have hb1 : Below _ _ (z1.alloc (.cells #[.slice vp K vc, .slice up K uc] 43)) := hb.alloc hb.size _
                have HDS := Lib.hid (HE7.out.below hb1)
                have hx1 : ∀ {v l}, TextsIn (fun b => y7.heap.size ≤ b ∧ b < z1.heap.size) z1 v l → TextsRd (z1.alloc (.cells #[.slice vp K vc, .slice up K uc] 43)) v l := fun h => (h.keep (fun b hb => Below.heap_alloc z1 _ b hb.2)).rd
                have HV1 := Lib.hid (hx1 hv)
                have HU1 := Lib.hid (hx1 hu)
                have HI1 := Lib.hid (heap_new z1 (.cells #[.slice vp K vc, .slice up K uc] 43))
                clear hv hu hb hb1 hx1
                go_wp2_with fail
                generalize z1.heap.size = i1 at HI1 ⊢
                generalize z1.alloc (.cells #[.slice vp K vc, .slice up K uc] 43) = z2 at HDS HV1 HU1 HI1 ⊢
                refine (held_shownK HDS.out.snd (by omega) rfl HKB.out).mono ?_
                rintro e z3 ⟨vp2, vc2, up2, uc2, rfl, hv, hu, hb⟩
                have hb1 : Below z2.heap.size z2 (z3.alloc (.cells #[.slice vp2 K vc2, .slice up2 K uc2] 43)) := hb.alloc hb.size _
                have HDU := Lib.hid (HDS.out.below hb1)
                have hx1 : ∀ {v l}, TextsIn (fun b => z2.heap.size ≤ b ∧ b < z3.heap.size) z3 v l → TextsRd (z3.alloc (.cells #[.slice vp2 K vc2, .slice up2 K uc2] 43)) v l := fun h => (h.keep (fun b hb => Below.heap_alloc z3 _ b hb.2)).rd
                have hi3 := (hb1.block i1 (blk_lt HI1.out)).trans HI1.out
                have y0 := cell_of_heapN (i := 0) hi3
                have y1 := cell_of_heapN (i := 1) hi3
                have HL : (X.fail ks).revive.namesOf.length ≤ 8000000000000 ∧ (X.fail ks).revive.datas.length ≤ 8000000000000 := by
                  unfold DM.namesOf DM.datas
                  rw [List.length_map, List.length_map, HKA.out]
                  omega
                have HSA := same_any (z3.alloc (.cells #[.slice vp2 K vc2, .slice up2 K uc2] 43)) (.slice vp K vc) (.slice up K uc) (.slice vp2 K vc2) (.slice up2 K uc2) (X.fail ks).revive.namesOf (X.fail ks).revive.datas (X.fail ks).revive.namesOf (X.fail ks).revive.datas (HV1.out.below hb1) (HU1.out.below hb1) (hx1 hv) (hx1 hu) HL.1 HL.2
                rw [show (sameT (X.fail ks).revive.namesOf (X.fail ks).revive.namesOf && sameT (X.fail ks).revive.datas (X.fail ks).revive.datas) = true by rw [show (X.fail ks).revive.namesOf = (X.fail ks).revive.namesOf from rfl, show (X.fail ks).revive.datas = (X.fail ks).revive.datas from rfl]; unfold sameT; simp] at HSA
                have HSA := Lib.hid HSA
                clear hv hu hb hb1 hx1 hi3 HL
                go_wp2_with fail
                refine HSA.out.mono ?_
                rintro e z4 ⟨rfl, hb4⟩
                have HBZ := Lib.hid (HDU.out.below hb4).fst.bel
                clear hb4
                go_wp2_with fail
                go_ret
                exact ⟨rfl, HBZ.out⟩
              · have hXX := HX.out
                rw [HLA.out, ha] at hXX
                have hXX : mb = X := by simpa using hXX
                have HDT := Lib.hid (show Two w x2 (fun b => b = w.heap.size ∨ b = wr.heap.size) a (q + 1) (X.fail ks) b (q + 1) X from hXX ▸ HD2.out.more (Nat.le_refl _) (Nat.le_succ _))
                have HFT2 := HF2
                have yf : x2.cell? ⟨w.heap.size, 0, none⟩ = some (.slice p3 k3 c3) := cell_of_heapN HF2.out
                rw [ha] at e0
                clear hXX HD2 HF2 e1 e2 e3 e4 e5
                go_wp2_with fail
                refine (HDT.out.lift2 (fun e => e = .returned (.tuple #[])) (nb' := q + 1) (mb' := X.fail ks) (fun P' hh => by
                  have h := held_crash hh (.slice p3 k3 c3) ks H3.out (by omega)
                  rw [crash_eq HXO.out] at h
                  exact h)).mono ?_
                rintro e y1 ⟨rfl, hd, -⟩
                have HE1 := Lib.hid (hd.sub (Q := fun _ => False) (fun _ h => h.elim))
                clear hd HDT HFT2 yf
                go_wp2_with fail
                refine (held_dead HE1.out.fst (by omega) rfl).mono ?_
                rintro e y2 ⟨u, rfl, hb⟩
                have HE2 := Lib.hid (HE1.out.below hb)
                rw [show errE 27 = errV 27 from rfl]
                unfold errV
                clear hb HE1
                go_wp2_with fail
                refine (plain_E 27 (.inr ⟨by decide, by decide⟩) 27 _ (HG.out.below HE2.out.fst.bel HG.out.2)).mono ?_
                rintro e y3 ⟨rfl, hb⟩
                have HE3 := Lib.hid (HE2.out.below hb)
                clear hb HE2
                go_wp2_with fail
                refine (plain_E 27 (.inr ⟨by decide, by decide⟩) 27 _ (HG.out.below HE3.out.fst.bel HG.out.2)).mono ?_
                rintro e y4 ⟨rfl, hb⟩
                have HE4 := Lib.hid (HE3.out.below hb)
                clear hb HE3
                go_wp2_with fail
                refine (held_used HE4.out.fst (by rw [show (X.fail ks).room = 65536 from HXR.out]; omega)).mono ?_
                rintro e y5 ⟨rfl, hb⟩
                rw [show (X.fail ks).used = 0 from rfl]
                have HE5 := Lib.hid (HE4.out.below hb)
                clear hb HE4
                go_wp2_with fail
                refine (HE5.out.lift (fun e => e = .returned (.tuple #[])) (na' := q + 1) (ma' := (X.fail ks).revive) (fun P' hh => held_revive hh)).mono ?_
                rintro e y6 ⟨rfl, hd, -⟩
                have HE6 := Lib.hid hd
                clear hd HE5
                go_wp2_with fail
                refine (HE6.out.lift2 (fun e => e = .returned (.tuple #[])) (nb' := q + 1) (mb' := (X.fail ks).revive) (fun P' hh => held_revive hh)).mono ?_
                rintro e y7 ⟨rfl, hd, -⟩
                have HE7 := Lib.hid hd
                clear hd HE6
                have y5 : True := trivial
                obtain ⟨K, hK⟩ : ∃ K, (X.fail ks).revive.now.length = K := ⟨_, rfl⟩
                have hKn : K ≤ k1 + 1 := by rw [← hK]; exact Nat.le_trans HE7.out.fst.ok.nowN (by omega)
                have hKB : (X.fail ks).revive.now.length = K := hK
                have HKA := Lib.hid hK
                have HKB := Lib.hid hKB
                clear hK hKB
                go_wp2_with fail
                refine (held_shownK HE7.out.fst (by omega) rfl HKA.out).mono ?_
                rintro e z1 ⟨vp, vc, up, uc, rfl, hv, hu, hb⟩
                have hb1 : Below _ _ (z1.alloc (.cells #[.slice vp K vc, .slice up K uc] 43)) := hb.alloc hb.size _
                have HDS := Lib.hid (HE7.out.below hb1)
                have hx1 : ∀ {v l}, TextsIn (fun b => y7.heap.size ≤ b ∧ b < z1.heap.size) z1 v l → TextsRd (z1.alloc (.cells #[.slice vp K vc, .slice up K uc] 43)) v l := fun h => (h.keep (fun b hb => Below.heap_alloc z1 _ b hb.2)).rd
                have HV1 := Lib.hid (hx1 hv)
                have HU1 := Lib.hid (hx1 hu)
                have HI1 := Lib.hid (heap_new z1 (.cells #[.slice vp K vc, .slice up K uc] 43))
                clear hv hu hb hb1 hx1
                go_wp2_with fail
                generalize z1.heap.size = i1 at HI1 ⊢
                generalize z1.alloc (.cells #[.slice vp K vc, .slice up K uc] 43) = z2 at HDS HV1 HU1 HI1 ⊢
                refine (held_shownK HDS.out.snd (by omega) rfl HKB.out).mono ?_
                rintro e z3 ⟨vp2, vc2, up2, uc2, rfl, hv, hu, hb⟩
                have hb1 : Below z2.heap.size z2 (z3.alloc (.cells #[.slice vp2 K vc2, .slice up2 K uc2] 43)) := hb.alloc hb.size _
                have HDU := Lib.hid (HDS.out.below hb1)
                have hx1 : ∀ {v l}, TextsIn (fun b => z2.heap.size ≤ b ∧ b < z3.heap.size) z3 v l → TextsRd (z3.alloc (.cells #[.slice vp2 K vc2, .slice up2 K uc2] 43)) v l := fun h => (h.keep (fun b hb => Below.heap_alloc z3 _ b hb.2)).rd
                have hi3 := (hb1.block i1 (blk_lt HI1.out)).trans HI1.out
                have y0 := cell_of_heapN (i := 0) hi3
                have y1 := cell_of_heapN (i := 1) hi3
                have HL : (X.fail ks).revive.namesOf.length ≤ 8000000000000 ∧ (X.fail ks).revive.datas.length ≤ 8000000000000 := by
                  unfold DM.namesOf DM.datas
                  rw [List.length_map, List.length_map, HKA.out]
                  omega
                have HSA := same_any (z3.alloc (.cells #[.slice vp2 K vc2, .slice up2 K uc2] 43)) (.slice vp K vc) (.slice up K uc) (.slice vp2 K vc2) (.slice up2 K uc2) (X.fail ks).revive.namesOf (X.fail ks).revive.datas (X.fail ks).revive.namesOf (X.fail ks).revive.datas (HV1.out.below hb1) (HU1.out.below hb1) (hx1 hv) (hx1 hu) HL.1 HL.2
                rw [show (sameT (X.fail ks).revive.namesOf (X.fail ks).revive.namesOf && sameT (X.fail ks).revive.datas (X.fail ks).revive.datas) = true by rw [show (X.fail ks).revive.namesOf = (X.fail ks).revive.namesOf from rfl, show (X.fail ks).revive.datas = (X.fail ks).revive.datas from rfl]; unfold sameT; simp] at HSA
                have HSA := Lib.hid HSA
                clear hv hu hb hb1 hx1 hi3 HL
                go_wp2_with fail
                refine HSA.out.mono ?_
                rintro e z4 ⟨rfl, hb4⟩
                have HBZ := Lib.hid (HDU.out.below hb4).fst.bel
                clear hb4
                go_wp2_with fail
                go_ret
                exact ⟨rfl, HBZ.out⟩
              · have hb3 : (s.act == 3) = false := beq_eq_false_iff_ne.2 ha
                have hb6 : (s.act == 6) = false := beq_eq_false_iff_ne.2 ha'
                have hXX := HX.out
                rw [HLA.out, decide_eq_false ha, decide_eq_false ha'] at hXX
                have hXX : mb.act s.call = X := by simpa using hXX
                have HXX := Lib.hid hXX
                clear hXX
                go_wp2_with fail
                refine (HD2.out.lift2 (fun e => e = .returned .nilIface) (nb' := q + 1) (mb' := X) (fun P' hh => by
                  have h := held_change hh s (.slice kp kl kc) HFT.out (by omega) HRM.out
                  rw [HOP2.out, HXX.out] at h
                  exact h)).mono ?_
                rintro e x3 ⟨rfl, hd, hs⟩
                have HDT := Lib.hid hd
                have HFT2 := Lib.hid ((hs _ (.inl rfl)).trans HF2.out)
                have yf : x3.cell? ⟨w.heap.size, 0, none⟩ = some (.slice p3 k3 c3) := cell_of_heapN HFT2.out
                clear HD2 HF2 e0 e1 e2 e3 e4 e5 hd hs
                go_wp2_with fail
                refine (HDT.out.lift2 (fun e => e = .returned (.tuple #[])) (nb' := q + 1) (mb' := X.fail ks) (fun P' hh => by
                  have h := held_crash hh (.slice p3 k3 c3) ks H3.out (by omega)
                  rw [crash_eq HXO.out] at h
                  exact h)).mono ?_
                rintro e y1 ⟨rfl, hd, -⟩
                have HE1 := Lib.hid (hd.sub (Q := fun _ => False) (fun _ h => h.elim))
                clear hd HDT HFT2 yf
                go_wp2_with fail
                refine (held_dead HE1.out.fst (by omega) rfl).mono ?_
                rintro e y2 ⟨u, rfl, hb⟩
                have HE2 := Lib.hid (HE1.out.below hb)
                rw [show errE 27 = errV 27 from rfl]
                unfold errV
                clear hb HE1
                go_wp2_with fail
                refine (plain_E 27 (.inr ⟨by decide, by decide⟩) 27 _ (HG.out.below HE2.out.fst.bel HG.out.2)).mono ?_
                rintro e y3 ⟨rfl, hb⟩
                have HE3 := Lib.hid (HE2.out.below hb)
                clear hb HE2
                go_wp2_with fail
                refine (plain_E 27 (.inr ⟨by decide, by decide⟩) 27 _ (HG.out.below HE3.out.fst.bel HG.out.2)).mono ?_
                rintro e y4 ⟨rfl, hb⟩
                have HE4 := Lib.hid (HE3.out.below hb)
                clear hb HE3
                go_wp2_with fail
                refine (held_used HE4.out.fst (by rw [show (X.fail ks).room = 65536 from HXR.out]; omega)).mono ?_
                rintro e y5 ⟨rfl, hb⟩
                rw [show (X.fail ks).used = 0 from rfl]
                have HE5 := Lib.hid (HE4.out.below hb)
                clear hb HE4
                go_wp2_with fail
                refine (HE5.out.lift (fun e => e = .returned (.tuple #[])) (na' := q + 1) (ma' := (X.fail ks).revive) (fun P' hh => held_revive hh)).mono ?_
                rintro e y6 ⟨rfl, hd, -⟩
                have HE6 := Lib.hid hd
                clear hd HE5
                go_wp2_with fail
                refine (HE6.out.lift2 (fun e => e = .returned (.tuple #[])) (nb' := q + 1) (mb' := (X.fail ks).revive) (fun P' hh => held_revive hh)).mono ?_
                rintro e y7 ⟨rfl, hd, -⟩
                have HE7 := Lib.hid hd
                clear hd HE6
                have y5 : True := trivial
                obtain ⟨K, hK⟩ : ∃ K, (X.fail ks).revive.now.length = K := ⟨_, rfl⟩
                have hKn : K ≤ k1 + 1 := by rw [← hK]; exact Nat.le_trans HE7.out.fst.ok.nowN (by omega)
                have hKB : (X.fail ks).revive.now.length = K := hK
                have HKA := Lib.hid hK
                have HKB := Lib.hid hKB
                clear hK hKB
                go_wp2_with fail
                refine (held_shownK HE7.out.fst (by omega) rfl HKA.out).mono ?_
                rintro e z1 ⟨vp, vc, up, uc, rfl, hv, hu, hb⟩
                have hb1 : Below _ _ (z1.alloc (.cells #[.slice vp K vc, .slice up K uc] 43)) := hb.alloc hb.size _
                have HDS := Lib.hid (HE7.out.below hb1)
                have hx1 : ∀ {v l}, TextsIn (fun b => y7.heap.size ≤ b ∧ b < z1.heap.size) z1 v l → TextsRd (z1.alloc (.cells #[.slice vp K vc, .slice up K uc] 43)) v l := fun h => (h.keep (fun b hb => Below.heap_alloc z1 _ b hb.2)).rd
                have HV1 := Lib.hid (hx1 hv)
                have HU1 := Lib.hid (hx1 hu)
                have HI1 := Lib.hid (heap_new z1 (.cells #[.slice vp K vc, .slice up K uc] 43))
                clear hv hu hb hb1 hx1
                go_wp2_with fail
                generalize z1.heap.size = i1 at HI1 ⊢
                generalize z1.alloc (.cells #[.slice vp K vc, .slice up K uc] 43) = z2 at HDS HV1 HU1 HI1 ⊢
                refine (held_shownK HDS.out.snd (by omega) rfl HKB.out).mono ?_
                rintro e z3 ⟨vp2, vc2, up2, uc2, rfl, hv, hu, hb⟩
                have hb1 : Below z2.heap.size z2 (z3.alloc (.cells #[.slice vp2 K vc2, .slice up2 K uc2] 43)) := hb.alloc hb.size _
                have HDU := Lib.hid (HDS.out.below hb1)
                have hx1 : ∀ {v l}, TextsIn (fun b => z2.heap.size ≤ b ∧ b < z3.heap.size) z3 v l → TextsRd (z3.alloc (.cells #[.slice vp2 K vc2, .slice up2 K uc2] 43)) v l := fun h => (h.keep (fun b hb => Below.heap_alloc z3 _ b hb.2)).rd
                have hi3 := (hb1.block i1 (blk_lt HI1.out)).trans HI1.out
                have y0 := cell_of_heapN (i := 0) hi3
                have y1 := cell_of_heapN (i := 1) hi3
                have HL : (X.fail ks).revive.namesOf.length ≤ 8000000000000 ∧ (X.fail ks).revive.datas.length ≤ 8000000000000 := by
                  unfold DM.namesOf DM.datas
                  rw [List.length_map, List.length_map, HKA.out]
                  omega
                have HSA := same_any (z3.alloc (.cells #[.slice vp2 K vc2, .slice up2 K uc2] 43)) (.slice vp K vc) (.slice up K uc) (.slice vp2 K vc2) (.slice up2 K uc2) (X.fail ks).revive.namesOf (X.fail ks).revive.datas (X.fail ks).revive.namesOf (X.fail ks).revive.datas (HV1.out.below hb1) (HU1.out.below hb1) (hx1 hv) (hx1 hu) HL.1 HL.2
                rw [show (sameT (X.fail ks).revive.namesOf (X.fail ks).revive.namesOf && sameT (X.fail ks).revive.datas (X.fail ks).revive.datas) = true by rw [show (X.fail ks).revive.namesOf = (X.fail ks).revive.namesOf from rfl, show (X.fail ks).revive.datas = (X.fail ks).revive.datas from rfl]; unfold sameT; simp] at HSA
                have HSA := Lib.hid HSA
                clear hv hu hb hb1 hx1 hi3 HL
                go_wp2_with fail
                refine HSA.out.mono ?_
                rintro e z4 ⟨rfl, hb4⟩
                have HBZ := Lib.hid (HDU.out.below hb4).fst.bel
                clear hb4
                go_wp2_with fail
                go_ret
                exact ⟨rfl, HBZ.out⟩
          · have hri := refused_in mb s.call
            have hop := arm_op_no hm.out.1.1 (x := 1 + pk - c) ks s.call hr
            have hop2 := calm_op_no hm.out.1 hr
            have HOP2 := Lib.hid hop2
            refine (HDA.out.lift (fun e => e = .returned (errE (mb.refused s.call))) (na' := q + 1) (ma' := mb.arm (1 + pk - c) ks) (fun P' hh => by
              have h := held_change hh s (.slice kp kl kc) HFT.out (by omega) (by rw [hmA]; exact HRM.out)
              rw [hop] at h
              exact h)).mono ?_
            rintro e x1 ⟨rfl, hd, hs⟩
            generalize mb.refused s.call = r at hr hri HOP2 ⊢
            have hr1 : 1 ≤ r ∧ r ≤ 32 ∧ r ≠ 27 := by omega
            obtain ⟨hr1, hr2, hr3⟩ := hr1
            clear hri
            have HR := Lib.hid hr
            rw [errE_nz hr]
            unfold errV
            have HD1 := Lib.hid hd
            have HF1 := Lib.hid ((hs _ (.inl rfl)).trans HFA.out)
            have hx1 := (hs _ (.inr rfl)).trans HXA.out
            clear hd hs HDA HFA HXA hop hop2
            have HX1 := Lib.hid hx1
            have hway : (c : Int) + 1 < 1 + pk ∨ ¬ (c : Int) + 1 < 1 + pk := Decidable.em _
            rcases hway with hcn | hcn
            · have HD2 := HD1
              have HF2 := HF1
              have e0 : x1.cell? ⟨wr.heap.size, 0, none⟩ = some (.int .i64 s.act) := cell_of_heapN hx1
              have e1 : x1.cell? ⟨wr.heap.size, 1, none⟩ = some (.int .i64 s.who) := cell_of_heapN hx1
              have e2 : x1.cell? ⟨wr.heap.size, 2, none⟩ = some (.string s.name) := cell_of_heapN hx1
              have e3 : x1.cell? ⟨wr.heap.size, 3, none⟩ = some (.string s.data) := cell_of_heapN hx1
              have e4 : x1.cell? ⟨wr.heap.size, 4, none⟩ = some (.int .i64 s.num) := cell_of_heapN hx1
              have e5 : x1.cell? ⟨wr.heap.size, 5, none⟩ = some (.slice kp kl kc) := cell_of_heapN hx1
              clear hx1 HX1 HD1 HF1
              go_wp2_with fail
              refine (HD2.out.lift2 (fun e => e = .returned (errE r)) (nb' := q + 1) (mb' := mb) (fun P' hh => by
                have h := held_change hh s (.slice kp kl kc) HFT.out (by omega) HRM.out
                rw [HOP2.out] at h
                exact h)).mono ?_
              rintro e x3 ⟨rfl, hd, hs⟩
              rw [errE_nz HR.out]
              unfold errV
              have HD3 := Lib.hid hd
              have HF3 := Lib.hid ((hs _ (.inl rfl)).trans HF2.out)
              clear hd hs HD2 HF2 e0 e1 e2 e3 e4 e5
              go_wp2_with fail
              refine (num_any _ _ r x3 (isNum_errno r) hr1 hr2).mono ?_
              rintro e x4 ⟨rfl, hb⟩
              have HD4 := Lib.hid (HD3.out.below hb)
              have HF4 := Lib.hid ((HD3.out.fst.same hb _ (.inl rfl)).trans HF3.out)
              clear hb HD3 HF3
              go_wp2_with fail
              refine (num_any _ _ r x4 (isNum_errno r) hr1 hr2).mono ?_
              rintro e x5 ⟨rfl, hb⟩
              have HD5 := Lib.hid (HD4.out.below hb)
              have HF5 := Lib.hid ((HD4.out.fst.same hb _ (.inl rfl)).trans HF4.out)
              clear hb HD4 HF4
              go_wp2_with fail
              case roundEnd => exact ⟨⟨q + 1, c, mb, by omega, by omega, hcp, by rw [Int.natCast_add]; rfl, rfl, Lib.hid (HD5.out.sub (fun b hb => .inl hb)), hm, HF5⟩, by simp [intOf]; omega⟩
            · go_wp2_with fail
              refine (num_any _ _ r x1 (isNum_errno r) hr1 hr2).mono ?_
              rintro e x2 ⟨rfl, hb⟩
              have HD2 := Lib.hid (HD1.out.below hb)
              have HF2 := Lib.hid ((HD1.out.fst.same hb _ (.inl rfl)).trans HF1.out)
              have hx1 := (HD1.out.fst.same hb _ (.inr rfl)).trans HX1.out
              have hb27 : (r != 27) = true := by simp [hr3]
              clear hb
              have e0 : x2.cell? ⟨wr.heap.size, 0, none⟩ = some (.int .i64 s.act) := cell_of_heapN hx1
              have e1 : x2.cell? ⟨wr.heap.size, 1, none⟩ = some (.int .i64 s.who) := cell_of_heapN hx1
              have e2 : x2.cell? ⟨wr.heap.size, 2, none⟩ = some (.string s.name) := cell_of_heapN hx1
              have e3 : x2.cell? ⟨wr.heap.size, 3, none⟩ = some (.string s.data) := cell_of_heapN hx1
              have e4 : x2.cell? ⟨wr.heap.size, 4, none⟩ = some (.int .i64 s.num) := cell_of_heapN hx1
              have e5 : x2.cell? ⟨wr.heap.size, 5, none⟩ = some (.slice kp kl kc) := cell_of_heapN hx1
              clear hx1 HX1 HD1 HF1
              go_wp2_with fail
              refine (HD2.out.lift2 (fun e => e = .returned (errE r)) (nb' := q + 1) (mb' := mb) (fun P' hh => by
                have h := held_change hh s (.slice kp kl kc) HFT.out (by omega) HRM.out
                rw [HOP2.out] at h
                exact h)).mono ?_
              rintro e x3 ⟨rfl, hd, hs⟩
              rw [errE_nz HR.out]
              unfold errV
              have HD3 := Lib.hid hd
              have HF3 := Lib.hid ((hs _ (.inl rfl)).trans HF2.out)
              clear hd hs HD2 HF2 e0 e1 e2 e3 e4 e5
              go_wp2_with fail
              refine (num_any _ _ r x3 (isNum_errno r) hr1 hr2).mono ?_
              rintro e x4 ⟨rfl, hb⟩
              have HD4 := Lib.hid (HD3.out.below hb)
              have HF4 := Lib.hid ((HD3.out.fst.same hb _ (.inl rfl)).trans HF3.out)
              clear hb HD3 HF3
              go_wp2_with fail
              refine (num_any _ _ r x4 (isNum_errno r) hr1 hr2).mono ?_
              rintro e x5 ⟨rfl, hb⟩
              have HD5 := Lib.hid (HD4.out.below hb)
              have HF5 := Lib.hid ((HD4.out.fst.same hb _ (.inl rfl)).trans HF4.out)
              clear hb HD4 HF4
              go_wp2_with fail
              case roundEnd => exact ⟨⟨q + 1, c, mb, by omega, by omega, hcp, by rw [Int.natCast_add]; rfl, rfl, Lib.hid (HD5.out.sub (fun b hb => .inl hb)), hm, HF5⟩, by simp [intOf]; omega⟩
    · obtain rfl : q = k1 := by omega
      have y5 : True := trivial
      obtain ⟨K, hK⟩ : ∃ K, mb.now.length = K := ⟨_, rfl⟩
      have hKn : K ≤ q + 1 := by rw [← hK]; exact Nat.le_trans hd.out.snd.ok.nowN (by omega)
      have hKB : mb.now.length = K := hK
      have HKA := Lib.hid hK
      have HKB := Lib.hid hKB
      clear hK hKB
      go_wp2_with fail
      refine (held_shownK hd.out.fst (by omega) (show (mb.arm (1 + pk - c) ks).off = false from hm.out.1.1) HKA.out).mono ?_
      rintro e z1 ⟨vp, vc, up, uc, rfl, hv, hu, hb⟩
      have hb1 : Below _ _ (z1.alloc (.cells #[.slice vp K vc, .slice up K uc] 43)) := hb.alloc hb.size _
      have HDS := Lib.hid (hd.out.below hb1)
      have hx1 : ∀ {v l}, TextsIn (fun b => wr.heap.size ≤ b ∧ b < z1.heap.size) z1 v l → TextsRd (z1.alloc (.cells #[.slice vp K vc, .slice up K uc] 43)) v l := fun h => (h.keep (fun b hb => Below.heap_alloc z1 _ b hb.2)).rd
      have HV1 := Lib.hid (hx1 hv)
      have HU1 := Lib.hid (hx1 hu)
      have HI1 := Lib.hid (heap_new z1 (.cells #[.slice vp K vc, .slice up K uc] 43))
      clear hv hu hb hb1 hx1
      go_wp2_with fail
      generalize z1.heap.size = i1 at HI1 ⊢
      generalize z1.alloc (.cells #[.slice vp K vc, .slice up K uc] 43) = z2 at HDS HV1 HU1 HI1 ⊢
      refine (held_shownK HDS.out.snd (by omega) hm.out.1.1 HKB.out).mono ?_
      rintro e z3 ⟨vp2, vc2, up2, uc2, rfl, hv, hu, hb⟩
      have hb1 : Below z2.heap.size z2 (z3.alloc (.cells #[.slice vp2 K vc2, .slice up2 K uc2] 43)) := hb.alloc hb.size _
      have HDU := Lib.hid (HDS.out.below hb1)
      have hx1 : ∀ {v l}, TextsIn (fun b => z2.heap.size ≤ b ∧ b < z3.heap.size) z3 v l → TextsRd (z3.alloc (.cells #[.slice vp2 K vc2, .slice up2 K uc2] 43)) v l := fun h => (h.keep (fun b hb => Below.heap_alloc z3 _ b hb.2)).rd
      have hi3 := (hb1.block i1 (blk_lt HI1.out)).trans HI1.out
      have y0 := cell_of_heapN (i := 0) hi3
      have y1 := cell_of_heapN (i := 1) hi3
      have HL : mb.namesOf.length ≤ 8000000000000 ∧ mb.datas.length ≤ 8000000000000 := by
        unfold DM.namesOf DM.datas
        rw [List.length_map, List.length_map, HKA.out]
        omega
      have HSA := same_any (z3.alloc (.cells #[.slice vp2 K vc2, .slice up2 K uc2] 43)) (.slice vp K vc) (.slice up K uc) (.slice vp2 K vc2) (.slice up2 K uc2) mb.namesOf mb.datas mb.namesOf mb.datas (HV1.out.below hb1) (HU1.out.below hb1) (hx1 hv) (hx1 hu) HL.1 HL.2
      rw [show (sameT mb.namesOf mb.namesOf && sameT mb.datas mb.datas) = true by rw [show mb.namesOf = mb.namesOf from rfl, show mb.datas = mb.datas from rfl]; unfold sameT; simp] at HSA
      have HSA := Lib.hid HSA
      clear hv hu hb hb1 hx1 hi3 HL
      go_wp2_with fail
      refine HSA.out.mono ?_
      rintro e z4 ⟨rfl, hb4⟩
      have HBZ := Lib.hid (HDU.out.below hb4).fst.bel
      clear hb4
      go_wp2_with fail
      go_ret
      exact ⟨rfl, HBZ.out⟩
end Go.Proofs.YtlcompihcmhbiaaGreatDoor
