/- Texts of the seat, one behind the other: RefJ, LentI. -/
import Derived.Test.YtlcompihcmhbiaaGreatDoorM32
/- The reference's disk: Do as a whole, Crash. -/
namespace Go.Proofs.YtlcompihcmhbiaaGreatDoor
open Go Go.RowKit Go.Maps Go.WideAt Go.WideShapes
set_option maxHeartbeats 6400000 in
set_option maxRecDepth 100000 in
theorem refDo_rename {w : World} {r n : Nat} {m : DM} {S : Nat → Prop} (h : RefAt w r n m S) (old name s : ByteArray) (file : Nat) (hn : n * m.room ≤ 4611686018427387904) (hn2 : n + 1 ≤ 1000000000000) (hs : s.size ≤ 140737488355328) (hof : (file : Int) ≤ 9223372036854775807)
    (hoff : m.off = false) (href : m.refused (.rename old name) = 0) :
    Calls Tryz.prog 50 #[.pointer (some ⟨r, 0, none⟩), .agg #[.int .i64 4, .string old, .string name, .int .i64 file], .string s] w fun e w' => e = .returned (.int .i64 (m.op (.rename old name)).2) ∧ RefPost r (n + 1) (m.op (.rename old name)).1 S w w' := by
  have hrf := fun W (hb : RefAt W r n m S) => refused_any hb ⟨4, old, name, file⟩ s (by show (1 : Int) ≤ 4; decide) (by show (4 : Int) ≤ 6; decide) hn (by omega) hs
  have hrc : rcall ⟨4, old, name, file⟩ s = .rename old name := rfl
  rw [hrc, href] at hrf
  have hlt := h.lt
  have hfn := h.filesN
  have hok := h.ok
  have hactok := hok.tick.act (.rename old name) (by rw [← href]; exact refused_tick m _) (by rw [← hoff]; rfl)
  have hb0 := (Below.refl w.heap.size w).alloc (Nat.le_refl _) (.cells #[.int .i64 4, .string old, .string name, .int .i64 file] 98)
  have HREF := Lib.hid (hrf _ (h.below hb0))
  obtain ⟨⟨fv, nv, sv, pv, kv, ro, h1⟩, -, -⟩ := h.below hb0
  have HRW := Lib.hid h1
  have HB0 := Lib.hid hb0
  have HBX := Lib.hid (heap_new w (.cells #[.int .i64 4, .string old, .string name, .int .i64 file] 98))
  have HSR := Lib.hid h1.sr
  have HRL0 := Lib.hid (hlt r h1.sr)
  have HLT := Lib.hid hlt
  have HOK := Lib.hid hok
  have HACT := Lib.hid hactok
  have d0 : (w.alloc (.cells #[.int .i64 4, .string old, .string name, .int .i64 file] 98)).cell? ⟨w.heap.size, 0, none⟩ = some (.int .i64 4) := cell_of_heapN HBX.out
  have d1 : (w.alloc (.cells #[.int .i64 4, .string old, .string name, .int .i64 file] 98)).cell? ⟨w.heap.size, 1, none⟩ = some (.string old) := cell_of_heapN HBX.out
  have d2 : (w.alloc (.cells #[.int .i64 4, .string old, .string name, .int .i64 file] 98)).cell? ⟨w.heap.size, 2, none⟩ = some (.string name) := cell_of_heapN HBX.out
  have d3 : (w.alloc (.cells #[.int .i64 4, .string old, .string name, .int .i64 file] 98)).cell? ⟨w.heap.size, 3, none⟩ = some (.int .i64 file) := cell_of_heapN HBX.out
  have c0 := h1.cells.1
  rw [hoff] at c0
  clear h h1 hb0 hrf hlt hok hactok
  go_enter Tryz.func50, Tryz.ntmps50
  go_wp2_with fail
  refine HREF.out.mono ?_
  rintro e w1 ⟨rfl, hb1⟩
  have HS1 : Hid (DoS w w1 r m S S fv nv sv pv kv ro #[.int .i64 4, .string old, .string name, .int .i64 file]) := Lib.hid
    ⟨HRW.out.frame (fun b hb => hb1.block b (HRW.out.lt b hb)) hb1.size, ((Off.refl S w).below HB0.out (Nat.le_refl _)).below hb1 HB0.out.size, fun b hb => .inl hb, (hb1.block _ (blk_lt HBX.out)).trans HBX.out⟩
  clear hb1 d0 d1 d2 d3 c0 HREF HRW HB0 HBX
  have harm := HOK.out.arm0
  have harm1 := HOK.out.arm1
  have hway : m.armed = 0 ∨ m.armed = 1 ∨ 1 < m.armed := by omega
  rcases hway with ha | ha | ha
  · have htk : m.tick = { m with armed := 0 } := tick_eq (by rw [ha]; rfl)
    have c6 := HS1.out.raw.cells.2.2.2.2.2.2.1
    have f6 : w1.frozen? ⟨r, 6, none⟩ = false := frozen_blk HS1.out.raw.head
    rw [ha] at c6
    have HS2 : Hid (DoS w w1 r m.tick S S fv nv sv pv kv ro #[.int .i64 4, .string old, .string name, .int .i64 file]) := Lib.hid (by
  rw [htk]
  have hm : ({ m with armed := 0 } : DM) = m := by cases m; simp only at ha; rw [ha]
  rw [hm]
  exact HS1.out)
    have HDO := Lib.hid (op_do hoff href (by rw [ha]; decide))
    clear htk
    go_wp2_with fail
    clear HS1 c6 f6
    have H3 := Lib.hid HS2.out.raw
    obtain ⟨np, nc, hnv⟩ := HS2.out.raw.now.form
    have c3 := HS2.out.raw.cells.2.2.2.1
    obtain ⟨N, hN⟩ : ∃ N, m.tick.now.length = N := ⟨_, rfl⟩
    rw [hN] at hnv
    subst hnv
    have hNn : N ≤ n := by rw [← hN]; exact HOK.out.nowN
    have HN := Lib.hid hN
    have d2 : w1.cell? ⟨w.heap.size, 2, none⟩ = some (.string name) := cell_of_heapN HS2.out.box
    have hat : ∀ q, Calls Tryz.prog 86 #[.slice np N nc, .string name] (w1.drewN q) fun e w' => e = .returned (.int .i64 (tidx m.now name.data.toList)) ∧ w' = w1.drewN q := fun q =>
      (at_any (HS2.out.drews q).raw.now name (Nat.le_trans HOK.out.nowN (by omega))).mono (fun e w' hp => ⟨hp.1, hp.2.symm⟩)
    generalize tidx m.now name.data.toList = TT at hat
    have HAT := Lib.hid hat
    clear hat hN H3
    go_quiet ((go_at_call 86; exact Calls.quiet_of_same (HAT.out _)))
    rename_i nq
    have HS3 := Lib.hid (HS2.out.drews nq)
    generalize w1.drewN nq = V at HS3 ⊢
    clear HS2 c3 d2 HAT
    have d0 : V.cell? ⟨w.heap.size, 0, none⟩ = some (.int .i64 4) := cell_of_heapN HS3.out.box
    have d1 : V.cell? ⟨w.heap.size, 1, none⟩ = some (.string old) := cell_of_heapN HS3.out.box
    have d2 : V.cell? ⟨w.heap.size, 2, none⟩ = some (.string name) := cell_of_heapN HS3.out.box
    have d3 : V.cell? ⟨w.heap.size, 3, none⟩ = some (.int .i64 file) := cell_of_heapN HS3.out.box
    go_wp2_with fail
    obtain ⟨SV, hSV⟩ : ∃ SV, SV = S := ⟨_, rfl⟩
    have HS4 : Hid (DoS w V r m.tick S SV fv (.slice np N nc) sv pv kv ro #[.int .i64 4, .string old, .string name, .int .i64 file]) := Lib.hid (by rw [hSV]; exact HS3.out)
    clear HS3 hSV
    have HRN := Lib.hid HS4.out.raw.now
    have HSV := Lib.hid HS4.out.raw.lt
    have HRH := Lib.hid HS4.out.raw.head
    have HRL := Lib.hid (HS4.out.raw.lt r HS4.out.raw.sr)
    have C3 := Lib.hid HS4.out.raw.cells.2.2.2.1
    have HBL := Lib.hid (blk_lt HS4.out.box)
    have D0 := Lib.hid d0
    have D1 := Lib.hid d1
    have D2 := Lib.hid d2
    have D3 := Lib.hid d3
    have HTR := Lib.hid HOK.out.now
    have HTL := Lib.hid (show m.now.length ≤ 2000000000000 by have := HOK.out.nowN; omega)
    have HTI := Lib.hid (fun (p : Bs × Nat) (hp : p ∈ m.now) => show (p.2 : Int) ≤ 9223372036854775807 by have := HOK.out.nowI p hp; omega)
    have HOF := Lib.hid (show ((file : Nat) : Int) ≤ 9223372036854775807 by omega)
    obtain ⟨T, hT⟩ : ∃ T, m.now = T := ⟨_, rfl⟩
    have HTT := Lib.hid hT
    have HRN : Hid (LinksS SV V (.slice np N nc) T) := Lib.hid (by rw [← hT]; exact HRN.out)
    rw [hT] at HTR HTL HTI
    clear hT
    have hI0 : NowW V r SV ((ROp.dop ⟨4, old, name, file⟩).act T) (fun _ => false) undef V.drew := ⟨fun _ => (Below.refl _ V).drew, fun h => (by cases h), fun h => (by cases h), fun h => (by cases h), fun h => (by cases h)⟩
    refine wp_region_flowG (fun γ => [.pointer (some ⟨r, 0, none⟩), .pointer (some ⟨r, 0, none⟩), .pointer (some ⟨r, 0, none⟩), .pointer (some ⟨r, 3, none⟩), .slice np N nc, .agg #[.int .i64 4, .string old, .string name, .int .i64 file], γ, .pointer (some ⟨r, 0, none⟩), .pointer (some ⟨r, 3, none⟩), undef]) (NowW V r SV ((ROp.dop ⟨4, old, name, file⟩).act T))
      [[], [], [1], [2], [3], [], [4, 5], [0, 0, 1, 2, 3, 4, 5, 6], [7, 0, 1, 2, 3, 4, 5, 6], [8, 6, 6, 0, 1, 2, 3, 4, 5, 6]] 165 undef mixedD rfl (by kernel_rfl) (fun _ => rfl) hI0 ?_ ?_
    · refine ⟨?_, ?_, ?_, ?_, ?_, ?_, ?_, ?_, ?_, ?_, rfl⟩
      all_goals intro L γ W ev hL hd hW hc hf hg he h0
      · have e0 : ev (.tmp 0) = .pointer (some ⟨r, 0, none⟩) := h0 0 rfl
        clear he h0 hc hf hg
        exact .inl ⟨rfl, .inl ⟨_, W, (by go_simp <;> rfl), .still (hW.upd 0 (by decide) (by decide) (fun e => by cases e)) rfl⟩⟩
      · have e0 : ev (.tmp 0) = .pointer (some ⟨r, 0, none⟩) := h0 0 rfl
        clear he h0 hc hf hg
        exact .inl ⟨rfl, .inl ⟨_, W, (by go_simp <;> rfl), .still (hW.upd 1 (by decide) (by decide) (fun e => by cases e)) rfl⟩⟩
      · have e140 : ev (.tmp 140) = .pointer (some ⟨r, 0, none⟩) := he 1 (by decide) _ 140 rfl rfl
        clear he h0 hc hf hg
        exact .inl ⟨rfl, .inl ⟨_, W, (by go_simp <;> rfl), .still (hW.upd 2 (by decide) (by decide) (fun e => by cases e)) rfl⟩⟩
      · have e141 : ev (.tmp 141) = .pointer (some ⟨r, 0, none⟩) := he 2 (by decide) _ 141 rfl rfl
        clear he h0 hc hf hg
        exact .inl ⟨rfl, .inl ⟨_, W, (by go_simp <;> rfl), .still (hW.upd 3 (by decide) (by decide) (fun e => by cases e)) rfl⟩⟩
      · have e142 : ev (.tmp 142) = .pointer (some ⟨r, 3, none⟩) := he 3 (by decide) _ 142 rfl rfl
        have c : W.cell? ⟨r, 3, none⟩ = some (.slice np N nc) := (hW.same hL (by decide) r 3 HRL.out).trans C3.out
        clear he h0 hc hf hg
        exact .inl ⟨rfl, .inl ⟨_, W, (by go_simp <;> rfl), .still (hW.upd 4 (by decide) (by decide) (fun e => by cases e)) rfl⟩⟩
      · have e4 : ev (.tmp 4) = .pointer (some ⟨w.heap.size, 0, none⟩) := h0 4 rfl
        have d0 : W.cell? ⟨w.heap.size, 0, none⟩ = some (.int .i64 4) := (hW.same hL (by decide) w.heap.size _ HBL.out).trans D0.out
        have d1 : W.cell? ⟨w.heap.size, 1, none⟩ = some (.string old) := (hW.same hL (by decide) w.heap.size _ HBL.out).trans D1.out
        have d2 : W.cell? ⟨w.heap.size, 2, none⟩ = some (.string name) := (hW.same hL (by decide) w.heap.size _ HBL.out).trans D2.out
        have d3 : W.cell? ⟨w.heap.size, 3, none⟩ = some (.int .i64 file) := (hW.same hL (by decide) w.heap.size _ HBL.out).trans D3.out
        clear he h0 hc hf hg
        exact .inl ⟨rfl, .inl ⟨_, W, (by go_simp <;> rfl), .still (hW.upd 5 (by decide) (by decide) (fun e => by cases e)) rfl⟩⟩
      · have e143 : ev (.tmp 143) = .slice np N nc := he 4 (by decide) _ 143 rfl rfl
        have e144 : ev (.tmp 144) = .agg #[.int .i64 4, .string old, .string name, .int .i64 file] := he 5 (by decide) _ 144 rfl rfl
        clear he h0 hc hg
        have hb := hW.bel (hW.off hL (by decide))
        have hl : LinksS SV W (.slice np N nc) T := HRN.out.keep (fun b _ hS _ => hb.block b (HSV.out b hS))
        refine .inl ⟨rfl, .inr (.inr ⟨87, #[.slice np N nc, .agg (ropCl ⟨4, old, name, file⟩)], W, (by have hff := hf 87; clear hf; go_simp <;> rfl), ?_⟩)⟩
        refine (done_any hl (fun b hS => Nat.lt_of_lt_of_le (HSV.out b hS) hb.size) HTR.out ⟨4, old, name, file⟩ HTL.out HTI.out HOF.out).mono ?_
        rintro e w' ⟨u, rfl, hg, hb2⟩
        exact ⟨u, rfl, u, hW.called hL hg hb2, rfl, fun j hj => by
          have hj2 : j ≠ 6 := fun e => by subst e; rw [hL] at hj; cases hj
          match j, hj2 with
          | 0, _ | 1, _ | 2, _ | 3, _ | 4, _ | 5, _ | 7, _ | 8, _ | 9, _ => rfl
          | n + 10, _ => rfl⟩
      · have e139 : ev (.tmp 139) = .pointer (some ⟨r, 0, none⟩) := he 0 (by decide) _ 139 rfl rfl
        clear he h0 hc hf hg
        exact .inl ⟨rfl, .inl ⟨_, W, (by go_simp <;> rfl), .still (hW.upd 7 (by decide) (by decide) (fun e => by cases e)) rfl⟩⟩
      · have e146 : ev (.tmp 146) = .pointer (some ⟨r, 0, none⟩) := he 7 (by decide) _ 146 rfl rfl
        clear he h0 hc hf hg
        exact .inl ⟨rfl, .inl ⟨_, W, (by go_simp <;> rfl), .still (hW.upd 8 (by decide) (by decide) (fun _ => hd 7 (by decide))) rfl⟩⟩
      · have e145 : ev (.tmp 145) = γ := he 6 (by decide) _ 145 rfl rfl
        have e147 : ev (.tmp 147) = .pointer (some ⟨r, 3, none⟩) := he 8 (by decide) _ 147 rfl rfl
        clear he h0 hc hg
        have h6 : L 6 = true := hd 6 (by decide)
        have hone := hW.one h6 hL
        obtain ⟨up, uc, hu⟩ := hone.form
        have hb := hW.bel hL
        have cq : W.cell? ⟨r, 3, none⟩ = some (.slice np N nc) := (cell_of_heap (hb.block r HRL.out)).trans C3.out
        have cf : W.frozen? ⟨r, 3, none⟩ = false := frozen_blk ((hb.block r HRL.out).trans HRH.out)
        have hfin := hW.stored hL h6 (fun j hj => by
          by_cases e : j = 7
          · subst e; exact hW.c8 (hd 8 (by decide))
          · exact hd j (by have : j = 0 ∨ j = 1 ∨ j = 2 ∨ j = 3 ∨ j = 4 ∨ j = 5 ∨ j = 6 ∨ j = 8 := (by omega); rcases this with rfl | rfl | rfl | rfl | rfl | rfl | rfl | rfl <;> decide))
        subst hu
        refine .inl ⟨rfl, .inr (.inl ⟨W.setCell ⟨r, 3, none⟩ (.slice up (DOp.act (ROp.dop ⟨4, old, name, file⟩) T).length uc), ?_, .still hfin rfl⟩)⟩
        clear hf hone hfin hW
        go_simp
    · intro nvv L' W hL' hW
      simp only [putAll, Act.put, List.setIfInBounds_toArray, List.set_cons_succ, List.set_cons_zero]
      obtain ⟨W0, hb0, hl0, rfl⟩ := hW.fin (hL' 9 (by decide))
      have HS5 := Lib.hid (HS4.out.now HSR.out HRL0.out hb0 hl0)
      clear hI0 hL' hW hb0 hl0 HS4 HRN HSV HRH HRL C3 HBL D0 D1 D2 D3
      generalize grow SV V (W0.setCell ⟨r, 3, none⟩ nvv) = SV at HS5
      generalize W0.setCell ⟨r, 3, none⟩ nvv = V at HS5 ⊢
      have d0 : V.cell? ⟨w.heap.size, 0, none⟩ = some (.int .i64 4) := cell_of_heapN HS5.out.box
      have d1 : V.cell? ⟨w.heap.size, 1, none⟩ = some (.string old) := cell_of_heapN HS5.out.box
      have d2 : V.cell? ⟨w.heap.size, 2, none⟩ = some (.string name) := cell_of_heapN HS5.out.box
      have d3 : V.cell? ⟨w.heap.size, 3, none⟩ = some (.int .i64 file) := cell_of_heapN HS5.out.box
      have HSV := Lib.hid HS5.out.raw.lt
      have HRL := Lib.hid (HS5.out.raw.lt r HS5.out.raw.sr)
      obtain ⟨pp, pc, hpv⟩ := HS5.out.raw.pend.form
      obtain ⟨P, hP⟩ : ∃ P, ro.length = P := ⟨_, rfl⟩
      have hPn : P ≤ n := by
        have h1 := HS5.out.raw.pendE
        have h2 := HOK.out.safeN
        have h3 := congrArg List.length h1
        rw [List.length_map, hP] at h3
        have h3 : m.pend.length = P := h3
        omega
      rw [hP] at hpv
      subst hpv
      have HPL := Lib.hid hP
      have HRR := Lib.hid HS5.out.raw
      have HRP := Lib.hid HS5.out.raw.pend
      have C5 := Lib.hid HS5.out.raw.cells.2.2.2.2.2.1
      have HBL := Lib.hid (blk_lt HS5.out.box)
      have D0 := Lib.hid d0
      have D1 := Lib.hid d1
      have D2 := Lib.hid d2
      have D3 := Lib.hid d3
      obtain ⟨iO, hiO, hzO0, hzO1, hzO2⟩ := info_parts infoOp
      clear hP
      go_wp2_with fail
      have hI0 : PenW V r (.slice pp P pc) ro ⟨4, old, name, file⟩ (fun _ => false) (0, undef) V.drew := ⟨fun _ => (Below.refl _ V).drew, fun h => (by cases h), fun h => (by cases h), fun h => (by cases h), fun h => (by cases h), fun h => (by cases h), fun h => (by cases h)⟩
      refine wp_region_flowG (fun γ => [.pointer (some ⟨r, 0, none⟩), .pointer (some ⟨r, 0, none⟩), .pointer (some ⟨r, 0, none⟩), .pointer (some ⟨r, 5, none⟩), .slice pp P pc, .agg #[.int .i64 4, .string old, .string name, .int .i64 file], .slice (some ⟨γ.1, 0, none⟩) 1 1, γ.2, .pointer (some ⟨r, 0, none⟩), .pointer (some ⟨r, 5, none⟩), undef]) (PenW V r (.slice pp P pc) ro ⟨4, old, name, file⟩)
        [[], [], [1], [2], [3], [], [5], [4, 6], [0, 0, 1, 2, 3, 4, 5, 6, 7], [8, 0, 1, 2, 3, 4, 5, 6, 7], [9, 7, 7, 0, 1, 2, 3, 4, 5, 6, 7]] 165 (0, undef) mixedD rfl (by kernel_rfl) (fun _ => rfl) hI0 ?_ ?_
      · refine ⟨?_, ?_, ?_, ?_, ?_, ?_, ?_, ?_, ?_, ?_, ?_, rfl⟩
        all_goals intro L γ W ev hL hd hW hc hf hg he h0
        · have e0 : ev (.tmp 0) = .pointer (some ⟨r, 0, none⟩) := h0 0 rfl
          clear he h0 hc hf hg
          exact .inl ⟨rfl, .inl ⟨_, W, (by go_simp <;> rfl), .still (hW.upd 0 (by decide) (by decide) (by decide)) rfl⟩⟩
        · have e0 : ev (.tmp 0) = .pointer (some ⟨r, 0, none⟩) := h0 0 rfl
          clear he h0 hc hf hg
          exact .inl ⟨rfl, .inl ⟨_, W, (by go_simp <;> rfl), .still (hW.upd 1 (by decide) (by decide) (by decide)) rfl⟩⟩
        · have e149 : ev (.tmp 149) = .pointer (some ⟨r, 0, none⟩) := he 1 (by decide) _ 149 rfl rfl
          clear he h0 hc hf hg
          exact .inl ⟨rfl, .inl ⟨_, W, (by go_simp <;> rfl), .still (hW.upd 2 (by decide) (by decide) (by decide)) rfl⟩⟩
        · have e150 : ev (.tmp 150) = .pointer (some ⟨r, 0, none⟩) := he 2 (by decide) _ 150 rfl rfl
          clear he h0 hc hf hg
          exact .inl ⟨rfl, .inl ⟨_, W, (by go_simp <;> rfl), .still (hW.upd 3 (by decide) (by decide) (by decide)) rfl⟩⟩
        · have e151 : ev (.tmp 151) = .pointer (some ⟨r, 5, none⟩) := he 3 (by decide) _ 151 rfl rfl
          have c : W.cell? ⟨r, 5, none⟩ = some (.slice pp P pc) := (hW.same hL (by decide) r 5 HRL.out).trans C5.out
          clear he h0 hc hf hg
          exact .inl ⟨rfl, .inl ⟨_, W, (by go_simp <;> rfl), .still (hW.upd 4 (by decide) (by decide) (by decide)) rfl⟩⟩
        · have e4 : ev (.tmp 4) = .pointer (some ⟨w.heap.size, 0, none⟩) := h0 4 rfl
          have d0 : W.cell? ⟨w.heap.size, 0, none⟩ = some (.int .i64 4) := (hW.same hL (by decide) w.heap.size _ HBL.out).trans D0.out
          have d1 : W.cell? ⟨w.heap.size, 1, none⟩ = some (.string old) := (hW.same hL (by decide) w.heap.size _ HBL.out).trans D1.out
          have d2 : W.cell? ⟨w.heap.size, 2, none⟩ = some (.string name) := (hW.same hL (by decide) w.heap.size _ HBL.out).trans D2.out
          have d3 : W.cell? ⟨w.heap.size, 3, none⟩ = some (.int .i64 file) := (hW.same hL (by decide) w.heap.size _ HBL.out).trans D3.out
          clear he h0 hc hf hg
          exact .inl ⟨rfl, .inl ⟨_, W, (by go_simp <;> rfl), .still (hW.upd 5 (by decide) (by decide) (by decide)) rfl⟩⟩
        · have e153 : ev (.tmp 153) = .agg #[.int .i64 4, .string old, .string name, .int .i64 file] := he 5 (by decide) _ 153 rfl rfl
          clear he h0 hc hg
          refine .inl ⟨rfl, .inl ⟨_, W.alloc (.cells (ropCl ⟨4, old, name, file⟩) 98), (by clear hf; go_simp <;> rfl), (W.heap.size, γ.2), hW.boxed hL (hd 5 (by decide)), rfl, fun j hj => ?_⟩⟩
          have hj2 : j ≠ 6 := fun e => by subst e; rw [hL] at hj; cases hj
          match j, hj2 with
          | 0, _ | 1, _ | 2, _ | 3, _ | 4, _ | 5, _ | 7, _ | 8, _ | 9, _ | 10, _ => rfl
          | n + 11, _ => rfl
        · have e152 : ev (.tmp 152) = .slice pp P pc := he 4 (by decide) _ 152 rfl rfl
          have e154 : ev (.tmp 154) = .slice (some ⟨γ.1, 0, none⟩) 1 1 := he 6 (by decide) _ 154 rfl rfl
          clear he h0 hc hg
          have h4 := hd 4 (by decide)
          have h6 := hd 6 (by decide)
          have hbx := hW.box h6 hL
          have hb := hW.bel hL
          have hro : RopsS SV W (.slice pp P pc) ro := HRP.out.keep (fun b _ hS _ => hb.block b (HSV.out b hS))
          have hro1 := hro.1
          rw [HPL.out] at hro1
          obtain ⟨v', W', hr, hown, hg, -, hat⟩ := run_append_own_at (P := Tryz.prog) W 0 93 93 98 iO (.agg #[.int .i64 0, .string ⟨#[]⟩, .string ⟨#[]⟩, .int .i64 0]) 4 48 Tryz.underlying93 hiO hzO0 hzO1 hzO2 rfl (by decide) (.slice pp P pc) P (flatR ropCl ro) hro1 ⟨γ.1, 0, none⟩ 1 1 (ropCl ⟨4, old, name, file⟩).toList rfl (fun j u hu => (cellAdd hbx.1 j).trans (by rw [← hu, Array.getElem?_toList])) (ropCl_one ⟨4, old, name, file⟩) (by unfold maxLen; omega) (by omega) (Nat.zero_le _)
          refine .inl ⟨rfl, .inl ⟨v', W', (by clear hf; simp only [execOp, resolve, invoke, builtin, Sem.run_bind, Sem.run_pure, Result.andThen_ok, List.map_toArray, List.map_cons, List.map_nil, e152, e154, hr]), (γ.1, v'), hW.apped hL h4 h6 hg (by rw [HPL.out]; exact hown) hat, rfl, fun j hj => ?_⟩⟩
          have hj2 : j ≠ 7 := fun e => by subst e; rw [hL] at hj; cases hj
          match j, hj2 with
          | 0, _ | 1, _ | 2, _ | 3, _ | 4, _ | 5, _ | 6, _ | 8, _ | 9, _ | 10, _ => rfl
          | n + 11, _ => rfl
        · have e148 : ev (.tmp 148) = .pointer (some ⟨r, 0, none⟩) := he 0 (by decide) _ 148 rfl rfl
          clear he h0 hc hf hg
          exact .inl ⟨rfl, .inl ⟨_, W, (by go_simp <;> rfl), .still (hW.upd 8 (by decide) (by decide) (by decide)) rfl⟩⟩
        · have e156 : ev (.tmp 156) = .pointer (some ⟨r, 0, none⟩) := he 8 (by decide) _ 156 rfl rfl
          clear he h0 hc hf hg
          exact .inl ⟨rfl, .inl ⟨_, W, (by go_simp <;> rfl), .still (hW.upd 9 (by decide) (by decide) (by decide)) rfl⟩⟩
        · have e155 : ev (.tmp 155) = γ.2 := he 7 (by decide) _ 155 rfl rfl
          have e157 : ev (.tmp 157) = .pointer (some ⟨r, 5, none⟩) := he 9 (by decide) _ 157 rfl rfl
          clear he h0 hc hg
          have h7 : L 7 = true := hd 7 (by decide)
          obtain ⟨W0, p1, p2, p3, p4⟩ := hW.app h7 hL
          obtain ⟨up, uc, hu⟩ := owns_form p3
          have hap := (HRR.out.appOp HOF.out p1 p2 p4 p3).2.2
          have cq : W.cell? ⟨r, 5, none⟩ = some (.slice pp P pc) := cell_of_heapN hap
          have cf : W.frozen? ⟨r, 5, none⟩ = false := frozen_blk hap
          have hfin := hW.stored hL h7
          rw [hu] at e155
          refine .inl ⟨rfl, .inr (.inl ⟨W.setCell ⟨r, 5, none⟩ γ.2, ?_, .still hfin rfl⟩)⟩
          rw [hu]
          clear hf hfin hW hu p1 p2 p3 p4 hap
          go_simp
      · intro γ L' W hL' hW
        obtain ⟨tb, γv⟩ := γ
        obtain ⟨W0, W1, p1, p2, p3, p4, rfl⟩ := hW.fin (hL' 10 (by decide))
        simp only [putAll, Act.put, List.setIfInBounds_toArray, List.set_cons_succ, List.set_cons_zero]
        obtain ⟨SV6, q1, q2, q3⟩ := HS5.out.pen HSR.out HRL0.out HLT.out HOF.out p1 p2 p4 p3
        have hpo : RefRaw (W1.setCell ⟨r, 5, none⟩ γv) r (m.tick.act (.rename old name)) SV6 (fv) nvv sv γv kv (ro ++ [⟨4, old, name, file⟩]) := by
          have e : m.tick.act (.rename old name) = { { (m.tick : DM) with now := (ROp.dop ⟨4, old, name, file⟩).act T } with pend := (m.tick : DM).pend ++ [ROp.dop ⟨4, old, name, file⟩] } := by
            rw [← HTT.out]
            rfl
          rw [e]
          exact q1
        have HP1 := Lib.hid (show RefPost r (n + 1) (m.tick.act (.rename old name)) S w (W1.setCell ⟨r, 5, none⟩ γv) from
          ⟨⟨⟨_, _, _, _, _, _, hpo.sup q3 (fun b hb => hb.elim (fun hb => Nat.lt_of_lt_of_le (HLT.out b hb) q2.size) (fun hb => hb.2))⟩, HACT.out, Nat.le_trans hfn (Nat.le_succ n)⟩, q2⟩)
        have C7 := Lib.hid hpo.cells.2.2.2.2.2.2.2
        have HKP := Lib.hid (show IntsOwn SV6 (W1.setCell ⟨r, 5, none⟩ γv) kv m.keep from by have := hpo.keep; rwa [show (m.tick.act (.rename old name)).keep = m.keep from act_keep m.tick _] at this)
        have HSUB := Lib.hid q3
        clear hL' hW p1 p2 p3 p4 q1 q2 q3 hpo hI0
        generalize W1.setCell ⟨r, 5, none⟩ γv = V6 at HP1 C7 HKP HSUB ⊢
        go_wp2_with fail
        go_ret
        exact ⟨by rw [HDO.out]; rfl, by rw [HDO.out]; exact HP1.out⟩
  · have htk : m.tick = { m with armed := 0 } := tick_eq (by rw [ha]; rfl)
    have c6 := HS1.out.raw.cells.2.2.2.2.2.2.1
    have f6 : w1.frozen? ⟨r, 6, none⟩ = false := frozen_blk HS1.out.raw.head
    rw [ha] at c6
    have hq := HS1.out.raw.put (m' := { m with armed := 0 }) 6 (.int .i64 0) rfl HS1.out.raw.now HS1.out.raw.safe HS1.out.raw.pend HS1.out.raw.keep rfl HS1.out.raw.pendE HS1.out.raw.opsF
    have HS2 : Hid (DoS w (w1.setCell ⟨r, 6, none⟩ (.int .i64 0)) r m.tick S S fv nv sv pv kv ro #[.int .i64 4, .string old, .string name, .int .i64 file]) := Lib.hid ⟨by rw [htk]; exact hq, HS1.out.off.setCell _ _ (fun _ => HSR.out), fun b hb => .inl hb, (Below.heap_setCell _ _ _ _ (fun e => by have e : w.heap.size = r := e; have := HRL0.out; omega)).trans HS1.out.box⟩
    have HDO := Lib.hid (op_hit hoff href ha)
    clear hq
    clear htk
    go_wp2_with fail
    generalize w1.setCell ⟨r, 6, none⟩ (.int .i64 0) = w2 at HS2 ⊢
    clear HS1 c6 f6
    have H3 := Lib.hid HS2.out.raw
    obtain ⟨np, nc, hnv⟩ := HS2.out.raw.now.form
    have c3 := HS2.out.raw.cells.2.2.2.1
    obtain ⟨N, hN⟩ : ∃ N, m.tick.now.length = N := ⟨_, rfl⟩
    rw [hN] at hnv
    subst hnv
    have hNn : N ≤ n := by rw [← hN]; exact HOK.out.nowN
    have HN := Lib.hid hN
    have d2 : w2.cell? ⟨w.heap.size, 2, none⟩ = some (.string name) := cell_of_heapN HS2.out.box
    have hat : ∀ q, Calls Tryz.prog 86 #[.slice np N nc, .string name] (w2.drewN q) fun e w' => e = .returned (.int .i64 (tidx m.now name.data.toList)) ∧ w' = w2.drewN q := fun q =>
      (at_any (HS2.out.drews q).raw.now name (Nat.le_trans HOK.out.nowN (by omega))).mono (fun e w' hp => ⟨hp.1, hp.2.symm⟩)
    generalize tidx m.now name.data.toList = TT at hat
    have HAT := Lib.hid hat
    clear hat hN H3
    go_quiet ((go_at_call 86; exact Calls.quiet_of_same (HAT.out _)))
    rename_i nq
    have HS3 := Lib.hid (HS2.out.drews nq)
    generalize w2.drewN nq = V at HS3 ⊢
    clear HS2 c3 d2 HAT
    have d0 : V.cell? ⟨w.heap.size, 0, none⟩ = some (.int .i64 4) := cell_of_heapN HS3.out.box
    have d1 : V.cell? ⟨w.heap.size, 1, none⟩ = some (.string old) := cell_of_heapN HS3.out.box
    have d2 : V.cell? ⟨w.heap.size, 2, none⟩ = some (.string name) := cell_of_heapN HS3.out.box
    have d3 : V.cell? ⟨w.heap.size, 3, none⟩ = some (.int .i64 file) := cell_of_heapN HS3.out.box
    go_wp2_with fail
    obtain ⟨SV, hSV⟩ : ∃ SV, SV = S := ⟨_, rfl⟩
    have HS4 : Hid (DoS w V r m.tick S SV fv (.slice np N nc) sv pv kv ro #[.int .i64 4, .string old, .string name, .int .i64 file]) := Lib.hid (by rw [hSV]; exact HS3.out)
    clear HS3 hSV
    have HRN := Lib.hid HS4.out.raw.now
    have HSV := Lib.hid HS4.out.raw.lt
    have HRH := Lib.hid HS4.out.raw.head
    have HRL := Lib.hid (HS4.out.raw.lt r HS4.out.raw.sr)
    have C3 := Lib.hid HS4.out.raw.cells.2.2.2.1
    have HBL := Lib.hid (blk_lt HS4.out.box)
    have D0 := Lib.hid d0
    have D1 := Lib.hid d1
    have D2 := Lib.hid d2
    have D3 := Lib.hid d3
    have HTR := Lib.hid HOK.out.now
    have HTL := Lib.hid (show m.now.length ≤ 2000000000000 by have := HOK.out.nowN; omega)
    have HTI := Lib.hid (fun (p : Bs × Nat) (hp : p ∈ m.now) => show (p.2 : Int) ≤ 9223372036854775807 by have := HOK.out.nowI p hp; omega)
    have HOF := Lib.hid (show ((file : Nat) : Int) ≤ 9223372036854775807 by omega)
    obtain ⟨T, hT⟩ : ∃ T, m.now = T := ⟨_, rfl⟩
    have HTT := Lib.hid hT
    have HRN : Hid (LinksS SV V (.slice np N nc) T) := Lib.hid (by rw [← hT]; exact HRN.out)
    rw [hT] at HTR HTL HTI
    clear hT
    have hI0 : NowW V r SV ((ROp.dop ⟨4, old, name, file⟩).act T) (fun _ => false) undef V.drew := ⟨fun _ => (Below.refl _ V).drew, fun h => (by cases h), fun h => (by cases h), fun h => (by cases h), fun h => (by cases h)⟩
    refine wp_region_flowG (fun γ => [.pointer (some ⟨r, 0, none⟩), .pointer (some ⟨r, 0, none⟩), .pointer (some ⟨r, 0, none⟩), .pointer (some ⟨r, 3, none⟩), .slice np N nc, .agg #[.int .i64 4, .string old, .string name, .int .i64 file], γ, .pointer (some ⟨r, 0, none⟩), .pointer (some ⟨r, 3, none⟩), undef]) (NowW V r SV ((ROp.dop ⟨4, old, name, file⟩).act T))
      [[], [], [1], [2], [3], [], [4, 5], [0, 0, 1, 2, 3, 4, 5, 6], [7, 0, 1, 2, 3, 4, 5, 6], [8, 6, 6, 0, 1, 2, 3, 4, 5, 6]] 165 undef mixedD rfl (by kernel_rfl) (fun _ => rfl) hI0 ?_ ?_
    · refine ⟨?_, ?_, ?_, ?_, ?_, ?_, ?_, ?_, ?_, ?_, rfl⟩
      all_goals intro L γ W ev hL hd hW hc hf hg he h0
      · have e0 : ev (.tmp 0) = .pointer (some ⟨r, 0, none⟩) := h0 0 rfl
        clear he h0 hc hf hg
        exact .inl ⟨rfl, .inl ⟨_, W, (by go_simp <;> rfl), .still (hW.upd 0 (by decide) (by decide) (fun e => by cases e)) rfl⟩⟩
      · have e0 : ev (.tmp 0) = .pointer (some ⟨r, 0, none⟩) := h0 0 rfl
        clear he h0 hc hf hg
        exact .inl ⟨rfl, .inl ⟨_, W, (by go_simp <;> rfl), .still (hW.upd 1 (by decide) (by decide) (fun e => by cases e)) rfl⟩⟩
      · have e140 : ev (.tmp 140) = .pointer (some ⟨r, 0, none⟩) := he 1 (by decide) _ 140 rfl rfl
        clear he h0 hc hf hg
        exact .inl ⟨rfl, .inl ⟨_, W, (by go_simp <;> rfl), .still (hW.upd 2 (by decide) (by decide) (fun e => by cases e)) rfl⟩⟩
      · have e141 : ev (.tmp 141) = .pointer (some ⟨r, 0, none⟩) := he 2 (by decide) _ 141 rfl rfl
        clear he h0 hc hf hg
        exact .inl ⟨rfl, .inl ⟨_, W, (by go_simp <;> rfl), .still (hW.upd 3 (by decide) (by decide) (fun e => by cases e)) rfl⟩⟩
      · have e142 : ev (.tmp 142) = .pointer (some ⟨r, 3, none⟩) := he 3 (by decide) _ 142 rfl rfl
        have c : W.cell? ⟨r, 3, none⟩ = some (.slice np N nc) := (hW.same hL (by decide) r 3 HRL.out).trans C3.out
        clear he h0 hc hf hg
        exact .inl ⟨rfl, .inl ⟨_, W, (by go_simp <;> rfl), .still (hW.upd 4 (by decide) (by decide) (fun e => by cases e)) rfl⟩⟩
      · have e4 : ev (.tmp 4) = .pointer (some ⟨w.heap.size, 0, none⟩) := h0 4 rfl
        have d0 : W.cell? ⟨w.heap.size, 0, none⟩ = some (.int .i64 4) := (hW.same hL (by decide) w.heap.size _ HBL.out).trans D0.out
        have d1 : W.cell? ⟨w.heap.size, 1, none⟩ = some (.string old) := (hW.same hL (by decide) w.heap.size _ HBL.out).trans D1.out
        have d2 : W.cell? ⟨w.heap.size, 2, none⟩ = some (.string name) := (hW.same hL (by decide) w.heap.size _ HBL.out).trans D2.out
        have d3 : W.cell? ⟨w.heap.size, 3, none⟩ = some (.int .i64 file) := (hW.same hL (by decide) w.heap.size _ HBL.out).trans D3.out
        clear he h0 hc hf hg
        exact .inl ⟨rfl, .inl ⟨_, W, (by go_simp <;> rfl), .still (hW.upd 5 (by decide) (by decide) (fun e => by cases e)) rfl⟩⟩
      · have e143 : ev (.tmp 143) = .slice np N nc := he 4 (by decide) _ 143 rfl rfl
        have e144 : ev (.tmp 144) = .agg #[.int .i64 4, .string old, .string name, .int .i64 file] := he 5 (by decide) _ 144 rfl rfl
        clear he h0 hc hg
        have hb := hW.bel (hW.off hL (by decide))
        have hl : LinksS SV W (.slice np N nc) T := HRN.out.keep (fun b _ hS _ => hb.block b (HSV.out b hS))
        refine .inl ⟨rfl, .inr (.inr ⟨87, #[.slice np N nc, .agg (ropCl ⟨4, old, name, file⟩)], W, (by have hff := hf 87; clear hf; go_simp <;> rfl), ?_⟩)⟩
        refine (done_any hl (fun b hS => Nat.lt_of_lt_of_le (HSV.out b hS) hb.size) HTR.out ⟨4, old, name, file⟩ HTL.out HTI.out HOF.out).mono ?_
        rintro e w' ⟨u, rfl, hg, hb2⟩
        exact ⟨u, rfl, u, hW.called hL hg hb2, rfl, fun j hj => by
          have hj2 : j ≠ 6 := fun e => by subst e; rw [hL] at hj; cases hj
          match j, hj2 with
          | 0, _ | 1, _ | 2, _ | 3, _ | 4, _ | 5, _ | 7, _ | 8, _ | 9, _ => rfl
          | n + 10, _ => rfl⟩
      · have e139 : ev (.tmp 139) = .pointer (some ⟨r, 0, none⟩) := he 0 (by decide) _ 139 rfl rfl
        clear he h0 hc hf hg
        exact .inl ⟨rfl, .inl ⟨_, W, (by go_simp <;> rfl), .still (hW.upd 7 (by decide) (by decide) (fun e => by cases e)) rfl⟩⟩
      · have e146 : ev (.tmp 146) = .pointer (some ⟨r, 0, none⟩) := he 7 (by decide) _ 146 rfl rfl
        clear he h0 hc hf hg
        exact .inl ⟨rfl, .inl ⟨_, W, (by go_simp <;> rfl), .still (hW.upd 8 (by decide) (by decide) (fun _ => hd 7 (by decide))) rfl⟩⟩
      · have e145 : ev (.tmp 145) = γ := he 6 (by decide) _ 145 rfl rfl
        have e147 : ev (.tmp 147) = .pointer (some ⟨r, 3, none⟩) := he 8 (by decide) _ 147 rfl rfl
        clear he h0 hc hg
        have h6 : L 6 = true := hd 6 (by decide)
        have hone := hW.one h6 hL
        obtain ⟨up, uc, hu⟩ := hone.form
        have hb := hW.bel hL
        have cq : W.cell? ⟨r, 3, none⟩ = some (.slice np N nc) := (cell_of_heap (hb.block r HRL.out)).trans C3.out
        have cf : W.frozen? ⟨r, 3, none⟩ = false := frozen_blk ((hb.block r HRL.out).trans HRH.out)
        have hfin := hW.stored hL h6 (fun j hj => by
          by_cases e : j = 7
          · subst e; exact hW.c8 (hd 8 (by decide))
          · exact hd j (by have : j = 0 ∨ j = 1 ∨ j = 2 ∨ j = 3 ∨ j = 4 ∨ j = 5 ∨ j = 6 ∨ j = 8 := (by omega); rcases this with rfl | rfl | rfl | rfl | rfl | rfl | rfl | rfl <;> decide))
        subst hu
        refine .inl ⟨rfl, .inr (.inl ⟨W.setCell ⟨r, 3, none⟩ (.slice up (DOp.act (ROp.dop ⟨4, old, name, file⟩) T).length uc), ?_, .still hfin rfl⟩)⟩
        clear hf hone hfin hW
        go_simp
    · intro nvv L' W hL' hW
      simp only [putAll, Act.put, List.setIfInBounds_toArray, List.set_cons_succ, List.set_cons_zero]
      obtain ⟨W0, hb0, hl0, rfl⟩ := hW.fin (hL' 9 (by decide))
      have HS5 := Lib.hid (HS4.out.now HSR.out HRL0.out hb0 hl0)
      clear hI0 hL' hW hb0 hl0 HS4 HRN HSV HRH HRL C3 HBL D0 D1 D2 D3
      generalize grow SV V (W0.setCell ⟨r, 3, none⟩ nvv) = SV at HS5
      generalize W0.setCell ⟨r, 3, none⟩ nvv = V at HS5 ⊢
      have d0 : V.cell? ⟨w.heap.size, 0, none⟩ = some (.int .i64 4) := cell_of_heapN HS5.out.box
      have d1 : V.cell? ⟨w.heap.size, 1, none⟩ = some (.string old) := cell_of_heapN HS5.out.box
      have d2 : V.cell? ⟨w.heap.size, 2, none⟩ = some (.string name) := cell_of_heapN HS5.out.box
      have d3 : V.cell? ⟨w.heap.size, 3, none⟩ = some (.int .i64 file) := cell_of_heapN HS5.out.box
      have HSV := Lib.hid HS5.out.raw.lt
      have HRL := Lib.hid (HS5.out.raw.lt r HS5.out.raw.sr)
      obtain ⟨pp, pc, hpv⟩ := HS5.out.raw.pend.form
      obtain ⟨P, hP⟩ : ∃ P, ro.length = P := ⟨_, rfl⟩
      have hPn : P ≤ n := by
        have h1 := HS5.out.raw.pendE
        have h2 := HOK.out.safeN
        have h3 := congrArg List.length h1
        rw [List.length_map, hP] at h3
        have h3 : m.pend.length = P := h3
        omega
      rw [hP] at hpv
      subst hpv
      have HPL := Lib.hid hP
      have HRR := Lib.hid HS5.out.raw
      have HRP := Lib.hid HS5.out.raw.pend
      have C5 := Lib.hid HS5.out.raw.cells.2.2.2.2.2.1
      have HBL := Lib.hid (blk_lt HS5.out.box)
      have D0 := Lib.hid d0
      have D1 := Lib.hid d1
      have D2 := Lib.hid d2
      have D3 := Lib.hid d3
      obtain ⟨iO, hiO, hzO0, hzO1, hzO2⟩ := info_parts infoOp
      clear hP
      go_wp2_with fail
      have hI0 : PenW V r (.slice pp P pc) ro ⟨4, old, name, file⟩ (fun _ => false) (0, undef) V.drew := ⟨fun _ => (Below.refl _ V).drew, fun h => (by cases h), fun h => (by cases h), fun h => (by cases h), fun h => (by cases h), fun h => (by cases h), fun h => (by cases h)⟩
      refine wp_region_flowG (fun γ => [.pointer (some ⟨r, 0, none⟩), .pointer (some ⟨r, 0, none⟩), .pointer (some ⟨r, 0, none⟩), .pointer (some ⟨r, 5, none⟩), .slice pp P pc, .agg #[.int .i64 4, .string old, .string name, .int .i64 file], .slice (some ⟨γ.1, 0, none⟩) 1 1, γ.2, .pointer (some ⟨r, 0, none⟩), .pointer (some ⟨r, 5, none⟩), undef]) (PenW V r (.slice pp P pc) ro ⟨4, old, name, file⟩)
        [[], [], [1], [2], [3], [], [5], [4, 6], [0, 0, 1, 2, 3, 4, 5, 6, 7], [8, 0, 1, 2, 3, 4, 5, 6, 7], [9, 7, 7, 0, 1, 2, 3, 4, 5, 6, 7]] 165 (0, undef) mixedD rfl (by kernel_rfl) (fun _ => rfl) hI0 ?_ ?_
      · refine ⟨?_, ?_, ?_, ?_, ?_, ?_, ?_, ?_, ?_, ?_, ?_, rfl⟩
        all_goals intro L γ W ev hL hd hW hc hf hg he h0
        · have e0 : ev (.tmp 0) = .pointer (some ⟨r, 0, none⟩) := h0 0 rfl
          clear he h0 hc hf hg
          exact .inl ⟨rfl, .inl ⟨_, W, (by go_simp <;> rfl), .still (hW.upd 0 (by decide) (by decide) (by decide)) rfl⟩⟩
        · have e0 : ev (.tmp 0) = .pointer (some ⟨r, 0, none⟩) := h0 0 rfl
          clear he h0 hc hf hg
          exact .inl ⟨rfl, .inl ⟨_, W, (by go_simp <;> rfl), .still (hW.upd 1 (by decide) (by decide) (by decide)) rfl⟩⟩
        · have e149 : ev (.tmp 149) = .pointer (some ⟨r, 0, none⟩) := he 1 (by decide) _ 149 rfl rfl
          clear he h0 hc hf hg
          exact .inl ⟨rfl, .inl ⟨_, W, (by go_simp <;> rfl), .still (hW.upd 2 (by decide) (by decide) (by decide)) rfl⟩⟩
        · have e150 : ev (.tmp 150) = .pointer (some ⟨r, 0, none⟩) := he 2 (by decide) _ 150 rfl rfl
          clear he h0 hc hf hg
          exact .inl ⟨rfl, .inl ⟨_, W, (by go_simp <;> rfl), .still (hW.upd 3 (by decide) (by decide) (by decide)) rfl⟩⟩
        · have e151 : ev (.tmp 151) = .pointer (some ⟨r, 5, none⟩) := he 3 (by decide) _ 151 rfl rfl
          have c : W.cell? ⟨r, 5, none⟩ = some (.slice pp P pc) := (hW.same hL (by decide) r 5 HRL.out).trans C5.out
          clear he h0 hc hf hg
          exact .inl ⟨rfl, .inl ⟨_, W, (by go_simp <;> rfl), .still (hW.upd 4 (by decide) (by decide) (by decide)) rfl⟩⟩
        · have e4 : ev (.tmp 4) = .pointer (some ⟨w.heap.size, 0, none⟩) := h0 4 rfl
          have d0 : W.cell? ⟨w.heap.size, 0, none⟩ = some (.int .i64 4) := (hW.same hL (by decide) w.heap.size _ HBL.out).trans D0.out
          have d1 : W.cell? ⟨w.heap.size, 1, none⟩ = some (.string old) := (hW.same hL (by decide) w.heap.size _ HBL.out).trans D1.out
          have d2 : W.cell? ⟨w.heap.size, 2, none⟩ = some (.string name) := (hW.same hL (by decide) w.heap.size _ HBL.out).trans D2.out
          have d3 : W.cell? ⟨w.heap.size, 3, none⟩ = some (.int .i64 file) := (hW.same hL (by decide) w.heap.size _ HBL.out).trans D3.out
          clear he h0 hc hf hg
          exact .inl ⟨rfl, .inl ⟨_, W, (by go_simp <;> rfl), .still (hW.upd 5 (by decide) (by decide) (by decide)) rfl⟩⟩
        · have e153 : ev (.tmp 153) = .agg #[.int .i64 4, .string old, .string name, .int .i64 file] := he 5 (by decide) _ 153 rfl rfl
          clear he h0 hc hg
          refine .inl ⟨rfl, .inl ⟨_, W.alloc (.cells (ropCl ⟨4, old, name, file⟩) 98), (by clear hf; go_simp <;> rfl), (W.heap.size, γ.2), hW.boxed hL (hd 5 (by decide)), rfl, fun j hj => ?_⟩⟩
          have hj2 : j ≠ 6 := fun e => by subst e; rw [hL] at hj; cases hj
          match j, hj2 with
          | 0, _ | 1, _ | 2, _ | 3, _ | 4, _ | 5, _ | 7, _ | 8, _ | 9, _ | 10, _ => rfl
          | n + 11, _ => rfl
        · have e152 : ev (.tmp 152) = .slice pp P pc := he 4 (by decide) _ 152 rfl rfl
          have e154 : ev (.tmp 154) = .slice (some ⟨γ.1, 0, none⟩) 1 1 := he 6 (by decide) _ 154 rfl rfl
          clear he h0 hc hg
          have h4 := hd 4 (by decide)
          have h6 := hd 6 (by decide)
          have hbx := hW.box h6 hL
          have hb := hW.bel hL
          have hro : RopsS SV W (.slice pp P pc) ro := HRP.out.keep (fun b _ hS _ => hb.block b (HSV.out b hS))
          have hro1 := hro.1
          rw [HPL.out] at hro1
          obtain ⟨v', W', hr, hown, hg, -, hat⟩ := run_append_own_at (P := Tryz.prog) W 0 93 93 98 iO (.agg #[.int .i64 0, .string ⟨#[]⟩, .string ⟨#[]⟩, .int .i64 0]) 4 48 Tryz.underlying93 hiO hzO0 hzO1 hzO2 rfl (by decide) (.slice pp P pc) P (flatR ropCl ro) hro1 ⟨γ.1, 0, none⟩ 1 1 (ropCl ⟨4, old, name, file⟩).toList rfl (fun j u hu => (cellAdd hbx.1 j).trans (by rw [← hu, Array.getElem?_toList])) (ropCl_one ⟨4, old, name, file⟩) (by unfold maxLen; omega) (by omega) (Nat.zero_le _)
          refine .inl ⟨rfl, .inl ⟨v', W', (by clear hf; simp only [execOp, resolve, invoke, builtin, Sem.run_bind, Sem.run_pure, Result.andThen_ok, List.map_toArray, List.map_cons, List.map_nil, e152, e154, hr]), (γ.1, v'), hW.apped hL h4 h6 hg (by rw [HPL.out]; exact hown) hat, rfl, fun j hj => ?_⟩⟩
          have hj2 : j ≠ 7 := fun e => by subst e; rw [hL] at hj; cases hj
          match j, hj2 with
          | 0, _ | 1, _ | 2, _ | 3, _ | 4, _ | 5, _ | 6, _ | 8, _ | 9, _ | 10, _ => rfl
          | n + 11, _ => rfl
        · have e148 : ev (.tmp 148) = .pointer (some ⟨r, 0, none⟩) := he 0 (by decide) _ 148 rfl rfl
          clear he h0 hc hf hg
          exact .inl ⟨rfl, .inl ⟨_, W, (by go_simp <;> rfl), .still (hW.upd 8 (by decide) (by decide) (by decide)) rfl⟩⟩
        · have e156 : ev (.tmp 156) = .pointer (some ⟨r, 0, none⟩) := he 8 (by decide) _ 156 rfl rfl
          clear he h0 hc hf hg
          exact .inl ⟨rfl, .inl ⟨_, W, (by go_simp <;> rfl), .still (hW.upd 9 (by decide) (by decide) (by decide)) rfl⟩⟩
        · have e155 : ev (.tmp 155) = γ.2 := he 7 (by decide) _ 155 rfl rfl
          have e157 : ev (.tmp 157) = .pointer (some ⟨r, 5, none⟩) := he 9 (by decide) _ 157 rfl rfl
          clear he h0 hc hg
          have h7 : L 7 = true := hd 7 (by decide)
          obtain ⟨W0, p1, p2, p3, p4⟩ := hW.app h7 hL
          obtain ⟨up, uc, hu⟩ := owns_form p3
          have hap := (HRR.out.appOp HOF.out p1 p2 p4 p3).2.2
          have cq : W.cell? ⟨r, 5, none⟩ = some (.slice pp P pc) := cell_of_heapN hap
          have cf : W.frozen? ⟨r, 5, none⟩ = false := frozen_blk hap
          have hfin := hW.stored hL h7
          rw [hu] at e155
          refine .inl ⟨rfl, .inr (.inl ⟨W.setCell ⟨r, 5, none⟩ γ.2, ?_, .still hfin rfl⟩)⟩
          rw [hu]
          clear hf hfin hW hu p1 p2 p3 p4 hap
          go_simp
      · intro γ L' W hL' hW
        obtain ⟨tb, γv⟩ := γ
        obtain ⟨W0, W1, p1, p2, p3, p4, rfl⟩ := hW.fin (hL' 10 (by decide))
        simp only [putAll, Act.put, List.setIfInBounds_toArray, List.set_cons_succ, List.set_cons_zero]
        obtain ⟨SV6, q1, q2, q3⟩ := HS5.out.pen HSR.out HRL0.out HLT.out HOF.out p1 p2 p4 p3
        have hpo : RefRaw (W1.setCell ⟨r, 5, none⟩ γv) r (m.tick.act (.rename old name)) SV6 (fv) nvv sv γv kv (ro ++ [⟨4, old, name, file⟩]) := by
          have e : m.tick.act (.rename old name) = { { (m.tick : DM) with now := (ROp.dop ⟨4, old, name, file⟩).act T } with pend := (m.tick : DM).pend ++ [ROp.dop ⟨4, old, name, file⟩] } := by
            rw [← HTT.out]
            rfl
          rw [e]
          exact q1
        have HP1 := Lib.hid (show RefPost r (n + 1) (m.tick.act (.rename old name)) S w (W1.setCell ⟨r, 5, none⟩ γv) from
          ⟨⟨⟨_, _, _, _, _, _, hpo.sup q3 (fun b hb => hb.elim (fun hb => Nat.lt_of_lt_of_le (HLT.out b hb) q2.size) (fun hb => hb.2))⟩, HACT.out, Nat.le_trans hfn (Nat.le_succ n)⟩, q2⟩)
        have C7 := Lib.hid hpo.cells.2.2.2.2.2.2.2
        have HKP := Lib.hid (show IntsOwn SV6 (W1.setCell ⟨r, 5, none⟩ γv) kv m.keep from by have := hpo.keep; rwa [show (m.tick.act (.rename old name)).keep = m.keep from act_keep m.tick _] at this)
        have HSUB := Lib.hid q3
        clear hL' hW p1 p2 p3 p4 q1 q2 q3 hpo hI0
        generalize W1.setCell ⟨r, 5, none⟩ γv = V6 at HP1 C7 HKP HSUB ⊢
        have c7 := C7.out
        have hir : IntsRd (grow S w (V6)) (V6) kv m.keep := (IntsOwn.rd (S := grow S w (V6)) ⟨HKP.out.1, fun b hb => HSUB.out b (HKP.out.2 b hb)⟩ HOK.out.keepI)
        have HFL := Lib.hid (refFail_any HP1.out.1 kv m.keep hir (by omega))
        clear hir
        go_wp2_with fail
        refine HFL.out.mono ?_
        rintro e V7 ⟨rfl, hp1, hp2⟩
        have HP7 := Lib.hid (show RefPost r (n + 1) ((m.tick.act (.rename old name)).fail m.keep) S w V7 from ⟨hp1.sup (fun b hb => (grow_grow HP1.out.2.size hp2.size b).1 hb) (fun b hb => hb.elim (fun hb => Nat.lt_of_lt_of_le (HLT.out b hb) (Nat.le_trans HP1.out.2.size hp2.size)) (fun hb => hb.2)), HP1.out.2.trG hp2⟩)
        clear hp1 hp2
        go_wp2_with fail
        go_ret
        exact ⟨by rw [HDO.out]; rfl, by rw [HDO.out]; exact HP7.out⟩
  · have htk : m.tick = { m with armed := (m.armed - 1) } := tick_eq (by rw [if_pos (by omega)])
    have c6 := HS1.out.raw.cells.2.2.2.2.2.2.1
    have f6 : w1.frozen? ⟨r, 6, none⟩ = false := frozen_blk HS1.out.raw.head
    have hb1 : (m.armed == 1) = false := beq_eq_false_iff_ne.2 (by omega)
    have hb2 : (0 : Int) < m.armed := by omega
    have hq := HS1.out.raw.put (m' := { m with armed := (m.armed - 1) }) 6 (.int .i64 (m.armed - 1)) rfl HS1.out.raw.now HS1.out.raw.safe HS1.out.raw.pend HS1.out.raw.keep rfl HS1.out.raw.pendE HS1.out.raw.opsF
    have HS2 : Hid (DoS w (w1.setCell ⟨r, 6, none⟩ (.int .i64 (m.armed - 1))) r m.tick S S fv nv sv pv kv ro #[.int .i64 4, .string old, .string name, .int .i64 file]) := Lib.hid ⟨by rw [htk]; exact hq, HS1.out.off.setCell _ _ (fun _ => HSR.out), fun b hb => .inl hb, (Below.heap_setCell _ _ _ _ (fun e => by have e : w.heap.size = r := e; have := HRL0.out; omega)).trans HS1.out.box⟩
    have HDO := Lib.hid (op_do hoff href (by omega))
    clear hq
    clear htk
    go_wp2_with fail
    generalize w1.setCell ⟨r, 6, none⟩ (.int .i64 (m.armed - 1)) = w2 at HS2 ⊢
    clear HS1 c6 f6 hb1 hb2
    have H3 := Lib.hid HS2.out.raw
    obtain ⟨np, nc, hnv⟩ := HS2.out.raw.now.form
    have c3 := HS2.out.raw.cells.2.2.2.1
    obtain ⟨N, hN⟩ : ∃ N, m.tick.now.length = N := ⟨_, rfl⟩
    rw [hN] at hnv
    subst hnv
    have hNn : N ≤ n := by rw [← hN]; exact HOK.out.nowN
    have HN := Lib.hid hN
    have d2 : w2.cell? ⟨w.heap.size, 2, none⟩ = some (.string name) := cell_of_heapN HS2.out.box
    have hat : ∀ q, Calls Tryz.prog 86 #[.slice np N nc, .string name] (w2.drewN q) fun e w' => e = .returned (.int .i64 (tidx m.now name.data.toList)) ∧ w' = w2.drewN q := fun q =>
      (at_any (HS2.out.drews q).raw.now name (Nat.le_trans HOK.out.nowN (by omega))).mono (fun e w' hp => ⟨hp.1, hp.2.symm⟩)
    generalize tidx m.now name.data.toList = TT at hat
    have HAT := Lib.hid hat
    clear hat hN H3
    go_quiet ((go_at_call 86; exact Calls.quiet_of_same (HAT.out _)))
    rename_i nq
    have HS3 := Lib.hid (HS2.out.drews nq)
    generalize w2.drewN nq = V at HS3 ⊢
    clear HS2 c3 d2 HAT
    have d0 : V.cell? ⟨w.heap.size, 0, none⟩ = some (.int .i64 4) := cell_of_heapN HS3.out.box
    have d1 : V.cell? ⟨w.heap.size, 1, none⟩ = some (.string old) := cell_of_heapN HS3.out.box
    have d2 : V.cell? ⟨w.heap.size, 2, none⟩ = some (.string name) := cell_of_heapN HS3.out.box
    have d3 : V.cell? ⟨w.heap.size, 3, none⟩ = some (.int .i64 file) := cell_of_heapN HS3.out.box
    go_wp2_with fail
    obtain ⟨SV, hSV⟩ : ∃ SV, SV = S := ⟨_, rfl⟩
    have HS4 : Hid (DoS w V r m.tick S SV fv (.slice np N nc) sv pv kv ro #[.int .i64 4, .string old, .string name, .int .i64 file]) := Lib.hid (by rw [hSV]; exact HS3.out)
    clear HS3 hSV
    have HRN := Lib.hid HS4.out.raw.now
    have HSV := Lib.hid HS4.out.raw.lt
    have HRH := Lib.hid HS4.out.raw.head
    have HRL := Lib.hid (HS4.out.raw.lt r HS4.out.raw.sr)
    have C3 := Lib.hid HS4.out.raw.cells.2.2.2.1
    have HBL := Lib.hid (blk_lt HS4.out.box)
    have D0 := Lib.hid d0
    have D1 := Lib.hid d1
    have D2 := Lib.hid d2
    have D3 := Lib.hid d3
    have HTR := Lib.hid HOK.out.now
    have HTL := Lib.hid (show m.now.length ≤ 2000000000000 by have := HOK.out.nowN; omega)
    have HTI := Lib.hid (fun (p : Bs × Nat) (hp : p ∈ m.now) => show (p.2 : Int) ≤ 9223372036854775807 by have := HOK.out.nowI p hp; omega)
    have HOF := Lib.hid (show ((file : Nat) : Int) ≤ 9223372036854775807 by omega)
    obtain ⟨T, hT⟩ : ∃ T, m.now = T := ⟨_, rfl⟩
    have HTT := Lib.hid hT
    have HRN : Hid (LinksS SV V (.slice np N nc) T) := Lib.hid (by rw [← hT]; exact HRN.out)
    rw [hT] at HTR HTL HTI
    clear hT
    have hI0 : NowW V r SV ((ROp.dop ⟨4, old, name, file⟩).act T) (fun _ => false) undef V.drew := ⟨fun _ => (Below.refl _ V).drew, fun h => (by cases h), fun h => (by cases h), fun h => (by cases h), fun h => (by cases h)⟩
    refine wp_region_flowG (fun γ => [.pointer (some ⟨r, 0, none⟩), .pointer (some ⟨r, 0, none⟩), .pointer (some ⟨r, 0, none⟩), .pointer (some ⟨r, 3, none⟩), .slice np N nc, .agg #[.int .i64 4, .string old, .string name, .int .i64 file], γ, .pointer (some ⟨r, 0, none⟩), .pointer (some ⟨r, 3, none⟩), undef]) (NowW V r SV ((ROp.dop ⟨4, old, name, file⟩).act T))
      [[], [], [1], [2], [3], [], [4, 5], [0, 0, 1, 2, 3, 4, 5, 6], [7, 0, 1, 2, 3, 4, 5, 6], [8, 6, 6, 0, 1, 2, 3, 4, 5, 6]] 165 undef mixedD rfl (by kernel_rfl) (fun _ => rfl) hI0 ?_ ?_
    · refine ⟨?_, ?_, ?_, ?_, ?_, ?_, ?_, ?_, ?_, ?_, rfl⟩
      all_goals intro L γ W ev hL hd hW hc hf hg he h0
      · have e0 : ev (.tmp 0) = .pointer (some ⟨r, 0, none⟩) := h0 0 rfl
        clear he h0 hc hf hg
        exact .inl ⟨rfl, .inl ⟨_, W, (by go_simp <;> rfl), .still (hW.upd 0 (by decide) (by decide) (fun e => by cases e)) rfl⟩⟩
      · have e0 : ev (.tmp 0) = .pointer (some ⟨r, 0, none⟩) := h0 0 rfl
        clear he h0 hc hf hg
        exact .inl ⟨rfl, .inl ⟨_, W, (by go_simp <;> rfl), .still (hW.upd 1 (by decide) (by decide) (fun e => by cases e)) rfl⟩⟩
      · have e140 : ev (.tmp 140) = .pointer (some ⟨r, 0, none⟩) := he 1 (by decide) _ 140 rfl rfl
        clear he h0 hc hf hg
        exact .inl ⟨rfl, .inl ⟨_, W, (by go_simp <;> rfl), .still (hW.upd 2 (by decide) (by decide) (fun e => by cases e)) rfl⟩⟩
      · have e141 : ev (.tmp 141) = .pointer (some ⟨r, 0, none⟩) := he 2 (by decide) _ 141 rfl rfl
        clear he h0 hc hf hg
        exact .inl ⟨rfl, .inl ⟨_, W, (by go_simp <;> rfl), .still (hW.upd 3 (by decide) (by decide) (fun e => by cases e)) rfl⟩⟩
      · have e142 : ev (.tmp 142) = .pointer (some ⟨r, 3, none⟩) := he 3 (by decide) _ 142 rfl rfl
        have c : W.cell? ⟨r, 3, none⟩ = some (.slice np N nc) := (hW.same hL (by decide) r 3 HRL.out).trans C3.out
        clear he h0 hc hf hg
        exact .inl ⟨rfl, .inl ⟨_, W, (by go_simp <;> rfl), .still (hW.upd 4 (by decide) (by decide) (fun e => by cases e)) rfl⟩⟩
      · have e4 : ev (.tmp 4) = .pointer (some ⟨w.heap.size, 0, none⟩) := h0 4 rfl
        have d0 : W.cell? ⟨w.heap.size, 0, none⟩ = some (.int .i64 4) := (hW.same hL (by decide) w.heap.size _ HBL.out).trans D0.out
        have d1 : W.cell? ⟨w.heap.size, 1, none⟩ = some (.string old) := (hW.same hL (by decide) w.heap.size _ HBL.out).trans D1.out
        have d2 : W.cell? ⟨w.heap.size, 2, none⟩ = some (.string name) := (hW.same hL (by decide) w.heap.size _ HBL.out).trans D2.out
        have d3 : W.cell? ⟨w.heap.size, 3, none⟩ = some (.int .i64 file) := (hW.same hL (by decide) w.heap.size _ HBL.out).trans D3.out
        clear he h0 hc hf hg
        exact .inl ⟨rfl, .inl ⟨_, W, (by go_simp <;> rfl), .still (hW.upd 5 (by decide) (by decide) (fun e => by cases e)) rfl⟩⟩
      · have e143 : ev (.tmp 143) = .slice np N nc := he 4 (by decide) _ 143 rfl rfl
        have e144 : ev (.tmp 144) = .agg #[.int .i64 4, .string old, .string name, .int .i64 file] := he 5 (by decide) _ 144 rfl rfl
        clear he h0 hc hg
        have hb := hW.bel (hW.off hL (by decide))
        have hl : LinksS SV W (.slice np N nc) T := HRN.out.keep (fun b _ hS _ => hb.block b (HSV.out b hS))
        refine .inl ⟨rfl, .inr (.inr ⟨87, #[.slice np N nc, .agg (ropCl ⟨4, old, name, file⟩)], W, (by have hff := hf 87; clear hf; go_simp <;> rfl), ?_⟩)⟩
        refine (done_any hl (fun b hS => Nat.lt_of_lt_of_le (HSV.out b hS) hb.size) HTR.out ⟨4, old, name, file⟩ HTL.out HTI.out HOF.out).mono ?_
        rintro e w' ⟨u, rfl, hg, hb2⟩
        exact ⟨u, rfl, u, hW.called hL hg hb2, rfl, fun j hj => by
          have hj2 : j ≠ 6 := fun e => by subst e; rw [hL] at hj; cases hj
          match j, hj2 with
          | 0, _ | 1, _ | 2, _ | 3, _ | 4, _ | 5, _ | 7, _ | 8, _ | 9, _ => rfl
          | n + 10, _ => rfl⟩
      · have e139 : ev (.tmp 139) = .pointer (some ⟨r, 0, none⟩) := he 0 (by decide) _ 139 rfl rfl
        clear he h0 hc hf hg
        exact .inl ⟨rfl, .inl ⟨_, W, (by go_simp <;> rfl), .still (hW.upd 7 (by decide) (by decide) (fun e => by cases e)) rfl⟩⟩
      · have e146 : ev (.tmp 146) = .pointer (some ⟨r, 0, none⟩) := he 7 (by decide) _ 146 rfl rfl
        clear he h0 hc hf hg
        exact .inl ⟨rfl, .inl ⟨_, W, (by go_simp <;> rfl), .still (hW.upd 8 (by decide) (by decide) (fun _ => hd 7 (by decide))) rfl⟩⟩
      · have e145 : ev (.tmp 145) = γ := he 6 (by decide) _ 145 rfl rfl
        have e147 : ev (.tmp 147) = .pointer (some ⟨r, 3, none⟩) := he 8 (by decide) _ 147 rfl rfl
        clear he h0 hc hg
        have h6 : L 6 = true := hd 6 (by decide)
        have hone := hW.one h6 hL
        obtain ⟨up, uc, hu⟩ := hone.form
        have hb := hW.bel hL
        have cq : W.cell? ⟨r, 3, none⟩ = some (.slice np N nc) := (cell_of_heap (hb.block r HRL.out)).trans C3.out
        have cf : W.frozen? ⟨r, 3, none⟩ = false := frozen_blk ((hb.block r HRL.out).trans HRH.out)
        have hfin := hW.stored hL h6 (fun j hj => by
          by_cases e : j = 7
          · subst e; exact hW.c8 (hd 8 (by decide))
          · exact hd j (by have : j = 0 ∨ j = 1 ∨ j = 2 ∨ j = 3 ∨ j = 4 ∨ j = 5 ∨ j = 6 ∨ j = 8 := (by omega); rcases this with rfl | rfl | rfl | rfl | rfl | rfl | rfl | rfl <;> decide))
        subst hu
        refine .inl ⟨rfl, .inr (.inl ⟨W.setCell ⟨r, 3, none⟩ (.slice up (DOp.act (ROp.dop ⟨4, old, name, file⟩) T).length uc), ?_, .still hfin rfl⟩)⟩
        clear hf hone hfin hW
        go_simp
    · intro nvv L' W hL' hW
      simp only [putAll, Act.put, List.setIfInBounds_toArray, List.set_cons_succ, List.set_cons_zero]
      obtain ⟨W0, hb0, hl0, rfl⟩ := hW.fin (hL' 9 (by decide))
      have HS5 := Lib.hid (HS4.out.now HSR.out HRL0.out hb0 hl0)
      clear hI0 hL' hW hb0 hl0 HS4 HRN HSV HRH HRL C3 HBL D0 D1 D2 D3
      generalize grow SV V (W0.setCell ⟨r, 3, none⟩ nvv) = SV at HS5
      generalize W0.setCell ⟨r, 3, none⟩ nvv = V at HS5 ⊢
      have d0 : V.cell? ⟨w.heap.size, 0, none⟩ = some (.int .i64 4) := cell_of_heapN HS5.out.box
      have d1 : V.cell? ⟨w.heap.size, 1, none⟩ = some (.string old) := cell_of_heapN HS5.out.box
      have d2 : V.cell? ⟨w.heap.size, 2, none⟩ = some (.string name) := cell_of_heapN HS5.out.box
      have d3 : V.cell? ⟨w.heap.size, 3, none⟩ = some (.int .i64 file) := cell_of_heapN HS5.out.box
      have HSV := Lib.hid HS5.out.raw.lt
      have HRL := Lib.hid (HS5.out.raw.lt r HS5.out.raw.sr)
      obtain ⟨pp, pc, hpv⟩ := HS5.out.raw.pend.form
      obtain ⟨P, hP⟩ : ∃ P, ro.length = P := ⟨_, rfl⟩
      have hPn : P ≤ n := by
        have h1 := HS5.out.raw.pendE
        have h2 := HOK.out.safeN
        have h3 := congrArg List.length h1
        rw [List.length_map, hP] at h3
        have h3 : m.pend.length = P := h3
        omega
      rw [hP] at hpv
      subst hpv
      have HPL := Lib.hid hP
      have HRR := Lib.hid HS5.out.raw
      have HRP := Lib.hid HS5.out.raw.pend
      have C5 := Lib.hid HS5.out.raw.cells.2.2.2.2.2.1
      have HBL := Lib.hid (blk_lt HS5.out.box)
      have D0 := Lib.hid d0
      have D1 := Lib.hid d1
      have D2 := Lib.hid d2
      have D3 := Lib.hid d3
      obtain ⟨iO, hiO, hzO0, hzO1, hzO2⟩ := info_parts infoOp
      clear hP
      go_wp2_with fail
      have hI0 : PenW V r (.slice pp P pc) ro ⟨4, old, name, file⟩ (fun _ => false) (0, undef) V.drew := ⟨fun _ => (Below.refl _ V).drew, fun h => (by cases h), fun h => (by cases h), fun h => (by cases h), fun h => (by cases h), fun h => (by cases h), fun h => (by cases h)⟩
      refine wp_region_flowG (fun γ => [.pointer (some ⟨r, 0, none⟩), .pointer (some ⟨r, 0, none⟩), .pointer (some ⟨r, 0, none⟩), .pointer (some ⟨r, 5, none⟩), .slice pp P pc, .agg #[.int .i64 4, .string old, .string name, .int .i64 file], .slice (some ⟨γ.1, 0, none⟩) 1 1, γ.2, .pointer (some ⟨r, 0, none⟩), .pointer (some ⟨r, 5, none⟩), undef]) (PenW V r (.slice pp P pc) ro ⟨4, old, name, file⟩)
        [[], [], [1], [2], [3], [], [5], [4, 6], [0, 0, 1, 2, 3, 4, 5, 6, 7], [8, 0, 1, 2, 3, 4, 5, 6, 7], [9, 7, 7, 0, 1, 2, 3, 4, 5, 6, 7]] 165 (0, undef) mixedD rfl (by kernel_rfl) (fun _ => rfl) hI0 ?_ ?_
      · refine ⟨?_, ?_, ?_, ?_, ?_, ?_, ?_, ?_, ?_, ?_, ?_, rfl⟩
        all_goals intro L γ W ev hL hd hW hc hf hg he h0
        · have e0 : ev (.tmp 0) = .pointer (some ⟨r, 0, none⟩) := h0 0 rfl
          clear he h0 hc hf hg
          exact .inl ⟨rfl, .inl ⟨_, W, (by go_simp <;> rfl), .still (hW.upd 0 (by decide) (by decide) (by decide)) rfl⟩⟩
        · have e0 : ev (.tmp 0) = .pointer (some ⟨r, 0, none⟩) := h0 0 rfl
          clear he h0 hc hf hg
          exact .inl ⟨rfl, .inl ⟨_, W, (by go_simp <;> rfl), .still (hW.upd 1 (by decide) (by decide) (by decide)) rfl⟩⟩
        · have e149 : ev (.tmp 149) = .pointer (some ⟨r, 0, none⟩) := he 1 (by decide) _ 149 rfl rfl
          clear he h0 hc hf hg
          exact .inl ⟨rfl, .inl ⟨_, W, (by go_simp <;> rfl), .still (hW.upd 2 (by decide) (by decide) (by decide)) rfl⟩⟩
        · have e150 : ev (.tmp 150) = .pointer (some ⟨r, 0, none⟩) := he 2 (by decide) _ 150 rfl rfl
          clear he h0 hc hf hg
          exact .inl ⟨rfl, .inl ⟨_, W, (by go_simp <;> rfl), .still (hW.upd 3 (by decide) (by decide) (by decide)) rfl⟩⟩
        · have e151 : ev (.tmp 151) = .pointer (some ⟨r, 5, none⟩) := he 3 (by decide) _ 151 rfl rfl
          have c : W.cell? ⟨r, 5, none⟩ = some (.slice pp P pc) := (hW.same hL (by decide) r 5 HRL.out).trans C5.out
          clear he h0 hc hf hg
          exact .inl ⟨rfl, .inl ⟨_, W, (by go_simp <;> rfl), .still (hW.upd 4 (by decide) (by decide) (by decide)) rfl⟩⟩
        · have e4 : ev (.tmp 4) = .pointer (some ⟨w.heap.size, 0, none⟩) := h0 4 rfl
          have d0 : W.cell? ⟨w.heap.size, 0, none⟩ = some (.int .i64 4) := (hW.same hL (by decide) w.heap.size _ HBL.out).trans D0.out
          have d1 : W.cell? ⟨w.heap.size, 1, none⟩ = some (.string old) := (hW.same hL (by decide) w.heap.size _ HBL.out).trans D1.out
          have d2 : W.cell? ⟨w.heap.size, 2, none⟩ = some (.string name) := (hW.same hL (by decide) w.heap.size _ HBL.out).trans D2.out
          have d3 : W.cell? ⟨w.heap.size, 3, none⟩ = some (.int .i64 file) := (hW.same hL (by decide) w.heap.size _ HBL.out).trans D3.out
          clear he h0 hc hf hg
          exact .inl ⟨rfl, .inl ⟨_, W, (by go_simp <;> rfl), .still (hW.upd 5 (by decide) (by decide) (by decide)) rfl⟩⟩
        · have e153 : ev (.tmp 153) = .agg #[.int .i64 4, .string old, .string name, .int .i64 file] := he 5 (by decide) _ 153 rfl rfl
          clear he h0 hc hg
          refine .inl ⟨rfl, .inl ⟨_, W.alloc (.cells (ropCl ⟨4, old, name, file⟩) 98), (by clear hf; go_simp <;> rfl), (W.heap.size, γ.2), hW.boxed hL (hd 5 (by decide)), rfl, fun j hj => ?_⟩⟩
          have hj2 : j ≠ 6 := fun e => by subst e; rw [hL] at hj; cases hj
          match j, hj2 with
          | 0, _ | 1, _ | 2, _ | 3, _ | 4, _ | 5, _ | 7, _ | 8, _ | 9, _ | 10, _ => rfl
          | n + 11, _ => rfl
        · have e152 : ev (.tmp 152) = .slice pp P pc := he 4 (by decide) _ 152 rfl rfl
          have e154 : ev (.tmp 154) = .slice (some ⟨γ.1, 0, none⟩) 1 1 := he 6 (by decide) _ 154 rfl rfl
          clear he h0 hc hg
          have h4 := hd 4 (by decide)
          have h6 := hd 6 (by decide)
          have hbx := hW.box h6 hL
          have hb := hW.bel hL
          have hro : RopsS SV W (.slice pp P pc) ro := HRP.out.keep (fun b _ hS _ => hb.block b (HSV.out b hS))
          have hro1 := hro.1
          rw [HPL.out] at hro1
          obtain ⟨v', W', hr, hown, hg, -, hat⟩ := run_append_own_at (P := Tryz.prog) W 0 93 93 98 iO (.agg #[.int .i64 0, .string ⟨#[]⟩, .string ⟨#[]⟩, .int .i64 0]) 4 48 Tryz.underlying93 hiO hzO0 hzO1 hzO2 rfl (by decide) (.slice pp P pc) P (flatR ropCl ro) hro1 ⟨γ.1, 0, none⟩ 1 1 (ropCl ⟨4, old, name, file⟩).toList rfl (fun j u hu => (cellAdd hbx.1 j).trans (by rw [← hu, Array.getElem?_toList])) (ropCl_one ⟨4, old, name, file⟩) (by unfold maxLen; omega) (by omega) (Nat.zero_le _)
          refine .inl ⟨rfl, .inl ⟨v', W', (by clear hf; simp only [execOp, resolve, invoke, builtin, Sem.run_bind, Sem.run_pure, Result.andThen_ok, List.map_toArray, List.map_cons, List.map_nil, e152, e154, hr]), (γ.1, v'), hW.apped hL h4 h6 hg (by rw [HPL.out]; exact hown) hat, rfl, fun j hj => ?_⟩⟩
          have hj2 : j ≠ 7 := fun e => by subst e; rw [hL] at hj; cases hj
          match j, hj2 with
          | 0, _ | 1, _ | 2, _ | 3, _ | 4, _ | 5, _ | 6, _ | 8, _ | 9, _ | 10, _ => rfl
          | n + 11, _ => rfl
        · have e148 : ev (.tmp 148) = .pointer (some ⟨r, 0, none⟩) := he 0 (by decide) _ 148 rfl rfl
          clear he h0 hc hf hg
          exact .inl ⟨rfl, .inl ⟨_, W, (by go_simp <;> rfl), .still (hW.upd 8 (by decide) (by decide) (by decide)) rfl⟩⟩
        · have e156 : ev (.tmp 156) = .pointer (some ⟨r, 0, none⟩) := he 8 (by decide) _ 156 rfl rfl
          clear he h0 hc hf hg
          exact .inl ⟨rfl, .inl ⟨_, W, (by go_simp <;> rfl), .still (hW.upd 9 (by decide) (by decide) (by decide)) rfl⟩⟩
        · have e155 : ev (.tmp 155) = γ.2 := he 7 (by decide) _ 155 rfl rfl
          have e157 : ev (.tmp 157) = .pointer (some ⟨r, 5, none⟩) := he 9 (by decide) _ 157 rfl rfl
          clear he h0 hc hg
          have h7 : L 7 = true := hd 7 (by decide)
          obtain ⟨W0, p1, p2, p3, p4⟩ := hW.app h7 hL
          obtain ⟨up, uc, hu⟩ := owns_form p3
          have hap := (HRR.out.appOp HOF.out p1 p2 p4 p3).2.2
          have cq : W.cell? ⟨r, 5, none⟩ = some (.slice pp P pc) := cell_of_heapN hap
          have cf : W.frozen? ⟨r, 5, none⟩ = false := frozen_blk hap
          have hfin := hW.stored hL h7
          rw [hu] at e155
          refine .inl ⟨rfl, .inr (.inl ⟨W.setCell ⟨r, 5, none⟩ γ.2, ?_, .still hfin rfl⟩)⟩
          rw [hu]
          clear hf hfin hW hu p1 p2 p3 p4 hap
          go_simp
      · intro γ L' W hL' hW
        obtain ⟨tb, γv⟩ := γ
        obtain ⟨W0, W1, p1, p2, p3, p4, rfl⟩ := hW.fin (hL' 10 (by decide))
        simp only [putAll, Act.put, List.setIfInBounds_toArray, List.set_cons_succ, List.set_cons_zero]
        obtain ⟨SV6, q1, q2, q3⟩ := HS5.out.pen HSR.out HRL0.out HLT.out HOF.out p1 p2 p4 p3
        have hpo : RefRaw (W1.setCell ⟨r, 5, none⟩ γv) r (m.tick.act (.rename old name)) SV6 (fv) nvv sv γv kv (ro ++ [⟨4, old, name, file⟩]) := by
          have e : m.tick.act (.rename old name) = { { (m.tick : DM) with now := (ROp.dop ⟨4, old, name, file⟩).act T } with pend := (m.tick : DM).pend ++ [ROp.dop ⟨4, old, name, file⟩] } := by
            rw [← HTT.out]
            rfl
          rw [e]
          exact q1
        have HP1 := Lib.hid (show RefPost r (n + 1) (m.tick.act (.rename old name)) S w (W1.setCell ⟨r, 5, none⟩ γv) from
          ⟨⟨⟨_, _, _, _, _, _, hpo.sup q3 (fun b hb => hb.elim (fun hb => Nat.lt_of_lt_of_le (HLT.out b hb) q2.size) (fun hb => hb.2))⟩, HACT.out, Nat.le_trans hfn (Nat.le_succ n)⟩, q2⟩)
        have C7 := Lib.hid hpo.cells.2.2.2.2.2.2.2
        have HKP := Lib.hid (show IntsOwn SV6 (W1.setCell ⟨r, 5, none⟩ γv) kv m.keep from by have := hpo.keep; rwa [show (m.tick.act (.rename old name)).keep = m.keep from act_keep m.tick _] at this)
        have HSUB := Lib.hid q3
        clear hL' hW p1 p2 p3 p4 q1 q2 q3 hpo hI0
        generalize W1.setCell ⟨r, 5, none⟩ γv = V6 at HP1 C7 HKP HSUB ⊢
        go_wp2_with fail
        go_ret
        exact ⟨by rw [HDO.out]; rfl, by rw [HDO.out]; exact HP1.out⟩
set_option maxHeartbeats 6400000 in
set_option maxRecDepth 100000 in
theorem refDo_remove {w : World} {r n : Nat} {m : DM} {S : Nat → Prop} (h : RefAt w r n m S) (old name s : ByteArray) (file : Nat) (hn : n * m.room ≤ 4611686018427387904) (hn2 : n + 1 ≤ 1000000000000) (hs : s.size ≤ 140737488355328) (hof : (file : Int) ≤ 9223372036854775807)
    (hoff : m.off = false) (href : m.refused (.remove name) = 0) :
    Calls Tryz.prog 50 #[.pointer (some ⟨r, 0, none⟩), .agg #[.int .i64 5, .string old, .string name, .int .i64 file], .string s] w fun e w' => e = .returned (.int .i64 (m.op (.remove name)).2) ∧ RefPost r (n + 1) (m.op (.remove name)).1 S w w' := by
  have hrf := fun W (hb : RefAt W r n m S) => refused_any hb ⟨5, old, name, file⟩ s (by show (1 : Int) ≤ 5; decide) (by show (5 : Int) ≤ 6; decide) hn (by omega) hs
  have hrc : rcall ⟨5, old, name, file⟩ s = .remove name := rfl
  rw [hrc, href] at hrf
  have hlt := h.lt
  have hfn := h.filesN
  have hok := h.ok
  have hactok := hok.tick.act (.remove name) (by rw [← href]; exact refused_tick m _) (by rw [← hoff]; rfl)
  have hb0 := (Below.refl w.heap.size w).alloc (Nat.le_refl _) (.cells #[.int .i64 5, .string old, .string name, .int .i64 file] 98)
  have HREF := Lib.hid (hrf _ (h.below hb0))
  obtain ⟨⟨fv, nv, sv, pv, kv, ro, h1⟩, -, -⟩ := h.below hb0
  have HRW := Lib.hid h1
  have HB0 := Lib.hid hb0
  have HBX := Lib.hid (heap_new w (.cells #[.int .i64 5, .string old, .string name, .int .i64 file] 98))
  have HSR := Lib.hid h1.sr
  have HRL0 := Lib.hid (hlt r h1.sr)
  have HLT := Lib.hid hlt
  have HOK := Lib.hid hok
  have HACT := Lib.hid hactok
  have d0 : (w.alloc (.cells #[.int .i64 5, .string old, .string name, .int .i64 file] 98)).cell? ⟨w.heap.size, 0, none⟩ = some (.int .i64 5) := cell_of_heapN HBX.out
  have d1 : (w.alloc (.cells #[.int .i64 5, .string old, .string name, .int .i64 file] 98)).cell? ⟨w.heap.size, 1, none⟩ = some (.string old) := cell_of_heapN HBX.out
  have d2 : (w.alloc (.cells #[.int .i64 5, .string old, .string name, .int .i64 file] 98)).cell? ⟨w.heap.size, 2, none⟩ = some (.string name) := cell_of_heapN HBX.out
  have d3 : (w.alloc (.cells #[.int .i64 5, .string old, .string name, .int .i64 file] 98)).cell? ⟨w.heap.size, 3, none⟩ = some (.int .i64 file) := cell_of_heapN HBX.out
  have c0 := h1.cells.1
  rw [hoff] at c0
  clear h h1 hb0 hrf hlt hok hactok
  go_enter Tryz.func50, Tryz.ntmps50
  go_wp2_with fail
  refine HREF.out.mono ?_
  rintro e w1 ⟨rfl, hb1⟩
  have HS1 : Hid (DoS w w1 r m S S fv nv sv pv kv ro #[.int .i64 5, .string old, .string name, .int .i64 file]) := Lib.hid
    ⟨HRW.out.frame (fun b hb => hb1.block b (HRW.out.lt b hb)) hb1.size, ((Off.refl S w).below HB0.out (Nat.le_refl _)).below hb1 HB0.out.size, fun b hb => .inl hb, (hb1.block _ (blk_lt HBX.out)).trans HBX.out⟩
  clear hb1 d0 d1 d2 d3 c0 HREF HRW HB0 HBX
  have harm := HOK.out.arm0
  have harm1 := HOK.out.arm1
  have hway : m.armed = 0 ∨ m.armed = 1 ∨ 1 < m.armed := by omega
  rcases hway with ha | ha | ha
  · have htk : m.tick = { m with armed := 0 } := tick_eq (by rw [ha]; rfl)
    have c6 := HS1.out.raw.cells.2.2.2.2.2.2.1
    have f6 : w1.frozen? ⟨r, 6, none⟩ = false := frozen_blk HS1.out.raw.head
    rw [ha] at c6
    have HS2 : Hid (DoS w w1 r m.tick S S fv nv sv pv kv ro #[.int .i64 5, .string old, .string name, .int .i64 file]) := Lib.hid (by
  rw [htk]
  have hm : ({ m with armed := 0 } : DM) = m := by cases m; simp only at ha; rw [ha]
  rw [hm]
  exact HS1.out)
    have HDO := Lib.hid (op_do hoff href (by rw [ha]; decide))
    clear htk
    go_wp2_with fail
    clear HS1 c6 f6
    have H3 := Lib.hid HS2.out.raw
    obtain ⟨np, nc, hnv⟩ := HS2.out.raw.now.form
    have c3 := HS2.out.raw.cells.2.2.2.1
    obtain ⟨N, hN⟩ : ∃ N, m.tick.now.length = N := ⟨_, rfl⟩
    rw [hN] at hnv
    subst hnv
    have hNn : N ≤ n := by rw [← hN]; exact HOK.out.nowN
    have HN := Lib.hid hN
    have d2 : w1.cell? ⟨w.heap.size, 2, none⟩ = some (.string name) := cell_of_heapN HS2.out.box
    have hat : ∀ q, Calls Tryz.prog 86 #[.slice np N nc, .string name] (w1.drewN q) fun e w' => e = .returned (.int .i64 (tidx m.now name.data.toList)) ∧ w' = w1.drewN q := fun q =>
      (at_any (HS2.out.drews q).raw.now name (Nat.le_trans HOK.out.nowN (by omega))).mono (fun e w' hp => ⟨hp.1, hp.2.symm⟩)
    have hg : ∃ i, tget m.now name.data.toList = some i := by
      have h := href
      simp only [DM.refused] at h
      cases hg : tget m.now name.data.toList with
      | some i => exact ⟨i, rfl⟩
      | none =>
        simp only [DM.get, hg] at h
        cases h
    obtain ⟨i, hg⟩ := hg
    obtain ⟨j, hj, hjt⟩ := tidx_some hg
    rw [hj] at hat
    have hjn : (j : Int) < (N : Int) := by have := (List.getElem?_eq_some_iff.1 hjt).1; have e : m.now.length = N := HN.out; omega
    have hj0 : (0 : Int) ≤ (j : Int) := by omega
    have HJT := Lib.hid hjt
    have HG := Lib.hid hg
    clear hj hjt hg
    have HAT := Lib.hid hat
    clear hat hN H3
    go_quiet ((go_at_call 86; exact Calls.quiet_of_same (HAT.out _)))
    rename_i nq
    have HS3 := Lib.hid (HS2.out.drews nq)
    generalize w1.drewN nq = V at HS3 ⊢
    clear HS2 c3 d2 HAT
    have d0 : V.cell? ⟨w.heap.size, 0, none⟩ = some (.int .i64 5) := cell_of_heapN HS3.out.box
    have d1 : V.cell? ⟨w.heap.size, 1, none⟩ = some (.string old) := cell_of_heapN HS3.out.box
    have d2 : V.cell? ⟨w.heap.size, 2, none⟩ = some (.string name) := cell_of_heapN HS3.out.box
    have d3 : V.cell? ⟨w.heap.size, 3, none⟩ = some (.int .i64 file) := cell_of_heapN HS3.out.box
    go_wp2_with fail
    obtain ⟨SV, hSV⟩ : ∃ SV, SV = S := ⟨_, rfl⟩
    have HS4 : Hid (DoS w V r m.tick S SV fv (.slice np N nc) sv pv kv ro #[.int .i64 5, .string old, .string name, .int .i64 file]) := Lib.hid (by rw [hSV]; exact HS3.out)
    clear HS3 hSV
    have HRN := Lib.hid HS4.out.raw.now
    have HSV := Lib.hid HS4.out.raw.lt
    have HRH := Lib.hid HS4.out.raw.head
    have HRL := Lib.hid (HS4.out.raw.lt r HS4.out.raw.sr)
    have C3 := Lib.hid HS4.out.raw.cells.2.2.2.1
    have HBL := Lib.hid (blk_lt HS4.out.box)
    have D0 := Lib.hid d0
    have D1 := Lib.hid d1
    have D2 := Lib.hid d2
    have D3 := Lib.hid d3
    have HTR := Lib.hid HOK.out.now
    have HTL := Lib.hid (show m.now.length ≤ 2000000000000 by have := HOK.out.nowN; omega)
    have HTI := Lib.hid (fun (p : Bs × Nat) (hp : p ∈ m.now) => show (p.2 : Int) ≤ 9223372036854775807 by have := HOK.out.nowI p hp; omega)
    have HOF := Lib.hid (show ((file : Nat) : Int) ≤ 9223372036854775807 by omega)
    obtain ⟨T, hT⟩ : ∃ T, m.now = T := ⟨_, rfl⟩
    have HTT := Lib.hid hT
    have HRN : Hid (LinksS SV V (.slice np N nc) T) := Lib.hid (by rw [← hT]; exact HRN.out)
    rw [hT] at HTR HTL HTI
    clear hT
    have hI0 : NowW V r SV ((ROp.dop ⟨5, old, name, file⟩).act T) (fun _ => false) undef V.drew := ⟨fun _ => (Below.refl _ V).drew, fun h => (by cases h), fun h => (by cases h), fun h => (by cases h), fun h => (by cases h)⟩
    refine wp_region_flowG (fun γ => [.pointer (some ⟨r, 0, none⟩), .pointer (some ⟨r, 0, none⟩), .pointer (some ⟨r, 0, none⟩), .pointer (some ⟨r, 3, none⟩), .slice np N nc, .agg #[.int .i64 5, .string old, .string name, .int .i64 file], γ, .pointer (some ⟨r, 0, none⟩), .pointer (some ⟨r, 3, none⟩), undef]) (NowW V r SV ((ROp.dop ⟨5, old, name, file⟩).act T))
      [[], [], [1], [2], [3], [], [4, 5], [0, 0, 1, 2, 3, 4, 5, 6], [7, 0, 1, 2, 3, 4, 5, 6], [8, 6, 6, 0, 1, 2, 3, 4, 5, 6]] 165 undef mixedD rfl (by kernel_rfl) (fun _ => rfl) hI0 ?_ ?_
    · refine ⟨?_, ?_, ?_, ?_, ?_, ?_, ?_, ?_, ?_, ?_, rfl⟩
      all_goals intro L γ W ev hL hd hW hc hf hg he h0
      · have e0 : ev (.tmp 0) = .pointer (some ⟨r, 0, none⟩) := h0 0 rfl
        clear he h0 hc hf hg
        exact .inl ⟨rfl, .inl ⟨_, W, (by go_simp <;> rfl), .still (hW.upd 0 (by decide) (by decide) (fun e => by cases e)) rfl⟩⟩
      · have e0 : ev (.tmp 0) = .pointer (some ⟨r, 0, none⟩) := h0 0 rfl
        clear he h0 hc hf hg
        exact .inl ⟨rfl, .inl ⟨_, W, (by go_simp <;> rfl), .still (hW.upd 1 (by decide) (by decide) (fun e => by cases e)) rfl⟩⟩
      · have e140 : ev (.tmp 140) = .pointer (some ⟨r, 0, none⟩) := he 1 (by decide) _ 140 rfl rfl
        clear he h0 hc hf hg
        exact .inl ⟨rfl, .inl ⟨_, W, (by go_simp <;> rfl), .still (hW.upd 2 (by decide) (by decide) (fun e => by cases e)) rfl⟩⟩
      · have e141 : ev (.tmp 141) = .pointer (some ⟨r, 0, none⟩) := he 2 (by decide) _ 141 rfl rfl
        clear he h0 hc hf hg
        exact .inl ⟨rfl, .inl ⟨_, W, (by go_simp <;> rfl), .still (hW.upd 3 (by decide) (by decide) (fun e => by cases e)) rfl⟩⟩
      · have e142 : ev (.tmp 142) = .pointer (some ⟨r, 3, none⟩) := he 3 (by decide) _ 142 rfl rfl
        have c : W.cell? ⟨r, 3, none⟩ = some (.slice np N nc) := (hW.same hL (by decide) r 3 HRL.out).trans C3.out
        clear he h0 hc hf hg
        exact .inl ⟨rfl, .inl ⟨_, W, (by go_simp <;> rfl), .still (hW.upd 4 (by decide) (by decide) (fun e => by cases e)) rfl⟩⟩
      · have e4 : ev (.tmp 4) = .pointer (some ⟨w.heap.size, 0, none⟩) := h0 4 rfl
        have d0 : W.cell? ⟨w.heap.size, 0, none⟩ = some (.int .i64 5) := (hW.same hL (by decide) w.heap.size _ HBL.out).trans D0.out
        have d1 : W.cell? ⟨w.heap.size, 1, none⟩ = some (.string old) := (hW.same hL (by decide) w.heap.size _ HBL.out).trans D1.out
        have d2 : W.cell? ⟨w.heap.size, 2, none⟩ = some (.string name) := (hW.same hL (by decide) w.heap.size _ HBL.out).trans D2.out
        have d3 : W.cell? ⟨w.heap.size, 3, none⟩ = some (.int .i64 file) := (hW.same hL (by decide) w.heap.size _ HBL.out).trans D3.out
        clear he h0 hc hf hg
        exact .inl ⟨rfl, .inl ⟨_, W, (by go_simp <;> rfl), .still (hW.upd 5 (by decide) (by decide) (fun e => by cases e)) rfl⟩⟩
      · have e143 : ev (.tmp 143) = .slice np N nc := he 4 (by decide) _ 143 rfl rfl
        have e144 : ev (.tmp 144) = .agg #[.int .i64 5, .string old, .string name, .int .i64 file] := he 5 (by decide) _ 144 rfl rfl
        clear he h0 hc hg
        have hb := hW.bel (hW.off hL (by decide))
        have hl : LinksS SV W (.slice np N nc) T := HRN.out.keep (fun b _ hS _ => hb.block b (HSV.out b hS))
        refine .inl ⟨rfl, .inr (.inr ⟨87, #[.slice np N nc, .agg (ropCl ⟨5, old, name, file⟩)], W, (by have hff := hf 87; clear hf; go_simp <;> rfl), ?_⟩)⟩
        refine (done_any hl (fun b hS => Nat.lt_of_lt_of_le (HSV.out b hS) hb.size) HTR.out ⟨5, old, name, file⟩ HTL.out HTI.out HOF.out).mono ?_
        rintro e w' ⟨u, rfl, hg, hb2⟩
        exact ⟨u, rfl, u, hW.called hL hg hb2, rfl, fun j hj => by
          have hj2 : j ≠ 6 := fun e => by subst e; rw [hL] at hj; cases hj
          match j, hj2 with
          | 0, _ | 1, _ | 2, _ | 3, _ | 4, _ | 5, _ | 7, _ | 8, _ | 9, _ => rfl
          | n + 10, _ => rfl⟩
      · have e139 : ev (.tmp 139) = .pointer (some ⟨r, 0, none⟩) := he 0 (by decide) _ 139 rfl rfl
        clear he h0 hc hf hg
        exact .inl ⟨rfl, .inl ⟨_, W, (by go_simp <;> rfl), .still (hW.upd 7 (by decide) (by decide) (fun e => by cases e)) rfl⟩⟩
      · have e146 : ev (.tmp 146) = .pointer (some ⟨r, 0, none⟩) := he 7 (by decide) _ 146 rfl rfl
        clear he h0 hc hf hg
        exact .inl ⟨rfl, .inl ⟨_, W, (by go_simp <;> rfl), .still (hW.upd 8 (by decide) (by decide) (fun _ => hd 7 (by decide))) rfl⟩⟩
      · have e145 : ev (.tmp 145) = γ := he 6 (by decide) _ 145 rfl rfl
        have e147 : ev (.tmp 147) = .pointer (some ⟨r, 3, none⟩) := he 8 (by decide) _ 147 rfl rfl
        clear he h0 hc hg
        have h6 : L 6 = true := hd 6 (by decide)
        have hone := hW.one h6 hL
        obtain ⟨up, uc, hu⟩ := hone.form
        have hb := hW.bel hL
        have cq : W.cell? ⟨r, 3, none⟩ = some (.slice np N nc) := (cell_of_heap (hb.block r HRL.out)).trans C3.out
        have cf : W.frozen? ⟨r, 3, none⟩ = false := frozen_blk ((hb.block r HRL.out).trans HRH.out)
        have hfin := hW.stored hL h6 (fun j hj => by
          by_cases e : j = 7
          · subst e; exact hW.c8 (hd 8 (by decide))
          · exact hd j (by have : j = 0 ∨ j = 1 ∨ j = 2 ∨ j = 3 ∨ j = 4 ∨ j = 5 ∨ j = 6 ∨ j = 8 := (by omega); rcases this with rfl | rfl | rfl | rfl | rfl | rfl | rfl | rfl <;> decide))
        subst hu
        refine .inl ⟨rfl, .inr (.inl ⟨W.setCell ⟨r, 3, none⟩ (.slice up (DOp.act (ROp.dop ⟨5, old, name, file⟩) T).length uc), ?_, .still hfin rfl⟩)⟩
        clear hf hone hfin hW
        go_simp
    · intro nvv L' W hL' hW
      simp only [putAll, Act.put, List.setIfInBounds_toArray, List.set_cons_succ, List.set_cons_zero]
      obtain ⟨W0, hb0, hl0, rfl⟩ := hW.fin (hL' 9 (by decide))
      have HS5 := Lib.hid (HS4.out.now HSR.out HRL0.out hb0 hl0)
      clear hI0 hL' hW hb0 hl0 HS4 HRN HSV HRH HRL C3 HBL D0 D1 D2 D3
      generalize grow SV V (W0.setCell ⟨r, 3, none⟩ nvv) = SV at HS5
      generalize W0.setCell ⟨r, 3, none⟩ nvv = V at HS5 ⊢
      have d0 : V.cell? ⟨w.heap.size, 0, none⟩ = some (.int .i64 5) := cell_of_heapN HS5.out.box
      have d1 : V.cell? ⟨w.heap.size, 1, none⟩ = some (.string old) := cell_of_heapN HS5.out.box
      have d2 : V.cell? ⟨w.heap.size, 2, none⟩ = some (.string name) := cell_of_heapN HS5.out.box
      have d3 : V.cell? ⟨w.heap.size, 3, none⟩ = some (.int .i64 file) := cell_of_heapN HS5.out.box
      have HSV := Lib.hid HS5.out.raw.lt
      have HRL := Lib.hid (HS5.out.raw.lt r HS5.out.raw.sr)
      obtain ⟨pp, pc, hpv⟩ := HS5.out.raw.pend.form
      obtain ⟨P, hP⟩ : ∃ P, ro.length = P := ⟨_, rfl⟩
      have hPn : P ≤ n := by
        have h1 := HS5.out.raw.pendE
        have h2 := HOK.out.safeN
        have h3 := congrArg List.length h1
        rw [List.length_map, hP] at h3
        have h3 : m.pend.length = P := h3
        omega
      rw [hP] at hpv
      subst hpv
      have HPL := Lib.hid hP
      have HRR := Lib.hid HS5.out.raw
      have HRP := Lib.hid HS5.out.raw.pend
      have C5 := Lib.hid HS5.out.raw.cells.2.2.2.2.2.1
      have HBL := Lib.hid (blk_lt HS5.out.box)
      have D0 := Lib.hid d0
      have D1 := Lib.hid d1
      have D2 := Lib.hid d2
      have D3 := Lib.hid d3
      obtain ⟨iO, hiO, hzO0, hzO1, hzO2⟩ := info_parts infoOp
      clear hP
      go_wp2_with fail
      have hI0 : PenW V r (.slice pp P pc) ro ⟨5, old, name, file⟩ (fun _ => false) (0, undef) V.drew := ⟨fun _ => (Below.refl _ V).drew, fun h => (by cases h), fun h => (by cases h), fun h => (by cases h), fun h => (by cases h), fun h => (by cases h), fun h => (by cases h)⟩
      refine wp_region_flowG (fun γ => [.pointer (some ⟨r, 0, none⟩), .pointer (some ⟨r, 0, none⟩), .pointer (some ⟨r, 0, none⟩), .pointer (some ⟨r, 5, none⟩), .slice pp P pc, .agg #[.int .i64 5, .string old, .string name, .int .i64 file], .slice (some ⟨γ.1, 0, none⟩) 1 1, γ.2, .pointer (some ⟨r, 0, none⟩), .pointer (some ⟨r, 5, none⟩), undef]) (PenW V r (.slice pp P pc) ro ⟨5, old, name, file⟩)
        [[], [], [1], [2], [3], [], [5], [4, 6], [0, 0, 1, 2, 3, 4, 5, 6, 7], [8, 0, 1, 2, 3, 4, 5, 6, 7], [9, 7, 7, 0, 1, 2, 3, 4, 5, 6, 7]] 165 (0, undef) mixedD rfl (by kernel_rfl) (fun _ => rfl) hI0 ?_ ?_
      · refine ⟨?_, ?_, ?_, ?_, ?_, ?_, ?_, ?_, ?_, ?_, ?_, rfl⟩
        all_goals intro L γ W ev hL hd hW hc hf hg he h0
        · have e0 : ev (.tmp 0) = .pointer (some ⟨r, 0, none⟩) := h0 0 rfl
          clear he h0 hc hf hg
          exact .inl ⟨rfl, .inl ⟨_, W, (by go_simp <;> rfl), .still (hW.upd 0 (by decide) (by decide) (by decide)) rfl⟩⟩
        · have e0 : ev (.tmp 0) = .pointer (some ⟨r, 0, none⟩) := h0 0 rfl
          clear he h0 hc hf hg
          exact .inl ⟨rfl, .inl ⟨_, W, (by go_simp <;> rfl), .still (hW.upd 1 (by decide) (by decide) (by decide)) rfl⟩⟩
        · have e149 : ev (.tmp 149) = .pointer (some ⟨r, 0, none⟩) := he 1 (by decide) _ 149 rfl rfl
          clear he h0 hc hf hg
          exact .inl ⟨rfl, .inl ⟨_, W, (by go_simp <;> rfl), .still (hW.upd 2 (by decide) (by decide) (by decide)) rfl⟩⟩
        · have e150 : ev (.tmp 150) = .pointer (some ⟨r, 0, none⟩) := he 2 (by decide) _ 150 rfl rfl
          clear he h0 hc hf hg
          exact .inl ⟨rfl, .inl ⟨_, W, (by go_simp <;> rfl), .still (hW.upd 3 (by decide) (by decide) (by decide)) rfl⟩⟩
        · have e151 : ev (.tmp 151) = .pointer (some ⟨r, 5, none⟩) := he 3 (by decide) _ 151 rfl rfl
          have c : W.cell? ⟨r, 5, none⟩ = some (.slice pp P pc) := (hW.same hL (by decide) r 5 HRL.out).trans C5.out
          clear he h0 hc hf hg
          exact .inl ⟨rfl, .inl ⟨_, W, (by go_simp <;> rfl), .still (hW.upd 4 (by decide) (by decide) (by decide)) rfl⟩⟩
        · have e4 : ev (.tmp 4) = .pointer (some ⟨w.heap.size, 0, none⟩) := h0 4 rfl
          have d0 : W.cell? ⟨w.heap.size, 0, none⟩ = some (.int .i64 5) := (hW.same hL (by decide) w.heap.size _ HBL.out).trans D0.out
          have d1 : W.cell? ⟨w.heap.size, 1, none⟩ = some (.string old) := (hW.same hL (by decide) w.heap.size _ HBL.out).trans D1.out
          have d2 : W.cell? ⟨w.heap.size, 2, none⟩ = some (.string name) := (hW.same hL (by decide) w.heap.size _ HBL.out).trans D2.out
          have d3 : W.cell? ⟨w.heap.size, 3, none⟩ = some (.int .i64 file) := (hW.same hL (by decide) w.heap.size _ HBL.out).trans D3.out
          clear he h0 hc hf hg
          exact .inl ⟨rfl, .inl ⟨_, W, (by go_simp <;> rfl), .still (hW.upd 5 (by decide) (by decide) (by decide)) rfl⟩⟩
        · have e153 : ev (.tmp 153) = .agg #[.int .i64 5, .string old, .string name, .int .i64 file] := he 5 (by decide) _ 153 rfl rfl
          clear he h0 hc hg
          refine .inl ⟨rfl, .inl ⟨_, W.alloc (.cells (ropCl ⟨5, old, name, file⟩) 98), (by clear hf; go_simp <;> rfl), (W.heap.size, γ.2), hW.boxed hL (hd 5 (by decide)), rfl, fun j hj => ?_⟩⟩
          have hj2 : j ≠ 6 := fun e => by subst e; rw [hL] at hj; cases hj
          match j, hj2 with
          | 0, _ | 1, _ | 2, _ | 3, _ | 4, _ | 5, _ | 7, _ | 8, _ | 9, _ | 10, _ => rfl
          | n + 11, _ => rfl
        · have e152 : ev (.tmp 152) = .slice pp P pc := he 4 (by decide) _ 152 rfl rfl
          have e154 : ev (.tmp 154) = .slice (some ⟨γ.1, 0, none⟩) 1 1 := he 6 (by decide) _ 154 rfl rfl
          clear he h0 hc hg
          have h4 := hd 4 (by decide)
          have h6 := hd 6 (by decide)
          have hbx := hW.box h6 hL
          have hb := hW.bel hL
          have hro : RopsS SV W (.slice pp P pc) ro := HRP.out.keep (fun b _ hS _ => hb.block b (HSV.out b hS))
          have hro1 := hro.1
          rw [HPL.out] at hro1
          obtain ⟨v', W', hr, hown, hg, -, hat⟩ := run_append_own_at (P := Tryz.prog) W 0 93 93 98 iO (.agg #[.int .i64 0, .string ⟨#[]⟩, .string ⟨#[]⟩, .int .i64 0]) 4 48 Tryz.underlying93 hiO hzO0 hzO1 hzO2 rfl (by decide) (.slice pp P pc) P (flatR ropCl ro) hro1 ⟨γ.1, 0, none⟩ 1 1 (ropCl ⟨5, old, name, file⟩).toList rfl (fun j u hu => (cellAdd hbx.1 j).trans (by rw [← hu, Array.getElem?_toList])) (ropCl_one ⟨5, old, name, file⟩) (by unfold maxLen; omega) (by omega) (Nat.zero_le _)
          refine .inl ⟨rfl, .inl ⟨v', W', (by clear hf; simp only [execOp, resolve, invoke, builtin, Sem.run_bind, Sem.run_pure, Result.andThen_ok, List.map_toArray, List.map_cons, List.map_nil, e152, e154, hr]), (γ.1, v'), hW.apped hL h4 h6 hg (by rw [HPL.out]; exact hown) hat, rfl, fun j hj => ?_⟩⟩
          have hj2 : j ≠ 7 := fun e => by subst e; rw [hL] at hj; cases hj
          match j, hj2 with
          | 0, _ | 1, _ | 2, _ | 3, _ | 4, _ | 5, _ | 6, _ | 8, _ | 9, _ | 10, _ => rfl
          | n + 11, _ => rfl
        · have e148 : ev (.tmp 148) = .pointer (some ⟨r, 0, none⟩) := he 0 (by decide) _ 148 rfl rfl
          clear he h0 hc hf hg
          exact .inl ⟨rfl, .inl ⟨_, W, (by go_simp <;> rfl), .still (hW.upd 8 (by decide) (by decide) (by decide)) rfl⟩⟩
        · have e156 : ev (.tmp 156) = .pointer (some ⟨r, 0, none⟩) := he 8 (by decide) _ 156 rfl rfl
          clear he h0 hc hf hg
          exact .inl ⟨rfl, .inl ⟨_, W, (by go_simp <;> rfl), .still (hW.upd 9 (by decide) (by decide) (by decide)) rfl⟩⟩
        · have e155 : ev (.tmp 155) = γ.2 := he 7 (by decide) _ 155 rfl rfl
          have e157 : ev (.tmp 157) = .pointer (some ⟨r, 5, none⟩) := he 9 (by decide) _ 157 rfl rfl
          clear he h0 hc hg
          have h7 : L 7 = true := hd 7 (by decide)
          obtain ⟨W0, p1, p2, p3, p4⟩ := hW.app h7 hL
          obtain ⟨up, uc, hu⟩ := owns_form p3
          have hap := (HRR.out.appOp HOF.out p1 p2 p4 p3).2.2
          have cq : W.cell? ⟨r, 5, none⟩ = some (.slice pp P pc) := cell_of_heapN hap
          have cf : W.frozen? ⟨r, 5, none⟩ = false := frozen_blk hap
          have hfin := hW.stored hL h7
          rw [hu] at e155
          refine .inl ⟨rfl, .inr (.inl ⟨W.setCell ⟨r, 5, none⟩ γ.2, ?_, .still hfin rfl⟩)⟩
          rw [hu]
          clear hf hfin hW hu p1 p2 p3 p4 hap
          go_simp
      · intro γ L' W hL' hW
        obtain ⟨tb, γv⟩ := γ
        obtain ⟨W0, W1, p1, p2, p3, p4, rfl⟩ := hW.fin (hL' 10 (by decide))
        simp only [putAll, Act.put, List.setIfInBounds_toArray, List.set_cons_succ, List.set_cons_zero]
        obtain ⟨SV6, q1, q2, q3⟩ := HS5.out.pen HSR.out HRL0.out HLT.out HOF.out p1 p2 p4 p3
        have hpo : RefRaw (W1.setCell ⟨r, 5, none⟩ γv) r (m.tick.act (.remove name)) SV6 (fv) nvv sv γv kv (ro ++ [⟨5, old, name, file⟩]) := by
          have e : m.tick.act (.remove name) = { { (m.tick : DM) with now := (ROp.dop ⟨5, old, name, file⟩).act T } with pend := (m.tick : DM).pend ++ [ROp.dop ⟨5, old, name, file⟩] } := by
            rw [← HTT.out]
            rfl
          rw [e]
          exact q1
        have HP1 := Lib.hid (show RefPost r (n + 1) (m.tick.act (.remove name)) S w (W1.setCell ⟨r, 5, none⟩ γv) from
          ⟨⟨⟨_, _, _, _, _, _, hpo.sup q3 (fun b hb => hb.elim (fun hb => Nat.lt_of_lt_of_le (HLT.out b hb) q2.size) (fun hb => hb.2))⟩, HACT.out, Nat.le_trans hfn (Nat.le_succ n)⟩, q2⟩)
        have C7 := Lib.hid hpo.cells.2.2.2.2.2.2.2
        have HKP := Lib.hid (show IntsOwn SV6 (W1.setCell ⟨r, 5, none⟩ γv) kv m.keep from by have := hpo.keep; rwa [show (m.tick.act (.remove name)).keep = m.keep from act_keep m.tick _] at this)
        have HSUB := Lib.hid q3
        clear hL' hW p1 p2 p3 p4 q1 q2 q3 hpo hI0
        generalize W1.setCell ⟨r, 5, none⟩ γv = V6 at HP1 C7 HKP HSUB ⊢
        go_wp2_with fail
        go_ret
        exact ⟨by rw [HDO.out]; rfl, by rw [HDO.out]; exact HP1.out⟩
  · have htk : m.tick = { m with armed := 0 } := tick_eq (by rw [ha]; rfl)
    have c6 := HS1.out.raw.cells.2.2.2.2.2.2.1
    have f6 : w1.frozen? ⟨r, 6, none⟩ = false := frozen_blk HS1.out.raw.head
    rw [ha] at c6
    have hq := HS1.out.raw.put (m' := { m with armed := 0 }) 6 (.int .i64 0) rfl HS1.out.raw.now HS1.out.raw.safe HS1.out.raw.pend HS1.out.raw.keep rfl HS1.out.raw.pendE HS1.out.raw.opsF
    have HS2 : Hid (DoS w (w1.setCell ⟨r, 6, none⟩ (.int .i64 0)) r m.tick S S fv nv sv pv kv ro #[.int .i64 5, .string old, .string name, .int .i64 file]) := Lib.hid ⟨by rw [htk]; exact hq, HS1.out.off.setCell _ _ (fun _ => HSR.out), fun b hb => .inl hb, (Below.heap_setCell _ _ _ _ (fun e => by have e : w.heap.size = r := e; have := HRL0.out; omega)).trans HS1.out.box⟩
    have HDO := Lib.hid (op_hit hoff href ha)
    clear hq
    clear htk
    go_wp2_with fail
    generalize w1.setCell ⟨r, 6, none⟩ (.int .i64 0) = w2 at HS2 ⊢
    clear HS1 c6 f6
    have H3 := Lib.hid HS2.out.raw
    obtain ⟨np, nc, hnv⟩ := HS2.out.raw.now.form
    have c3 := HS2.out.raw.cells.2.2.2.1
    obtain ⟨N, hN⟩ : ∃ N, m.tick.now.length = N := ⟨_, rfl⟩
    rw [hN] at hnv
    subst hnv
    have hNn : N ≤ n := by rw [← hN]; exact HOK.out.nowN
    have HN := Lib.hid hN
    have d2 : w2.cell? ⟨w.heap.size, 2, none⟩ = some (.string name) := cell_of_heapN HS2.out.box
    have hat : ∀ q, Calls Tryz.prog 86 #[.slice np N nc, .string name] (w2.drewN q) fun e w' => e = .returned (.int .i64 (tidx m.now name.data.toList)) ∧ w' = w2.drewN q := fun q =>
      (at_any (HS2.out.drews q).raw.now name (Nat.le_trans HOK.out.nowN (by omega))).mono (fun e w' hp => ⟨hp.1, hp.2.symm⟩)
    have hg : ∃ i, tget m.now name.data.toList = some i := by
      have h := href
      simp only [DM.refused] at h
      cases hg : tget m.now name.data.toList with
      | some i => exact ⟨i, rfl⟩
      | none =>
        simp only [DM.get, hg] at h
        cases h
    obtain ⟨i, hg⟩ := hg
    obtain ⟨j, hj, hjt⟩ := tidx_some hg
    rw [hj] at hat
    have hjn : (j : Int) < (N : Int) := by have := (List.getElem?_eq_some_iff.1 hjt).1; have e : m.now.length = N := HN.out; omega
    have hj0 : (0 : Int) ≤ (j : Int) := by omega
    have HJT := Lib.hid hjt
    have HG := Lib.hid hg
    clear hj hjt hg
    have HAT := Lib.hid hat
    clear hat hN H3
    go_quiet ((go_at_call 86; exact Calls.quiet_of_same (HAT.out _)))
    rename_i nq
    have HS3 := Lib.hid (HS2.out.drews nq)
    generalize w2.drewN nq = V at HS3 ⊢
    clear HS2 c3 d2 HAT
    have d0 : V.cell? ⟨w.heap.size, 0, none⟩ = some (.int .i64 5) := cell_of_heapN HS3.out.box
    have d1 : V.cell? ⟨w.heap.size, 1, none⟩ = some (.string old) := cell_of_heapN HS3.out.box
    have d2 : V.cell? ⟨w.heap.size, 2, none⟩ = some (.string name) := cell_of_heapN HS3.out.box
    have d3 : V.cell? ⟨w.heap.size, 3, none⟩ = some (.int .i64 file) := cell_of_heapN HS3.out.box
    go_wp2_with fail
    obtain ⟨SV, hSV⟩ : ∃ SV, SV = S := ⟨_, rfl⟩
    have HS4 : Hid (DoS w V r m.tick S SV fv (.slice np N nc) sv pv kv ro #[.int .i64 5, .string old, .string name, .int .i64 file]) := Lib.hid (by rw [hSV]; exact HS3.out)
    clear HS3 hSV
    have HRN := Lib.hid HS4.out.raw.now
    have HSV := Lib.hid HS4.out.raw.lt
    have HRH := Lib.hid HS4.out.raw.head
    have HRL := Lib.hid (HS4.out.raw.lt r HS4.out.raw.sr)
    have C3 := Lib.hid HS4.out.raw.cells.2.2.2.1
    have HBL := Lib.hid (blk_lt HS4.out.box)
    have D0 := Lib.hid d0
    have D1 := Lib.hid d1
    have D2 := Lib.hid d2
    have D3 := Lib.hid d3
    have HTR := Lib.hid HOK.out.now
    have HTL := Lib.hid (show m.now.length ≤ 2000000000000 by have := HOK.out.nowN; omega)
    have HTI := Lib.hid (fun (p : Bs × Nat) (hp : p ∈ m.now) => show (p.2 : Int) ≤ 9223372036854775807 by have := HOK.out.nowI p hp; omega)
    have HOF := Lib.hid (show ((file : Nat) : Int) ≤ 9223372036854775807 by omega)
    obtain ⟨T, hT⟩ : ∃ T, m.now = T := ⟨_, rfl⟩
    have HTT := Lib.hid hT
    have HRN : Hid (LinksS SV V (.slice np N nc) T) := Lib.hid (by rw [← hT]; exact HRN.out)
    rw [hT] at HTR HTL HTI
    clear hT
    have hI0 : NowW V r SV ((ROp.dop ⟨5, old, name, file⟩).act T) (fun _ => false) undef V.drew := ⟨fun _ => (Below.refl _ V).drew, fun h => (by cases h), fun h => (by cases h), fun h => (by cases h), fun h => (by cases h)⟩
    refine wp_region_flowG (fun γ => [.pointer (some ⟨r, 0, none⟩), .pointer (some ⟨r, 0, none⟩), .pointer (some ⟨r, 0, none⟩), .pointer (some ⟨r, 3, none⟩), .slice np N nc, .agg #[.int .i64 5, .string old, .string name, .int .i64 file], γ, .pointer (some ⟨r, 0, none⟩), .pointer (some ⟨r, 3, none⟩), undef]) (NowW V r SV ((ROp.dop ⟨5, old, name, file⟩).act T))
      [[], [], [1], [2], [3], [], [4, 5], [0, 0, 1, 2, 3, 4, 5, 6], [7, 0, 1, 2, 3, 4, 5, 6], [8, 6, 6, 0, 1, 2, 3, 4, 5, 6]] 165 undef mixedD rfl (by kernel_rfl) (fun _ => rfl) hI0 ?_ ?_
    · refine ⟨?_, ?_, ?_, ?_, ?_, ?_, ?_, ?_, ?_, ?_, rfl⟩
      all_goals intro L γ W ev hL hd hW hc hf hg he h0
      · have e0 : ev (.tmp 0) = .pointer (some ⟨r, 0, none⟩) := h0 0 rfl
        clear he h0 hc hf hg
        exact .inl ⟨rfl, .inl ⟨_, W, (by go_simp <;> rfl), .still (hW.upd 0 (by decide) (by decide) (fun e => by cases e)) rfl⟩⟩
      · have e0 : ev (.tmp 0) = .pointer (some ⟨r, 0, none⟩) := h0 0 rfl
        clear he h0 hc hf hg
        exact .inl ⟨rfl, .inl ⟨_, W, (by go_simp <;> rfl), .still (hW.upd 1 (by decide) (by decide) (fun e => by cases e)) rfl⟩⟩
      · have e140 : ev (.tmp 140) = .pointer (some ⟨r, 0, none⟩) := he 1 (by decide) _ 140 rfl rfl
        clear he h0 hc hf hg
        exact .inl ⟨rfl, .inl ⟨_, W, (by go_simp <;> rfl), .still (hW.upd 2 (by decide) (by decide) (fun e => by cases e)) rfl⟩⟩
      · have e141 : ev (.tmp 141) = .pointer (some ⟨r, 0, none⟩) := he 2 (by decide) _ 141 rfl rfl
        clear he h0 hc hf hg
        exact .inl ⟨rfl, .inl ⟨_, W, (by go_simp <;> rfl), .still (hW.upd 3 (by decide) (by decide) (fun e => by cases e)) rfl⟩⟩
      · have e142 : ev (.tmp 142) = .pointer (some ⟨r, 3, none⟩) := he 3 (by decide) _ 142 rfl rfl
        have c : W.cell? ⟨r, 3, none⟩ = some (.slice np N nc) := (hW.same hL (by decide) r 3 HRL.out).trans C3.out
        clear he h0 hc hf hg
        exact .inl ⟨rfl, .inl ⟨_, W, (by go_simp <;> rfl), .still (hW.upd 4 (by decide) (by decide) (fun e => by cases e)) rfl⟩⟩
      · have e4 : ev (.tmp 4) = .pointer (some ⟨w.heap.size, 0, none⟩) := h0 4 rfl
        have d0 : W.cell? ⟨w.heap.size, 0, none⟩ = some (.int .i64 5) := (hW.same hL (by decide) w.heap.size _ HBL.out).trans D0.out
        have d1 : W.cell? ⟨w.heap.size, 1, none⟩ = some (.string old) := (hW.same hL (by decide) w.heap.size _ HBL.out).trans D1.out
        have d2 : W.cell? ⟨w.heap.size, 2, none⟩ = some (.string name) := (hW.same hL (by decide) w.heap.size _ HBL.out).trans D2.out
        have d3 : W.cell? ⟨w.heap.size, 3, none⟩ = some (.int .i64 file) := (hW.same hL (by decide) w.heap.size _ HBL.out).trans D3.out
        clear he h0 hc hf hg
        exact .inl ⟨rfl, .inl ⟨_, W, (by go_simp <;> rfl), .still (hW.upd 5 (by decide) (by decide) (fun e => by cases e)) rfl⟩⟩
      · have e143 : ev (.tmp 143) = .slice np N nc := he 4 (by decide) _ 143 rfl rfl
        have e144 : ev (.tmp 144) = .agg #[.int .i64 5, .string old, .string name, .int .i64 file] := he 5 (by decide) _ 144 rfl rfl
        clear he h0 hc hg
        have hb := hW.bel (hW.off hL (by decide))
        have hl : LinksS SV W (.slice np N nc) T := HRN.out.keep (fun b _ hS _ => hb.block b (HSV.out b hS))
        refine .inl ⟨rfl, .inr (.inr ⟨87, #[.slice np N nc, .agg (ropCl ⟨5, old, name, file⟩)], W, (by have hff := hf 87; clear hf; go_simp <;> rfl), ?_⟩)⟩
        refine (done_any hl (fun b hS => Nat.lt_of_lt_of_le (HSV.out b hS) hb.size) HTR.out ⟨5, old, name, file⟩ HTL.out HTI.out HOF.out).mono ?_
        rintro e w' ⟨u, rfl, hg, hb2⟩
        exact ⟨u, rfl, u, hW.called hL hg hb2, rfl, fun j hj => by
          have hj2 : j ≠ 6 := fun e => by subst e; rw [hL] at hj; cases hj
          match j, hj2 with
          | 0, _ | 1, _ | 2, _ | 3, _ | 4, _ | 5, _ | 7, _ | 8, _ | 9, _ => rfl
          | n + 10, _ => rfl⟩
      · have e139 : ev (.tmp 139) = .pointer (some ⟨r, 0, none⟩) := he 0 (by decide) _ 139 rfl rfl
        clear he h0 hc hf hg
        exact .inl ⟨rfl, .inl ⟨_, W, (by go_simp <;> rfl), .still (hW.upd 7 (by decide) (by decide) (fun e => by cases e)) rfl⟩⟩
      · have e146 : ev (.tmp 146) = .pointer (some ⟨r, 0, none⟩) := he 7 (by decide) _ 146 rfl rfl
        clear he h0 hc hf hg
        exact .inl ⟨rfl, .inl ⟨_, W, (by go_simp <;> rfl), .still (hW.upd 8 (by decide) (by decide) (fun _ => hd 7 (by decide))) rfl⟩⟩
      · have e145 : ev (.tmp 145) = γ := he 6 (by decide) _ 145 rfl rfl
        have e147 : ev (.tmp 147) = .pointer (some ⟨r, 3, none⟩) := he 8 (by decide) _ 147 rfl rfl
        clear he h0 hc hg
        have h6 : L 6 = true := hd 6 (by decide)
        have hone := hW.one h6 hL
        obtain ⟨up, uc, hu⟩ := hone.form
        have hb := hW.bel hL
        have cq : W.cell? ⟨r, 3, none⟩ = some (.slice np N nc) := (cell_of_heap (hb.block r HRL.out)).trans C3.out
        have cf : W.frozen? ⟨r, 3, none⟩ = false := frozen_blk ((hb.block r HRL.out).trans HRH.out)
        have hfin := hW.stored hL h6 (fun j hj => by
          by_cases e : j = 7
          · subst e; exact hW.c8 (hd 8 (by decide))
          · exact hd j (by have : j = 0 ∨ j = 1 ∨ j = 2 ∨ j = 3 ∨ j = 4 ∨ j = 5 ∨ j = 6 ∨ j = 8 := (by omega); rcases this with rfl | rfl | rfl | rfl | rfl | rfl | rfl | rfl <;> decide))
        subst hu
        refine .inl ⟨rfl, .inr (.inl ⟨W.setCell ⟨r, 3, none⟩ (.slice up (DOp.act (ROp.dop ⟨5, old, name, file⟩) T).length uc), ?_, .still hfin rfl⟩)⟩
        clear hf hone hfin hW
        go_simp
    · intro nvv L' W hL' hW
      simp only [putAll, Act.put, List.setIfInBounds_toArray, List.set_cons_succ, List.set_cons_zero]
      obtain ⟨W0, hb0, hl0, rfl⟩ := hW.fin (hL' 9 (by decide))
      have HS5 := Lib.hid (HS4.out.now HSR.out HRL0.out hb0 hl0)
      clear hI0 hL' hW hb0 hl0 HS4 HRN HSV HRH HRL C3 HBL D0 D1 D2 D3
      generalize grow SV V (W0.setCell ⟨r, 3, none⟩ nvv) = SV at HS5
      generalize W0.setCell ⟨r, 3, none⟩ nvv = V at HS5 ⊢
      have d0 : V.cell? ⟨w.heap.size, 0, none⟩ = some (.int .i64 5) := cell_of_heapN HS5.out.box
      have d1 : V.cell? ⟨w.heap.size, 1, none⟩ = some (.string old) := cell_of_heapN HS5.out.box
      have d2 : V.cell? ⟨w.heap.size, 2, none⟩ = some (.string name) := cell_of_heapN HS5.out.box
      have d3 : V.cell? ⟨w.heap.size, 3, none⟩ = some (.int .i64 file) := cell_of_heapN HS5.out.box
      have HSV := Lib.hid HS5.out.raw.lt
      have HRL := Lib.hid (HS5.out.raw.lt r HS5.out.raw.sr)
      obtain ⟨pp, pc, hpv⟩ := HS5.out.raw.pend.form
      obtain ⟨P, hP⟩ : ∃ P, ro.length = P := ⟨_, rfl⟩
      have hPn : P ≤ n := by
        have h1 := HS5.out.raw.pendE
        have h2 := HOK.out.safeN
        have h3 := congrArg List.length h1
        rw [List.length_map, hP] at h3
        have h3 : m.pend.length = P := h3
        omega
      rw [hP] at hpv
      subst hpv
      have HPL := Lib.hid hP
      have HRR := Lib.hid HS5.out.raw
      have HRP := Lib.hid HS5.out.raw.pend
      have C5 := Lib.hid HS5.out.raw.cells.2.2.2.2.2.1
      have HBL := Lib.hid (blk_lt HS5.out.box)
      have D0 := Lib.hid d0
      have D1 := Lib.hid d1
      have D2 := Lib.hid d2
      have D3 := Lib.hid d3
      obtain ⟨iO, hiO, hzO0, hzO1, hzO2⟩ := info_parts infoOp
      clear hP
      go_wp2_with fail
      have hI0 : PenW V r (.slice pp P pc) ro ⟨5, old, name, file⟩ (fun _ => false) (0, undef) V.drew := ⟨fun _ => (Below.refl _ V).drew, fun h => (by cases h), fun h => (by cases h), fun h => (by cases h), fun h => (by cases h), fun h => (by cases h), fun h => (by cases h)⟩
      refine wp_region_flowG (fun γ => [.pointer (some ⟨r, 0, none⟩), .pointer (some ⟨r, 0, none⟩), .pointer (some ⟨r, 0, none⟩), .pointer (some ⟨r, 5, none⟩), .slice pp P pc, .agg #[.int .i64 5, .string old, .string name, .int .i64 file], .slice (some ⟨γ.1, 0, none⟩) 1 1, γ.2, .pointer (some ⟨r, 0, none⟩), .pointer (some ⟨r, 5, none⟩), undef]) (PenW V r (.slice pp P pc) ro ⟨5, old, name, file⟩)
        [[], [], [1], [2], [3], [], [5], [4, 6], [0, 0, 1, 2, 3, 4, 5, 6, 7], [8, 0, 1, 2, 3, 4, 5, 6, 7], [9, 7, 7, 0, 1, 2, 3, 4, 5, 6, 7]] 165 (0, undef) mixedD rfl (by kernel_rfl) (fun _ => rfl) hI0 ?_ ?_
      · refine ⟨?_, ?_, ?_, ?_, ?_, ?_, ?_, ?_, ?_, ?_, ?_, rfl⟩
        all_goals intro L γ W ev hL hd hW hc hf hg he h0
        · have e0 : ev (.tmp 0) = .pointer (some ⟨r, 0, none⟩) := h0 0 rfl
          clear he h0 hc hf hg
          exact .inl ⟨rfl, .inl ⟨_, W, (by go_simp <;> rfl), .still (hW.upd 0 (by decide) (by decide) (by decide)) rfl⟩⟩
        · have e0 : ev (.tmp 0) = .pointer (some ⟨r, 0, none⟩) := h0 0 rfl
          clear he h0 hc hf hg
          exact .inl ⟨rfl, .inl ⟨_, W, (by go_simp <;> rfl), .still (hW.upd 1 (by decide) (by decide) (by decide)) rfl⟩⟩
        · have e149 : ev (.tmp 149) = .pointer (some ⟨r, 0, none⟩) := he 1 (by decide) _ 149 rfl rfl
          clear he h0 hc hf hg
          exact .inl ⟨rfl, .inl ⟨_, W, (by go_simp <;> rfl), .still (hW.upd 2 (by decide) (by decide) (by decide)) rfl⟩⟩
        · have e150 : ev (.tmp 150) = .pointer (some ⟨r, 0, none⟩) := he 2 (by decide) _ 150 rfl rfl
          clear he h0 hc hf hg
          exact .inl ⟨rfl, .inl ⟨_, W, (by go_simp <;> rfl), .still (hW.upd 3 (by decide) (by decide) (by decide)) rfl⟩⟩
        · have e151 : ev (.tmp 151) = .pointer (some ⟨r, 5, none⟩) := he 3 (by decide) _ 151 rfl rfl
          have c : W.cell? ⟨r, 5, none⟩ = some (.slice pp P pc) := (hW.same hL (by decide) r 5 HRL.out).trans C5.out
          clear he h0 hc hf hg
          exact .inl ⟨rfl, .inl ⟨_, W, (by go_simp <;> rfl), .still (hW.upd 4 (by decide) (by decide) (by decide)) rfl⟩⟩
        · have e4 : ev (.tmp 4) = .pointer (some ⟨w.heap.size, 0, none⟩) := h0 4 rfl
          have d0 : W.cell? ⟨w.heap.size, 0, none⟩ = some (.int .i64 5) := (hW.same hL (by decide) w.heap.size _ HBL.out).trans D0.out
          have d1 : W.cell? ⟨w.heap.size, 1, none⟩ = some (.string old) := (hW.same hL (by decide) w.heap.size _ HBL.out).trans D1.out
          have d2 : W.cell? ⟨w.heap.size, 2, none⟩ = some (.string name) := (hW.same hL (by decide) w.heap.size _ HBL.out).trans D2.out
          have d3 : W.cell? ⟨w.heap.size, 3, none⟩ = some (.int .i64 file) := (hW.same hL (by decide) w.heap.size _ HBL.out).trans D3.out
          clear he h0 hc hf hg
          exact .inl ⟨rfl, .inl ⟨_, W, (by go_simp <;> rfl), .still (hW.upd 5 (by decide) (by decide) (by decide)) rfl⟩⟩
        · have e153 : ev (.tmp 153) = .agg #[.int .i64 5, .string old, .string name, .int .i64 file] := he 5 (by decide) _ 153 rfl rfl
          clear he h0 hc hg
          refine .inl ⟨rfl, .inl ⟨_, W.alloc (.cells (ropCl ⟨5, old, name, file⟩) 98), (by clear hf; go_simp <;> rfl), (W.heap.size, γ.2), hW.boxed hL (hd 5 (by decide)), rfl, fun j hj => ?_⟩⟩
          have hj2 : j ≠ 6 := fun e => by subst e; rw [hL] at hj; cases hj
          match j, hj2 with
          | 0, _ | 1, _ | 2, _ | 3, _ | 4, _ | 5, _ | 7, _ | 8, _ | 9, _ | 10, _ => rfl
          | n + 11, _ => rfl
        · have e152 : ev (.tmp 152) = .slice pp P pc := he 4 (by decide) _ 152 rfl rfl
          have e154 : ev (.tmp 154) = .slice (some ⟨γ.1, 0, none⟩) 1 1 := he 6 (by decide) _ 154 rfl rfl
          clear he h0 hc hg
          have h4 := hd 4 (by decide)
          have h6 := hd 6 (by decide)
          have hbx := hW.box h6 hL
          have hb := hW.bel hL
          have hro : RopsS SV W (.slice pp P pc) ro := HRP.out.keep (fun b _ hS _ => hb.block b (HSV.out b hS))
          have hro1 := hro.1
          rw [HPL.out] at hro1
          obtain ⟨v', W', hr, hown, hg, -, hat⟩ := run_append_own_at (P := Tryz.prog) W 0 93 93 98 iO (.agg #[.int .i64 0, .string ⟨#[]⟩, .string ⟨#[]⟩, .int .i64 0]) 4 48 Tryz.underlying93 hiO hzO0 hzO1 hzO2 rfl (by decide) (.slice pp P pc) P (flatR ropCl ro) hro1 ⟨γ.1, 0, none⟩ 1 1 (ropCl ⟨5, old, name, file⟩).toList rfl (fun j u hu => (cellAdd hbx.1 j).trans (by rw [← hu, Array.getElem?_toList])) (ropCl_one ⟨5, old, name, file⟩) (by unfold maxLen; omega) (by omega) (Nat.zero_le _)
          refine .inl ⟨rfl, .inl ⟨v', W', (by clear hf; simp only [execOp, resolve, invoke, builtin, Sem.run_bind, Sem.run_pure, Result.andThen_ok, List.map_toArray, List.map_cons, List.map_nil, e152, e154, hr]), (γ.1, v'), hW.apped hL h4 h6 hg (by rw [HPL.out]; exact hown) hat, rfl, fun j hj => ?_⟩⟩
          have hj2 : j ≠ 7 := fun e => by subst e; rw [hL] at hj; cases hj
          match j, hj2 with
          | 0, _ | 1, _ | 2, _ | 3, _ | 4, _ | 5, _ | 6, _ | 8, _ | 9, _ | 10, _ => rfl
          | n + 11, _ => rfl
        · have e148 : ev (.tmp 148) = .pointer (some ⟨r, 0, none⟩) := he 0 (by decide) _ 148 rfl rfl
          clear he h0 hc hf hg
          exact .inl ⟨rfl, .inl ⟨_, W, (by go_simp <;> rfl), .still (hW.upd 8 (by decide) (by decide) (by decide)) rfl⟩⟩
        · have e156 : ev (.tmp 156) = .pointer (some ⟨r, 0, none⟩) := he 8 (by decide) _ 156 rfl rfl
          clear he h0 hc hf hg
          exact .inl ⟨rfl, .inl ⟨_, W, (by go_simp <;> rfl), .still (hW.upd 9 (by decide) (by decide) (by decide)) rfl⟩⟩
        · have e155 : ev (.tmp 155) = γ.2 := he 7 (by decide) _ 155 rfl rfl
          have e157 : ev (.tmp 157) = .pointer (some ⟨r, 5, none⟩) := he 9 (by decide) _ 157 rfl rfl
          clear he h0 hc hg
          have h7 : L 7 = true := hd 7 (by decide)
          obtain ⟨W0, p1, p2, p3, p4⟩ := hW.app h7 hL
          obtain ⟨up, uc, hu⟩ := owns_form p3
          have hap := (HRR.out.appOp HOF.out p1 p2 p4 p3).2.2
          have cq : W.cell? ⟨r, 5, none⟩ = some (.slice pp P pc) := cell_of_heapN hap
          have cf : W.frozen? ⟨r, 5, none⟩ = false := frozen_blk hap
          have hfin := hW.stored hL h7
          rw [hu] at e155
          refine .inl ⟨rfl, .inr (.inl ⟨W.setCell ⟨r, 5, none⟩ γ.2, ?_, .still hfin rfl⟩)⟩
          rw [hu]
          clear hf hfin hW hu p1 p2 p3 p4 hap
          go_simp
      · intro γ L' W hL' hW
        obtain ⟨tb, γv⟩ := γ
        obtain ⟨W0, W1, p1, p2, p3, p4, rfl⟩ := hW.fin (hL' 10 (by decide))
        simp only [putAll, Act.put, List.setIfInBounds_toArray, List.set_cons_succ, List.set_cons_zero]
        obtain ⟨SV6, q1, q2, q3⟩ := HS5.out.pen HSR.out HRL0.out HLT.out HOF.out p1 p2 p4 p3
        have hpo : RefRaw (W1.setCell ⟨r, 5, none⟩ γv) r (m.tick.act (.remove name)) SV6 (fv) nvv sv γv kv (ro ++ [⟨5, old, name, file⟩]) := by
          have e : m.tick.act (.remove name) = { { (m.tick : DM) with now := (ROp.dop ⟨5, old, name, file⟩).act T } with pend := (m.tick : DM).pend ++ [ROp.dop ⟨5, old, name, file⟩] } := by
            rw [← HTT.out]
            rfl
          rw [e]
          exact q1
        have HP1 := Lib.hid (show RefPost r (n + 1) (m.tick.act (.remove name)) S w (W1.setCell ⟨r, 5, none⟩ γv) from
          ⟨⟨⟨_, _, _, _, _, _, hpo.sup q3 (fun b hb => hb.elim (fun hb => Nat.lt_of_lt_of_le (HLT.out b hb) q2.size) (fun hb => hb.2))⟩, HACT.out, Nat.le_trans hfn (Nat.le_succ n)⟩, q2⟩)
        have C7 := Lib.hid hpo.cells.2.2.2.2.2.2.2
        have HKP := Lib.hid (show IntsOwn SV6 (W1.setCell ⟨r, 5, none⟩ γv) kv m.keep from by have := hpo.keep; rwa [show (m.tick.act (.remove name)).keep = m.keep from act_keep m.tick _] at this)
        have HSUB := Lib.hid q3
        clear hL' hW p1 p2 p3 p4 q1 q2 q3 hpo hI0
        generalize W1.setCell ⟨r, 5, none⟩ γv = V6 at HP1 C7 HKP HSUB ⊢
        have c7 := C7.out
        have hir : IntsRd (grow S w (V6)) (V6) kv m.keep := (IntsOwn.rd (S := grow S w (V6)) ⟨HKP.out.1, fun b hb => HSUB.out b (HKP.out.2 b hb)⟩ HOK.out.keepI)
        have HFL := Lib.hid (refFail_any HP1.out.1 kv m.keep hir (by omega))
        clear hir
        go_wp2_with fail
        refine HFL.out.mono ?_
        rintro e V7 ⟨rfl, hp1, hp2⟩
        have HP7 := Lib.hid (show RefPost r (n + 1) ((m.tick.act (.remove name)).fail m.keep) S w V7 from ⟨hp1.sup (fun b hb => (grow_grow HP1.out.2.size hp2.size b).1 hb) (fun b hb => hb.elim (fun hb => Nat.lt_of_lt_of_le (HLT.out b hb) (Nat.le_trans HP1.out.2.size hp2.size)) (fun hb => hb.2)), HP1.out.2.trG hp2⟩)
        clear hp1 hp2
        go_wp2_with fail
        go_ret
        exact ⟨by rw [HDO.out]; rfl, by rw [HDO.out]; exact HP7.out⟩
  · have htk : m.tick = { m with armed := (m.armed - 1) } := tick_eq (by rw [if_pos (by omega)])
    have c6 := HS1.out.raw.cells.2.2.2.2.2.2.1
    have f6 : w1.frozen? ⟨r, 6, none⟩ = false := frozen_blk HS1.out.raw.head
    have hb1 : (m.armed == 1) = false := beq_eq_false_iff_ne.2 (by omega)
    have hb2 : (0 : Int) < m.armed := by omega
    have hq := HS1.out.raw.put (m' := { m with armed := (m.armed - 1) }) 6 (.int .i64 (m.armed - 1)) rfl HS1.out.raw.now HS1.out.raw.safe HS1.out.raw.pend HS1.out.raw.keep rfl HS1.out.raw.pendE HS1.out.raw.opsF
    have HS2 : Hid (DoS w (w1.setCell ⟨r, 6, none⟩ (.int .i64 (m.armed - 1))) r m.tick S S fv nv sv pv kv ro #[.int .i64 5, .string old, .string name, .int .i64 file]) := Lib.hid ⟨by rw [htk]; exact hq, HS1.out.off.setCell _ _ (fun _ => HSR.out), fun b hb => .inl hb, (Below.heap_setCell _ _ _ _ (fun e => by have e : w.heap.size = r := e; have := HRL0.out; omega)).trans HS1.out.box⟩
    have HDO := Lib.hid (op_do hoff href (by omega))
    clear hq
    clear htk
    go_wp2_with fail
    generalize w1.setCell ⟨r, 6, none⟩ (.int .i64 (m.armed - 1)) = w2 at HS2 ⊢
    clear HS1 c6 f6 hb1 hb2
    have H3 := Lib.hid HS2.out.raw
    obtain ⟨np, nc, hnv⟩ := HS2.out.raw.now.form
    have c3 := HS2.out.raw.cells.2.2.2.1
    obtain ⟨N, hN⟩ : ∃ N, m.tick.now.length = N := ⟨_, rfl⟩
    rw [hN] at hnv
    subst hnv
    have hNn : N ≤ n := by rw [← hN]; exact HOK.out.nowN
    have HN := Lib.hid hN
    have d2 : w2.cell? ⟨w.heap.size, 2, none⟩ = some (.string name) := cell_of_heapN HS2.out.box
    have hat : ∀ q, Calls Tryz.prog 86 #[.slice np N nc, .string name] (w2.drewN q) fun e w' => e = .returned (.int .i64 (tidx m.now name.data.toList)) ∧ w' = w2.drewN q := fun q =>
      (at_any (HS2.out.drews q).raw.now name (Nat.le_trans HOK.out.nowN (by omega))).mono (fun e w' hp => ⟨hp.1, hp.2.symm⟩)
    have hg : ∃ i, tget m.now name.data.toList = some i := by
      have h := href
      simp only [DM.refused] at h
      cases hg : tget m.now name.data.toList with
      | some i => exact ⟨i, rfl⟩
      | none =>
        simp only [DM.get, hg] at h
        cases h
    obtain ⟨i, hg⟩ := hg
    obtain ⟨j, hj, hjt⟩ := tidx_some hg
    rw [hj] at hat
    have hjn : (j : Int) < (N : Int) := by have := (List.getElem?_eq_some_iff.1 hjt).1; have e : m.now.length = N := HN.out; omega
    have hj0 : (0 : Int) ≤ (j : Int) := by omega
    have HJT := Lib.hid hjt
    have HG := Lib.hid hg
    clear hj hjt hg
    have HAT := Lib.hid hat
    clear hat hN H3
    go_quiet ((go_at_call 86; exact Calls.quiet_of_same (HAT.out _)))
    rename_i nq
    have HS3 := Lib.hid (HS2.out.drews nq)
    generalize w2.drewN nq = V at HS3 ⊢
    clear HS2 c3 d2 HAT
    have d0 : V.cell? ⟨w.heap.size, 0, none⟩ = some (.int .i64 5) := cell_of_heapN HS3.out.box
    have d1 : V.cell? ⟨w.heap.size, 1, none⟩ = some (.string old) := cell_of_heapN HS3.out.box
    have d2 : V.cell? ⟨w.heap.size, 2, none⟩ = some (.string name) := cell_of_heapN HS3.out.box
    have d3 : V.cell? ⟨w.heap.size, 3, none⟩ = some (.int .i64 file) := cell_of_heapN HS3.out.box
    go_wp2_with fail
    obtain ⟨SV, hSV⟩ : ∃ SV, SV = S := ⟨_, rfl⟩
    have HS4 : Hid (DoS w V r m.tick S SV fv (.slice np N nc) sv pv kv ro #[.int .i64 5, .string old, .string name, .int .i64 file]) := Lib.hid (by rw [hSV]; exact HS3.out)
    clear HS3 hSV
    have HRN := Lib.hid HS4.out.raw.now
    have HSV := Lib.hid HS4.out.raw.lt
    have HRH := Lib.hid HS4.out.raw.head
    have HRL := Lib.hid (HS4.out.raw.lt r HS4.out.raw.sr)
    have C3 := Lib.hid HS4.out.raw.cells.2.2.2.1
    have HBL := Lib.hid (blk_lt HS4.out.box)
    have D0 := Lib.hid d0
    have D1 := Lib.hid d1
    have D2 := Lib.hid d2
    have D3 := Lib.hid d3
    have HTR := Lib.hid HOK.out.now
    have HTL := Lib.hid (show m.now.length ≤ 2000000000000 by have := HOK.out.nowN; omega)
    have HTI := Lib.hid (fun (p : Bs × Nat) (hp : p ∈ m.now) => show (p.2 : Int) ≤ 9223372036854775807 by have := HOK.out.nowI p hp; omega)
    have HOF := Lib.hid (show ((file : Nat) : Int) ≤ 9223372036854775807 by omega)
    obtain ⟨T, hT⟩ : ∃ T, m.now = T := ⟨_, rfl⟩
    have HTT := Lib.hid hT
    have HRN : Hid (LinksS SV V (.slice np N nc) T) := Lib.hid (by rw [← hT]; exact HRN.out)
    rw [hT] at HTR HTL HTI
    clear hT
    have hI0 : NowW V r SV ((ROp.dop ⟨5, old, name, file⟩).act T) (fun _ => false) undef V.drew := ⟨fun _ => (Below.refl _ V).drew, fun h => (by cases h), fun h => (by cases h), fun h => (by cases h), fun h => (by cases h)⟩
    refine wp_region_flowG (fun γ => [.pointer (some ⟨r, 0, none⟩), .pointer (some ⟨r, 0, none⟩), .pointer (some ⟨r, 0, none⟩), .pointer (some ⟨r, 3, none⟩), .slice np N nc, .agg #[.int .i64 5, .string old, .string name, .int .i64 file], γ, .pointer (some ⟨r, 0, none⟩), .pointer (some ⟨r, 3, none⟩), undef]) (NowW V r SV ((ROp.dop ⟨5, old, name, file⟩).act T))
      [[], [], [1], [2], [3], [], [4, 5], [0, 0, 1, 2, 3, 4, 5, 6], [7, 0, 1, 2, 3, 4, 5, 6], [8, 6, 6, 0, 1, 2, 3, 4, 5, 6]] 165 undef mixedD rfl (by kernel_rfl) (fun _ => rfl) hI0 ?_ ?_
    · refine ⟨?_, ?_, ?_, ?_, ?_, ?_, ?_, ?_, ?_, ?_, rfl⟩
      all_goals intro L γ W ev hL hd hW hc hf hg he h0
      · have e0 : ev (.tmp 0) = .pointer (some ⟨r, 0, none⟩) := h0 0 rfl
        clear he h0 hc hf hg
        exact .inl ⟨rfl, .inl ⟨_, W, (by go_simp <;> rfl), .still (hW.upd 0 (by decide) (by decide) (fun e => by cases e)) rfl⟩⟩
      · have e0 : ev (.tmp 0) = .pointer (some ⟨r, 0, none⟩) := h0 0 rfl
        clear he h0 hc hf hg
        exact .inl ⟨rfl, .inl ⟨_, W, (by go_simp <;> rfl), .still (hW.upd 1 (by decide) (by decide) (fun e => by cases e)) rfl⟩⟩
      · have e140 : ev (.tmp 140) = .pointer (some ⟨r, 0, none⟩) := he 1 (by decide) _ 140 rfl rfl
        clear he h0 hc hf hg
        exact .inl ⟨rfl, .inl ⟨_, W, (by go_simp <;> rfl), .still (hW.upd 2 (by decide) (by decide) (fun e => by cases e)) rfl⟩⟩
      · have e141 : ev (.tmp 141) = .pointer (some ⟨r, 0, none⟩) := he 2 (by decide) _ 141 rfl rfl
        clear he h0 hc hf hg
        exact .inl ⟨rfl, .inl ⟨_, W, (by go_simp <;> rfl), .still (hW.upd 3 (by decide) (by decide) (fun e => by cases e)) rfl⟩⟩
      · have e142 : ev (.tmp 142) = .pointer (some ⟨r, 3, none⟩) := he 3 (by decide) _ 142 rfl rfl
        have c : W.cell? ⟨r, 3, none⟩ = some (.slice np N nc) := (hW.same hL (by decide) r 3 HRL.out).trans C3.out
        clear he h0 hc hf hg
        exact .inl ⟨rfl, .inl ⟨_, W, (by go_simp <;> rfl), .still (hW.upd 4 (by decide) (by decide) (fun e => by cases e)) rfl⟩⟩
      · have e4 : ev (.tmp 4) = .pointer (some ⟨w.heap.size, 0, none⟩) := h0 4 rfl
        have d0 : W.cell? ⟨w.heap.size, 0, none⟩ = some (.int .i64 5) := (hW.same hL (by decide) w.heap.size _ HBL.out).trans D0.out
        have d1 : W.cell? ⟨w.heap.size, 1, none⟩ = some (.string old) := (hW.same hL (by decide) w.heap.size _ HBL.out).trans D1.out
        have d2 : W.cell? ⟨w.heap.size, 2, none⟩ = some (.string name) := (hW.same hL (by decide) w.heap.size _ HBL.out).trans D2.out
        have d3 : W.cell? ⟨w.heap.size, 3, none⟩ = some (.int .i64 file) := (hW.same hL (by decide) w.heap.size _ HBL.out).trans D3.out
        clear he h0 hc hf hg
        exact .inl ⟨rfl, .inl ⟨_, W, (by go_simp <;> rfl), .still (hW.upd 5 (by decide) (by decide) (fun e => by cases e)) rfl⟩⟩
      · have e143 : ev (.tmp 143) = .slice np N nc := he 4 (by decide) _ 143 rfl rfl
        have e144 : ev (.tmp 144) = .agg #[.int .i64 5, .string old, .string name, .int .i64 file] := he 5 (by decide) _ 144 rfl rfl
        clear he h0 hc hg
        have hb := hW.bel (hW.off hL (by decide))
        have hl : LinksS SV W (.slice np N nc) T := HRN.out.keep (fun b _ hS _ => hb.block b (HSV.out b hS))
        refine .inl ⟨rfl, .inr (.inr ⟨87, #[.slice np N nc, .agg (ropCl ⟨5, old, name, file⟩)], W, (by have hff := hf 87; clear hf; go_simp <;> rfl), ?_⟩)⟩
        refine (done_any hl (fun b hS => Nat.lt_of_lt_of_le (HSV.out b hS) hb.size) HTR.out ⟨5, old, name, file⟩ HTL.out HTI.out HOF.out).mono ?_
        rintro e w' ⟨u, rfl, hg, hb2⟩
        exact ⟨u, rfl, u, hW.called hL hg hb2, rfl, fun j hj => by
          have hj2 : j ≠ 6 := fun e => by subst e; rw [hL] at hj; cases hj
          match j, hj2 with
          | 0, _ | 1, _ | 2, _ | 3, _ | 4, _ | 5, _ | 7, _ | 8, _ | 9, _ => rfl
          | n + 10, _ => rfl⟩
      · have e139 : ev (.tmp 139) = .pointer (some ⟨r, 0, none⟩) := he 0 (by decide) _ 139 rfl rfl
        clear he h0 hc hf hg
        exact .inl ⟨rfl, .inl ⟨_, W, (by go_simp <;> rfl), .still (hW.upd 7 (by decide) (by decide) (fun e => by cases e)) rfl⟩⟩
      · have e146 : ev (.tmp 146) = .pointer (some ⟨r, 0, none⟩) := he 7 (by decide) _ 146 rfl rfl
        clear he h0 hc hf hg
        exact .inl ⟨rfl, .inl ⟨_, W, (by go_simp <;> rfl), .still (hW.upd 8 (by decide) (by decide) (fun _ => hd 7 (by decide))) rfl⟩⟩
      · have e145 : ev (.tmp 145) = γ := he 6 (by decide) _ 145 rfl rfl
        have e147 : ev (.tmp 147) = .pointer (some ⟨r, 3, none⟩) := he 8 (by decide) _ 147 rfl rfl
        clear he h0 hc hg
        have h6 : L 6 = true := hd 6 (by decide)
        have hone := hW.one h6 hL
        obtain ⟨up, uc, hu⟩ := hone.form
        have hb := hW.bel hL
        have cq : W.cell? ⟨r, 3, none⟩ = some (.slice np N nc) := (cell_of_heap (hb.block r HRL.out)).trans C3.out
        have cf : W.frozen? ⟨r, 3, none⟩ = false := frozen_blk ((hb.block r HRL.out).trans HRH.out)
        have hfin := hW.stored hL h6 (fun j hj => by
          by_cases e : j = 7
          · subst e; exact hW.c8 (hd 8 (by decide))
          · exact hd j (by have : j = 0 ∨ j = 1 ∨ j = 2 ∨ j = 3 ∨ j = 4 ∨ j = 5 ∨ j = 6 ∨ j = 8 := (by omega); rcases this with rfl | rfl | rfl | rfl | rfl | rfl | rfl | rfl <;> decide))
        subst hu
        refine .inl ⟨rfl, .inr (.inl ⟨W.setCell ⟨r, 3, none⟩ (.slice up (DOp.act (ROp.dop ⟨5, old, name, file⟩) T).length uc), ?_, .still hfin rfl⟩)⟩
        clear hf hone hfin hW
        go_simp
    · intro nvv L' W hL' hW
      simp only [putAll, Act.put, List.setIfInBounds_toArray, List.set_cons_succ, List.set_cons_zero]
      obtain ⟨W0, hb0, hl0, rfl⟩ := hW.fin (hL' 9 (by decide))
      have HS5 := Lib.hid (HS4.out.now HSR.out HRL0.out hb0 hl0)
      clear hI0 hL' hW hb0 hl0 HS4 HRN HSV HRH HRL C3 HBL D0 D1 D2 D3
      generalize grow SV V (W0.setCell ⟨r, 3, none⟩ nvv) = SV at HS5
      generalize W0.setCell ⟨r, 3, none⟩ nvv = V at HS5 ⊢
      have d0 : V.cell? ⟨w.heap.size, 0, none⟩ = some (.int .i64 5) := cell_of_heapN HS5.out.box
      have d1 : V.cell? ⟨w.heap.size, 1, none⟩ = some (.string old) := cell_of_heapN HS5.out.box
      have d2 : V.cell? ⟨w.heap.size, 2, none⟩ = some (.string name) := cell_of_heapN HS5.out.box
      have d3 : V.cell? ⟨w.heap.size, 3, none⟩ = some (.int .i64 file) := cell_of_heapN HS5.out.box
      have HSV := Lib.hid HS5.out.raw.lt
      have HRL := Lib.hid (HS5.out.raw.lt r HS5.out.raw.sr)
      obtain ⟨pp, pc, hpv⟩ := HS5.out.raw.pend.form
      obtain ⟨P, hP⟩ : ∃ P, ro.length = P := ⟨_, rfl⟩
      have hPn : P ≤ n := by
        have h1 := HS5.out.raw.pendE
        have h2 := HOK.out.safeN
        have h3 := congrArg List.length h1
        rw [List.length_map, hP] at h3
        have h3 : m.pend.length = P := h3
        omega
      rw [hP] at hpv
      subst hpv
      have HPL := Lib.hid hP
      have HRR := Lib.hid HS5.out.raw
      have HRP := Lib.hid HS5.out.raw.pend
      have C5 := Lib.hid HS5.out.raw.cells.2.2.2.2.2.1
      have HBL := Lib.hid (blk_lt HS5.out.box)
      have D0 := Lib.hid d0
      have D1 := Lib.hid d1
      have D2 := Lib.hid d2
      have D3 := Lib.hid d3
      obtain ⟨iO, hiO, hzO0, hzO1, hzO2⟩ := info_parts infoOp
      clear hP
      go_wp2_with fail
      have hI0 : PenW V r (.slice pp P pc) ro ⟨5, old, name, file⟩ (fun _ => false) (0, undef) V.drew := ⟨fun _ => (Below.refl _ V).drew, fun h => (by cases h), fun h => (by cases h), fun h => (by cases h), fun h => (by cases h), fun h => (by cases h), fun h => (by cases h)⟩
      refine wp_region_flowG (fun γ => [.pointer (some ⟨r, 0, none⟩), .pointer (some ⟨r, 0, none⟩), .pointer (some ⟨r, 0, none⟩), .pointer (some ⟨r, 5, none⟩), .slice pp P pc, .agg #[.int .i64 5, .string old, .string name, .int .i64 file], .slice (some ⟨γ.1, 0, none⟩) 1 1, γ.2, .pointer (some ⟨r, 0, none⟩), .pointer (some ⟨r, 5, none⟩), undef]) (PenW V r (.slice pp P pc) ro ⟨5, old, name, file⟩)
        [[], [], [1], [2], [3], [], [5], [4, 6], [0, 0, 1, 2, 3, 4, 5, 6, 7], [8, 0, 1, 2, 3, 4, 5, 6, 7], [9, 7, 7, 0, 1, 2, 3, 4, 5, 6, 7]] 165 (0, undef) mixedD rfl (by kernel_rfl) (fun _ => rfl) hI0 ?_ ?_
      · refine ⟨?_, ?_, ?_, ?_, ?_, ?_, ?_, ?_, ?_, ?_, ?_, rfl⟩
        all_goals intro L γ W ev hL hd hW hc hf hg he h0
        · have e0 : ev (.tmp 0) = .pointer (some ⟨r, 0, none⟩) := h0 0 rfl
          clear he h0 hc hf hg
          exact .inl ⟨rfl, .inl ⟨_, W, (by go_simp <;> rfl), .still (hW.upd 0 (by decide) (by decide) (by decide)) rfl⟩⟩
        · have e0 : ev (.tmp 0) = .pointer (some ⟨r, 0, none⟩) := h0 0 rfl
          clear he h0 hc hf hg
          exact .inl ⟨rfl, .inl ⟨_, W, (by go_simp <;> rfl), .still (hW.upd 1 (by decide) (by decide) (by decide)) rfl⟩⟩
        · have e149 : ev (.tmp 149) = .pointer (some ⟨r, 0, none⟩) := he 1 (by decide) _ 149 rfl rfl
          clear he h0 hc hf hg
          exact .inl ⟨rfl, .inl ⟨_, W, (by go_simp <;> rfl), .still (hW.upd 2 (by decide) (by decide) (by decide)) rfl⟩⟩
        · have e150 : ev (.tmp 150) = .pointer (some ⟨r, 0, none⟩) := he 2 (by decide) _ 150 rfl rfl
          clear he h0 hc hf hg
          exact .inl ⟨rfl, .inl ⟨_, W, (by go_simp <;> rfl), .still (hW.upd 3 (by decide) (by decide) (by decide)) rfl⟩⟩
        · have e151 : ev (.tmp 151) = .pointer (some ⟨r, 5, none⟩) := he 3 (by decide) _ 151 rfl rfl
          have c : W.cell? ⟨r, 5, none⟩ = some (.slice pp P pc) := (hW.same hL (by decide) r 5 HRL.out).trans C5.out
          clear he h0 hc hf hg
          exact .inl ⟨rfl, .inl ⟨_, W, (by go_simp <;> rfl), .still (hW.upd 4 (by decide) (by decide) (by decide)) rfl⟩⟩
        · have e4 : ev (.tmp 4) = .pointer (some ⟨w.heap.size, 0, none⟩) := h0 4 rfl
          have d0 : W.cell? ⟨w.heap.size, 0, none⟩ = some (.int .i64 5) := (hW.same hL (by decide) w.heap.size _ HBL.out).trans D0.out
          have d1 : W.cell? ⟨w.heap.size, 1, none⟩ = some (.string old) := (hW.same hL (by decide) w.heap.size _ HBL.out).trans D1.out
          have d2 : W.cell? ⟨w.heap.size, 2, none⟩ = some (.string name) := (hW.same hL (by decide) w.heap.size _ HBL.out).trans D2.out
          have d3 : W.cell? ⟨w.heap.size, 3, none⟩ = some (.int .i64 file) := (hW.same hL (by decide) w.heap.size _ HBL.out).trans D3.out
          clear he h0 hc hf hg
          exact .inl ⟨rfl, .inl ⟨_, W, (by go_simp <;> rfl), .still (hW.upd 5 (by decide) (by decide) (by decide)) rfl⟩⟩
        · have e153 : ev (.tmp 153) = .agg #[.int .i64 5, .string old, .string name, .int .i64 file] := he 5 (by decide) _ 153 rfl rfl
          clear he h0 hc hg
          refine .inl ⟨rfl, .inl ⟨_, W.alloc (.cells (ropCl ⟨5, old, name, file⟩) 98), (by clear hf; go_simp <;> rfl), (W.heap.size, γ.2), hW.boxed hL (hd 5 (by decide)), rfl, fun j hj => ?_⟩⟩
          have hj2 : j ≠ 6 := fun e => by subst e; rw [hL] at hj; cases hj
          match j, hj2 with
          | 0, _ | 1, _ | 2, _ | 3, _ | 4, _ | 5, _ | 7, _ | 8, _ | 9, _ | 10, _ => rfl
          | n + 11, _ => rfl
        · have e152 : ev (.tmp 152) = .slice pp P pc := he 4 (by decide) _ 152 rfl rfl
          have e154 : ev (.tmp 154) = .slice (some ⟨γ.1, 0, none⟩) 1 1 := he 6 (by decide) _ 154 rfl rfl
          clear he h0 hc hg
          have h4 := hd 4 (by decide)
          have h6 := hd 6 (by decide)
          have hbx := hW.box h6 hL
          have hb := hW.bel hL
          have hro : RopsS SV W (.slice pp P pc) ro := HRP.out.keep (fun b _ hS _ => hb.block b (HSV.out b hS))
          have hro1 := hro.1
          rw [HPL.out] at hro1
          obtain ⟨v', W', hr, hown, hg, -, hat⟩ := run_append_own_at (P := Tryz.prog) W 0 93 93 98 iO (.agg #[.int .i64 0, .string ⟨#[]⟩, .string ⟨#[]⟩, .int .i64 0]) 4 48 Tryz.underlying93 hiO hzO0 hzO1 hzO2 rfl (by decide) (.slice pp P pc) P (flatR ropCl ro) hro1 ⟨γ.1, 0, none⟩ 1 1 (ropCl ⟨5, old, name, file⟩).toList rfl (fun j u hu => (cellAdd hbx.1 j).trans (by rw [← hu, Array.getElem?_toList])) (ropCl_one ⟨5, old, name, file⟩) (by unfold maxLen; omega) (by omega) (Nat.zero_le _)
          refine .inl ⟨rfl, .inl ⟨v', W', (by clear hf; simp only [execOp, resolve, invoke, builtin, Sem.run_bind, Sem.run_pure, Result.andThen_ok, List.map_toArray, List.map_cons, List.map_nil, e152, e154, hr]), (γ.1, v'), hW.apped hL h4 h6 hg (by rw [HPL.out]; exact hown) hat, rfl, fun j hj => ?_⟩⟩
          have hj2 : j ≠ 7 := fun e => by subst e; rw [hL] at hj; cases hj
          match j, hj2 with
          | 0, _ | 1, _ | 2, _ | 3, _ | 4, _ | 5, _ | 6, _ | 8, _ | 9, _ | 10, _ => rfl
          | n + 11, _ => rfl
        · have e148 : ev (.tmp 148) = .pointer (some ⟨r, 0, none⟩) := he 0 (by decide) _ 148 rfl rfl
          clear he h0 hc hf hg
          exact .inl ⟨rfl, .inl ⟨_, W, (by go_simp <;> rfl), .still (hW.upd 8 (by decide) (by decide) (by decide)) rfl⟩⟩
        · have e156 : ev (.tmp 156) = .pointer (some ⟨r, 0, none⟩) := he 8 (by decide) _ 156 rfl rfl
          clear he h0 hc hf hg
          exact .inl ⟨rfl, .inl ⟨_, W, (by go_simp <;> rfl), .still (hW.upd 9 (by decide) (by decide) (by decide)) rfl⟩⟩
        · have e155 : ev (.tmp 155) = γ.2 := he 7 (by decide) _ 155 rfl rfl
          have e157 : ev (.tmp 157) = .pointer (some ⟨r, 5, none⟩) := he 9 (by decide) _ 157 rfl rfl
          clear he h0 hc hg
          have h7 : L 7 = true := hd 7 (by decide)
          obtain ⟨W0, p1, p2, p3, p4⟩ := hW.app h7 hL
          obtain ⟨up, uc, hu⟩ := owns_form p3
          have hap := (HRR.out.appOp HOF.out p1 p2 p4 p3).2.2
          have cq : W.cell? ⟨r, 5, none⟩ = some (.slice pp P pc) := cell_of_heapN hap
          have cf : W.frozen? ⟨r, 5, none⟩ = false := frozen_blk hap
          have hfin := hW.stored hL h7
          rw [hu] at e155
          refine .inl ⟨rfl, .inr (.inl ⟨W.setCell ⟨r, 5, none⟩ γ.2, ?_, .still hfin rfl⟩)⟩
          rw [hu]
          clear hf hfin hW hu p1 p2 p3 p4 hap
          go_simp
      · intro γ L' W hL' hW
        obtain ⟨tb, γv⟩ := γ
        obtain ⟨W0, W1, p1, p2, p3, p4, rfl⟩ := hW.fin (hL' 10 (by decide))
        simp only [putAll, Act.put, List.setIfInBounds_toArray, List.set_cons_succ, List.set_cons_zero]
        obtain ⟨SV6, q1, q2, q3⟩ := HS5.out.pen HSR.out HRL0.out HLT.out HOF.out p1 p2 p4 p3
        have hpo : RefRaw (W1.setCell ⟨r, 5, none⟩ γv) r (m.tick.act (.remove name)) SV6 (fv) nvv sv γv kv (ro ++ [⟨5, old, name, file⟩]) := by
          have e : m.tick.act (.remove name) = { { (m.tick : DM) with now := (ROp.dop ⟨5, old, name, file⟩).act T } with pend := (m.tick : DM).pend ++ [ROp.dop ⟨5, old, name, file⟩] } := by
            rw [← HTT.out]
            rfl
          rw [e]
          exact q1
        have HP1 := Lib.hid (show RefPost r (n + 1) (m.tick.act (.remove name)) S w (W1.setCell ⟨r, 5, none⟩ γv) from
          ⟨⟨⟨_, _, _, _, _, _, hpo.sup q3 (fun b hb => hb.elim (fun hb => Nat.lt_of_lt_of_le (HLT.out b hb) q2.size) (fun hb => hb.2))⟩, HACT.out, Nat.le_trans hfn (Nat.le_succ n)⟩, q2⟩)
        have C7 := Lib.hid hpo.cells.2.2.2.2.2.2.2
        have HKP := Lib.hid (show IntsOwn SV6 (W1.setCell ⟨r, 5, none⟩ γv) kv m.keep from by have := hpo.keep; rwa [show (m.tick.act (.remove name)).keep = m.keep from act_keep m.tick _] at this)
        have HSUB := Lib.hid q3
        clear hL' hW p1 p2 p3 p4 q1 q2 q3 hpo hI0
        generalize W1.setCell ⟨r, 5, none⟩ γv = V6 at HP1 C7 HKP HSUB ⊢
        go_wp2_with fail
        go_ret
        exact ⟨by rw [HDO.out]; rfl, by rw [HDO.out]; exact HP1.out⟩
set_option maxHeartbeats 3200000 in
set_option maxRecDepth 100000 in
theorem refDo_any {w : World} {r n : Nat} {m : DM} {S : Nat → Prop} (h : RefAt w r n m S) (o : ROp) (s : ByteArray) (hk1 : 1 ≤ o.kind) (hk2 : o.kind ≤ 6) (hn : n * m.room ≤ 4611686018427387904) (hn2 : n + 1 ≤ 1000000000000) (hs : s.size ≤ 140737488355328) (hof : (o.file : Int) ≤ 9223372036854775807) :
    Calls Tryz.prog 50 #[.pointer (some ⟨r, 0, none⟩), .agg (ropCl o), .string s] w fun e w' => e = .returned (.int .i64 (m.op (rcall o s)).2) ∧ RefPost r (n + 1) (m.op (rcall o s)).1 S w w' := by
  cases ho : m.off with
  | true =>
    have e : m.op (rcall o s) = (m, 27) := by unfold DM.op; rw [if_pos ho]
    rw [e]
    have hb0 := (Below.refl w.heap.size w).alloc (Nat.le_refl _) (.cells (ropCl o) 98)
    obtain ⟨⟨fv, nv, sv, pv, kv, ro, h1⟩, -, -⟩ := h.below hb0
    have c0 := h1.cells.1
    rw [ho] at c0
    have H := Lib.hid h
    have HB := Lib.hid hb0
    clear h h1 hb0
    obtain ⟨kind, old, name, file⟩ := o
    change World.cell? (w.alloc (.cells #[.int .i64 kind, .string old, .string name, .int .i64 file] 98)) _ = _ at c0
    show Calls _ _ #[_, .agg #[.int .i64 kind, .string old, .string name, .int .i64 file], _] w _
    go_enter Tryz.func50, Tryz.ntmps50
    go_wp2_with fail
    go_ret
    exact ⟨rfl, ⟨((H.out.below HB.out).sup (fun b hb => .inl hb) (fun b hb => hb.elim (fun hb => Nat.lt_of_lt_of_le (H.out.lt b hb) HB.out.size) (fun hb => hb.2))).more (Nat.le_succ n), (Off.refl S w).below HB.out (Nat.le_refl _)⟩⟩
  | false =>
    by_cases hr : m.refused (rcall o s) = 0
    · obtain ⟨kind, old, name, file⟩ := o
      have hk1 : 1 ≤ kind := hk1
      have hk2 : kind ≤ 6 := hk2
      have hway : kind = 1 ∨ kind = 2 ∨ kind = 3 ∨ kind = 4 ∨ kind = 5 ∨ kind = 6 := by omega
      rcases hway with rfl | rfl | rfl | rfl | rfl | rfl
      · exact refDo_create h old name s file hn hn2 hs hof ho hr
      · exact refDo_write h old name s file hn hn2 hs hof ho hr
      · exact refDo_sync h old name s file hn hn2 hs hof ho hr
      · exact refDo_rename h old name s file hn hn2 hs hof ho hr
      · exact refDo_remove h old name s file hn hn2 hs hof ho hr
      · exact refDo_flush h old name s file hn hn2 hs hof ho hr
    · have e : m.op (rcall o s) = (m, m.refused (rcall o s)) := by unfold DM.op; rw [if_neg (by rw [ho]; exact Bool.false_ne_true), if_pos hr]
      rw [e]
      have hb0 := (Below.refl w.heap.size w).alloc (Nat.le_refl _) (.cells (ropCl o) 98)
      have hrf := refused_any (h.below hb0) o s hk1 hk2 hn (by omega) hs
      obtain ⟨⟨fv, nv, sv, pv, kv, ro, h1⟩, -, -⟩ := h.below hb0
      have c0 := h1.cells.1
      have hbx := heap_new w (.cells (ropCl o) 98)
      rw [ho] at c0
      have H := Lib.hid h
      have HB := Lib.hid hb0
      obtain ⟨kind, old, name, file⟩ := o
      have HREF := Lib.hid hrf
      have HR := Lib.hid hr
      clear h h1 hb0 hrf hr e
      generalize m.refused (rcall ⟨kind, old, name, file⟩ s) = rr at HREF HR ⊢
      have hbr : (rr == 0) = false := beq_eq_false_iff_ne.2 HR.out
      have hbr2 : (rr != 0) = true := by simp [HR.out]
      have d0 : (w.alloc (.cells #[.int .i64 kind, .string old, .string name, .int .i64 file] 98)).cell? ⟨w.heap.size, 0, none⟩ = some (.int .i64 kind) := cell_of_heapN hbx
      have d1 : (w.alloc (.cells #[.int .i64 kind, .string old, .string name, .int .i64 file] 98)).cell? ⟨w.heap.size, 1, none⟩ = some (.string old) := cell_of_heapN hbx
      have d2 : (w.alloc (.cells #[.int .i64 kind, .string old, .string name, .int .i64 file] 98)).cell? ⟨w.heap.size, 2, none⟩ = some (.string name) := cell_of_heapN hbx
      have d3 : (w.alloc (.cells #[.int .i64 kind, .string old, .string name, .int .i64 file] 98)).cell? ⟨w.heap.size, 3, none⟩ = some (.int .i64 file) := cell_of_heapN hbx
      change World.cell? (w.alloc (.cells #[.int .i64 kind, .string old, .string name, .int .i64 file] 98)) _ = _ at c0
      show Calls _ _ #[_, .agg #[.int .i64 kind, .string old, .string name, .int .i64 file], _] w _
      clear hbx
      go_enter Tryz.func50, Tryz.ntmps50
      go_wp2_with fail
      refine HREF.out.mono ?_
      rintro e w1 ⟨rfl, hb1⟩
      have HB1 := Lib.hid (HB.out.trans (hb1.mono HB.out.size))
      clear hb1 c0 d0 d1 d2 d3
      go_wp2_with fail
      go_ret
      exact ⟨rfl, ⟨((H.out.below HB1.out).sup (fun b hb => .inl hb) (fun b hb => hb.elim (fun hb => Nat.lt_of_lt_of_le (H.out.lt b hb) HB1.out.size) (fun hb => hb.2))).more (Nat.le_succ n), (Off.refl S w).below HB1.out (Nat.le_refl _)⟩⟩
set_option maxHeartbeats 1600000 in
set_option maxRecDepth 100000 in
theorem refCrash_any {w : World} {r n : Nat} {m : DM} {S : Nat → Prop} (h : RefAt w r n m S) (kv : Value) (ks : List Int) (hk : IntsRd S w kv ks) (hn : n ≤ 1000000000000) :
    Calls Tryz.prog 57 #[.pointer (some ⟨r, 0, none⟩), kv] w fun e w' => e = .returned (.tuple #[]) ∧ RefPost r n (m.crash ks) S w w' := by
  have hf := Lib.hid (refFail_any h kv ks hk hn)
  have H := Lib.hid h
  obtain ⟨⟨fv, nv, sv, pv, kv0, ro, h1⟩, -, -⟩ := h
  have c0 := h1.cells.1
  clear h1 hk
  unfold DM.crash
  cases ho : m.off with
  | true =>
    rw [ho] at c0
    go_enter Tryz.func57, Tryz.ntmps57
    go_wp2_with fail
    go_end0
    exact ⟨rfl, H.out.sup (fun b hb => .inl hb) (fun b hb => hb.elim (H.out.lt b) (fun hb => hb.2)), Off.refl S w⟩
  | false =>
    rw [ho] at c0
    go_enter Tryz.func57, Tryz.ntmps57
    go_wp2_with fail
    refine hf.out.mono ?_
    rintro e w1 ⟨rfl, hp⟩
    have HP := Lib.hid hp
    clear hp
    go_wp2_with fail
    go_end0
    exact ⟨rfl, HP.out⟩
end Go.Proofs.YtlcompihcmhbiaaGreatDoor
/- Contracts of FullInts, LentInts, KeptFullInts, KeptInts, LentFate, KeptFate. -/
namespace Go.Proofs.YtlcompihcmhbiaaGreatDoor
open Go Go.RowKit
def markI (i : Int) : Int := -91000000 - i
def marksI (n : Nat) : List Int := (List.range n).map fun i => markI (i : Nat)
theorem marksI_succ (n : Nat) : marksI (n + 1) = marksI n ++ [markI (n : Nat)] := by
  unfold marksI; rw [List.range_succ, List.map_append]; rfl
theorem marksI_len (n : Nat) : (marksI n).length = n := by unfold marksI; rw [List.length_map, List.length_range]
/-- A list of numbers that can be read. -/
def IntsAt (w : World) (p : Option Addr) (ks : List Int) : Prop :=
  ∀ j k, ks[j]? = some k → (-9223372036854775808 ≤ k ∧ k ≤ 9223372036854775807) ∧ ∃ b off, p = some ⟨b, off, none⟩ ∧ b < w.heap.size ∧ w.cell? ⟨b, off + j, none⟩ = some (.int .i64 k)
theorem IntsAt.below {w w' : World} {p : Option Addr} {ks : List Int} (h : IntsAt w p ks) (hb : Below w.heap.size w w') : IntsAt w' p ks := fun j k hk => by
  obtain ⟨h1, b, off, e, hlt, hc⟩ := h j k hk
  exact ⟨h1, b, off, e, Nat.lt_of_lt_of_le hlt hb.size, (hb.cell (p := ⟨b, off + j, none⟩) hlt).trans hc⟩
theorem IntsRd.intsAt {S : Nat → Prop} {w : World} {p : Option Addr} {n c : Nat} {ks : List Int} (h : IntsRd S w (.slice p n c) ks) : n = ks.length ∧ IntsAt w p ks := by
  obtain ⟨q, d, e, -, h1⟩ := h
  cases e
  exact ⟨rfl, fun j k hk => by
    obtain ⟨h2, b, off, e, hc, hlt, -⟩ := h1 j k hk
    exact ⟨h2, b, off, e, hlt, hc⟩⟩
set_option maxHeartbeats 1600000 in
set_option maxRecDepth 100000 in
theorem markInts_any (i : Int) (w : World) (hi : i ≤ 140737488355328) (hi2 : -140737488355328 ≤ i) :
    Calls Tryz.prog 131 #[.int .i64 90, .int .i64 i] w fun e w' => e = .returned (.int .i64 (markI i)) ∧ w = w' := by
  have hm : markI i = -91000000 - i := rfl
  go_enter Tryz.func131, Tryz.ntmps131
  go_wp2_with fail
  go_ret
  exact ⟨rfl, rfl⟩
set_option maxHeartbeats 3200000 in
set_option maxRecDepth 100000 in
theorem fullInts_any (ks : List Int) (p : Option Addr) (cap : Nat) (w : World) (hM : IntsAt w p ks) (hn : (ks.length + 16) * 8 ≤ 140737488355328) :
    Calls Tryz.prog 112 #[.slice p ks.length cap] w fun e w' => ∃ v, e = .returned v ∧ GathI w w' v (ks ++ marksI 16) := by
  obtain ⟨i0, hi, hz0, hz1, hz2⟩ := info_parts infoI
  obtain ⟨N, hN⟩ : ∃ N, ks.length = N := ⟨_, rfl⟩
  rw [hN] at hn ⊢
  have hNi : (N : Int) ≤ 17592186044400 := by omega
  have HK := Lib.hid hM
  have HN := Lib.hid hN
  clear hM hN hn
  go_enter Tryz.func112, Tryz.ntmps112
  go_wp2_with fail
  go_loopw [3, 4] (fun ov iv wr => ∃ i : Nat, i ≤ N ∧ iv = .int .i64 i ∧ Hid (GathI w wr ov (ks.take i))) (fun _ iv _ => N - (intOf iv).toNat)
  case atStart => exact ⟨0, Nat.zero_le _, rfl, Lib.hid ⟨World.ownsRow_nil _ _ _ _, Below.refl _ _⟩⟩
  case round =>
    obtain ⟨i, hi', rfl, HGt⟩ := hrel
    have hsz := HGt.out.bel.size
    by_cases hlt : (i : Int) < (N : Int)
    · obtain ⟨q, hq⟩ : ∃ q, ks[i]? = some q := ⟨_, List.getElem?_eq_getElem (i := i) (by have := HN.out; omega)⟩
      obtain ⟨-, b, off, rfl, hb, hc⟩ := HK.out i q hq
      have d0 : wr.cell? ⟨b, off + i, none⟩ = some (.int .i64 q) := (HGt.out.bel.cell (p := ⟨b, off + i, none⟩) hb).trans hc
      have htk : ks.take (i + 1) = ks.take i ++ [q] := by
        obtain ⟨h1, rfl⟩ := List.getElem?_eq_some_iff.1 hq
        exact List.take_succ_eq_append_getElem h1
      have hln : (ks.take i).length ≤ i := by rw [List.length_take]; exact Nat.min_le_left _ _
      have HT := Lib.hid htk
      generalize ks.take i = out at HGt hln HT
      have HO := Lib.hid HGt.out.row
      clear hq hc hb htk
      go_wp2_with (at_builtin; refine wpList_append_own _ rfl _ _ 24 rfl w.heap.size 3 i0 (.int .i64 0) 1 8 Tryz.underlying24 hi hz0 hz1 hz2 rfl (by decide) _ _ _ rfl (HO.out.alloc _) ⟨wr.heap.size, 0, none⟩ 1 1 [.int .i64 q] rfl rfl (fun i u h => one_new i u h) (by simp [Value.oneCell']) (by unfold maxLen; omega) (by omega) (by rw [World.size_alloc]; omega) ?_; intro v' w1 hown' hgrow _; have HA := Lib.hid (HGt.out.app hown' hgrow); clear hown' hgrow)
      go_roundw
      case rel => exact ⟨i + 1, by omega, by rw [Int.natCast_add]; rfl, Lib.hid (by rw [HT.out]; exact HA.out)⟩
      case measure => simp [intOf]; omega
    · obtain rfl : i = N := by omega
      have hG := HGt.out
      rw [List.take_of_length_le (by rw [HN.out]; exact Nat.le_refl _)] at hG
      have HG2 := Lib.hid hG
      clear hG HGt
      go_wp2_with fail
      go_loopw [3, 5] (fun ov iv wr => ∃ j : Nat, j ≤ 16 ∧ iv = .int .i64 j ∧ Hid (GathI w wr ov (ks ++ marksI j))) (fun _ iv _ => 16 - (intOf iv).toNat)
      case atStart => exact ⟨0, by omega, rfl, Lib.hid (by show GathI _ _ _ (ks ++ []); rw [List.append_nil]; exact HG2.out)⟩
      case round =>
        obtain ⟨j, hj, rfl, HGj⟩ := hrel
        have hsz := HGj.out.bel.size
        by_cases hlt2 : (j : Int) < 16
        · have hmk : ∀ w1 : World, Calls Tryz.prog 131 #[.int .i64 90, .int .i64 j] w1 fun e w' => e = .returned (.int .i64 (markI (j : Nat))) ∧ w1 = w' := fun w1 => markInts_any j w1 (by omega) (by omega)
          have HMC := Lib.hid hmk
          have hln : (ks ++ marksI j).length ≤ i + j := by rw [List.length_append, HN.out, marksI_len]; omega
          have htk : ks ++ marksI (j + 1) = ks ++ marksI j ++ [markI (j : Nat)] := by rw [marksI_succ, List.append_assoc]
          have HT := Lib.hid htk
          clear htk hmk
          generalize ks ++ marksI j = out at HGj hln HT
          have HO := Lib.hid HGj.out.row
          generalize markI (j : Nat) = q at HMC HT
          go_wp2_with fail
          refine (HMC.out _).mono ?_
          rintro e w1 ⟨rfl, rfl⟩
          clear HMC
          have hl2 : ((List.length out : Nat) : Int) ≤ (i : Int) + (j : Int) := by omega
          clear hln
          go_wp2_with (at_builtin; refine wpList_append_own _ rfl _ _ 24 rfl w.heap.size 3 i0 (.int .i64 0) 1 8 Tryz.underlying24 hi hz0 hz1 hz2 rfl (by decide) _ _ _ rfl (HO.out.alloc _) ⟨wr.heap.size, 0, none⟩ 1 1 [.int .i64 q] rfl rfl (fun i u h => one_new i u h) (by simp [Value.oneCell']) (by unfold maxLen; omega) (by omega) (by rw [World.size_alloc]; omega) ?_; intro v' w1 hown' hgrow _; have HA := Lib.hid (HGj.out.app hown' hgrow); clear hown' hgrow)
          go_roundw
          case rel => exact ⟨j + 1, by omega, by rw [Int.natCast_add]; rfl, Lib.hid (by rw [HT.out]; exact HA.out)⟩
          case measure => simp [intOf]; omega
        · obtain rfl : j = 16 := by omega
          go_wp2_with fail
          go_ret
          exact ⟨_, rfl, HGj.out⟩
/-- A lent list of numbers, whose block is g. -/
def LentI (w : World) (g c : Nat) (ks : List Int) : Prop :=
  (ks.length + 16 ≤ c ∧ c ≤ maxLen) ∧ ∃ cur, w.heap[g]? = some (.cells cur 3 (0, 0)) ∧ cur.toList.take (ks.length + 16) = (ks ++ marksI 16).map (Value.int .i64)
theorem GathI.lent {w wr : World} {v : Value} {ks : List Int} (h : GathI w wr v (ks ++ marksI 16)) : ∃ g c, v = .slice (some ⟨g, 0, none⟩) (ks.length + 16) c ∧ w.heap.size ≤ g ∧ g < wr.heap.size ∧ LentI wr g c ks := by
  have hl : (ks ++ marksI 16).length = ks.length + 16 := by rw [List.length_append, marksI_len]
  have hr := h.row.2
  rw [hl] at hr
  rcases hr with ⟨-, h2⟩ | ⟨g, cap, cur, h1, h2, h3, h4, h5, h6, h7⟩
  · omega
  · rw [Nat.mul_one] at h7
    exact ⟨g, cap, h1, h2, blk_lt h3, ⟨h4, h5⟩, cur, h3, h7⟩
theorem LentI.at {w : World} {g c : Nat} {ks : List Int} (h : LentI w g c ks) (hk : ∀ k ∈ ks, -9223372036854775808 ≤ k ∧ k ≤ 9223372036854775807) : IntsAt w (some ⟨g, 0, none⟩) (ks ++ marksI 16) := by
  obtain ⟨-, cur, h1, h2⟩ := h
  intro j k hj
  have hjl := (List.getElem?_eq_some_iff.1 hj).1
  rw [List.length_append, marksI_len] at hjl
  have h3 : (cur.toList.take (ks.length + 16))[j]? = some (.int .i64 k) := by rw [h2, List.getElem?_map, hj]; rfl
  rw [List.getElem?_take, if_pos hjl, Array.getElem?_toList] at h3
  refine ⟨?_, g, 0, rfl, blk_lt h1, by rw [cell_of_heapN h1]; simpa using h3⟩
  rcases List.mem_append.1 (List.mem_of_getElem? hj) with hm | hm
  · exact hk k hm
  · unfold marksI at hm
    obtain ⟨i, hi, rfl⟩ := List.mem_map.1 hm
    have := List.mem_range.1 hi
    unfold markI
    omega
theorem LentI.below {w w' : World} {g c : Nat} {ks : List Int} (h : LentI w g c ks) (hb : w'.heap[g]? = w.heap[g]?) : LentI w' g c ks := by
  obtain ⟨h1, cur, h2, h3⟩ := h
  exact ⟨h1, cur, hb.trans h2, h3⟩
set_option maxHeartbeats 1600000 in
set_option maxRecDepth 100000 in
theorem lentInts_any (ks : List Int) (p : Option Addr) (cap : Nat) (w : World) (hM : IntsAt w p ks) (hn : (ks.length + 16) * 8 ≤ 140737488355328) :
    Calls Tryz.prog 90 #[.slice p ks.length cap] w fun e w' => ∃ g c, e = .returned (.slice (some ⟨g, 0, none⟩) ks.length c) ∧ w.heap.size ≤ g ∧ g < w'.heap.size ∧ LentI w' g c ks ∧ Below w.heap.size w w' := by
  have hf := fullInts_any ks p cap w hM hn
  obtain ⟨n, hnl⟩ : ∃ n, ks.length = n := ⟨_, rfl⟩
  have HN := Lib.hid hnl
  rw [hnl] at hf hn ⊢
  clear hnl hM
  go_enter Tryz.func90, Tryz.ntmps90
  go_wp2_with fail
  refine hf.mono ?_
  rintro e w1 ⟨v, rfl, hg⟩
  obtain ⟨g, c, rfl, hg1, hg2, hl⟩ := hg.lent
  have hc1 := hl.1.1
  have hc2 := hl.1.2
  unfold maxLen at hc2
  rw [HN.out] at hc1 ⊢
  have HL := Lib.hid hl
  have HB := Lib.hid hg.bel
  have hc3 : (n : Int) ≤ (c : Int) := by omega
  have hc4 : (c : Int) ≤ 9223372036854775807 := by omega
  clear hl hg hf hc1 hc2
  go_wp2_with fail
  go_ret
  exact ⟨_, _, rfl, hg1, hg2, HL.out, HB.out⟩
set_option maxHeartbeats 3200000 in
set_option maxRecDepth 100000 in
theorem keptFullInts_any (ks : List Int) (q p : Option Addr) (c cap : Nat) (w : World) (hQ : IntsAt w q (ks ++ marksI 16)) (hP : IntsAt w p ks) (hn : (ks.length + 16) * 8 ≤ 140737488355328) :
    Calls Tryz.prog 113 #[.slice q (ks.length + 16 : Nat) c, .slice p ks.length cap] w fun e w' => e = .returned (.bool true) ∧ w = w' := by
  obtain ⟨n, hnl⟩ : ∃ n, ks.length = n := ⟨_, rfl⟩
  have HN := Lib.hid hnl
  have HQ := Lib.hid hQ
  have HP := Lib.hid hP
  rw [hnl] at hn ⊢
  have hni : (n : Int) ≤ 17592186044400 := by omega
  clear hnl hQ hP hn
  go_enter Tryz.func113, Tryz.ntmps113
  go_wp2_with fail
  go_loopw [5] (fun iv wr => ∃ k : Nat, k ≤ n + 16 ∧ iv = .int .i64 k ∧ w = wr) (fun iv _ => n + 16 - (intOf iv).toNat)
  case atStart => exact ⟨0, by omega, rfl, rfl⟩
  case round =>
    obtain ⟨k, hk, rfl, hw⟩ := hrel
    subst hw
    have HK := Lib.hid hk
    clear hk
    by_cases hlt : (k : Int) < (n : Int) + 16
    · have hmk : ∀ w1 : World, Calls Tryz.prog 131 #[.int .i64 90, .int .i64 ((k : Int) - (n : Int))] w1 fun e w' => e = .returned (.int .i64 (markI ((k : Int) - (n : Int)))) ∧ w1 = w' := fun w1 => markInts_any _ w1 (by omega) (by omega)
      have HMC := Lib.hid hmk
      clear hmk
      go_wp2_with fail
      refine (HMC.out _).mono ?_
      rintro e w1 ⟨rfl, rfl⟩
      by_cases hkn : (k : Int) < (n : Int)
      · obtain ⟨m, hm⟩ : ∃ m, ks[k]? = some m := ⟨_, List.getElem?_eq_getElem (i := k) (by have := HN.out; omega)⟩
        obtain ⟨-, b, off, rfl, -, hc⟩ := HP.out k m hm
        have hX : (ks ++ marksI 16)[k]? = some m := by rw [List.getElem?_append_left (by have := HN.out; omega)]; exact hm
        obtain ⟨-, qb, qo, rfl, -, hqc⟩ := HQ.out k m hX
        clear hm hX
        go_wp2_with fail
        go_roundw
        case rel => exact ⟨k + 1, by omega, by rw [Int.natCast_add]; rfl, True.intro⟩
        case measure => simp [intOf]; omega
      · have hX : (ks ++ marksI 16)[k]? = some (markI ((k : Int) - (n : Int))) := by
          have hn2 := HN.out
          rw [List.getElem?_append_right (by omega), hn2]
          unfold marksI
          rw [List.getElem?_map, List.getElem?_range (by omega)]
          show some (markI ((k - n : Nat) : Int)) = _
          rw [show ((k - n : Nat) : Int) = (k : Int) - (n : Int) by omega]
        generalize markI ((k : Int) - (n : Int)) = M at HMC hX
        obtain ⟨-, qb, qo, rfl, -, hqc⟩ := HQ.out k M hX
        clear hX HMC
        have hkd : decide ((k : Int) < (n : Int)) = false := decide_eq_false hkn
        go_wp2_with fail
        go_roundw
        case rel => exact ⟨k + 1, by omega, by rw [Int.natCast_add]; rfl, True.intro⟩
        case measure => simp [intOf]; omega
    · go_wp2_with fail
      go_ret
      exact ⟨rfl, rfl⟩
set_option maxHeartbeats 1600000 in
set_option maxRecDepth 100000 in
theorem keptInts_any (ks : List Int) (g c : Nat) (p : Option Addr) (cap : Nat) (w : World) (hL : LentI w g c ks) (hP : IntsAt w p ks) (hn : (ks.length + 16) * 8 ≤ 140737488355328) :
    Calls Tryz.prog 92 #[.slice (some ⟨g, 0, none⟩) ks.length c, .slice p ks.length cap] w fun e w' => e = .returned (.bool true) ∧ w = w' := by
  have hk := keptFullInts_any ks (some ⟨g, 0, none⟩) p c cap w (hL.at fun k hk => by
    obtain ⟨j, hj⟩ := List.getElem?_of_mem hk
    exact (hP j k hj).1) hP hn
  obtain ⟨⟨h1, h2⟩, -⟩ := hL
  unfold maxLen at h2
  obtain ⟨n, hnl⟩ : ∃ n, ks.length = n := ⟨_, rfl⟩
  rw [hnl] at hk h1 hn ⊢
  have hc1 : (n : Int) + 16 ≤ (c : Int) := by omega
  have hc2 : (c : Int) ≤ 9223372036854775807 := by omega
  have HK := Lib.hid hk
  clear hnl hP h1 h2 hk
  go_enter Tryz.func92, Tryz.ntmps92
  go_wp2_with fail
  refine HK.out.mono ?_
  rintro e w1 ⟨rfl, rfl⟩
  go_wp2_with fail
  go_ret
  exact ⟨rfl, rfl⟩
set_option maxHeartbeats 1600000 in
set_option maxRecDepth 100000 in
theorem lentFate_any (ks : List Int) (p : Option Addr) (cap : Nat) (w : World) (hM : IntsAt w p ks) (hn : (ks.length + 16) * 8 ≤ 140737488355328) :
    Calls Tryz.prog 55 #[.agg #[.slice p ks.length cap]] w fun e w' => ∃ g c, e = .returned (.agg #[.slice (some ⟨g, 0, none⟩) ks.length c]) ∧ w.heap.size ≤ g ∧ g < w'.heap.size ∧ LentI w' g c ks ∧ Below w.heap.size w w' := by
  have hf := fun w1 (hb : Below w.heap.size w w1) => lentInts_any ks p cap w1 (hM.below hb) hn
  generalize ks.length = n at hf ⊢
  have HF := Lib.hid hf
  clear hf hn hM
  go_enter Tryz.func55, Tryz.ntmps55
  go_wp2_with fail
  obtain ⟨b1, b2, b3, b4, b5⟩ := box3 w (.cells #[.slice p n cap] 26) (.cells #[.slice none 0 0] 26) (.cells #[.slice p n cap] 26)
  refine (HF.out _ b1).mono ?_
  rintro e w1 ⟨g, c, rfl, hg1, hg2, hl, hb⟩
  have r1 := box_below b4 hb
  have r2 := box_below b5 hb
  have HB := Lib.hid (b1.trans (hb.mono (by rw [b2]; omega)))
  have hgw : w.heap.size + 3 ≤ g := by rw [b2] at hg1; exact hg1
  have HL := Lib.hid (And.intro hg2 hl)
  have HR1 := Lib.hid r1
  have HR2 := Lib.hid r2
  have f1 : w1.frozen? ⟨w.heap.size + 1, 0, none⟩ = false := frozen_blk r1
  have f2 : w1.frozen? ⟨w.heap.size + 1 + 1, 0, none⟩ = false := frozen_blk r2
  have c1 : w1.cell? ⟨w.heap.size + 1, 0, none⟩ = some (.slice none 0 0) := by rw [cell_of_heapN r1]; rfl
  have c2 : w1.cell? ⟨w.heap.size + 1 + 1, 0, none⟩ = some (.slice p n cap) := by rw [cell_of_heapN r2]; rfl
  clear hb hl r1 r2 b1 b2 b3 b4 b5 hg1 hg2 HF
  go_wp2_with fail
  have hs1 : (w1.setCell ⟨w.heap.size + 1 + 1, 0, none⟩ (.slice (some ⟨g, 0, none⟩) n c)).heap[w.heap.size + 1]? = some (.cells #[.slice none 0 0] 26 (0, 0)) := (Below.heap_setCell _ _ _ _ (fun e => by have e : w.heap.size + 1 = w.heap.size + 1 + 1 := e; omega)).trans HR1.out
  have hh := setBlk_heap (o := .cells (#[.slice none 0 0].setIfInBounds 0 (.slice (some ⟨g, 0, none⟩) n c)) 26 (0, 0)) (blk_lt hs1)
  rw [← setCell_blk hs1] at hh
  have hL : LentI ((w1.setCell ⟨w.heap.size + 1 + 1, 0, none⟩ (.slice (some ⟨g, 0, none⟩) n c)).setCell ⟨w.heap.size + 1, 0, none⟩ (.slice (some ⟨g, 0, none⟩) n c)) g c ks := HL.out.2.below ((Below.heap_setCell _ _ _ _ (fun e => by have e : g = w.heap.size + 1 := e; omega)).trans (Below.heap_setCell _ _ _ _ (fun e => by have e : g = w.heap.size + 1 + 1 := e; omega)))
  have hB : Below w.heap.size w ((w1.setCell ⟨w.heap.size + 1 + 1, 0, none⟩ (.slice (some ⟨g, 0, none⟩) n c)).setCell ⟨w.heap.size + 1, 0, none⟩ (.slice (some ⟨g, 0, none⟩) n c)) := (HB.out.setCell (p := ⟨w.heap.size + 1 + 1, 0, none⟩) (by show w.heap.size ≤ w.heap.size + 1 + 1; omega) _).setCell (p := ⟨w.heap.size + 1, 0, none⟩) (by show w.heap.size ≤ w.heap.size + 1; omega) _
  have hz : g < ((w1.setCell ⟨w.heap.size + 1 + 1, 0, none⟩ (.slice (some ⟨g, 0, none⟩) n c)).setCell ⟨w.heap.size + 1, 0, none⟩ (.slice (some ⟨g, 0, none⟩) n c)).heap.size := by rw [World.size_setCell, World.size_setCell]; exact HL.out.1
  generalize (w1.setCell ⟨w.heap.size + 1 + 1, 0, none⟩ (.slice (some ⟨g, 0, none⟩) n c)).setCell ⟨w.heap.size + 1, 0, none⟩ (.slice (some ⟨g, 0, none⟩) n c) = W at hh hL hB hz ⊢
  have hc : W.cell? ⟨w.heap.size + 1, 0, none⟩ = some (.slice (some ⟨g, 0, none⟩) n c) := by rw [cell_of_heapN hh]; rfl
  exact bodyPost_ret (v := .agg #[.slice (some ⟨g, 0, none⟩) n c]) (by simp [results, Tryz.f55, go_sem, hc]) rfl ⟨g, c, rfl, by omega, hz, hL, hB⟩
set_option maxHeartbeats 1600000 in
set_option maxRecDepth 100000 in
theorem keptFate_any (ks : List Int) (g c : Nat) (p : Option Addr) (cap : Nat) (w : World) (hL : LentI w g c ks) (hP : IntsAt w p ks) (hn : (ks.length + 16) * 8 ≤ 140737488355328) :
    Calls Tryz.prog 58 #[.agg #[.slice (some ⟨g, 0, none⟩) ks.length c], .agg #[.slice p ks.length cap]] w fun e w' => e = .returned (.bool true) ∧ Below w.heap.size w w' := by
  have hb : Below w.heap.size w ((w.alloc (.cells #[.slice (some ⟨g, 0, none⟩) ks.length c] 26)).alloc (.cells #[.slice p ks.length cap] 26)) := below2 w _ _
  have hk := keptInts_any ks g c p cap _ (hL.below (hb.block g (by obtain ⟨-, cur, h1, -⟩ := hL; exact blk_lt h1))) (hP.below hb) hn
  generalize ks.length = n at hk hb ⊢
  have HK := Lib.hid hk
  have HB := Lib.hid hb
  clear hk hb hn hL hP
  go_enter Tryz.func58, Tryz.ntmps58
  go_wp2_with fail
  refine HK.out.mono ?_
  rintro e w1 ⟨rfl, rfl⟩
  go_wp2_with fail
  go_ret
  exact ⟨rfl, HB.out⟩
end Go.Proofs.YtlcompihcmhbiaaGreatDoor
