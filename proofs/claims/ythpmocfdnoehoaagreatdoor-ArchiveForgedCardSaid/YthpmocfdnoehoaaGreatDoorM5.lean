/- Texts of the seat, one behind the other: Apart, Back, Arc, ArcRun, ErrFacts, Errs, AsFacts, AsSet. -/
import Derived.Test.YthpmocfdnoehoaaGreatDoorM4
import Derived.Test.YthpmocfdnoehoaaGreatDoorM3
import Derived.Test.YthpmocfdnoehoaaGreatDoorM1
import Derived.Test.YthpmocfdnoehoaaGreatDoorM2
import Derived.Stop.Asserts
import Derived.RowKitTokens
import Derived.LaidEql
/- Contract of ApartMembers. Printed by wip/apart.py. -/
namespace Go.Proofs.YthpmocfdnoehoaaGreatDoor
open Go.RowKit
attribute [local go_sem] run_neqM guard_neqM
def mkM (k n : Nat) : List Mem := (List.range n).map fun i => markM k (i : Nat)
theorem mkM_len (k n : Nat) : (mkM k n).length = n := by unfold mkM; rw [List.length_map, List.length_range]
theorem mkM_succ (k n : Nat) : mkM k (n + 1) = mkM k n ++ [markM k (n : Nat)] := by unfold mkM; rw [List.range_succ, List.map_append]; rfl
theorem mkM_at {k n i : Nat} (h : i < n) : (mkM k n)[i]? = some (markM k (i : Nat)) := by unfold mkM; rw [List.getElem?_map, List.getElem?_range h]; rfl
theorem mkM_pre (k n i : Nat) : ∃ zs, mkM k (n + i) = mkM k n ++ zs := by
  induction i with
  | zero => exact ⟨[], by rw [Nat.add_zero, List.append_nil]⟩
  | succ i ih =>
    obtain ⟨zs, h⟩ := ih
    exact ⟨zs ++ [markM k ((n + i : Nat))], by rw [← Nat.add_assoc, mkM_succ, h, List.append_assoc]⟩
theorem memSz : ∀ m : Mem, m.cells.size = 13 := fun _ => rfl
theorem set13at {w : World} {g o : Nat} {cur : Array Value} {t : TypeId} (h : w.heap[g]? = some (.cells cur t (0, 0))) (v0 v1 v2 v3 v4 v5 v6 v7 v8 v9 v10 v11 v12 : Value) :
    ((((((((((((w.setCell ⟨g, o, none⟩ v0).setCell ⟨g, o + 1, none⟩ v1).setCell ⟨g, o + 2, none⟩ v2).setCell ⟨g, o + 3, none⟩ v3).setCell ⟨g, o + 4, none⟩ v4).setCell ⟨g, o + 5, none⟩ v5).setCell ⟨g, o + 6, none⟩ v6).setCell ⟨g, o + 7, none⟩ v7).setCell ⟨g, o + 8, none⟩ v8).setCell ⟨g, o + 9, none⟩ v9).setCell ⟨g, o + 10, none⟩ v10).setCell ⟨g, o + 11, none⟩ v11).setCell ⟨g, o + 12, none⟩ v12 = setBlk w g (.cells (curPut cur o [v0, v1, v2, v3, v4, v5, v6, v7, v8, v9, v10, v11, v12]) t (0, 0)) := by
  have hb := blk_lt h
  simp only [setCell_blk h, setBlk_setCell hb]
  rfl
theorem info22 : (Tryz.prog.info? 22).map (fun i => (i.zero, i.size, i.bytes)) = some (some (.slice none 0 0), 1, 24) := by kernel_rfl
abbrev OwnM := OwnG 26 13 Mem.cells
abbrev ReadM := Reads 26 13 Mem.cells
abbrev ApMA := ApA 26 22 13 Mem.cells
abbrev ApMC := ApC 26 22 13 Mem.cells
abbrev ApMO := ApO 26 22 13 Mem.cells
abbrev ApMR := ApR 26 22 13 Mem.cells
theorem cell0 {w : World} {g i j : Nat} {m : Mem} {v : Value} (h : ∀ j, j < 13 → w.cell? ⟨g, i * 13 + j, none⟩ = m.cells[j]?) (hj : j < 13) (hv : m.cells[j]? = some v) : w.cell? ⟨g, i * 13 + j, none⟩ = some v := (h j hj).trans hv
theorem own_cell {w : World} {B S n : Nat} {v : Value} {xs : List Value} {g cap k : Nat} {x : Value} (h : w.ownsRow B S 1 v n xs) (hv : v = .slice (some ⟨g, 0, none⟩) n cap) (hx : xs[k]? = some x) : w.cell? ⟨g, k, none⟩ = some x := by
  subst hv
  have := h.cells (g := g) rfl k x hx
  rw [show ((⟨g, 0, none⟩ : Addr).add k) = ⟨g, k, none⟩ by simp [Addr.add]; intro e; exact e.symm] at this
  exact this
set_option maxHeartbeats 6400000 in
set_option maxRecDepth 100000 in
theorem apartM_any (vs : Array Value) (LB cap base : Nat) (f : Nat → List Mem) (w : World) (hA : ApMA base LB vs w f w) (hap : Apart vs) (hLB : base ≤ LB) (hN0 : 0 < vs.size) (hN : vs.size ≤ 1000) (hc1 : vs.size ≤ cap) (hc2 : cap ≤ 9223372036854775807) (hlen : ∀ k, (f k).length ≤ 33000000) :
    Calls Tryz.prog 36 #[.slice (some ⟨LB, 0, none⟩) vs.size cap] w fun e w' => e = .returned (.bool true) ∧ Below base w w' := by
  obtain ⟨i0, hi, hz0, hz1, hz2⟩ := info_parts info33
  obtain ⟨j0, ki, kz0, kz1, kz2⟩ := info_parts info22
  obtain ⟨N, hNe⟩ : ∃ N, vs.size = N := ⟨_, rfl⟩
  rw [hNe] at hN0 hN hc1 ⊢
  have HNE := Lib.hid hNe
  have HA := Lib.hid hA
  have HAP := Lib.hid hap
  have HLEN := Lib.hid hlen
  have HLB := Lib.hid hLB
  have hN1 : (N : Int) ≤ 1000 := by omega
  have HBS := Lib.hid hA.hb0
  clear hNe hA hap hlen hLB hN
  go_enter Tryz.func36, Tryz.ntmps36
  go_wp2_with fail
  go_loopw [3] (fun kv wr => ∃ (k : Nat) (f' : Nat → List Mem), (k : Int) ≤ (N : Int) ∧ kv = .int .i64 k ∧ Hid (ApMA base LB vs w f' wr) ∧ Hid (∀ j, (f' j).length = (f j).length) ∧ Hid (∀ j i, j < k → i < (f j).length → (f' j)[i]? = some (markM j (i : Nat)))) (fun kv _ => N - (intOf kv).toNat)
  case atStart => exact ⟨0, f, by omega, rfl, HA.out, fun _ => rfl, fun j i hj => absurd hj (by omega)⟩
  case round =>
    obtain ⟨k, f', hk, rfl, hst, hl, hmk⟩ := hrel
    obtain ⟨wo, rfl⟩ : ∃ wo : World, wo = wr := ⟨_, rfl⟩
    by_cases hlt : (k : Int) < (N : Int)
    · obtain ⟨v, hv⟩ : ∃ v, vs[k]? = some v := ⟨_, Array.getElem?_eq_getElem (i := k) (by have := HNE.out; omega)⟩
      obtain ⟨p, cp, rfl, hcp, hcp2⟩ := ((hst.out.own k v hv).reads memSz).slice
      rw [hl.out k] at hv hcp
      have hn := HLEN.out k
      obtain ⟨n, hne⟩ : ∃ n, (f k).length = n := ⟨_, rfl⟩
      rw [hne] at hv hcp hn
      have HN := Lib.hid hne
      have HV := Lib.hid hv
      have hn2 : (n : Int) ≤ 33000000 := by omega
      have hcp3 : (n : Int) ≤ (cp : Int) := by omega
      have hcp4 : (cp : Int) ≤ 9223372036854775807 := by unfold maxLen at hcp2; omega
      clear hne hv hcp hcp2 hn
      go_wp2_with fail
      go_loopw [4] (fun iv wr2 => ∃ (i : Nat) (f2 : Nat → List Mem), (i : Int) ≤ (n : Int) ∧ iv = .int .i64 i ∧ Hid (ApMA base LB vs w f2 wr2) ∧ Hid (∀ j, (f2 j).length = (f j).length) ∧ Hid (∀ j t, (j < k ∨ (j = k ∧ t < i)) → t < (f j).length → (f2 j)[t]? = some (markM j (t : Nat)))) (fun iv _ => n - (intOf iv).toNat)
      case atStart => exact ⟨0, f', by omega, rfl, hst, hl, fun j t h1 h2 => hmk.out j t (by omega) h2⟩
      case round =>
        obtain ⟨i, f2, hi2, rfl, hst2, hl2, hmk2⟩ := hrel
        have cls : wr.cell? ⟨LB, k, none⟩ = some (.slice p n cp) := (cell_of_heapN hst2.out.ls).trans HV.out
        by_cases hlt2 : (i : Int) < (n : Int)
        · have hfl : (f2 k).length = n := (hl2.out k).trans HN.out
          obtain ⟨x, hx⟩ : ∃ x, (f2 k)[i]? = some x := ⟨_, List.getElem?_eq_getElem (i := i) (by omega)⟩
          obtain ⟨g, cp', he, -, -, -, hrow⟩ := ((hst2.out.own k _ HV.out).reads memSz).at hx
          obtain ⟨rfl, -, rfl⟩ := Value.slice.inj he
          clear he hrow
          have HX := Lib.hid hx
          have HFL := Lib.hid hfl
          have hmkc := fun W => markM_any k i W (by omega) (by omega) (by omega)
          have HMKC := Lib.hid hmkc
          have hgI := hst2.out.keep ((Below.refl _ wr).drew)
          have hcls : ∀ W, ApMA base LB vs w f2 W → W.cell? ⟨LB, k, none⟩ = some (.slice (some ⟨g, 0, none⟩) n cp) := fun W hI => (cell_of_heapN hI.ls).trans HV.out
          have HCLS := Lib.hid hcls
          clear hx hfl hmkc hcls
          go_wp2_with fail
          refine wp_region_inv (ApMA base LB vs w f2) 9 (by kernel_rfl) (by kernel_rfl) hgI ?_
          clear hgI cls
          simp only [List.take_succ_cons, List.take_zero, List.drop_succ_cons, List.drop_zero]
          refine ⟨_, yi_still rfl (fun W hI => by go_simp; rfl), ?_⟩
          refine ⟨_, yi_still rfl (fun W hI => by go_simp; rfl), ?_⟩
          refine ⟨_, yi_still rfl (fun W hI => by go_simp; rfl), ?_⟩
          refine ⟨_, yi_still rfl (fun W hI => by have cls := HCLS.out W hI; go_simp; rfl), ?_⟩
          refine ⟨_, yi_still rfl (fun W hI => by go_simp; rfl), ?_⟩
          refine ⟨_, yi_still rfl (fun W hI => by go_simp; rfl), ?_⟩
          refine ⟨_, yi_still rfl (fun W hI => by go_simp; rfl), ?_⟩
          refine ⟨_, yi_call rfl (fun W hI => by go_simp) (fun W hI => (HMKC.out W).mono fun e W' ⟨he, hb⟩ => ⟨he, hI.keep hb⟩), ?_⟩
          refine ⟨_, yi_still rfl (fun W hI => by go_simp; rfl), ?_⟩
          rintro W7 hI7
          change wpList _ _ _ _ _ W7
          have hrow : ∀ j, j < 13 → W7.cell? ⟨g, i * 13 + j, none⟩ = x.cells[j]? := by
            obtain ⟨g', cp', he, -, -, -, hrow⟩ := ((hI7.own k _ HV.out).reads memSz).at HX.out
            obtain ⟨h, -, -⟩ := Value.slice.inj he
            obtain rfl : g' = g := by cases h; rfl
            exact hrow
          obtain ⟨M, hM⟩ : ∃ M, markM k (i : Nat) = M := ⟨_, rfl⟩
          obtain ⟨cur, hcur, hsz, hst3⟩ := ApA.store (i := i) (x := M) memSz (by decide) HAP.out hI7 HV.out (by rw [HFL.out]; omega)
          rw [hM]
          have c0 := cell0 hrow (j := 0) (by decide) rfl
          have c1 := cell0 hrow (j := 1) (by decide) rfl
          have c2 := cell0 hrow (j := 2) (by decide) rfl
          have c3 := cell0 hrow (j := 3) (by decide) rfl
          have c4 := cell0 hrow (j := 4) (by decide) rfl
          have c5 := cell0 hrow (j := 5) (by decide) rfl
          have c6 := cell0 hrow (j := 6) (by decide) rfl
          have c7 := cell0 hrow (j := 7) (by decide) rfl
          have c8 := cell0 hrow (j := 8) (by decide) rfl
          have c9 := cell0 hrow (j := 9) (by decide) rfl
          have c10 := cell0 hrow (j := 10) (by decide) rfl
          have c11 := cell0 hrow (j := 11) (by decide) rfl
          have c12 := cell0 hrow (j := 12) (by decide) rfl
          rw [Nat.add_zero] at c0
          have fr : ∀ t : Nat, W7.frozen? ⟨g, t, none⟩ = false := fun t => frozen_blk hcur
          have HCUR := Lib.hid hcur
          have HST3 := Lib.hid hst3
          have HMM := Lib.hid hM
          clear hcur hsz hst3 hM hrow hI7
          go_wp2_with fail
          case roundEnd =>
            rw [set13at HCUR.out]
            refine ⟨⟨i + 1, fun j => if j = k then (f2 k).set i M else f2 j, by omega, by rw [Int.natCast_add]; rfl, HST3, fun j => ?_, fun j t h1 h2 => ?_⟩, by simp [intOf]; omega⟩
            · show (if j = k then (f2 k).set i M else f2 j).length = _
              by_cases e : j = k
              · rw [if_pos e, List.length_set, hl2.out, e]
              · rw [if_neg e, hl2.out]
            · show (if j = k then (f2 k).set i M else f2 j)[t]? = _
              by_cases e : j = k
              · subst e
                rw [if_pos rfl, List.getElem?_set]
                by_cases e2 : i = t
                · subst e2
                  rw [if_pos rfl, if_pos (by rw [HFL.out]; omega), HMM.out]
                · rw [if_neg e2]
                  exact hmk2.out j t (by omega) h2
              · rw [if_neg e]
                exact hmk2.out j t (by omega) h2
        · go_wp2_with fail
          case roundEnd =>
            exact ⟨⟨k + 1, f2, by omega, by rw [Int.natCast_add]; rfl, hst2, hl2, fun j t h1 h2 => hmk2.out j t (by
              have hn := HN.out
              by_cases e : j = k
              · rw [e] at h2; omega
              · omega) h2⟩, by simp [intOf]; omega⟩
    · have hfe : ∀ j, j < N → f' j = mkM j (f j).length := fun j hj => by
        refine List.ext_getElem? fun t => ?_
        by_cases ht : t < (f j).length
        · rw [hmk.out j t (by omega) ht, mkM_at ht]
        · rw [List.getElem?_eq_none (by rw [hl.out]; omega), List.getElem?_eq_none (by rw [mkM_len]; omega)]
      obtain ⟨a, ha⟩ : ∃ a : Nat → List Mem, a = fun j => mkM j (f j).length := ⟨_, rfl⟩
      obtain ⟨c, hcd⟩ : ∃ c : Nat → List Mem, c = fun j => mkM j ((f j).length + 64) := ⟨_, rfl⟩
      have hA2 : ApMA base LB vs w a wo := ⟨hst.out.ls, fun j v hv => by
        have hj := (Array.getElem?_eq_some_iff.1 hv).1
        have := hst.out.own j v hv
        rw [hfe j (by have := HNE.out; omega)] at this
        rw [ha]
        exact this, hst.out.bel, hst.out.hb0⟩
      have HO := Lib.hid (ApO.start (base2 := wo.heap.size) (c := c) hA2 memSz)
      have HA2 := Lib.hid ha
      have HC2 := Lib.hid hcd
      have HB2 := Lib.hid (show LB < wo.heap.size ∧ base ≤ wo.heap.size from ⟨blk_lt hst.out.ls, Nat.le_trans HBS.out hst.out.bel.size⟩)
      obtain ⟨base2, hb2⟩ : ∃ b, wo.heap.size = b := ⟨_, rfl⟩
      rw [hb2] at HO HB2
      have HB0 := Lib.hid (show base2 ≤ wo.heap.size by omega)
      clear hfe hA2 hst hl hmk ha hcd hb2
      go_wp2_with fail
      go_loopw [5, 6] (fun uv kv wr => ∃ (k : Nat) (G : List Value), (k : Int) ≤ (N : Int) ∧ kv = .int .i64 k ∧ Hid (G.length = k) ∧ Hid (base2 ≤ wr.heap.size) ∧ Hid (ApMO base base2 LB vs w a c k G uv wr)) (fun _ kv _ => N - (intOf kv).toNat)
      case atStart => exact ⟨0, [], by omega, rfl, rfl, HB0, HO⟩
      case round =>
        obtain ⟨k, G, hk, rfl, hG, hbz, hst⟩ := hrel
        obtain ⟨wp, rfl⟩ : ∃ wp : World, wp = wr := ⟨_, rfl⟩
        by_cases hlt : (k : Int) < (N : Int)
        · obtain ⟨v, hv⟩ : ∃ v, vs[k]? = some v := ⟨_, Array.getElem?_eq_getElem (i := k) (by have := HNE.out; omega)⟩
          obtain ⟨p, cp, hve, hcp, hcp2⟩ := (hst.out.rd k v hv).slice
          have hn := HLEN.out k
          obtain ⟨n, hne⟩ : ∃ n, (f k).length = n := ⟨_, rfl⟩
          have hal : a k = mkM k n := by rw [HA2.out, ← hne]
          rw [hal, mkM_len] at hve hcp
          rw [hne] at hn
          subst hve
          have HV := Lib.hid hv
          have HAL := Lib.hid hal
          have HNN := Lib.hid hne
          have hn2 : (n : Int) ≤ 33000000 := by omega
          have hcp3 : (n : Int) ≤ (cp : Int) := by omega
          have hcp4 : (cp : Int) ≤ 9223372036854775807 := by unfold maxLen at hcp2; omega
          have cls : wp.cell? ⟨LB, k, none⟩ = some (.slice p n cp) := (cell_of_heapN hst.out.ls).trans hv
          have hst0 := hst.out.enter HAP.out hv
          rw [hal] at hst0
          have HST0 := Lib.hid hst0
          clear hv hcp hcp2 hn hne hal hst0
          go_wp2_with fail
          clear cls
          go_loopw [7, 8] (fun gv iv wr => ∃ (i : Nat), (i : Int) ≤ 64 ∧ iv = .int .i64 i ∧ Hid (base2 ≤ wr.heap.size) ∧ Hid (ApMC base base2 LB vs w a c k G u5 (mkM k (n + i)) gv wr)) (fun _ iv _ => 64 - (intOf iv).toNat)
          case atStart => exact ⟨0, by omega, rfl, hbz, HST0⟩
          case round =>
            obtain ⟨i, hi2, rfl, hbz2, hst2⟩ := hrel
            by_cases hlt2 : (i : Int) < 64
            · have cls : wr.cell? ⟨LB, k, none⟩ = some (.slice p n cp) := (cell_of_heapN hst2.out.ls).trans HV.out
              have hmkc := fun W => markM_any k ((n : Int) + (i : Int)) W (by omega) (by omega) (by omega)
              obtain ⟨M, hM⟩ : ∃ M, markM k ((n : Int) + (i : Int)) = M := ⟨_, rfl⟩
              rw [hM] at hmkc
              have HM := Lib.hid hM
              have HMKC := Lib.hid hmkc
              clear hmkc hM
              go_wp2_with fail
              refine (HMKC.out _).mono ?_
              rintro e w1 ⟨rfl, hb1⟩
              have HST3 := Lib.hid (hst2.out.keep hb1)
              have HZ1 := Lib.hid (Nat.le_trans hbz2.out hb1.size)
              have hcur := HST3.out.cur
              unfold OwnG at hcur
              rw [mkM_len] at hcur
              have HCUR := Lib.hid hcur
              have HBZ := Lib.hid (show base ≤ w1.heap.size from Nat.le_trans HBS.out (Nat.le_trans HST3.out.bel.size (Nat.le_refl _)))
              clear hb1 hcur cls HMKC
              go_wp2_with (first
                | (at_builtin; refine wpList_app_to rfl _ _ 22 rfl base 26 i0 (.agg zm) 13 144 Tryz.underlying22 hi hz0 hz1 hz2 rfl (by decide) _ _ _ rfl (HCUR.out.alloc _) ⟨w1.heap.size, 0, none⟩ 1 1 M.cells.toList rfl rfl (new13 w1 M _) (one13 M) (by decide) (by unfold maxLen; omega) (by omega) (by have := HBZ.out; rw [World.size_alloc]; omega) ?_; intro v' w2 hown' hgrow)
                | fail)
              case roundEnd =>
                obtain ⟨zs, hzs⟩ := mkM_pre k n i
                have h3 := ApC.app (x := M) memSz (by decide) (HST3.out.keep ((Below.refl _ w1).alloc (Nat.le_refl _) _)) HV.out (by rw [hzs, HAL.out]) (by rw [mkM_len]; exact hown') hgrow
                have e : mkM k (n + i) ++ [M] = mkM k (n + (i + 1)) := by rw [← Nat.add_assoc, mkM_succ, ← HM.out, Int.natCast_add]
                rw [e] at h3
                have hz2 : base2 ≤ w2.heap.size := by
                  have := HZ1.out
                  rcases hgrow with ⟨_, hg⟩ | ⟨_, hg⟩
                  · have := hg.size; rw [World.size_alloc] at this; omega
                  · have := hg.size; rw [World.size_alloc] at this; omega
                exact ⟨⟨i + 1, by omega, by rw [Int.natCast_add]; rfl, hz2, h3⟩, by simp [intOf]; omega⟩
            · obtain rfl : i = 64 := by omega
              obtain ⟨p7, c7, hu7, -, -⟩ := (hst2.out.cur.reads memSz).slice
              rw [mkM_len] at hu7
              subst hu7
              have hgs := hst2.out.gs
              rw [hG.out] at hgs
              have HGS := Lib.hid hgs
              clear hgs
              go_wp2_with (first
                | (at_builtin; refine wpList_append_own _ rfl _ _ 73 rfl base2 22 j0 (.slice none 0 0) 1 24 Tryz.underlying73 ki kz0 kz1 kz2 rfl (by decide) _ _ _ rfl (HGS.out.alloc _) ⟨wr.heap.size, 0, none⟩ 1 1 [.slice p7 (n + 64) c7] rfl rfl (cell_one_new wr _ _) (by intro u hu; rw [List.mem_singleton.1 hu]; rfl) (by unfold maxLen; omega) (by omega) (by have := hbz2.out; rw [World.size_alloc]; omega) ?_; intro v' w2 hown' hgrow _)
                | fail)
              case roundEnd =>
                have h4 := ApC.leave (by decide) HB2.out.1 HB2.out.2 (hst2.out.keep ((Below.refl _ wr).alloc (Nat.le_refl _) _)) hG.out (by rw [HC2.out, ← HNN.out]) (by rw [hG.out]; exact hown') hgrow
                refine ⟨⟨k + 1, _, by omega, by rw [Int.natCast_add]; rfl, (by show _ = _; rw [List.length_append, hG.out]; rfl), ?_, h4⟩, by simp [intOf]; omega⟩
                have := hgrow.size
                have := hbz2.out
                rw [World.size_alloc] at *
                show base2 ≤ _
                omega
        · obtain rfl : k = N := by omega
          have HR := Lib.hid (hst.out.done memSz)
          have hgs := hst.out.gs
          rw [hG.out] at hgs
          obtain ⟨gb, gc, rfl, hgc1, hgc2⟩ : ∃ gb gc, u5 = .slice (some ⟨gb, 0, none⟩) k gc ∧ (k : Int) ≤ (gc : Int) ∧ (gc : Int) ≤ 9223372036854775807 := by
            rcases hgs.2 with ⟨_, h0⟩ | ⟨g, cap, cur, h1, _, _, h4, h5, _⟩
            · omega
            · exact ⟨g, cap, h1, by omega, by unfold maxLen at h5; omega⟩
          clear hgs
          go_wp2_with fail
          go_loopw [9] (fun kv wr => ∃ (q : Nat), (q : Int) ≤ (k : Int) ∧ kv = .int .i64 q ∧ Hid (ApMR base base2 LB vs w a c G (.slice (some ⟨gb, 0, none⟩) k gc) wr)) (fun kv _ => k - (intOf kv).toNat)
          case atStart => exact ⟨0, by omega, rfl, HR⟩
          case round =>
            obtain ⟨q, hq, rfl, hst3⟩ := hrel
            obtain ⟨wq, rfl⟩ : ∃ wq : World, wq = wr := ⟨_, rfl⟩
            by_cases hltq : (q : Int) < (k : Int)
            · obtain ⟨v, hv⟩ : ∃ v, vs[q]? = some v := ⟨_, Array.getElem?_eq_getElem (i := q) (by have := HNE.out; omega)⟩
              obtain ⟨x, hx⟩ : ∃ x, G[q]? = some x := ⟨_, List.getElem?_eq_getElem (i := q) (by have := hG.out; omega)⟩
              obtain ⟨p, cp, hve, hcp, hcp2⟩ := (hst3.out.rd q v hv).slice
              obtain ⟨p2, cp2, hxe, hcq, hcq2⟩ := (hst3.out.rdC q x hx).slice
              have hn := HLEN.out q
              obtain ⟨n, hne⟩ : ∃ n, (f q).length = n := ⟨_, rfl⟩
              have hal : a q = mkM q n := by rw [HA2.out, ← hne]
              have hcl : c q = mkM q (n + 64) := by rw [HC2.out, ← hne]
              rw [hal, mkM_len] at hve hcp
              rw [hcl, mkM_len] at hxe hcq
              rw [hne] at hn
              subst hve
              subst hxe
              have HV := Lib.hid hv
              have HX := Lib.hid hx
              have HAL := Lib.hid hal
              have HCL := Lib.hid hcl
              have hn2 : (n : Int) ≤ 33000000 := by omega
              have hcp3 : (n : Int) ≤ (cp : Int) := by omega
              have hcp4 : (cp : Int) ≤ 9223372036854775807 := by unfold maxLen at hcp2; omega
              have hcq3 : (n : Int) + 64 ≤ (cp2 : Int) := by omega
              have hcq4 : (cp2 : Int) ≤ 9223372036854775807 := by unfold maxLen at hcq2; omega
              have hqk : q < k := by omega
              clear hv hx hcp hcp2 hn hne hal hcl hcq hcq2
              go_wp2_with fail
              go_loopw [10] (fun iv wr => ∃ (i : Nat), (i : Int) ≤ (n : Int) + 64 ∧ iv = .int .i64 i ∧ Hid (ApMR base base2 LB vs w a c G (.slice (some ⟨gb, 0, none⟩) k gc) wr)) (fun iv _ => n + 64 - (intOf iv).toNat)
              case atStart => exact ⟨0, by omega, rfl, hst3⟩
              case round =>
                obtain ⟨i, hi2, rfl, hst4⟩ := hrel
                have hgc : wr.cell? ⟨gb, q, none⟩ = some (.slice p2 (n + 64) cp2) := own_cell hst4.out.gs (by rw [hG.out]) HX.out
                by_cases hlti : (i : Int) < (n : Int) + 64
                · have hmkc := fun W => markM_any q i W (by omega) (by omega) (by omega)
                  obtain ⟨M, hM⟩ : ∃ M, markM q (i : Nat) = M := ⟨_, rfl⟩
                  rw [hM] at hmkc
                  have HM := Lib.hid hM
                  have HMKC := Lib.hid hmkc
                  clear hmkc hM
                  go_wp2_with fail
                  refine (HMKC.out _).mono ?_
                  rintro e w1 ⟨rfl, hb1⟩
                  have HST5 := Lib.hid ((hst4.out.keep hb1).keep ((Below.refl _ w1).alloc (Nat.le_refl _) (.cells M.cells 26)))
                  clear hb1 hgc HMKC
                  go_wp2_with fail
                  have cw := cell_new w1 M.cells 26
                  change Code.wp _ _ _ _ (w1.alloc (.cells M.cells 26))
                  obtain ⟨w3, hw3⟩ : ∃ w3, w1.alloc (.cells M.cells 26) = w3 := ⟨_, rfl⟩
                  rw [hw3] at cw HST5 ⊢
                  clear hw3
                  have cgs : w3.cell? ⟨gb, q, none⟩ = some (.slice p2 (n + 64) cp2) := own_cell HST5.out.gs (by rw [hG.out]) HX.out
                  have cls : w3.cell? ⟨LB, q, none⟩ = some (.slice p n cp) := (cell_of_heapN HST5.out.ls).trans HV.out
                  obtain ⟨h, cp', he, -, -, -, hrow⟩ := (HST5.out.rdC q _ HX.out).at (i := i) (x := M) (by rw [HCL.out, mkM_at (by omega), HM.out])
                  obtain ⟨rfl, -, -⟩ := Value.slice.inj he
                  have d0 := cell0 hrow (j := 0) (by decide) rfl
                  have d1 := cell0 hrow (j := 1) (by decide) rfl
                  have d2 := cell0 hrow (j := 2) (by decide) rfl
                  have d3 := cell0 hrow (j := 3) (by decide) rfl
                  have d4 := cell0 hrow (j := 4) (by decide) rfl
                  have d5 := cell0 hrow (j := 5) (by decide) rfl
                  have d6 := cell0 hrow (j := 6) (by decide) rfl
                  have d7 := cell0 hrow (j := 7) (by decide) rfl
                  have d8 := cell0 hrow (j := 8) (by decide) rfl
                  have d9 := cell0 hrow (j := 9) (by decide) rfl
                  have d10 := cell0 hrow (j := 10) (by decide) rfl
                  have d11 := cell0 hrow (j := 11) (by decide) rfl
                  have d12 := cell0 hrow (j := 12) (by decide) rfl
                  rw [Nat.add_zero] at d0
                  have HST6 := Lib.hid (HST5.out.keep ((Below.refl _ w3).drew))
                  clear he hrow
                  by_cases hin : (i : Int) < (n : Int)
                  · obtain ⟨g, cp3, he, -, -, -, hrow2⟩ := (HST5.out.rd q _ HV.out).at (i := i) (x := M) (by rw [HAL.out, mkM_at (by omega), HM.out])
                    obtain ⟨rfl, -, -⟩ := Value.slice.inj he
                    have c0 := cell0 hrow2 (j := 0) (by decide) rfl
                    have c1 := cell0 hrow2 (j := 1) (by decide) rfl
                    have c2 := cell0 hrow2 (j := 2) (by decide) rfl
                    have c3 := cell0 hrow2 (j := 3) (by decide) rfl
                    have c4 := cell0 hrow2 (j := 4) (by decide) rfl
                    have c5 := cell0 hrow2 (j := 5) (by decide) rfl
                    have c6 := cell0 hrow2 (j := 6) (by decide) rfl
                    have c7 := cell0 hrow2 (j := 7) (by decide) rfl
                    have c8 := cell0 hrow2 (j := 8) (by decide) rfl
                    have c9 := cell0 hrow2 (j := 9) (by decide) rfl
                    have c10 := cell0 hrow2 (j := 10) (by decide) rfl
                    have c11 := cell0 hrow2 (j := 11) (by decide) rfl
                    have c12 := cell0 hrow2 (j := 12) (by decide) rfl
                    rw [Nat.add_zero] at c0
                    clear he hrow2 HST5
                    go_region
                    clear cgs cls cw d0 d1 d2 d3 d4 d5 d6 d7 d8 d9 d10 d11 d12 c0 c1 c2 c3 c4 c5 c6 c7 c8 c9 c10 c11 c12
                    go_wp2_with fail
                    case roundEnd =>
                      exact ⟨⟨i + 1, by omega, by rw [Int.natCast_add]; rfl, HST6⟩, by simp [intOf]; omega⟩
                  · clear HST5
                    go_region
                    clear cgs cls cw d0 d1 d2 d3 d4 d5 d6 d7 d8 d9 d10 d11 d12
                    go_wp2_with fail
                    case roundEnd =>
                      exact ⟨⟨i + 1, by omega, by rw [Int.natCast_add]; rfl, HST6⟩, by simp [intOf]; omega⟩
                · go_wp2_with fail
                  case roundEnd =>
                    exact ⟨⟨q + 1, by omega, by rw [Int.natCast_add]; rfl, hst4⟩, by simp [intOf]; omega⟩
            · go_wp2_with fail
              go_ret
              exact ⟨rfl, hst3.out.bel⟩
end Go.Proofs.YthpmocfdnoehoaaGreatDoor
/- Plain: a header that was written is read as it was. -/
namespace Go.Proofs.YthpmocfdnoehoaaGreatDoor
open Go.RowKit
theorem fld_get (l : Bs) (a b k : Nat) : (fld l a b)[k]? = if k < b - a then l[a + k]? else none := by
  unfold fld
  rw [List.getElem?_take]
  split
  · rw [List.getElem?_drop]
  · rfl
theorem over_get {l s : Bs} {i : Nat} (h : i + s.length ≤ l.length) (k : Nat) : (over l i s)[k]? = if i ≤ k ∧ k < i + s.length then s[k - i]? else l[k]? := by
  unfold over
  rw [List.append_assoc, List.getElem?_append, List.length_take, Nat.min_eq_left (by omega)]
  by_cases h1 : k < i
  · rw [if_pos h1, if_neg (by omega), List.getElem?_take, if_pos h1]
  · rw [if_neg h1, List.getElem?_append]
    by_cases h2 : k - i < s.length
    · rw [if_pos h2, if_pos (by omega)]
    · rw [if_neg h2, if_neg (by omega), List.getElem?_drop]
      congr 1
      omega
theorem fld_out {l s : Bs} {i a b : Nat} (h : i + s.length ≤ l.length) (hd : b ≤ i ∨ i + s.length ≤ a) : fld (over l i s) a b = fld l a b := by
  apply List.ext_getElem?
  intro k
  rw [fld_get, fld_get]
  split
  · rw [over_get h, if_neg (by omega)]
  · rfl
theorem fld_in {l s : Bs} {a b : Nat} (h : a + s.length ≤ b) (hb : b ≤ l.length) : fld (over l a s) a b = s ++ fld l (a + s.length) b := by
  apply List.ext_getElem?
  intro k
  rw [fld_get, List.getElem?_append, fld_get]
  by_cases h1 : k < s.length
  · rw [if_pos (by omega), over_get (by omega), if_pos (by omega), if_pos h1]
    congr 1
    omega
  · rw [if_neg h1]
    by_cases h2 : k < b - a
    · rw [if_pos h2, over_get (by omega), if_neg (by omega), if_pos (by omega)]
      congr 1
      omega
    · rw [if_neg h2, if_neg (by omega)]
/-- Pieces laid one over another. -/
def lay (L : List (Nat × Bs)) (l : Bs) : Bs := L.foldl (fun l p => over l p.1 p.2) l
theorem lay_len : ∀ (L : List (Nat × Bs)) (l : Bs), l.length = 512 → (∀ p ∈ L, p.1 + p.2.length ≤ 512) → (lay L l).length = 512
  | [], _, h, _ => h
  | p :: L, l, h, hp => lay_len L _ (by have := hp p (List.mem_cons_self ..); rw [over_length (by omega), h]) (fun q hq => hp q (List.mem_cons_of_mem _ hq))
theorem lay_out (a b : Nat) : ∀ (L : List (Nat × Bs)) (l : Bs), l.length = 512 → (∀ p ∈ L, p.1 + p.2.length ≤ 512) → (∀ p ∈ L, b ≤ p.1 ∨ p.1 + p.2.length ≤ a) → fld (lay L l) a b = fld l a b
  | [], _, _, _, _ => rfl
  | p :: L, l, h, hp, hd => by
    have h1 := hp p (List.mem_cons_self ..)
    show fld (lay L (over l p.1 p.2)) a b = _
    rw [lay_out a b L _ (by rw [over_length (by omega), h]) (fun q hq => hp q (List.mem_cons_of_mem _ hq)) (fun q hq => hd q (List.mem_cons_of_mem _ hq)), fld_out (by omega) (hd p (List.mem_cons_self ..))]
theorem fld_z512 (a b : Nat) (h : b ≤ 512) : fld z512 a b = List.replicate (b - a) 0 := by
  unfold fld z512
  rw [List.drop_replicate, List.take_replicate, Nat.min_eq_left (by omega)]
theorem lay_fld (pre post : List (Nat × Bs)) (a b : Nat) (s : Bs) (h0 : ∀ p ∈ pre, p.1 + p.2.length ≤ 512) (h3 : ∀ p ∈ post, p.1 + p.2.length ≤ 512) (h1 : ∀ p ∈ pre, b ≤ p.1 ∨ p.1 + p.2.length ≤ a + s.length) (h2 : ∀ p ∈ post, b ≤ p.1 ∨ p.1 + p.2.length ≤ a) (hs : a + s.length ≤ b) (hb : b ≤ 512) :
    fld (lay (pre ++ (a, s) :: post) z512) a b = s ++ List.replicate (b - a - s.length) 0 := by
  have e : lay (pre ++ (a, s) :: post) z512 = lay post (over (lay pre z512) a s) := by unfold lay; rw [List.foldl_append]; rfl
  have hl := lay_len pre z512 z512_len h0
  rw [e, lay_out a b post _ (by rw [over_length (by omega), hl]) h3 h2, fld_in hs (by omega), lay_out _ b pre _ z512_len h0 h1, fld_z512 _ _ hb]
  congr 2
  omega
theorem over_over {l s t : Bs} {i : Nat} (h : i + (s ++ t).length ≤ l.length) : over (over l i s) (i + s.length) t = over l i (s ++ t) := by
  rw [List.length_append] at h
  apply List.ext_getElem?
  intro k
  rw [over_get (by rw [over_length (by omega)]; omega), over_get (by omega), over_get (by rw [List.length_append]; omega), List.length_append]
  by_cases h1 : i + s.length ≤ k ∧ k < i + s.length + t.length
  · rw [if_pos h1, if_pos (by omega), List.getElem?_append_right (by omega)]
    congr 1
    omega
  · rw [if_neg h1]
    by_cases h2 : i ≤ k ∧ k < i + s.length
    · rw [if_pos h2, if_pos (by omega), List.getElem?_append_left (by omega)]
    · rw [if_neg h2, if_neg (by omega)]
/-- The pieces of a header. -/
@[reducible] def hdrL (h : Hdr) (pre name : Bs) : List (Nat × Bs) :=
  [(0, name), (100, octal 7 h.mode), (108, octal 7 h.uid), (116, octal 7 h.gid), (124, octal 11 h.size), (136, octal 11 h.time), (156, [h.typ]), (157, h.link.data.toList), (257, [117, 115, 116, 97, 114, 0, 48, 48]), (265, h.user.data.toList), (297, h.group.data.toList), (329, octal 7 h.major), (337, octal 7 h.minor), (345, pre)]
theorem chain_lay (h : Hdr) (pre name : Bs) : chain h pre name = lay (hdrL h pre name) z512 := rfl
theorem hdrL_fit {h : Hdr} {pre name : Bs} (hp : pre.length ≤ 155) (hn : name.length ≤ 100) (hk : h.link.data.toList.length ≤ 100) (hu : h.user.data.toList.length ≤ 31) (hg : h.group.data.toList.length ≤ 31) : ∀ p ∈ hdrL h pre name, p.1 + p.2.length ≤ 512 := by
  simp only [List.forall_mem_cons, octal_length, List.length_cons, List.length_nil]
  refine ⟨?_, ?_, ?_, ?_, ?_, ?_, ?_, ?_, ?_, ?_, ?_, ?_, ?_, ?_, fun _ h => nomatch h⟩ <;> omega
theorem hdrBytes_lay {h : Hdr} {pre name : Bs} (hp : pre.length ≤ 155) (hn : name.length ≤ 100) (hk : h.link.data.toList.length ≤ 100) (hu : h.user.data.toList.length ≤ 31) (hg : h.group.data.toList.length ≤ 31) :
    hdrBytes h pre name = lay (hdrL h pre name ++ [(148, octal 6 (sumTo (chain h pre name) 512) ++ [0, 32])]) z512 := by
  have hc : (chain h pre name).length = 512 := by rw [chain_lay]; exact lay_len _ _ z512_len (hdrL_fit hp hn hk hu hg)
  have e := over_over (l := chain h pre name) (s := octal 6 (sumTo (chain h pre name) 512)) (t := [0, 32]) (i := 148) (by simp [octal_length]; omega)
  rw [octal_length] at e
  unfold hdrBytes lay
  rw [List.foldl_append]
  exact e
theorem oct_byte (x : Int) : isOct (48 + x % 8).toNat.toUInt8 = true ∧ (((48 + x % 8).toNat.toUInt8).toNat : Int) = 48 + x % 8 := by
  have h : ((48 + x % 8).toNat.toUInt8).toNat = (48 + x % 8).toNat := by
    rw [Nat.toUInt8, UInt8.toNat_ofNat']
    exact Nat.mod_eq_of_lt (by omega)
  refine ⟨?_, by rw [h]; omega⟩
  unfold isOct
  rw [h]
  simp only [Bool.and_eq_true, decide_eq_true_eq]
  omega
theorem octal_isOct (d : Nat) : ∀ x, ∀ b ∈ octal d x, isOct b = true := by
  induction d with
  | zero => intro x b hb; cases hb
  | succ d ih =>
    intro x b hb
    rw [octal, List.mem_append] at hb
    rcases hb with hb | hb
    · exact ih _ b hb
    · rw [List.mem_singleton] at hb
      rw [hb]
      exact (oct_byte x).1
theorem octVal_octal (d : Nat) : ∀ x : Int, 0 ≤ x → x < 8 ^ d → octVal (octal d x) = x := by
  induction d with
  | zero => intro x h0 h1; simp at h1; simp [octal, octVal]; omega
  | succ d ih =>
    intro x h0 h1
    have : (8 : Int) ^ (d + 1) = 8 * 8 ^ d := by rw [Int.pow_succ, Int.mul_comm]
    rw [octal, octVal_snoc, ih (x / 8) (by omega) (by omega), (oct_byte x).2]
    omega
theorem num_octal (d : Nat) (x : Int) (z : Bs) (hd : 0 < d) (h0 : 0 ≤ x) (h1 : x < 8 ^ d) (hz : ∀ b ∈ z, b = 32 ∨ b = 0) : numX (octal d x ++ z) = x ∧ numOk (octal d x ++ z) = true := by
  have ho := octal_isOct d x
  have hl := octal_length d x
  have hD : numD (octal d x ++ z) = octal d x ++ z := by
    unfold numD
    cases hc : octal d x with
    | nil => rw [hc] at hl; simp at hl; omega
    | cons c r =>
      have := ho c (by rw [hc]; exact List.mem_cons_self ..)
      rw [List.cons_append, List.dropWhile_cons, if_neg]
      intro e
      rw [beq_iff_eq] at e
      subst e
      revert this
      decide
  have hR : numR (octal d x ++ z) = octal d x := by
    unfold numR
    rw [hD, List.takeWhile_append_of_pos ho]
    have : z.takeWhile isOct = [] := by
      cases z with
      | nil => rfl
      | cons c r =>
        rw [List.takeWhile_cons, if_neg]
        rcases hz c (List.mem_cons_self ..) with rfl | rfl <;> decide
    rw [this, List.append_nil]
  refine ⟨by unfold numX; rw [hR, octVal_octal d x h0 h1], ?_⟩
  unfold numOk
  rw [hR, hD, hl, decide_eq_true hd, Bool.true_and, List.drop_append_of_le_length (by omega), List.drop_eq_nil_of_le (by omega), List.nil_append, List.all_eq_true]
  intro b hb
  rcases hz b hb with rfl | rfl <;> decide
theorem rep_z (k : Nat) : ∀ b ∈ List.replicate k (0 : UInt8), b = 32 ∨ b = 0 := fun _ h => .inr (List.eq_of_mem_replicate h)
theorem textOf_rep (s : Bs) (k : Nat) (h : ∀ b ∈ s, b ≠ 0) : textOf (s ++ List.replicate k 0) = s := by
  unfold textOf
  rw [List.takeWhile_append_of_pos (fun b hb => by simpa using h b hb)]
  cases k with
  | zero => simp
  | succ k => simp [List.replicate_succ]
theorem sumTo_congr {l l' : Bs} : ∀ n, (∀ k, k < n → ¬ (148 ≤ k ∧ k < 156) → l.getD k 0 = l'.getD k 0) → sumTo l n = sumTo l' n
  | 0, _ => rfl
  | n + 1, h => by
    rw [sumTo, sumTo, sumTo_congr n (fun k hk => h k (by omega))]
    by_cases hb : 148 ≤ n ∧ n < 156
    · rw [if_pos hb, if_pos hb]
    · rw [if_neg hb, if_neg hb, h n (by omega) hb]
theorem splitOf_join {p a b : ByteArray} (h : splitOf p = some (a, b)) : (a.data.toList = [] ∧ b = p) ∨ (a.data.toList ≠ [] ∧ p.data.toList = a.data.toList ++ [47] ++ b.data.toList) := by
  unfold splitOf at h
  split at h
  · cases h
    exact .inl ⟨rfl, rfl⟩
  · rename_i h1
    split at h
    · cases h
    · rename_i h2
      right
      simp only [not_or] at h2
      obtain ⟨k, hk⟩ : ∃ k : Nat, Lib.indexByte (win p) 47 = k := ⟨(Lib.indexByte (win p) 47).toNat, by omega⟩
      have hs := (Lib.indexByte_some hk).1
      rw [hk] at h h2
      simp only [Option.some.injEq, Prod.mk.injEq, Int.toNat_natCast] at h
      obtain ⟨rfl, rfl⟩ := h
      have hpl : p.data.toList.length = p.size := rfl
      have hw : p.data.toList[p.size - 100 - 1 + k]? = some 47 := by
        unfold win at hs
        rw [List.getElem?_take] at hs
        split at hs
        · rw [List.getElem?_drop] at hs
          exact hs
        · cases hs
      have hlt := (List.getElem?_eq_some_iff.1 hw).1
      rw [Lib.extract_data, Lib.extract_data, List.drop_zero, Nat.sub_zero]
      refine ⟨fun e => ?_, ?_⟩
      · have h4 : (List.take (p.size - 100 - 1 + k) p.data.toList).length = 0 := by rw [e]; rfl
        rw [List.length_take, hpl] at h4
        omega
      · have h3 := (List.getElem?_eq_some_iff.1 hw).2
        rw [List.take_of_length_le (l := List.drop _ _) (by rw [List.length_drop]; omega), List.append_assoc, List.singleton_append, ← h3, List.getElem_cons_drop, List.take_append_drop]
set_option linter.unusedSimpArgs false in
theorem hdr_back {h : Hdr} (he : encErr h = 0) : decErrM (encOf h) = 0 ∧ decHdr (encOf h) = h := by
  obtain ⟨pre, name, hs, hw, hk, h7, h11, e, hp, hn, hu, hg⟩ := enc_ok he
  have hj := splitOf_join hs
  simp only [wrongB, Bool.or_eq_false_iff, nulIn, List.contains_eq_mem, decide_eq_false_iff_not] at hw
  simp only [nums7, nums11, inB, Bool.and_eq_true, decide_eq_true_eq] at h7 h11
  obtain ⟨⟨⟨⟨⟨wp, wl⟩, wu⟩, wg⟩, -⟩, -⟩ := hw
  obtain ⟨⟨⟨⟨⟨m0, m1⟩, ⟨u0, u1⟩⟩, ⟨g0, g1⟩⟩, ⟨j0, j1⟩⟩, ⟨n0, n1⟩⟩ := h7
  obtain ⟨⟨s0, s1⟩, ⟨t0, t1⟩⟩ := h11
  have np : (∀ b ∈ pre.data.toList, b ≠ 0) ∧ (∀ b ∈ name.data.toList, b ≠ 0) := by
    rcases hj with ⟨h1, rfl⟩ | ⟨_, h2⟩
    · refine ⟨by rw [h1]; exact (fun _ hb => by cases hb), fun b hb e => wp (by rw [← e]; exact hb)⟩
    · refine ⟨fun b hb e => wp ?_, fun b hb e => wp ?_⟩
      · rw [h2, List.mem_append, List.mem_append]; exact .inl (.inl (by rw [← e]; exact hb))
      · rw [h2, List.mem_append]; exact .inr (by rw [← e]; exact hb)
  have hp' : pre.data.toList.length ≤ 155 := hp
  have hn' : name.data.toList.length ≤ 100 := hn
  have hk' : h.link.data.toList.length ≤ 100 := hk
  have hu' : h.user.data.toList.length ≤ 31 := hu
  have hg' : h.group.data.toList.length ≤ 31 := hg
  have hb := hdrBytes_lay hp' hn' hk' hu' hg'
  rw [e, hb]
  have hSb := sumTo_bd (chain h pre.data.toList name.data.toList) 512
  have hcl : (chain h pre.data.toList name.data.toList).length = 512 := by rw [chain_lay]; exact lay_len _ _ z512_len (hdrL_fit hp' hn' hk' hu' hg')
  obtain ⟨S, hS⟩ : ∃ S, sumTo (chain h pre.data.toList name.data.toList) 512 = S := ⟨_, rfl⟩
  have hSS : sumTo (lay (hdrL h pre.data.toList name.data.toList ++ [(148, octal 6 S ++ [0, 32])]) z512) 512 = S := by
    rw [← hS]
    have e2 : lay (hdrL h pre.data.toList name.data.toList ++ [(148, octal 6 (sumTo (chain h pre.data.toList name.data.toList) 512) ++ [0, 32])]) z512 = over (chain h pre.data.toList name.data.toList) 148 (octal 6 (sumTo (chain h pre.data.toList name.data.toList) 512) ++ [0, 32]) := by unfold lay; rw [List.foldl_append]; rfl
    rw [e2]
    refine sumTo_congr 512 fun k _ hk8 => ?_
    rw [List.getD_eq_getElem?_getD, List.getD_eq_getElem?_getD, over_get (by rw [hcl]; simp [octal_length]), if_neg (by simp [octal_length]; omega)]
  rw [hS] at hSb ⊢
  have F := fun (pr po : List (Nat × Bs)) (a b : Nat) (s : Bs) => lay_fld pr po a b s
  obtain ⟨l, hl⟩ : ∃ l, lay (hdrL h pre.data.toList name.data.toList ++ [(148, octal 6 S ++ [0, 32])]) z512 = l := ⟨_, rfl⟩
  have A0 : fld l 0 100 = name.data.toList ++ List.replicate (100 - 0 - (name.data.toList).length) 0 := by
    rw [← hl]; exact lay_fld [] _ 0 100 (name.data.toList) (by first | (intro _ hq; cases hq; done) | omega | ((simp only [List.append_eq, List.cons_append, List.nil_append, List.forall_mem_cons, List.not_mem_nil, false_implies, implies_true, List.length_append, octal_length, List.length_cons, List.length_nil, and_true, true_and]); (repeat' apply And.intro) <;> omega)) (by first | (intro _ hq; cases hq; done) | omega | ((simp only [List.append_eq, List.cons_append, List.nil_append, List.forall_mem_cons, List.not_mem_nil, false_implies, implies_true, List.length_append, octal_length, List.length_cons, List.length_nil, and_true, true_and]); (repeat' apply And.intro) <;> omega)) (by first | (intro _ hq; cases hq; done) | omega | ((simp only [List.append_eq, List.cons_append, List.nil_append, List.forall_mem_cons, List.not_mem_nil, false_implies, implies_true, List.length_append, octal_length, List.length_cons, List.length_nil, and_true, true_and]); (repeat' apply And.intro) <;> omega)) (by first | (intro _ hq; cases hq; done) | omega | ((simp only [List.append_eq, List.cons_append, List.nil_append, List.forall_mem_cons, List.not_mem_nil, false_implies, implies_true, List.length_append, octal_length, List.length_cons, List.length_nil, and_true, true_and]); (repeat' apply And.intro) <;> omega)) (by first | (intro _ hq; cases hq; done) | omega | ((simp only [List.append_eq, List.cons_append, List.nil_append, List.forall_mem_cons, List.not_mem_nil, false_implies, implies_true, List.length_append, octal_length, List.length_cons, List.length_nil, and_true, true_and]); (repeat' apply And.intro) <;> omega)) (by omega)
  have A100 : fld l 100 108 = octal 7 h.mode ++ List.replicate (108 - 100 - (octal 7 h.mode).length) 0 := by
    rw [← hl]; exact lay_fld [(0, name.data.toList)] _ 100 108 (octal 7 h.mode) (by first | (intro _ hq; cases hq; done) | omega | ((simp only [List.append_eq, List.cons_append, List.nil_append, List.forall_mem_cons, List.not_mem_nil, false_implies, implies_true, List.length_append, octal_length, List.length_cons, List.length_nil, and_true, true_and]); (repeat' apply And.intro) <;> omega)) (by first | (intro _ hq; cases hq; done) | omega | ((simp only [List.append_eq, List.cons_append, List.nil_append, List.forall_mem_cons, List.not_mem_nil, false_implies, implies_true, List.length_append, octal_length, List.length_cons, List.length_nil, and_true, true_and]); (repeat' apply And.intro) <;> omega)) (by first | (intro _ hq; cases hq; done) | omega | ((simp only [List.append_eq, List.cons_append, List.nil_append, List.forall_mem_cons, List.not_mem_nil, false_implies, implies_true, List.length_append, octal_length, List.length_cons, List.length_nil, and_true, true_and]); (repeat' apply And.intro) <;> omega)) (by first | (intro _ hq; cases hq; done) | omega | ((simp only [List.append_eq, List.cons_append, List.nil_append, List.forall_mem_cons, List.not_mem_nil, false_implies, implies_true, List.length_append, octal_length, List.length_cons, List.length_nil, and_true, true_and]); (repeat' apply And.intro) <;> omega)) (by first | (intro _ hq; cases hq; done) | omega | ((simp only [List.append_eq, List.cons_append, List.nil_append, List.forall_mem_cons, List.not_mem_nil, false_implies, implies_true, List.length_append, octal_length, List.length_cons, List.length_nil, and_true, true_and]); (repeat' apply And.intro) <;> omega)) (by omega)
  have A108 : fld l 108 116 = octal 7 h.uid ++ List.replicate (116 - 108 - (octal 7 h.uid).length) 0 := by
    rw [← hl]; exact lay_fld [(0, name.data.toList), (100, octal 7 h.mode)] _ 108 116 (octal 7 h.uid) (by first | (intro _ hq; cases hq; done) | omega | ((simp only [List.append_eq, List.cons_append, List.nil_append, List.forall_mem_cons, List.not_mem_nil, false_implies, implies_true, List.length_append, octal_length, List.length_cons, List.length_nil, and_true, true_and]); (repeat' apply And.intro) <;> omega)) (by first | (intro _ hq; cases hq; done) | omega | ((simp only [List.append_eq, List.cons_append, List.nil_append, List.forall_mem_cons, List.not_mem_nil, false_implies, implies_true, List.length_append, octal_length, List.length_cons, List.length_nil, and_true, true_and]); (repeat' apply And.intro) <;> omega)) (by first | (intro _ hq; cases hq; done) | omega | ((simp only [List.append_eq, List.cons_append, List.nil_append, List.forall_mem_cons, List.not_mem_nil, false_implies, implies_true, List.length_append, octal_length, List.length_cons, List.length_nil, and_true, true_and]); (repeat' apply And.intro) <;> omega)) (by first | (intro _ hq; cases hq; done) | omega | ((simp only [List.append_eq, List.cons_append, List.nil_append, List.forall_mem_cons, List.not_mem_nil, false_implies, implies_true, List.length_append, octal_length, List.length_cons, List.length_nil, and_true, true_and]); (repeat' apply And.intro) <;> omega)) (by first | (intro _ hq; cases hq; done) | omega | ((simp only [List.append_eq, List.cons_append, List.nil_append, List.forall_mem_cons, List.not_mem_nil, false_implies, implies_true, List.length_append, octal_length, List.length_cons, List.length_nil, and_true, true_and]); (repeat' apply And.intro) <;> omega)) (by omega)
  have A116 : fld l 116 124 = octal 7 h.gid ++ List.replicate (124 - 116 - (octal 7 h.gid).length) 0 := by
    rw [← hl]; exact lay_fld [(0, name.data.toList), (100, octal 7 h.mode), (108, octal 7 h.uid)] _ 116 124 (octal 7 h.gid) (by first | (intro _ hq; cases hq; done) | omega | ((simp only [List.append_eq, List.cons_append, List.nil_append, List.forall_mem_cons, List.not_mem_nil, false_implies, implies_true, List.length_append, octal_length, List.length_cons, List.length_nil, and_true, true_and]); (repeat' apply And.intro) <;> omega)) (by first | (intro _ hq; cases hq; done) | omega | ((simp only [List.append_eq, List.cons_append, List.nil_append, List.forall_mem_cons, List.not_mem_nil, false_implies, implies_true, List.length_append, octal_length, List.length_cons, List.length_nil, and_true, true_and]); (repeat' apply And.intro) <;> omega)) (by first | (intro _ hq; cases hq; done) | omega | ((simp only [List.append_eq, List.cons_append, List.nil_append, List.forall_mem_cons, List.not_mem_nil, false_implies, implies_true, List.length_append, octal_length, List.length_cons, List.length_nil, and_true, true_and]); (repeat' apply And.intro) <;> omega)) (by first | (intro _ hq; cases hq; done) | omega | ((simp only [List.append_eq, List.cons_append, List.nil_append, List.forall_mem_cons, List.not_mem_nil, false_implies, implies_true, List.length_append, octal_length, List.length_cons, List.length_nil, and_true, true_and]); (repeat' apply And.intro) <;> omega)) (by first | (intro _ hq; cases hq; done) | omega | ((simp only [List.append_eq, List.cons_append, List.nil_append, List.forall_mem_cons, List.not_mem_nil, false_implies, implies_true, List.length_append, octal_length, List.length_cons, List.length_nil, and_true, true_and]); (repeat' apply And.intro) <;> omega)) (by omega)
  have A124 : fld l 124 136 = octal 11 h.size ++ List.replicate (136 - 124 - (octal 11 h.size).length) 0 := by
    rw [← hl]; exact lay_fld [(0, name.data.toList), (100, octal 7 h.mode), (108, octal 7 h.uid), (116, octal 7 h.gid)] _ 124 136 (octal 11 h.size) (by first | (intro _ hq; cases hq; done) | omega | ((simp only [List.append_eq, List.cons_append, List.nil_append, List.forall_mem_cons, List.not_mem_nil, false_implies, implies_true, List.length_append, octal_length, List.length_cons, List.length_nil, and_true, true_and]); (repeat' apply And.intro) <;> omega)) (by first | (intro _ hq; cases hq; done) | omega | ((simp only [List.append_eq, List.cons_append, List.nil_append, List.forall_mem_cons, List.not_mem_nil, false_implies, implies_true, List.length_append, octal_length, List.length_cons, List.length_nil, and_true, true_and]); (repeat' apply And.intro) <;> omega)) (by first | (intro _ hq; cases hq; done) | omega | ((simp only [List.append_eq, List.cons_append, List.nil_append, List.forall_mem_cons, List.not_mem_nil, false_implies, implies_true, List.length_append, octal_length, List.length_cons, List.length_nil, and_true, true_and]); (repeat' apply And.intro) <;> omega)) (by first | (intro _ hq; cases hq; done) | omega | ((simp only [List.append_eq, List.cons_append, List.nil_append, List.forall_mem_cons, List.not_mem_nil, false_implies, implies_true, List.length_append, octal_length, List.length_cons, List.length_nil, and_true, true_and]); (repeat' apply And.intro) <;> omega)) (by first | (intro _ hq; cases hq; done) | omega | ((simp only [List.append_eq, List.cons_append, List.nil_append, List.forall_mem_cons, List.not_mem_nil, false_implies, implies_true, List.length_append, octal_length, List.length_cons, List.length_nil, and_true, true_and]); (repeat' apply And.intro) <;> omega)) (by omega)
  have A136 : fld l 136 148 = octal 11 h.time ++ List.replicate (148 - 136 - (octal 11 h.time).length) 0 := by
    rw [← hl]; exact lay_fld [(0, name.data.toList), (100, octal 7 h.mode), (108, octal 7 h.uid), (116, octal 7 h.gid), (124, octal 11 h.size)] _ 136 148 (octal 11 h.time) (by first | (intro _ hq; cases hq; done) | omega | ((simp only [List.append_eq, List.cons_append, List.nil_append, List.forall_mem_cons, List.not_mem_nil, false_implies, implies_true, List.length_append, octal_length, List.length_cons, List.length_nil, and_true, true_and]); (repeat' apply And.intro) <;> omega)) (by first | (intro _ hq; cases hq; done) | omega | ((simp only [List.append_eq, List.cons_append, List.nil_append, List.forall_mem_cons, List.not_mem_nil, false_implies, implies_true, List.length_append, octal_length, List.length_cons, List.length_nil, and_true, true_and]); (repeat' apply And.intro) <;> omega)) (by first | (intro _ hq; cases hq; done) | omega | ((simp only [List.append_eq, List.cons_append, List.nil_append, List.forall_mem_cons, List.not_mem_nil, false_implies, implies_true, List.length_append, octal_length, List.length_cons, List.length_nil, and_true, true_and]); (repeat' apply And.intro) <;> omega)) (by first | (intro _ hq; cases hq; done) | omega | ((simp only [List.append_eq, List.cons_append, List.nil_append, List.forall_mem_cons, List.not_mem_nil, false_implies, implies_true, List.length_append, octal_length, List.length_cons, List.length_nil, and_true, true_and]); (repeat' apply And.intro) <;> omega)) (by first | (intro _ hq; cases hq; done) | omega | ((simp only [List.append_eq, List.cons_append, List.nil_append, List.forall_mem_cons, List.not_mem_nil, false_implies, implies_true, List.length_append, octal_length, List.length_cons, List.length_nil, and_true, true_and]); (repeat' apply And.intro) <;> omega)) (by omega)
  have A156 : fld l 156 157 = [h.typ] ++ List.replicate (157 - 156 - ([h.typ]).length) 0 := by
    rw [← hl]; exact lay_fld [(0, name.data.toList), (100, octal 7 h.mode), (108, octal 7 h.uid), (116, octal 7 h.gid), (124, octal 11 h.size), (136, octal 11 h.time)] _ 156 157 ([h.typ]) (by first | (intro _ hq; cases hq; done) | omega | ((simp only [List.append_eq, List.cons_append, List.nil_append, List.forall_mem_cons, List.not_mem_nil, false_implies, implies_true, List.length_append, octal_length, List.length_cons, List.length_nil, and_true, true_and]); (repeat' apply And.intro) <;> omega)) (by first | (intro _ hq; cases hq; done) | omega | ((simp only [List.append_eq, List.cons_append, List.nil_append, List.forall_mem_cons, List.not_mem_nil, false_implies, implies_true, List.length_append, octal_length, List.length_cons, List.length_nil, and_true, true_and]); (repeat' apply And.intro) <;> omega)) (by first | (intro _ hq; cases hq; done) | omega | ((simp only [List.append_eq, List.cons_append, List.nil_append, List.forall_mem_cons, List.not_mem_nil, false_implies, implies_true, List.length_append, octal_length, List.length_cons, List.length_nil, and_true, true_and]); (repeat' apply And.intro) <;> omega)) (by first | (intro _ hq; cases hq; done) | omega | ((simp only [List.append_eq, List.cons_append, List.nil_append, List.forall_mem_cons, List.not_mem_nil, false_implies, implies_true, List.length_append, octal_length, List.length_cons, List.length_nil, and_true, true_and]); (repeat' apply And.intro) <;> omega)) (by first | (intro _ hq; cases hq; done) | omega | ((simp only [List.append_eq, List.cons_append, List.nil_append, List.forall_mem_cons, List.not_mem_nil, false_implies, implies_true, List.length_append, octal_length, List.length_cons, List.length_nil, and_true, true_and]); (repeat' apply And.intro) <;> omega)) (by omega)
  have A157 : fld l 157 257 = h.link.data.toList ++ List.replicate (257 - 157 - (h.link.data.toList).length) 0 := by
    rw [← hl]; exact lay_fld [(0, name.data.toList), (100, octal 7 h.mode), (108, octal 7 h.uid), (116, octal 7 h.gid), (124, octal 11 h.size), (136, octal 11 h.time), (156, [h.typ])] _ 157 257 (h.link.data.toList) (by first | (intro _ hq; cases hq; done) | omega | ((simp only [List.append_eq, List.cons_append, List.nil_append, List.forall_mem_cons, List.not_mem_nil, false_implies, implies_true, List.length_append, octal_length, List.length_cons, List.length_nil, and_true, true_and]); (repeat' apply And.intro) <;> omega)) (by first | (intro _ hq; cases hq; done) | omega | ((simp only [List.append_eq, List.cons_append, List.nil_append, List.forall_mem_cons, List.not_mem_nil, false_implies, implies_true, List.length_append, octal_length, List.length_cons, List.length_nil, and_true, true_and]); (repeat' apply And.intro) <;> omega)) (by first | (intro _ hq; cases hq; done) | omega | ((simp only [List.append_eq, List.cons_append, List.nil_append, List.forall_mem_cons, List.not_mem_nil, false_implies, implies_true, List.length_append, octal_length, List.length_cons, List.length_nil, and_true, true_and]); (repeat' apply And.intro) <;> omega)) (by first | (intro _ hq; cases hq; done) | omega | ((simp only [List.append_eq, List.cons_append, List.nil_append, List.forall_mem_cons, List.not_mem_nil, false_implies, implies_true, List.length_append, octal_length, List.length_cons, List.length_nil, and_true, true_and]); (repeat' apply And.intro) <;> omega)) (by first | (intro _ hq; cases hq; done) | omega | ((simp only [List.append_eq, List.cons_append, List.nil_append, List.forall_mem_cons, List.not_mem_nil, false_implies, implies_true, List.length_append, octal_length, List.length_cons, List.length_nil, and_true, true_and]); (repeat' apply And.intro) <;> omega)) (by omega)
  have A257 : fld l 257 265 = [117, 115, 116, 97, 114, 0, 48, 48] ++ List.replicate (265 - 257 - ([117, 115, 116, 97, 114, 0, 48, 48]).length) 0 := by
    rw [← hl]; exact lay_fld [(0, name.data.toList), (100, octal 7 h.mode), (108, octal 7 h.uid), (116, octal 7 h.gid), (124, octal 11 h.size), (136, octal 11 h.time), (156, [h.typ]), (157, h.link.data.toList)] _ 257 265 ([117, 115, 116, 97, 114, 0, 48, 48]) (by first | (intro _ hq; cases hq; done) | omega | ((simp only [List.append_eq, List.cons_append, List.nil_append, List.forall_mem_cons, List.not_mem_nil, false_implies, implies_true, List.length_append, octal_length, List.length_cons, List.length_nil, and_true, true_and]); (repeat' apply And.intro) <;> omega)) (by first | (intro _ hq; cases hq; done) | omega | ((simp only [List.append_eq, List.cons_append, List.nil_append, List.forall_mem_cons, List.not_mem_nil, false_implies, implies_true, List.length_append, octal_length, List.length_cons, List.length_nil, and_true, true_and]); (repeat' apply And.intro) <;> omega)) (by first | (intro _ hq; cases hq; done) | omega | ((simp only [List.append_eq, List.cons_append, List.nil_append, List.forall_mem_cons, List.not_mem_nil, false_implies, implies_true, List.length_append, octal_length, List.length_cons, List.length_nil, and_true, true_and]); (repeat' apply And.intro) <;> omega)) (by first | (intro _ hq; cases hq; done) | omega | ((simp only [List.append_eq, List.cons_append, List.nil_append, List.forall_mem_cons, List.not_mem_nil, false_implies, implies_true, List.length_append, octal_length, List.length_cons, List.length_nil, and_true, true_and]); (repeat' apply And.intro) <;> omega)) (by first | (intro _ hq; cases hq; done) | omega | ((simp only [List.append_eq, List.cons_append, List.nil_append, List.forall_mem_cons, List.not_mem_nil, false_implies, implies_true, List.length_append, octal_length, List.length_cons, List.length_nil, and_true, true_and]); (repeat' apply And.intro) <;> omega)) (by omega)
  have A265 : fld l 265 297 = h.user.data.toList ++ List.replicate (297 - 265 - (h.user.data.toList).length) 0 := by
    rw [← hl]; exact lay_fld [(0, name.data.toList), (100, octal 7 h.mode), (108, octal 7 h.uid), (116, octal 7 h.gid), (124, octal 11 h.size), (136, octal 11 h.time), (156, [h.typ]), (157, h.link.data.toList), (257, [117, 115, 116, 97, 114, 0, 48, 48])] _ 265 297 (h.user.data.toList) (by first | (intro _ hq; cases hq; done) | omega | ((simp only [List.append_eq, List.cons_append, List.nil_append, List.forall_mem_cons, List.not_mem_nil, false_implies, implies_true, List.length_append, octal_length, List.length_cons, List.length_nil, and_true, true_and]); (repeat' apply And.intro) <;> omega)) (by first | (intro _ hq; cases hq; done) | omega | ((simp only [List.append_eq, List.cons_append, List.nil_append, List.forall_mem_cons, List.not_mem_nil, false_implies, implies_true, List.length_append, octal_length, List.length_cons, List.length_nil, and_true, true_and]); (repeat' apply And.intro) <;> omega)) (by first | (intro _ hq; cases hq; done) | omega | ((simp only [List.append_eq, List.cons_append, List.nil_append, List.forall_mem_cons, List.not_mem_nil, false_implies, implies_true, List.length_append, octal_length, List.length_cons, List.length_nil, and_true, true_and]); (repeat' apply And.intro) <;> omega)) (by first | (intro _ hq; cases hq; done) | omega | ((simp only [List.append_eq, List.cons_append, List.nil_append, List.forall_mem_cons, List.not_mem_nil, false_implies, implies_true, List.length_append, octal_length, List.length_cons, List.length_nil, and_true, true_and]); (repeat' apply And.intro) <;> omega)) (by first | (intro _ hq; cases hq; done) | omega | ((simp only [List.append_eq, List.cons_append, List.nil_append, List.forall_mem_cons, List.not_mem_nil, false_implies, implies_true, List.length_append, octal_length, List.length_cons, List.length_nil, and_true, true_and]); (repeat' apply And.intro) <;> omega)) (by omega)
  have A297 : fld l 297 329 = h.group.data.toList ++ List.replicate (329 - 297 - (h.group.data.toList).length) 0 := by
    rw [← hl]; exact lay_fld [(0, name.data.toList), (100, octal 7 h.mode), (108, octal 7 h.uid), (116, octal 7 h.gid), (124, octal 11 h.size), (136, octal 11 h.time), (156, [h.typ]), (157, h.link.data.toList), (257, [117, 115, 116, 97, 114, 0, 48, 48]), (265, h.user.data.toList)] _ 297 329 (h.group.data.toList) (by first | (intro _ hq; cases hq; done) | omega | ((simp only [List.append_eq, List.cons_append, List.nil_append, List.forall_mem_cons, List.not_mem_nil, false_implies, implies_true, List.length_append, octal_length, List.length_cons, List.length_nil, and_true, true_and]); (repeat' apply And.intro) <;> omega)) (by first | (intro _ hq; cases hq; done) | omega | ((simp only [List.append_eq, List.cons_append, List.nil_append, List.forall_mem_cons, List.not_mem_nil, false_implies, implies_true, List.length_append, octal_length, List.length_cons, List.length_nil, and_true, true_and]); (repeat' apply And.intro) <;> omega)) (by first | (intro _ hq; cases hq; done) | omega | ((simp only [List.append_eq, List.cons_append, List.nil_append, List.forall_mem_cons, List.not_mem_nil, false_implies, implies_true, List.length_append, octal_length, List.length_cons, List.length_nil, and_true, true_and]); (repeat' apply And.intro) <;> omega)) (by first | (intro _ hq; cases hq; done) | omega | ((simp only [List.append_eq, List.cons_append, List.nil_append, List.forall_mem_cons, List.not_mem_nil, false_implies, implies_true, List.length_append, octal_length, List.length_cons, List.length_nil, and_true, true_and]); (repeat' apply And.intro) <;> omega)) (by first | (intro _ hq; cases hq; done) | omega | ((simp only [List.append_eq, List.cons_append, List.nil_append, List.forall_mem_cons, List.not_mem_nil, false_implies, implies_true, List.length_append, octal_length, List.length_cons, List.length_nil, and_true, true_and]); (repeat' apply And.intro) <;> omega)) (by omega)
  have A329 : fld l 329 337 = octal 7 h.major ++ List.replicate (337 - 329 - (octal 7 h.major).length) 0 := by
    rw [← hl]; exact lay_fld [(0, name.data.toList), (100, octal 7 h.mode), (108, octal 7 h.uid), (116, octal 7 h.gid), (124, octal 11 h.size), (136, octal 11 h.time), (156, [h.typ]), (157, h.link.data.toList), (257, [117, 115, 116, 97, 114, 0, 48, 48]), (265, h.user.data.toList), (297, h.group.data.toList)] _ 329 337 (octal 7 h.major) (by first | (intro _ hq; cases hq; done) | omega | ((simp only [List.append_eq, List.cons_append, List.nil_append, List.forall_mem_cons, List.not_mem_nil, false_implies, implies_true, List.length_append, octal_length, List.length_cons, List.length_nil, and_true, true_and]); (repeat' apply And.intro) <;> omega)) (by first | (intro _ hq; cases hq; done) | omega | ((simp only [List.append_eq, List.cons_append, List.nil_append, List.forall_mem_cons, List.not_mem_nil, false_implies, implies_true, List.length_append, octal_length, List.length_cons, List.length_nil, and_true, true_and]); (repeat' apply And.intro) <;> omega)) (by first | (intro _ hq; cases hq; done) | omega | ((simp only [List.append_eq, List.cons_append, List.nil_append, List.forall_mem_cons, List.not_mem_nil, false_implies, implies_true, List.length_append, octal_length, List.length_cons, List.length_nil, and_true, true_and]); (repeat' apply And.intro) <;> omega)) (by first | (intro _ hq; cases hq; done) | omega | ((simp only [List.append_eq, List.cons_append, List.nil_append, List.forall_mem_cons, List.not_mem_nil, false_implies, implies_true, List.length_append, octal_length, List.length_cons, List.length_nil, and_true, true_and]); (repeat' apply And.intro) <;> omega)) (by first | (intro _ hq; cases hq; done) | omega | ((simp only [List.append_eq, List.cons_append, List.nil_append, List.forall_mem_cons, List.not_mem_nil, false_implies, implies_true, List.length_append, octal_length, List.length_cons, List.length_nil, and_true, true_and]); (repeat' apply And.intro) <;> omega)) (by omega)
  have A337 : fld l 337 345 = octal 7 h.minor ++ List.replicate (345 - 337 - (octal 7 h.minor).length) 0 := by
    rw [← hl]; exact lay_fld [(0, name.data.toList), (100, octal 7 h.mode), (108, octal 7 h.uid), (116, octal 7 h.gid), (124, octal 11 h.size), (136, octal 11 h.time), (156, [h.typ]), (157, h.link.data.toList), (257, [117, 115, 116, 97, 114, 0, 48, 48]), (265, h.user.data.toList), (297, h.group.data.toList), (329, octal 7 h.major)] _ 337 345 (octal 7 h.minor) (by first | (intro _ hq; cases hq; done) | omega | ((simp only [List.append_eq, List.cons_append, List.nil_append, List.forall_mem_cons, List.not_mem_nil, false_implies, implies_true, List.length_append, octal_length, List.length_cons, List.length_nil, and_true, true_and]); (repeat' apply And.intro) <;> omega)) (by first | (intro _ hq; cases hq; done) | omega | ((simp only [List.append_eq, List.cons_append, List.nil_append, List.forall_mem_cons, List.not_mem_nil, false_implies, implies_true, List.length_append, octal_length, List.length_cons, List.length_nil, and_true, true_and]); (repeat' apply And.intro) <;> omega)) (by first | (intro _ hq; cases hq; done) | omega | ((simp only [List.append_eq, List.cons_append, List.nil_append, List.forall_mem_cons, List.not_mem_nil, false_implies, implies_true, List.length_append, octal_length, List.length_cons, List.length_nil, and_true, true_and]); (repeat' apply And.intro) <;> omega)) (by first | (intro _ hq; cases hq; done) | omega | ((simp only [List.append_eq, List.cons_append, List.nil_append, List.forall_mem_cons, List.not_mem_nil, false_implies, implies_true, List.length_append, octal_length, List.length_cons, List.length_nil, and_true, true_and]); (repeat' apply And.intro) <;> omega)) (by first | (intro _ hq; cases hq; done) | omega | ((simp only [List.append_eq, List.cons_append, List.nil_append, List.forall_mem_cons, List.not_mem_nil, false_implies, implies_true, List.length_append, octal_length, List.length_cons, List.length_nil, and_true, true_and]); (repeat' apply And.intro) <;> omega)) (by omega)
  have A345 : fld l 345 500 = pre.data.toList ++ List.replicate (500 - 345 - (pre.data.toList).length) 0 := by
    rw [← hl]; exact lay_fld [(0, name.data.toList), (100, octal 7 h.mode), (108, octal 7 h.uid), (116, octal 7 h.gid), (124, octal 11 h.size), (136, octal 11 h.time), (156, [h.typ]), (157, h.link.data.toList), (257, [117, 115, 116, 97, 114, 0, 48, 48]), (265, h.user.data.toList), (297, h.group.data.toList), (329, octal 7 h.major), (337, octal 7 h.minor)] _ 345 500 (pre.data.toList) (by first | (intro _ hq; cases hq; done) | omega | ((simp only [List.append_eq, List.cons_append, List.nil_append, List.forall_mem_cons, List.not_mem_nil, false_implies, implies_true, List.length_append, octal_length, List.length_cons, List.length_nil, and_true, true_and]); (repeat' apply And.intro) <;> omega)) (by first | (intro _ hq; cases hq; done) | omega | ((simp only [List.append_eq, List.cons_append, List.nil_append, List.forall_mem_cons, List.not_mem_nil, false_implies, implies_true, List.length_append, octal_length, List.length_cons, List.length_nil, and_true, true_and]); (repeat' apply And.intro) <;> omega)) (by first | (intro _ hq; cases hq; done) | omega | ((simp only [List.append_eq, List.cons_append, List.nil_append, List.forall_mem_cons, List.not_mem_nil, false_implies, implies_true, List.length_append, octal_length, List.length_cons, List.length_nil, and_true, true_and]); (repeat' apply And.intro) <;> omega)) (by first | (intro _ hq; cases hq; done) | omega | ((simp only [List.append_eq, List.cons_append, List.nil_append, List.forall_mem_cons, List.not_mem_nil, false_implies, implies_true, List.length_append, octal_length, List.length_cons, List.length_nil, and_true, true_and]); (repeat' apply And.intro) <;> omega)) (by first | (intro _ hq; cases hq; done) | omega | ((simp only [List.append_eq, List.cons_append, List.nil_append, List.forall_mem_cons, List.not_mem_nil, false_implies, implies_true, List.length_append, octal_length, List.length_cons, List.length_nil, and_true, true_and]); (repeat' apply And.intro) <;> omega)) (by omega)
  have A148 : fld l 148 156 = octal 6 S ++ [0, 32] ++ List.replicate (156 - 148 - (octal 6 S ++ [0, 32]).length) 0 := by
    rw [← hl]; exact lay_fld [(0, name.data.toList), (100, octal 7 h.mode), (108, octal 7 h.uid), (116, octal 7 h.gid), (124, octal 11 h.size), (136, octal 11 h.time), (156, [h.typ]), (157, h.link.data.toList), (257, [117, 115, 116, 97, 114, 0, 48, 48]), (265, h.user.data.toList), (297, h.group.data.toList), (329, octal 7 h.major), (337, octal 7 h.minor), (345, pre.data.toList)] _ 148 156 (octal 6 S ++ [0, 32]) (by first | (intro _ hq; cases hq; done) | omega | ((simp only [List.append_eq, List.cons_append, List.nil_append, List.forall_mem_cons, List.not_mem_nil, false_implies, implies_true, List.length_append, octal_length, List.length_cons, List.length_nil, and_true, true_and]); (repeat' apply And.intro) <;> omega)) (by first | (intro _ hq; cases hq; done) | omega | ((simp only [List.append_eq, List.cons_append, List.nil_append, List.forall_mem_cons, List.not_mem_nil, false_implies, implies_true, List.length_append, octal_length, List.length_cons, List.length_nil, and_true, true_and]); (repeat' apply And.intro) <;> omega)) (by first | (intro _ hq; cases hq; done) | omega | ((simp only [List.append_eq, List.cons_append, List.nil_append, List.forall_mem_cons, List.not_mem_nil, false_implies, implies_true, List.length_append, octal_length, List.length_cons, List.length_nil, and_true, true_and]); (repeat' apply And.intro) <;> omega)) (by first | (intro _ hq; cases hq; done) | omega | ((simp only [List.append_eq, List.cons_append, List.nil_append, List.forall_mem_cons, List.not_mem_nil, false_implies, implies_true, List.length_append, octal_length, List.length_cons, List.length_nil, and_true, true_and]); (repeat' apply And.intro) <;> omega)) (by first | (intro _ hq; cases hq; done) | omega | ((simp only [List.append_eq, List.cons_append, List.nil_append, List.forall_mem_cons, List.not_mem_nil, false_implies, implies_true, List.length_append, octal_length, List.length_cons, List.length_nil, and_true, true_and]); (repeat' apply And.intro) <;> omega)) (by omega)
  rw [hl] at hSS ⊢
  clear hl F
  have ntx : ∀ s : ByteArray, ¬ (0 : UInt8) ∈ s.data.toList → ∀ b ∈ s.data.toList, b ≠ 0 := fun s hs b hb e => hs (by rw [← e]; exact hb)
  have N := fun (d : Nat) (x : Int) (k : Nat) (hd : 0 < d) (h0 : 0 ≤ x) (h1 : x < 8 ^ d) => num_octal d x (List.replicate k 0) hd h0 h1 (rep_z k)
  have B100 := N 7 h.mode (108 - 100 - (octal 7 h.mode).length) (by decide) m0 (by omega)
  have B108 := N 7 h.uid (116 - 108 - (octal 7 h.uid).length) (by decide) u0 (by omega)
  have B116 := N 7 h.gid (124 - 116 - (octal 7 h.gid).length) (by decide) g0 (by omega)
  have B124 := N 11 h.size (136 - 124 - (octal 11 h.size).length) (by decide) s0 (by omega)
  have B136 := N 11 h.time (148 - 136 - (octal 11 h.time).length) (by decide) t0 (by omega)
  have B329 := N 7 h.major (337 - 329 - (octal 7 h.major).length) (by decide) j0 (by omega)
  have B337 := N 7 h.minor (345 - 337 - (octal 7 h.minor).length) (by decide) n0 (by omega)
  have B148 := num_octal 6 S [0, 32] (by decide) (by omega) (by omega) (by decide)
  rw [← A100] at B100
  rw [← A108] at B108
  rw [← A116] at B116
  rw [← A124] at B124
  rw [← A136] at B136
  rw [← A329] at B329
  rw [← A337] at B337
  have z8 : List.length (octal 6 S ++ [0, 32]) = 8 := by rw [List.length_append, octal_length]; rfl
  rw [z8, Nat.sub_self, List.replicate_zero, List.append_nil] at A148
  rw [← A148] at B148
  have T157 : textOf (fld l 157 257) = h.link.data.toList := by rw [A157]; exact textOf_rep _ _ (ntx _ wl)
  have T265 : textOf (fld l 265 297) = h.user.data.toList := by rw [A265]; exact textOf_rep _ _ (ntx _ wu)
  have T297 : textOf (fld l 297 329) = h.group.data.toList := by rw [A297]; exact textOf_rep _ _ (ntx _ wg)
  have T345 : textOf (fld l 345 500) = pre.data.toList := by rw [A345]; exact textOf_rep _ _ np.1
  have T0 : textOf (l.take 100) = name.data.toList := by
    have : fld l 0 100 = l.take 100 := rfl
    rw [← this, A0]; exact textOf_rep _ _ np.2
  have hty : l.getD 156 0 = h.typ := by
    have e3 := fld_get l 156 157 0
    rw [A156] at e3
    rw [List.getD_eq_getElem?_getD]
    rw [if_pos (by decide)] at e3
    rw [← show (156 + 0) = 156 from rfl, ← e3]
    rfl
  constructor
  · have hm : magicB l = true := by
      unfold magicB
      rw [A257]
      decide
    have hok : okAll l = true := by
      refine okAll_yes fun j hj => ?_
      match j, hj with
      | 0, _ => exact B100.2
      | 1, _ => exact B108.2
      | 2, _ => exact B116.2
      | 3, _ => exact B124.2
      | 4, _ => exact B136.2
      | 5, _ => exact B148.2
      | 6, _ => exact B329.2
      | 7, _ => exact B337.2
      | j + 8, hj => exact absurd hj (by omega)
    rw [decErrM, if_pos hm, decErr, if_neg (by simp [hok]), if_neg (by rw [B148.1, hSS]; simp)]
  · have hb2 : ∀ s : ByteArray, (⟨s.data.toList.toArray⟩ : ByteArray) = s := fun s => (bytes_eq rfl).symm
    have hpath : (if textOf (fld l 345 500) = [] then (⟨(textOf (l.take 100)).toArray⟩ : ByteArray) else ⟨(textOf (fld l 345 500) ++ [47] ++ textOf (l.take 100)).toArray⟩) = h.path := by
      rw [T345, T0]
      rcases hj with ⟨h1, h2⟩ | ⟨h1, h2⟩
      · rw [if_pos h1, hb2, h2]
      · rw [if_neg h1, ← h2, hb2]
    unfold decHdr
    rw [hpath]
    unfold hdrK
    simp only [Nat.zero_lt_succ, if_true, Nat.lt_add_one, show (1 : Nat) < 8 from by decide, show (2 : Nat) < 8 from by decide, show (3 : Nat) < 8 from by decide, show (4 : Nat) < 8 from by decide, show (6 : Nat) < 8 from by decide, B100.1, B108.1, B116.1, B124.1, B136.1, B329.1, B337.1, T157, T265, T297, hty, hb2]
end Go.Proofs.YthpmocfdnoehoaaGreatDoor
/- Plain: an archive that was written is read as its members; a shorter beginning is not. -/
namespace Go.Proofs.YthpmocfdnoehoaaGreatDoor
open Go.RowKit
/-- The bytes of an archive. -/
def arcOf (l : List Mem) : Bs := l.flatMap memBytes ++ List.replicate 1024 0
theorem arcOf_cons (m : Mem) (r : List Mem) : arcOf (m :: r) = memBytes m ++ arcOf r := by
  unfold arcOf; rw [List.flatMap_cons, List.append_assoc]
/-- A member that may be written. -/
def MemOk (m : Mem) : Prop := encErr m.hdr = 0 ∧ m.hdr.size = (m.data.size : Int)
theorem wrGo_fst : ∀ (l : List Mem) (i : Nat) (acc : Bs), (wrGo l i acc).1 = 0 → wrGo l i acc = (0, 0, acc ++ arcOf l) ∧ (∀ m ∈ l, MemOk m) ∧ (l ≠ [] → acc.length + (arcOf l).length ≤ 33554432)
  | [], i, acc, _ => ⟨rfl, (fun _ h => by cases h), fun h => absurd rfl h⟩
  | m :: r, i, acc, h => by
    rw [wrGo] at h ⊢
    by_cases hb : wrBad acc.length m ≠ 0
    · rw [if_pos hb] at h
      exact absurd h hb
    · rw [if_neg hb] at h ⊢
      have hb' : wrBad acc.length m = 0 := by simpa using hb
      unfold wrBad at hb'
      split at hb'
      · rename_i h1; exact absurd hb' h1
      · rename_i h1
        split at hb'
        · cases hb'
        · rename_i h2
          split at hb'
          · cases hb'
          · rename_i h3
            have he : encErr m.hdr = 0 := by simpa using h1
            have hml : (memBytes m).length = 512 + whole m.data.size := by
              have hd : m.data.data.toList.length = m.data.size := rfl
              unfold memBytes
              rw [List.length_append, encOf_length he, List.length_append, List.length_replicate, hd]
              unfold whole
              omega
            obtain ⟨g1, g2, g3⟩ := wrGo_fst r (i + 1) _ h
            refine ⟨by rw [g1, arcOf_cons, List.append_assoc], fun x hx => ?_, fun _ => ?_⟩
            · rcases List.mem_cons.1 hx with rfl | hx
              · exact ⟨he, by simpa using h2⟩
              · exact g2 x hx
            · rw [arcOf_cons, List.length_append, hml]
              cases r with
              | nil =>
                have : (arcOf []).length = 1024 := List.length_replicate
                omega
              | cons y ys =>
                have := g3 (by simp)
                rw [List.length_append, hml] at this
                omega
theorem memBytes_length {m : Mem} (h : MemOk m) : (memBytes m).length = 512 + whole m.data.size := by
  have hd : m.data.data.toList.length = m.data.size := rfl
  unfold memBytes
  rw [List.length_append, encOf_length h.1, List.length_append, List.length_replicate, hd]
  unfold whole
  omega
/-- What stands at a place. -/
theorem take_drop_app {A B C : Bs} {i n : Nat} (hi : A.length = i) (hn : B.length = n) : ((A ++ (B ++ C)).drop i).take n = B := by
  subst hi hn
  rw [List.drop_append_of_le_length (Nat.le_refl _), List.drop_length, List.nil_append, List.take_append_of_le_length (Nat.le_refl _), List.take_length]
theorem enc_magic {h : Hdr} (he : encErr h = 0) : (encOf h).all (· == 0) = false := by
  have hm : magicB (encOf h) = true := by
    have := (hdr_back he).1
    unfold decErrM at this
    split at this
    · assumption
    · cases this
  rw [← Bool.not_eq_true, List.all_eq_true]
  intro hz
  unfold magicB at hm
  rw [beq_iff_eq] at hm
  have h1 := fld_get (encOf h) 257 265 0
  rw [hm, if_pos (by decide)] at h1
  have h2 := hz 117 (List.mem_of_getElem? h1.symm)
  cases h2
/-- A member is read where it was written; R stands behind it. -/
theorem memAt_back {P R : Bs} {m : Mem} {i : Nat} (h : MemOk m) (hi : P.length = i) :
    zeroAt (P ++ (memBytes m ++ R)) i = false ∧ memAt (P ++ (memBytes m ++ R)) i = .good m (i + 512 + whole m.data.size) := by
  obtain ⟨he, hsz⟩ := h
  have hml := memBytes_length ⟨he, hsz⟩
  have hel := encOf_length he
  have hd : m.data.data.toList.length = m.data.size := rfl
  have hb : blkAt (P ++ (memBytes m ++ R)) i = encOf m.hdr := by
    unfold blkAt memBytes
    rw [List.append_assoc]
    exact take_drop_app hi hel
  obtain ⟨b1, b2⟩ := hdr_back he
  refine ⟨by have := enc_magic he; rw [← hb] at this; exact this, ?_⟩
  have hdt : ((P ++ (memBytes m ++ R)).drop (i + 512)).take m.data.size = m.data.data.toList := by
    unfold memBytes
    rw [show P ++ (encOf m.hdr ++ (m.data.data.toList ++ List.replicate (whole m.data.size - m.data.size) 0) ++ R) = (P ++ encOf m.hdr) ++ (m.data.data.toList ++ (List.replicate (whole m.data.size - m.data.size) 0 ++ R)) by simp only [List.append_assoc]]
    exact take_drop_app (by rw [List.length_append]; omega) hd
  have hw := whole_le m.data.size
  unfold memAt
  rw [hb, b1, b2, hsz, if_neg (by simp), Int.toNat_natCast, if_neg (by rw [List.length_append, List.length_append]; omega), hdt]
theorem zero_tail {P : Bs} {i : Nat} (hi : P.length = i) : zeroAt (P ++ List.replicate 1024 0) i = true ∧ zeroAt (P ++ List.replicate 1024 0) (i + 512) = true := by
  subst hi
  have h : ∀ n : Nat, ((List.replicate n (0 : UInt8)).take 512).all (· == 0) = true := fun n => by
    rw [List.all_eq_true]
    intro x hx
    have := List.eq_of_mem_replicate (List.mem_of_mem_take hx)
    simp [this]
  refine ⟨?_, ?_⟩
  · unfold zeroAt
    rw [List.drop_append_of_le_length (Nat.le_refl _), List.drop_length, List.nil_append]
    exact h _
  · unfold zeroAt
    rw [← List.drop_drop, List.drop_append_of_le_length (Nat.le_refl _), List.drop_length, List.nil_append, List.drop_replicate]
    exact h _
theorem rd_arc : ∀ (r : List Mem) (P T : Bs) (f i : Nat), T = P ++ arcOf r → P.length = i → r.length < f → (∀ m ∈ r, MemOk m) → rdGo T f i = r.map .mem
  | [], P, T, f, i, hT, hi, hf, _ => by
    have e : arcOf [] = List.replicate 1024 0 := rfl
    rw [e] at hT
    have hl : T.length = i + 1024 := by rw [hT, List.length_append, List.length_replicate, hi]
    obtain ⟨z1, z2⟩ := zero_tail hi
    rw [← hT] at z1 z2
    have h0 : endGo T (T.length + 1) (i + 512) = (0, 0) := by
      rw [endGo, if_neg (by omega), if_neg (by simp [z2]), if_pos (by omega)]
    rw [rdGo_end hf (by omega) z1, h0, if_pos rfl]
    rfl
  | m :: r, P, T, f, i, hT, hi, hf, hok => by
    rw [arcOf_cons] at hT
    have hm := hok m (List.mem_cons_self ..)
    obtain ⟨h1, h2⟩ := memAt_back (R := arcOf r) hm hi
    have hml := memBytes_length hm
    rw [← hT] at h1 h2
    have hl : T.length = i + (512 + whole m.data.size) + (arcOf r).length := by rw [hT, List.length_append, List.length_append]; omega
    rw [List.length_cons] at hf
    rw [rdGo_mem (by omega) (by omega) h1 h2, rd_arc r (P ++ memBytes m) T (f - 1) _ (by rw [hT, List.append_assoc]) (by rw [List.length_append]; omega) (by omega) (fun x hx => hok x (List.mem_cons_of_mem _ hx))]
    rfl
theorem take_in {T : Bs} {k i n : Nat} (h : i + n ≤ k) : ((T.take k).drop i).take n = (T.drop i).take n := by
  rw [List.drop_take, List.take_take, Nat.min_eq_left (by omega)]
theorem zero_in {T : Bs} {k i : Nat} (h : i + 512 ≤ k) : zeroAt (T.take k) i = zeroAt T i := by
  unfold zeroAt; rw [take_in h]
theorem memAt_in {T : Bs} {m : Mem} {k i n : Nat} (h : memAt T i = .good m n) (hk : k ≤ T.length) (h1 : i + 512 ≤ k) : (k < n ∧ memAt (T.take k) i = .bad 2 (i + 512)) ∨ (n ≤ k ∧ memAt (T.take k) i = .good m n) := by
  have hb : blkAt (T.take k) i = blkAt T i := by unfold blkAt; exact take_in h1
  have hl : (T.take k).length = k := by rw [List.length_take]; omega
  have hs := decSize_bd (blkAt T i)
  have hw := whole_le (decHdr (blkAt T i)).size.toNat
  unfold memAt at h ⊢
  rw [hb, hl]
  by_cases h2 : decErrM (blkAt T i) ≠ 0
  · rw [if_pos h2] at h; cases h
  · rw [if_neg h2] at h ⊢
    split at h
    · cases h
    · rename_i hn
      obtain ⟨rfl, rfl⟩ := MemR.good.inj h
      by_cases h3 : k < i + 512 + whole (decHdr (blkAt T i)).size.toNat
      · exact .inl ⟨h3, by rw [if_pos (.inr h3)]⟩
      · refine .inr ⟨by omega, ?_⟩
        rw [if_neg (by omega), take_in (by omega)]
theorem rd_cut : ∀ (r : List Mem) (P T : Bs) (f i k : Nat), T = P ++ arcOf r → P.length = i → k < i + f → (∀ m ∈ r, MemOk m) → i ≤ k → k < T.length → ∃ (ms : List Mem) (j : Nat), rdGo (T.take k) f i = ms.map .mem ++ [.bad 2 j]
  | [], P, T, f, i, k, hT, hi, hf, _, h1, h2 => by
    have e : arcOf [] = List.replicate 1024 0 := rfl
    rw [e] at hT
    have hl : T.length = i + 1024 := by rw [hT, List.length_append, List.length_replicate, hi]
    have hk : (T.take k).length = k := by rw [List.length_take]; omega
    by_cases h3 : k < i + 512
    · exact ⟨[], i, rdGo_short (by omega) (by omega)⟩
    · obtain ⟨z1, -⟩ := zero_tail hi
      rw [← hT] at z1
      have h0 : endGo (T.take k) ((T.take k).length + 1) (i + 512) = (2, i + 512) := by
        rw [endGo, if_pos (by omega)]
      refine ⟨[], i + 512, ?_⟩
      rw [rdGo_end (by omega) (by omega) (by rw [zero_in (by omega)]; exact z1), h0, if_neg (show ¬ (2 : Int) = 0 by decide)]
      rfl
  | m :: r, P, T, f, i, k, hT, hi, hf, hok, h1, h2 => by
    rw [arcOf_cons] at hT
    have hm := hok m (List.mem_cons_self ..)
    obtain ⟨g1, g2⟩ := memAt_back (R := arcOf r) hm hi
    have hml := memBytes_length hm
    rw [← hT] at g1 g2
    have hl : T.length = i + (512 + whole m.data.size) + (arcOf r).length := by rw [hT, List.length_append, List.length_append]; omega
    have hk : (T.take k).length = k := by rw [List.length_take]; omega
    by_cases h3 : k < i + 512
    · exact ⟨[], i, rdGo_short (by omega) (by omega)⟩
    · rcases memAt_in (k := k) g2 (by omega) (by omega) with ⟨h4, h5⟩ | ⟨h4, h5⟩
      · exact ⟨[], _, rdGo_bad (by omega) (by omega) (by rw [zero_in (by omega)]; exact g1) h5⟩
      · obtain ⟨ms, j, h6⟩ := rd_cut r (P ++ memBytes m) T (f - 1) (i + 512 + whole m.data.size) k (by rw [hT, List.append_assoc]) (by rw [List.length_append]; omega) (by omega) (fun x hx => hok x (List.mem_cons_of_mem _ hx)) h4 h2
        exact ⟨m :: ms, j, by rw [rdGo_mem (by omega) (by omega) (by rw [zero_in (by omega)]; exact g1) h5, h6]; rfl⟩
theorem arc_len (l : List Mem) : l.length + 1024 ≤ (arcOf l).length ∨ ∃ m ∈ l, ¬ MemOk m := by
  induction l with
  | nil => left; unfold arcOf; rw [List.length_append, List.length_replicate]; simp
  | cons m r ih =>
    by_cases h : MemOk m
    · rcases ih with ih | ⟨x, hx, hn⟩
      · left
        rw [arcOf_cons, List.length_append, memBytes_length h, List.length_cons]
        omega
      · exact .inr ⟨x, List.mem_cons_of_mem _ hx, hn⟩
    · exact .inr ⟨m, List.mem_cons_self .., h⟩
/-- All members of an archive that was written. -/
theorem rd_all {l : List Mem} (h : ∀ m ∈ l, MemOk m) : rdGo (arcOf l) ((arcOf l).length + 1) 0 = l.map .mem := by
  refine rd_arc l [] _ _ 0 rfl rfl ?_ h
  rcases arc_len l with h1 | ⟨m, hm, hn⟩
  · omega
  · exact absurd (h m hm) hn
/-- A shorter beginning. -/
theorem rd_less {l : List Mem} (h : ∀ m ∈ l, MemOk m) {k : Nat} (hk : k < (arcOf l).length) : ∃ (ms : List Mem) (j : Nat), rdGo ((arcOf l).take k) (((arcOf l).take k).length + 1) 0 = ms.map .mem ++ [.bad 2 j] :=
  rd_cut l [] _ _ 0 k rfl rfl (by rw [List.length_take]; omega) h (Nat.zero_le _) hk
end Go.Proofs.YthpmocfdnoehoaaGreatDoor
/- archive.Write and Read of an archive that may be written. -/
namespace Go.Proofs.YthpmocfdnoehoaaGreatDoor
open Go.RowKit
theorem mem_inj {a b : List Mem} (h : a.map RdX.mem = b.map RdX.mem) : a = b := by
  induction a generalizing b with
  | nil => cases b with
    | nil => rfl
    | cons y ys => simp at h
  | cons x xs ih => cases b with
    | nil => simp at h
    | cons y ys =>
      rw [List.map_cons, List.map_cons] at h
      obtain ⟨h1, h2⟩ := List.cons.inj h
      rw [RdX.mem.inj h1, ih h2]
/-- What was written is read. -/
theorem read_arc (l : List Mem) (hl : ∀ m ∈ l, MemOk m) (S : ByteArray) (hS : S.data.toList = arcOf l) (hsz : S.size ≤ 33554432) (w : World) :
    Calls Tryz.prog 16 #[.string S] w fun e w' => ∃ v, e = .returned (.tuple #[v, .nilIface]) ∧ OwnMs w.heap.size l v w' ∧ Below w.heap.size w w' := by
  refine (read_walk S w hsz).mono ?_
  rintro e w' ⟨h, hb⟩
  rw [hS, rd_all hl] at h
  rcases h with ⟨ms, v, h1, rfl, h2, h3⟩ | ⟨ms, x, i, h1, _⟩
  · have := mem_inj h1
    subst this
    exact ⟨v, rfl, ⟨h2, h3⟩, hb⟩
  · exact absurd h1.symm (no_bad _ [] _ _ _)
/-- A shorter beginning is refused. -/
theorem read_bad (S : ByteArray) (ms : List Mem) (x : Int) (j : Nat) (hS : rdGo S.data.toList (S.data.toList.length + 1) 0 = ms.map .mem ++ [.bad x j]) (hsz : S.size ≤ 33554432) (w : World) :
    Calls Tryz.prog 16 #[.string S] w fun e w' => e = .returned (.tuple #[.slice none 0 0, faultV x 0 j]) ∧ Below w.heap.size w w' := by
  refine (read_walk S w hsz).mono ?_
  rintro e w' ⟨h, hb⟩
  rw [hS] at h
  rcases h with ⟨ms', v, h1, _⟩ | ⟨ms', x', i, h1, rfl⟩
  · exact absurd h1 (no_bad _ [] _ _ _)
  · obtain ⟨rfl, rfl⟩ := one_bad (ms'.map .mem) [] ms _ _ _ _ h1.symm
    exact ⟨rfl, hb⟩
/-- Members that may be written are written. -/
theorem write_arc (l : List Mem) (p : Option Addr) (cap : Nat) (w : World) (hM : MemsAt w p l) (hn : l.length ≤ 1152921504606846975) (hs : ∀ m ∈ l, m.small) (h0 : (wrGo l 0 []).1 = 0) (S : ByteArray) (hS : S.data.toList = arcOf l) :
    Calls Tryz.prog 9 #[.slice p l.length cap] w fun e w' => e = .returned (.tuple #[.string S, .nilIface]) ∧ Below w.heap.size w w' := by
  refine (write_any l p cap w hM hn hs).mono ?_
  rintro e w' h
  have hw := (wrGo_fst l 0 [] h0).1
  unfold WrPost at h
  rw [hw] at h
  obtain ⟨he, hb⟩ := h
  exact ⟨by rw [he, if_pos rfl, List.nil_append, bytes_eq hS], hb⟩
theorem memsAt_one (w : World) (m : Mem) : MemsAt (w.alloc (.cells m.cells 26)) (some ⟨w.heap.size, 0, none⟩) [m] := by
  refine ⟨fun i _ => ⟨w.heap.size, 0, rfl, by rw [World.size_alloc]; omega⟩, fun b off hb i x hx j hj => ?_⟩
  cases hb
  have hi : i = 0 := by
    have := (List.getElem?_eq_some_iff.1 hx).1
    simp at this
    exact this
  subst hi
  obtain rfl : m = x := by simpa using hx
  rw [cell_new]
  simp
theorem read_small {l : List Mem} (hl : ∀ m ∈ l, MemOk m) (h0 : (wrGo l 0 []).1 = 0) : (arcOf l).length ≤ 33554432 := by
  by_cases h : l = []
  · subst h
    show (List.replicate 1024 (0 : UInt8)).length ≤ 33554432
    rw [List.length_replicate]
    omega
  · have := (wrGo_fst l 0 [] h0).2.2 h
    simpa using this
end Go.Proofs.YthpmocfdnoehoaaGreatDoor
/- Closed facts on the model's entries for reflectlite, at the errors' types. -/
namespace Go.Proofs.YthpmocfdnoehoaaGreatDoor
open Go.RowKit Go.Extern.Stop Go.Stop Go.Extern
theorem typeOf_errno (v : Value) (w : World) : (ReflectliteType.typeOf #[.iface 59 v]).run Tryz.prog w = .ok (.iface 146 (.agg #[.pointer (some ⟨4, 59, none⟩)])) w := by kernel_rfl
def comparableX : Array Value → Sem Value := ReflectliteType.method fun t => do Rtype.noPackHeld "Comparable" t; pure (.bool (← typeInfo t).comparable)
theorem comparable_errno (w : World) : (comparableX #[.agg #[.pointer (some ⟨4, 59, none⟩)]]).run Tryz.prog w = .ok (.bool true) w := by kernel_rfl
theorem call_typeOf : Extern.find Tryz.f75 = some ReflectliteType.typeOf := by kernel_rfl
theorem call_comparable : Extern.find Tryz.f132 = some comparableX := by kernel_rfl
theorem method_comparable (k : Nat) (h : Value) (w : World) : (Go.method (k + 1) 146 (.agg #[h]) "Comparable").run Tryz.prog w = .ok (132, .agg #[h]) w := by kernel_rfl
theorem ta_is_errno (v : Value) (w : World) : (Instr.typeAssert (.iface 59 v) 32 158 true).run Tryz.prog w = .ok (.tuple #[.nilIface, .bool false]) w := run_typeAssert_lacksB Tryz.underlying158 (by kernel_rfl) (by kernel_rfl) v 32 w
theorem ta_un_errno (v : Value) (w : World) : (Instr.typeAssert (.iface 59 v) 32 153 true).run Tryz.prog w = .ok (.tuple #[.nilIface, .bool false]) w := run_typeAssert_lacksB Tryz.underlying153 (by kernel_rfl) (by kernel_rfl) v 32 w
theorem ta_uns_errno (v : Value) (w : World) : (Instr.typeAssert (.iface 59 v) 32 155 true).run Tryz.prog w = .ok (.tuple #[.nilIface, .bool false]) w := run_typeAssert_lacksB Tryz.underlying155 (by kernel_rfl) (by kernel_rfl) v 32 w
theorem ta_is_fault (v : Value) (w : World) : (Instr.typeAssert (.iface 61 v) 32 158 true).run Tryz.prog w = .ok (.tuple #[.nilIface, .bool false]) w := run_typeAssert_lacksB Tryz.underlying158 (by kernel_rfl) (by kernel_rfl) v 32 w
theorem ta_un_fault (v : Value) (w : World) : (Instr.typeAssert (.iface 61 v) 32 153 true).run Tryz.prog w = .ok (.tuple #[.iface 61 v, .bool true]) w := run_typeAssert_hasB Tryz.underlying153 (by kernel_rfl) v 32 w
theorem method_unwrap (k : Nat) (n l a : Int) (w : World) : (Go.method (k + 1) 61 (.agg #[.int .i64 n, .int .i64 l, .int .i64 a]) "Unwrap").run Tryz.prog w = .ok (126, .agg #[.int .i64 n, .int .i64 l, .int .i64 a]) w := by kernel_rfl
theorem eq_errno (n k : Int) (w : World) : (binOp .eql 32 (.iface 59 (.int .i64 n)) (.iface 59 (.int .i64 k))).run Tryz.prog w = .ok (.bool (n == k)) w := by kernel_rfl
theorem eq_fault_errno (v x : Value) (w : World) : (binOp .eql 32 (.iface 61 v) (.iface 59 x)).run Tryz.prog w = .ok (.bool false) w := run_eql_iface_types _ _ v x Tryz.underlying32 (by decide) w
end Go.Proofs.YthpmocfdnoehoaaGreatDoor
/- Contracts of errors.Is, stratakit.Num at an Errno and at a Fault. -/
namespace Go.Proofs.YthpmocfdnoehoaaGreatDoor
open Go.RowKit Go.Extern.Stop Go.Stop Go.Extern
theorem ret_beq {n k : Int} {b : Bool} (h : (n == k) = b) : Ending.returned (.bool b) = .returned (.bool (n == k)) := by rw [h]
set_option maxHeartbeats 400000 in
set_option maxRecDepth 100000 in
theorem is_errno_in (n k : Int) (w : World) :
    Calls Tryz.prog 76 #[errV n, errV k, .bool true] w fun e w' => e = .returned (.bool (n == k)) ∧ w = w' := by
  unfold errV
  have t0 := eq_errno
  have t1 := ta_is_errno
  have t2 := ta_un_errno
  have t3 := ta_uns_errno
  go_enter Tryz.func76, Tryz.ntmps76
  go_wp2_with fail
  refine wp_loop_rounds 1 ?_
  rw [rounds_succ]
  go_wp2_with fail
  all_goals
    go_ret
    exact ⟨ret_beq ‹_›, rfl⟩
set_option maxHeartbeats 400000 in
set_option maxRecDepth 100000 in
theorem unwrap_any (n l a : Int) (w : World) :
    Calls Tryz.prog 126 #[.agg #[.int .i64 n, .int .i64 l, .int .i64 a]] w fun e w' => e = .returned (errV n) ∧ Below w.heap.size w w' := by
  unfold errV
  go_enter Tryz.func126, Tryz.ntmps126
  go_wp2_with fail
  go_ret
  exact ⟨rfl, (Below.refl _ _).alloc (Nat.le_refl _) _⟩
set_option maxHeartbeats 400000 in
set_option maxRecDepth 100000 in
theorem is_fault_in (n l a k : Int) (w : World) :
    Calls Tryz.prog 76 #[faultV n l a, errV k, .bool true] w fun e w' => e = .returned (.bool (n == k)) ∧ Below w.heap.size w w' := by
  unfold errV faultV
  have t0 := eq_errno
  have t1 := ta_is_errno
  have t2 := ta_un_errno
  have t3 := ta_uns_errno
  have t4 := eq_fault_errno
  have t5 := ta_is_fault
  have t6 := ta_un_fault
  have t7 := method_unwrap
  go_enter Tryz.func76, Tryz.ntmps76
  go_wp2_with fail
  refine wp_loop_rounds 2 ?_
  rw [rounds_succ]
  go_wp2_with fail
  refine (unwrap_any n l a _).mono ?_
  rintro e w1 ⟨rfl, hb⟩
  have HB := Lib.hid hb
  clear hb
  unfold errV
  go_wp2_with fail
  rw [rounds_succ]
  go_wp2_with fail
  all_goals
    go_ret
    exact ⟨ret_beq ‹_›, HB.out⟩
set_option maxHeartbeats 400000 in
set_option maxRecDepth 100000 in
theorem is_errno (n k : Int) (w : World) :
    Calls Tryz.prog 55 #[errV n, errV k] w fun e w' => e = .returned (.bool (n == k)) ∧ w = w' := by
  unfold errV
  have h40 := @run_callFunc_extern Tryz.prog 75 _ _ Tryz.func75 (by kernel_rfl) (by kernel_rfl) (by kernel_rfl) call_typeOf
  have h103 := @run_callFunc_extern Tryz.prog 132 _ _ Tryz.func132 (by kernel_rfl) (by kernel_rfl) (by kernel_rfl) call_comparable
  have c1 := typeOf_errno
  have c2 := comparable_errno
  have c3 := method_comparable
  go_enter Tryz.func55, Tryz.ntmps55
  go_wp2_with fail
  refine (is_errno_in n k _).mono ?_
  rintro e w1 ⟨rfl, rfl⟩
  go_wp2_with fail
  go_ret
  exact ⟨rfl, rfl⟩
set_option maxHeartbeats 400000 in
set_option maxRecDepth 100000 in
theorem is_fault (n l a k : Int) (w : World) :
    Calls Tryz.prog 55 #[faultV n l a, errV k] w fun e w' => e = .returned (.bool (n == k)) ∧ Below w.heap.size w w' := by
  unfold errV faultV
  have h40 := @run_callFunc_extern Tryz.prog 75 _ _ Tryz.func75 (by kernel_rfl) (by kernel_rfl) (by kernel_rfl) call_typeOf
  have h103 := @run_callFunc_extern Tryz.prog 132 _ _ Tryz.func132 (by kernel_rfl) (by kernel_rfl) (by kernel_rfl) call_comparable
  have c1 := typeOf_errno
  have c2 := comparable_errno
  have c3 := method_comparable
  go_enter Tryz.func55, Tryz.ntmps55
  go_wp2_with fail
  refine (is_fault_in n l a k _).mono ?_
  rintro e w1 ⟨rfl, hb⟩
  have HB := Lib.hid hb
  clear hb
  go_wp2_with fail
  go_ret
  exact ⟨rfl, HB.out⟩
end Go.Proofs.YthpmocfdnoehoaaGreatDoor
/- Closed facts for errors.As at a target *api.Fault. -/
namespace Go.Proofs.YthpmocfdnoehoaaGreatDoor
open Go.RowKit Go.Extern.Stop Go.Stop Go.Extern
theorem as_valueOfT (t : Addr) (w : World) : (ReflectliteValue.unpack (.iface 100 (.pointer (some t)))).run Tryz.prog w
    = .ok (.agg #[.pointer (some ⟨4, 100, none⟩), .pointer (some ⟨w.heap.size, 0, none⟩), .int .u64 150]) (w.alloc (.cells #[.pointer (some t)] 100)) := by kernel_rfl
theorem as_typeT (a : Addr) (w : World) : (ReflectliteValue.methodAny (ReflectliteValue.valueError "reflectlite.Value.Type" 0) (fun t _ _ _ => ReflectliteType.toType t) #[.agg #[.pointer (some ⟨4, 100, none⟩), .pointer (some a), .int .u64 150]]).run Tryz.prog w
    = .ok (.iface 146 (.agg #[.pointer (some ⟨4, 100, none⟩)])) w := by kernel_rfl
theorem as_methodKind (k : Nat) (h : Value) (w : World) : (Go.method (k + 2) 146 (.agg #[h]) "Kind").run Tryz.prog w = .ok (120, h) w := by kernel_rfl
theorem as_kindT (w : World) : ((ReflectliteType.abiMethod fun t => (fun a : Nat => Value.int IntKind.u8 (a : Int)) <$> Rtype.kind t) #[.pointer (some ⟨4, 100, none⟩)]).run Tryz.prog w = .ok (.int .u8 22) w := by kernel_rfl
theorem as_kindF (w : World) : ((ReflectliteType.abiMethod fun t => (fun a : Nat => Value.int IntKind.u8 (a : Int)) <$> Rtype.kind t) #[.pointer (some ⟨4, 61, none⟩)]).run Tryz.prog w = .ok (.int .u8 25) w := by kernel_rfl
theorem rlm (z : Sem Value) (f : TypeId → Addr → Nat → Nat → Sem Value) (v : Value) :
    ReflectliteValue.method z f #[v] = (do match ← ReflectliteValue.parts v with | none => z | some (t, a, fl) => f t a fl (fl % 32)) := rfl
theorem as_partsT (a : Addr) (w : World) : (ReflectliteValue.parts (.agg #[.pointer (some ⟨4, 100, none⟩), .pointer (some a), .int .u64 150])).run Tryz.prog w = .ok (some (100, a, 150)) w := by kernel_rfl
theorem as_isNilT (a p : Addr) (W : World) (ha : W.cell? a = some (.pointer (some p))) :
    (ReflectliteValue.method (ReflectliteValue.valueError "reflectlite.Value.IsNil" 0) ReflectliteValue.isNil #[.agg #[.pointer (some ⟨4, 100, none⟩), .pointer (some a), .int .u64 150]]).run Tryz.prog W = .ok (.bool false) W := by
  rw [rlm]
  simp only [Sem.run_bind, as_partsT, Result.andThen]
  simp [ReflectliteValue.isNil, loadVar, isAgg, underlying, Tryz.underlying100, ha, Result.andThen]
theorem as_methodElem (k : Nat) (h : Value) (w : World) : (Go.method (k + 1) 146 (.agg #[h]) "Elem").run Tryz.prog w = .ok (133, .agg #[h]) w := by kernel_rfl
theorem as_methodImplements (k : Nat) (h : Value) (w : World) : (Go.method (k + 1) 146 (.agg #[h]) "Implements").run Tryz.prog w = .ok (134, .agg #[h]) w := by kernel_rfl
theorem as_methodAssignableTo (k : Nat) (h : Value) (w : World) : (Go.method (k + 1) 146 (.agg #[h]) "AssignableTo").run Tryz.prog w = .ok (131, .agg #[h]) w := by kernel_rfl
theorem as_elemT (w : World) : (ReflectliteType.method ReflectliteType.elem #[.agg #[.pointer (some ⟨4, 100, none⟩)]]).run Tryz.prog w = .ok (.iface 146 (.agg #[.pointer (some ⟨4, 61, none⟩)])) w := by kernel_rfl
theorem as_implementsF (w : World) : (ReflectliteType.relation "Implements" ReflectliteType.implements_ #[.agg #[.pointer (some ⟨4, 61, none⟩)], .iface 146 (.agg #[.pointer (some ⟨4, 32, none⟩)])]).run Tryz.prog w = .ok (.bool true) w := by kernel_rfl
theorem as_typeOfF (v : Value) (w : World) : (ReflectliteType.typeOf #[.iface 61 v]).run Tryz.prog w = .ok (.iface 146 (.agg #[.pointer (some ⟨4, 61, none⟩)])) w := by kernel_rfl
theorem as_assignFF (w : World) : (ReflectliteType.relation "AssignableTo" ReflectliteType.assignableTo #[.agg #[.pointer (some ⟨4, 61, none⟩)], .iface 146 (.agg #[.pointer (some ⟨4, 61, none⟩)])]).run Tryz.prog w = .ok (.bool true) w := by kernel_rfl
theorem as_assignEF (w : World) : (ReflectliteType.relation "AssignableTo" ReflectliteType.assignableTo #[.agg #[.pointer (some ⟨4, 59, none⟩)], .iface 146 (.agg #[.pointer (some ⟨4, 61, none⟩)])]).run Tryz.prog w = .ok (.bool false) w := by kernel_rfl
theorem as_valueOfF (n l a : Int) (w : World) : (ReflectliteValue.unpack (.iface 61 (.agg #[.int .i64 n, .int .i64 l, .int .i64 a]))).run Tryz.prog w
    = .ok (.agg #[.pointer (some ⟨4, 61, none⟩), .pointer (some ⟨w.heap.size, 0, none⟩), .int .u64 153]) (w.alloc (.cells #[.int .i64 n, .int .i64 l, .int .i64 a] 61)) := by kernel_rfl
theorem as_elemOfT (w : World) : (Rtype.elem? 100).run Tryz.prog w = .ok (some 61) w := by kernel_rfl
theorem as_mkF (p : Addr) (w : World) : (ReflectliteValue.mk 61 p ReflectliteValue.flagAddr).run Tryz.prog w = .ok (.agg #[.pointer (some ⟨4, 61, none⟩), .pointer (some p), .int .u64 409]) w := by kernel_rfl
theorem as_elemVT (a p : Addr) (W : World) (ha : W.cell? a = some (.pointer (some p))) :
    (ReflectliteValue.method (ReflectliteValue.valueError "reflectlite.Value.Elem" 0) ReflectliteValue.elem #[.agg #[.pointer (some ⟨4, 100, none⟩), .pointer (some a), .int .u64 150]]).run Tryz.prog W
      = .ok (.agg #[.pointer (some ⟨4, 61, none⟩), .pointer (some p), .int .u64 409]) W := by
  rw [rlm]
  simp only [Sem.run_bind, as_partsT, Result.andThen]
  simp [ReflectliteValue.elem, loadVar, isAgg, underlying, Tryz.underlying100, ha, Result.andThen, as_elemOfT, as_mkF]
theorem rls (v x : Value) : ReflectliteValue.set #[v, x] = (do
    let (some (dst, a, fl), some (src, b, _)) := (← ReflectliteValue.parts v, ← ReflectliteValue.parts x)
      | unsupported (.noEntry "extern/(internal/reflectlite.Value).Set.zeroValue")
    if fl / ReflectliteValue.flagAddr % 2 == 0 then unsupported (.noEntry "extern/(internal/reflectlite.Value).Set.unaddressable")
    let val ← loadVar src b
    if ← Rtype.directlyAssignable dst src then storeVar dst a val
    else if ← Rtype.implements dst src then
      if (← Rtype.kind src) == 20 then
        match val with
        | .nilIface => unsupported (.noEntry "extern/reflectlite: a nil value of one interface type handed on as a value of another")
        | _ => storeVar dst a val
      else storeVar dst a (.iface src val)
    else panicString ("reflectlite.Set: value of type " ++ (← Rtype.spelt src) ++ " is not assignable to type " ++ (← Rtype.spelt dst))
    pure (.tuple #[])) := rfl
theorem as_partsFa (a : Addr) (w : World) : (ReflectliteValue.parts (.agg #[.pointer (some ⟨4, 61, none⟩), .pointer (some a), .int .u64 409])).run Tryz.prog w = .ok (some (61, a, 409)) w := by kernel_rfl
theorem as_partsF (a : Addr) (w : World) : (ReflectliteValue.parts (.agg #[.pointer (some ⟨4, 61, none⟩), .pointer (some a), .int .u64 153])).run Tryz.prog w = .ok (some (61, a, 153)) w := by kernel_rfl
theorem as_directF (w : World) : (Rtype.directlyAssignable 61 61).run Tryz.prog w = .ok true w := by kernel_rfl
end Go.Proofs.YthpmocfdnoehoaaGreatDoor
/- The model's entry (Value).Set at an api.Fault. -/
namespace Go.Proofs.YthpmocfdnoehoaaGreatDoor
open Go.RowKit Go.Extern.Stop Go.Stop Go.Extern
/-- (Value).Set: the api.Fault at 't' gets what the Value's own variable 'b' holds. -/
theorem as_setF (t b : Nat) (n l a : Int) (o0 o1 o2 : Value) (T : TypeId) (W : World) (hb0 : W.cell? ⟨b, 0, none⟩ = some (.int .i64 n)) (hb1 : W.cell? ⟨b, 1, none⟩ = some (.int .i64 l)) (hb2 : W.cell? ⟨b, 2, none⟩ = some (.int .i64 a))
    (ht : W.heap[t]? = some (.cells #[o0, o1, o2] T (0, 0))) :
    (ReflectliteValue.set #[.agg #[.pointer (some ⟨4, 61, none⟩), .pointer (some ⟨t, 0, none⟩), .int .u64 409], .agg #[.pointer (some ⟨4, 61, none⟩), .pointer (some ⟨b, 0, none⟩), .int .u64 153]]).run Tryz.prog W
      = .ok (.tuple #[]) (setBlk W t (.cells #[.int .i64 n, .int .i64 l, .int .i64 a] T (0, 0))) := by
  have hl := run_loadCells_list (P := Tryz.prog) W ⟨b, 0, none⟩ [.int .i64 n, .int .i64 l, .int .i64 a] (fun j v hj => by
    match j, hj with
    | 0, hj => simp at hj; subst hj; exact hb0
    | 1, hj => simp at hj; subst hj; exact hb1
    | 2, hj => simp at hj; subst hj; exact hb2
    | (j + 3), hj => simp at hj)
  have hs := run_storeCells_at Tryz.prog t 0 T [.int .i64 n, .int .i64 l, .int .i64 a] 0 #[o0, o1, o2] W ht (by simp) (by
    intro v hv
    simp at hv
    rcases hv with rfl | rfl | rfl <;> rfl)
  rw [setRow_setBlk ht] at hs
  simp at hs hl
  rw [rls]
  simp only [Sem.run_bind, as_partsFa, as_partsF, Result.andThen]
  simp [ReflectliteValue.flagAddr, loadVar, isAgg, underlying, Tryz.underlying61, Result.andThen, as_directF, storeVar, Value.cells, hl, hs]
end Go.Proofs.YthpmocfdnoehoaaGreatDoor
