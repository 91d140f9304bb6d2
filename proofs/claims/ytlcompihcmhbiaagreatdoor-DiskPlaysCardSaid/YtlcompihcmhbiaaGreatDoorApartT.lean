/- Contract of ApartTexts. Printed by wip/apart_t.py. -/
import Derived.Test.YtlcompihcmhbiaaGreatDoorM37
import Derived.Test.YtlcompihcmhbiaaGreatDoorM19
import Derived.Test.YtlcompihcmhbiaaGreatDoorM17
namespace Go.Proofs.YtlcompihcmhbiaaGreatDoor
open Go Go.RowKit
def strCl (s : ByteArray) : Array Value := #[.string s]
theorem strSz : ∀ s : ByteArray, (strCl s).size = 1 := fun _ => rfl
def mkT (k n : Nat) : List ByteArray := (List.range n).map fun i => markT k (i : Nat)
theorem mkT_len (k n : Nat) : (mkT k n).length = n := by unfold mkT; rw [List.length_map, List.length_range]
theorem mkT_succ (k n : Nat) : mkT k (n + 1) = mkT k n ++ [markT k (n : Nat)] := by unfold mkT; rw [List.range_succ, List.map_append]; rfl
theorem mkT_at {k n i : Nat} (h : i < n) : (mkT k n)[i]? = some (markT k (i : Nat)) := by unfold mkT; rw [List.getElem?_map, List.getElem?_range h]; rfl
theorem mkT_pre (k n i : Nat) : ∃ zs, mkT k (n + i) = mkT k n ++ zs := by
  induction i with
  | zero => exact ⟨[], by rw [Nat.add_zero, List.append_nil]⟩
  | succ i ih =>
    obtain ⟨zs, h⟩ := ih
    exact ⟨zs ++ [markT k ((n + i : Nat))], by rw [← Nat.add_assoc, mkT_succ, h, List.append_assoc]⟩
theorem set1at {w : World} {g o : Nat} {cur : Array Value} {t : TypeId} (h : w.heap[g]? = some (.cells cur t (0, 0))) (s : ByteArray) : w.setCell ⟨g, o, none⟩ (.string s) = setBlk w g (.cells (curPut cur (o * 1) (strCl s).toList) t (0, 0)) := by
  rw [setCell_blk h, Nat.mul_one]
  rfl
theorem infoSt : (Tryz.prog.info? 9).map (fun i => (i.zero, i.size, i.bytes)) = some (some (.string ⟨#[]⟩), 1, 16) := by kernel_rfl
theorem infoLst : (Tryz.prog.info? 37).map (fun i => (i.zero, i.size, i.bytes)) = some (some (.slice none 0 0), 1, 24) := by kernel_rfl
abbrev OwnTx := OwnG 9 1 strCl
abbrev ReadTx := Reads 9 1 strCl
abbrev ApTA := ApA 9 37 1 strCl
abbrev ApTC := ApC 9 37 1 strCl
abbrev ApTO := ApO 9 37 1 strCl
abbrev ApTR := ApR 9 37 1 strCl
theorem cellT {w : World} {g i : Nat} {s : ByteArray} (h : ∀ j, j < 1 → w.cell? ⟨g, i * 1 + j, none⟩ = (strCl s)[j]?) : w.cell? ⟨g, i, none⟩ = some (.string s) := by
  have := h 0 (by decide)
  rw [Nat.mul_one, Nat.add_zero] at this
  exact this
theorem own_cell {w : World} {B S n : Nat} {v : Value} {xs : List Value} {g cap k : Nat} {x : Value} (h : w.ownsRow B S 1 v n xs) (hv : v = .slice (some ⟨g, 0, none⟩) n cap) (hx : xs[k]? = some x) : w.cell? ⟨g, k, none⟩ = some x := by
  subst hv
  have := h.cells (g := g) rfl k x hx
  rw [show ((⟨g, 0, none⟩ : Addr).add k) = ⟨g, k, none⟩ by simp [Addr.add]; intro e; exact e.symm] at this
  exact this
theorem oneV {w : World} {v : Value} {t : TypeId} (i : Nat) (u : Value) (h : [v][i]? = some u) : (w.alloc (.cells #[v] t)).cell? ((⟨w.heap.size, 0, none⟩ : Addr).add i) = some u := by
  rw [show ((⟨w.heap.size, 0, none⟩ : Addr).add i) = ⟨w.heap.size, i, none⟩ by simp [Addr.add]; intro e; exact e.symm, cell_of_heapN (heap_new w _), ← h]
  rw [← Array.getElem?_toList]
set_option maxHeartbeats 6400000 in
set_option maxRecDepth 100000 in
theorem apartT_any (vs : Array Value) (LB cap base : Nat) (f : Nat → List ByteArray) (w : World) (hA : ApTA base LB vs w f w) (hap : Apart vs) (hLB : base ≤ LB) (hN0 : 0 < vs.size) (hN : vs.size ≤ 1000) (hc1 : vs.size ≤ cap) (hc2 : cap ≤ 9223372036854775807) (hlen : ∀ k, (f k).length ≤ 33000000) :
    Calls Tryz.prog 54 #[.slice (some ⟨LB, 0, none⟩) vs.size cap] w fun e w' => e = .returned (.bool true) ∧ Below base w w' := by
  obtain ⟨i0, hi, hz0, hz1, hz2⟩ := info_parts infoSt
  obtain ⟨j0, ki, kz0, kz1, kz2⟩ := info_parts infoLst
  obtain ⟨N, hNe⟩ : ∃ N, vs.size = N := ⟨_, rfl⟩
  rw [hNe] at hN0 hN hc1 ⊢
  have HNE := Lib.hid hNe
  have HA := Lib.hid hA
  have HAP := Lib.hid hap
  have HLEN := Lib.hid hlen
  have HLB := Lib.hid hLB
  have hN1 : (N : Int) ≤ 1000 := by omega
  have HBS := Lib.hid hA.hb0
  clear hNe hA hap hlen hLB hN
  go_enter Tryz.func54, Tryz.ntmps54
  go_wp2_with fail
  go_loopw [3] (fun kv wr => ∃ (k : Nat) (f' : Nat → List ByteArray), (k : Int) ≤ (N : Int) ∧ kv = .int .i64 k ∧ Hid (ApTA base LB vs w f' wr) ∧ Hid (∀ j, (f' j).length = (f j).length) ∧ Hid (∀ j i, j < k → i < (f j).length → (f' j)[i]? = some (markT j (i : Nat)))) (fun kv _ => N - (intOf kv).toNat)
  case atStart => exact ⟨0, f, by omega, rfl, HA.out, fun _ => rfl, fun j i hj => absurd hj (by omega)⟩
  case round =>
    obtain ⟨k, f', hk, rfl, hst, hl, hmk⟩ := hrel
    obtain ⟨wo, rfl⟩ : ∃ wo : World, wo = wr := ⟨_, rfl⟩
    by_cases hlt : (k : Int) < (N : Int)
    · obtain ⟨v, hv⟩ : ∃ v, vs[k]? = some v := ⟨_, Array.getElem?_eq_getElem (i := k) (by have := HNE.out; omega)⟩
      obtain ⟨p, cp, rfl, hcp, hcp2⟩ := ((hst.out.own k v hv).reads strSz).slice
      rw [hl.out k] at hv hcp
      have hn := HLEN.out k
      obtain ⟨n, hne⟩ : ∃ n, (f k).length = n := ⟨_, rfl⟩
      rw [hne] at hv hcp hn
      have HN := Lib.hid hne
      have HV := Lib.hid hv
      have hn2 : (n : Int) ≤ 33000000 := by omega
      have hcp3 : (n : Int) ≤ (cp : Int) := by omega
      have hcp4 : (cp : Int) ≤ 9223372036854775807 := by unfold maxLen at hcp2; omega
      clear hne hv hcp hcp2 hn
      go_wp2_with fail
      go_loopw [4] (fun iv wr2 => ∃ (i : Nat) (f2 : Nat → List ByteArray), (i : Int) ≤ (n : Int) ∧ iv = .int .i64 i ∧ Hid (ApTA base LB vs w f2 wr2) ∧ Hid (∀ j, (f2 j).length = (f j).length) ∧ Hid (∀ j t, (j < k ∨ (j = k ∧ t < i)) → t < (f j).length → (f2 j)[t]? = some (markT j (t : Nat)))) (fun iv _ => n - (intOf iv).toNat)
      case atStart => exact ⟨0, f', by omega, rfl, hst, hl, fun j t h1 h2 => hmk.out j t (by omega) h2⟩
      case round =>
        obtain ⟨i, f2, hi2, rfl, hst2, hl2, hmk2⟩ := hrel
        have cls : wr.cell? ⟨LB, k, none⟩ = some (.slice p n cp) := (cell_of_heapN hst2.out.ls).trans HV.out
        by_cases hlt2 : (i : Int) < (n : Int)
        · have hfl : (f2 k).length = n := (hl2.out k).trans HN.out
          obtain ⟨x, hx⟩ : ∃ x, (f2 k)[i]? = some x := ⟨_, List.getElem?_eq_getElem (i := i) (by omega)⟩
          obtain ⟨g, cp', he, -, -, -, hrow⟩ := ((hst2.out.own k _ HV.out).reads strSz).at hx
          obtain ⟨rfl, -, rfl⟩ := Value.slice.inj he
          clear he hrow
          have HX := Lib.hid hx
          have HFL := Lib.hid hfl
          have hmkc := fun W => markTx_any k i W (by omega) (by omega) (by omega)
          have HMKC := Lib.hid hmkc
          have hgI := hst2.out.keep ((Below.refl _ wr).drew)
          have hcls : ∀ W, ApTA base LB vs w f2 W → W.cell? ⟨LB, k, none⟩ = some (.slice (some ⟨g, 0, none⟩) n cp) := fun W hI => (cell_of_heapN hI.ls).trans HV.out
          have HCLS := Lib.hid hcls
          clear hx hfl hmkc hcls
          go_wp2_with fail
          refine wp_region_inv (ApTA base LB vs w f2) 9 (by kernel_rfl) (by kernel_rfl) hgI ?_
          clear hgI cls
          simp only [List.take_succ_cons, List.take_zero, List.drop_succ_cons, List.drop_zero]
          refine ⟨_, yi_still rfl (fun W hI => by go_simp; rfl), ?_⟩
          refine ⟨_, yi_still rfl (fun W hI => by go_simp; rfl), ?_⟩
          refine ⟨_, yi_still rfl (fun W hI => by go_simp; rfl), ?_⟩
          refine ⟨_, yi_still rfl (fun W hI => by have cls := HCLS.out W hI; go_simp; rfl), ?_⟩
          refine ⟨_, yi_still rfl (fun W hI => by go_simp; rfl), ?_⟩
          refine ⟨_, yi_still rfl (fun W hI => by go_simp; rfl), ?_⟩
          refine ⟨_, yi_still rfl (fun W hI => by go_simp; rfl), ?_⟩
          refine ⟨_, yi_call rfl (fun W hI => by go_simp) (fun W hI => (HMKC.out W).mono fun e W' ⟨he, hb⟩ => ⟨he, hI.keep hb⟩), ?_⟩
          refine ⟨_, yi_still rfl (fun W hI => by go_simp; rfl), ?_⟩
          rintro W7 hI7
          change wpList _ _ _ _ _ W7
          have hrow : ∀ j, j < 1 → W7.cell? ⟨g, i * 1 + j, none⟩ = (strCl x)[j]? := by
            obtain ⟨g', cp', he, -, -, -, hrow⟩ := ((hI7.own k _ HV.out).reads strSz).at HX.out
            obtain ⟨h, -, -⟩ := Value.slice.inj he
            obtain rfl : g' = g := by cases h; rfl
            exact hrow
          obtain ⟨M, hM⟩ : ∃ M, markT k (i : Nat) = M := ⟨_, rfl⟩
          obtain ⟨cur, hcur, hsz, hst3⟩ := ApA.store (i := i) (x := M) strSz (by decide) HAP.out hI7 HV.out (by rw [HFL.out]; omega)
          rw [hM]
          have c0 := cellT hrow
          have fr : ∀ t : Nat, W7.frozen? ⟨g, t, none⟩ = false := fun t => frozen_blk hcur
          have HCUR := Lib.hid hcur
          have HST3 := Lib.hid hst3
          have HMM := Lib.hid hM
          clear hcur hsz hst3 hM hrow hI7
          go_wp2_with fail
          case roundEnd =>
            rw [set1at HCUR.out]
            refine ⟨⟨i + 1, fun j => if j = k then (f2 k).set i M else f2 j, by omega, by rw [Int.natCast_add]; rfl, HST3, fun j => ?_, fun j t h1 h2 => ?_⟩, by simp [intOf]; omega⟩
            · show (if j = k then (f2 k).set i M else f2 j).length = _
              by_cases e : j = k
              · rw [if_pos e, List.length_set, hl2.out, e]
              · rw [if_neg e, hl2.out]
            · show (if j = k then (f2 k).set i M else f2 j)[t]? = _
              by_cases e : j = k
              · subst e
                rw [if_pos rfl, List.getElem?_set]
                by_cases e2 : i = t
                · subst e2
                  rw [if_pos rfl, if_pos (by rw [HFL.out]; omega), HMM.out]
                · rw [if_neg e2]
                  exact hmk2.out j t (by omega) h2
              · rw [if_neg e]
                exact hmk2.out j t (by omega) h2
        · go_wp2_with fail
          case roundEnd =>
            exact ⟨⟨k + 1, f2, by omega, by rw [Int.natCast_add]; rfl, hst2, hl2, fun j t h1 h2 => hmk2.out j t (by
              have hn := HN.out
              by_cases e : j = k
              · rw [e] at h2; omega
              · omega) h2⟩, by simp [intOf]; omega⟩
    · have hfe : ∀ j, j < N → f' j = mkT j (f j).length := fun j hj => by
        refine List.ext_getElem? fun t => ?_
        by_cases ht : t < (f j).length
        · rw [hmk.out j t (by omega) ht, mkT_at ht]
        · rw [List.getElem?_eq_none (by rw [hl.out]; omega), List.getElem?_eq_none (by rw [mkT_len]; omega)]
      obtain ⟨a, ha⟩ : ∃ a : Nat → List ByteArray, a = fun j => mkT j (f j).length := ⟨_, rfl⟩
      obtain ⟨c, hcd⟩ : ∃ c : Nat → List ByteArray, c = fun j => mkT j ((f j).length + 64) := ⟨_, rfl⟩
      have hA2 : ApTA base LB vs w a wo := ⟨hst.out.ls, fun j v hv => by
        have hj := (Array.getElem?_eq_some_iff.1 hv).1
        have := hst.out.own j v hv
        rw [hfe j (by have := HNE.out; omega)] at this
        rw [ha]
        exact this, hst.out.bel, hst.out.hb0⟩
      have HO := Lib.hid (ApO.start (base2 := wo.heap.size) (c := c) hA2 strSz)
      have HA2 := Lib.hid ha
      have HC2 := Lib.hid hcd
      have HB2 := Lib.hid (show LB < wo.heap.size ∧ base ≤ wo.heap.size from ⟨blk_lt hst.out.ls, Nat.le_trans HBS.out hst.out.bel.size⟩)
      obtain ⟨base2, hb2⟩ : ∃ b, wo.heap.size = b := ⟨_, rfl⟩
      rw [hb2] at HO HB2
      have HB0 := Lib.hid (show base2 ≤ wo.heap.size by omega)
      clear hfe hA2 hst hl hmk ha hcd hb2
      go_wp2_with fail
      go_loopw [5, 6] (fun uv kv wr => ∃ (k : Nat) (G : List Value), (k : Int) ≤ (N : Int) ∧ kv = .int .i64 k ∧ Hid (G.length = k) ∧ Hid (base2 ≤ wr.heap.size) ∧ Hid (ApTO base base2 LB vs w a c k G uv wr)) (fun _ kv _ => N - (intOf kv).toNat)
      case atStart => exact ⟨0, [], by omega, rfl, rfl, HB0, HO⟩
      case round =>
        obtain ⟨k, G, hk, rfl, hG, hbz, hst⟩ := hrel
        obtain ⟨wp, rfl⟩ : ∃ wp : World, wp = wr := ⟨_, rfl⟩
        by_cases hlt : (k : Int) < (N : Int)
        · obtain ⟨v, hv⟩ : ∃ v, vs[k]? = some v := ⟨_, Array.getElem?_eq_getElem (i := k) (by have := HNE.out; omega)⟩
          obtain ⟨p, cp, hve, hcp, hcp2⟩ := (hst.out.rd k v hv).slice
          have hn := HLEN.out k
          obtain ⟨n, hne⟩ : ∃ n, (f k).length = n := ⟨_, rfl⟩
          have hal : a k = mkT k n := by rw [HA2.out, ← hne]
          rw [hal, mkT_len] at hve hcp
          rw [hne] at hn
          subst hve
          have HV := Lib.hid hv
          have HAL := Lib.hid hal
          have HNN := Lib.hid hne
          have hn2 : (n : Int) ≤ 33000000 := by omega
          have hcp3 : (n : Int) ≤ (cp : Int) := by omega
          have hcp4 : (cp : Int) ≤ 9223372036854775807 := by unfold maxLen at hcp2; omega
          have cls : wp.cell? ⟨LB, k, none⟩ = some (.slice p n cp) := (cell_of_heapN hst.out.ls).trans hv
          have hst0 := hst.out.enter HAP.out hv
          rw [hal] at hst0
          have HST0 := Lib.hid hst0
          clear hv hcp hcp2 hn hne hal hst0
          go_wp2_with fail
          clear cls
          go_loopw [7, 8] (fun gv iv wr => ∃ (i : Nat), (i : Int) ≤ 64 ∧ iv = .int .i64 i ∧ Hid (base2 ≤ wr.heap.size) ∧ Hid (ApTC base base2 LB vs w a c k G u5 (mkT k (n + i)) gv wr)) (fun _ iv _ => 64 - (intOf iv).toNat)
          case atStart => exact ⟨0, by omega, rfl, hbz, HST0⟩
          case round =>
            obtain ⟨i, hi2, rfl, hbz2, hst2⟩ := hrel
            by_cases hlt2 : (i : Int) < 64
            · have cls : wr.cell? ⟨LB, k, none⟩ = some (.slice p n cp) := (cell_of_heapN hst2.out.ls).trans HV.out
              have hmkc := fun W => markTx_any k ((n : Int) + (i : Int)) W (by omega) (by omega) (by omega)
              obtain ⟨M, hM⟩ : ∃ M, markT k ((n : Int) + (i : Int)) = M := ⟨_, rfl⟩
              rw [hM] at hmkc
              have HM := Lib.hid hM
              have HMKC := Lib.hid hmkc
              clear hmkc hM
              go_wp2_with fail
              refine (HMKC.out _).mono ?_
              rintro e w1 ⟨rfl, hb1⟩
              have HST3 := Lib.hid (hst2.out.keep hb1)
              have HZ1 := Lib.hid (Nat.le_trans hbz2.out hb1.size)
              have hcur := HST3.out.cur
              unfold OwnG at hcur
              rw [mkT_len] at hcur
              have HCUR := Lib.hid hcur
              have HBZ := Lib.hid (show base ≤ w1.heap.size from Nat.le_trans HBS.out (Nat.le_trans HST3.out.bel.size (Nat.le_refl _)))
              clear hb1 hcur cls HMKC
              go_wp2_with (first
                | (at_builtin; refine wpList_app_to rfl _ _ 37 rfl base 9 i0 (.string ⟨#[]⟩) 1 16 Tryz.underlying37 hi hz0 hz1 hz2 rfl (by decide) _ _ _ rfl (HCUR.out.alloc _) ⟨w1.heap.size, 0, none⟩ 1 1 [.string M] rfl rfl (oneV) (by simp [Value.oneCell']) (by decide) (by unfold maxLen; omega) (by omega) (by have := HBZ.out; rw [World.size_alloc]; omega) ?_; intro v' w2 hown' hgrow)
                | fail)
              case roundEnd =>
                obtain ⟨zs, hzs⟩ := mkT_pre k n i
                have h3 := ApC.app (x := M) strSz (by decide) (HST3.out.keep ((Below.refl _ w1).alloc (Nat.le_refl _) _)) HV.out (by rw [hzs, HAL.out]) (by rw [mkT_len]; exact hown') hgrow
                have e : mkT k (n + i) ++ [M] = mkT k (n + (i + 1)) := by rw [← Nat.add_assoc, mkT_succ, ← HM.out, Int.natCast_add]
                rw [e] at h3
                have hz2 : base2 ≤ w2.heap.size := by
                  have := HZ1.out
                  rcases hgrow with ⟨_, hg⟩ | ⟨_, hg⟩
                  · have := hg.size; rw [World.size_alloc] at this; omega
                  · have := hg.size; rw [World.size_alloc] at this; omega
                exact ⟨⟨i + 1, by omega, by rw [Int.natCast_add]; rfl, hz2, h3⟩, by simp [intOf]; omega⟩
            · obtain rfl : i = 64 := by omega
              obtain ⟨p7, c7, hu7, -, -⟩ := (hst2.out.cur.reads strSz).slice
              rw [mkT_len] at hu7
              subst hu7
              have hgs := hst2.out.gs
              rw [hG.out] at hgs
              have HGS := Lib.hid hgs
              clear hgs
              go_wp2_with (first
                | (at_builtin; refine wpList_append_own _ rfl _ _ 105 rfl base2 37 j0 (.slice none 0 0) 1 24 Tryz.underlying105 ki kz0 kz1 kz2 rfl (by decide) _ _ _ rfl (HGS.out.alloc _) ⟨wr.heap.size, 0, none⟩ 1 1 [.slice p7 (n + 64) c7] rfl rfl (oneV) (by intro u hu; rw [List.mem_singleton.1 hu]; rfl) (by unfold maxLen; omega) (by omega) (by have := hbz2.out; rw [World.size_alloc]; omega) ?_; intro v' w2 hown' hgrow _)
                | fail)
              case roundEnd =>
                have h4 := ApC.leave (by decide) HB2.out.1 HB2.out.2 (hst2.out.keep ((Below.refl _ wr).alloc (Nat.le_refl _) _)) hG.out (by rw [HC2.out, ← HNN.out]) (by rw [hG.out]; exact hown') hgrow
                refine ⟨⟨k + 1, _, by omega, by rw [Int.natCast_add]; rfl, (by show _ = _; rw [List.length_append, hG.out]; rfl), ?_, h4⟩, by simp [intOf]; omega⟩
                have := hgrow.size
                have := hbz2.out
                rw [World.size_alloc] at *
                show base2 ≤ _
                omega
        · obtain rfl : k = N := by omega
          have HR := Lib.hid (hst.out.done strSz)
          have hgs := hst.out.gs
          rw [hG.out] at hgs
          obtain ⟨gb, gc, rfl, hgc1, hgc2⟩ : ∃ gb gc, u5 = .slice (some ⟨gb, 0, none⟩) k gc ∧ (k : Int) ≤ (gc : Int) ∧ (gc : Int) ≤ 9223372036854775807 := by
            rcases hgs.2 with ⟨_, h0⟩ | ⟨g, cap, cur, h1, _, _, h4, h5, _⟩
            · omega
            · exact ⟨g, cap, h1, by omega, by unfold maxLen at h5; omega⟩
          clear hgs
          go_wp2_with fail
          go_loopw [9] (fun kv wr => ∃ (q : Nat), (q : Int) ≤ (k : Int) ∧ kv = .int .i64 q ∧ Hid (ApTR base base2 LB vs w a c G (.slice (some ⟨gb, 0, none⟩) k gc) wr)) (fun kv _ => k - (intOf kv).toNat)
          case atStart => exact ⟨0, by omega, rfl, HR⟩
          case round =>
            obtain ⟨q, hq, rfl, hst3⟩ := hrel
            obtain ⟨wq, rfl⟩ : ∃ wq : World, wq = wr := ⟨_, rfl⟩
            by_cases hltq : (q : Int) < (k : Int)
            · obtain ⟨v, hv⟩ : ∃ v, vs[q]? = some v := ⟨_, Array.getElem?_eq_getElem (i := q) (by have := HNE.out; omega)⟩
              obtain ⟨x, hx⟩ : ∃ x, G[q]? = some x := ⟨_, List.getElem?_eq_getElem (i := q) (by have := hG.out; omega)⟩
              obtain ⟨p, cp, hve, hcp, hcp2⟩ := (hst3.out.rd q v hv).slice
              obtain ⟨p2, cp2, hxe, hcq, hcq2⟩ := (hst3.out.rdC q x hx).slice
              have hn := HLEN.out q
              obtain ⟨n, hne⟩ : ∃ n, (f q).length = n := ⟨_, rfl⟩
              have hal : a q = mkT q n := by rw [HA2.out, ← hne]
              have hcl : c q = mkT q (n + 64) := by rw [HC2.out, ← hne]
              rw [hal, mkT_len] at hve hcp
              rw [hcl, mkT_len] at hxe hcq
              rw [hne] at hn
              subst hve
              subst hxe
              have HV := Lib.hid hv
              have HX := Lib.hid hx
              have HAL := Lib.hid hal
              have HCL := Lib.hid hcl
              have hn2 : (n : Int) ≤ 33000000 := by omega
              have hcp3 : (n : Int) ≤ (cp : Int) := by omega
              have hcp4 : (cp : Int) ≤ 9223372036854775807 := by unfold maxLen at hcp2; omega
              have hcq3 : (n : Int) + 64 ≤ (cp2 : Int) := by omega
              have hcq4 : (cp2 : Int) ≤ 9223372036854775807 := by unfold maxLen at hcq2; omega
              have hqk : q < k := by omega
              clear hv hx hcp hcp2 hn hne hal hcl hcq hcq2
              go_wp2_with fail
              go_loopw [10] (fun iv wr => ∃ (i : Nat), (i : Int) ≤ (n : Int) + 64 ∧ iv = .int .i64 i ∧ Hid (ApTR base base2 LB vs w a c G (.slice (some ⟨gb, 0, none⟩) k gc) wr)) (fun iv _ => n + 64 - (intOf iv).toNat)
              case atStart => exact ⟨0, by omega, rfl, hst3⟩
              case round =>
                obtain ⟨i, hi2, rfl, hst4⟩ := hrel
                have hgc : wr.cell? ⟨gb, q, none⟩ = some (.slice p2 (n + 64) cp2) := own_cell hst4.out.gs (by rw [hG.out]) HX.out
                by_cases hlti : (i : Int) < (n : Int) + 64
                · have hmkc := fun W => markTx_any q i W (by omega) (by omega) (by omega)
                  obtain ⟨M, hM⟩ : ∃ M, markT q (i : Nat) = M := ⟨_, rfl⟩
                  rw [hM] at hmkc
                  have HM := Lib.hid hM
                  have HMKC := Lib.hid hmkc
                  clear hmkc hM
                  go_wp2_with fail
                  refine (HMKC.out _).mono ?_
                  rintro e w1 ⟨rfl, hb1⟩
                  have HST5 := Lib.hid (hst4.out.keep hb1)
                  clear hb1 hgc HMKC
                  have cgs : w1.cell? ⟨gb, q, none⟩ = some (.slice p2 (n + 64) cp2) := own_cell HST5.out.gs (by rw [hG.out]) HX.out
                  have cls : w1.cell? ⟨LB, q, none⟩ = some (.slice p n cp) := (cell_of_heapN HST5.out.ls).trans HV.out
                  obtain ⟨h, cp', he, -, -, -, hrow⟩ := (HST5.out.rdC q _ HX.out).at (i := i) (x := M) (by rw [HCL.out, mkT_at (by omega), HM.out])
                  obtain ⟨rfl, -, -⟩ := Value.slice.inj he
                  have d0 := cellT hrow
                  clear he hrow
                  by_cases hin : (i : Int) < (n : Int)
                  · obtain ⟨g, cp3, he, -, -, -, hrow2⟩ := (HST5.out.rd q _ HV.out).at (i := i) (x := M) (by rw [HAL.out, mkT_at (by omega), HM.out])
                    obtain ⟨rfl, -, -⟩ := Value.slice.inj he
                    have c0 := cellT hrow2
                    clear he hrow2
                    go_wp2_with fail
                    case roundEnd =>
                      exact ⟨⟨i + 1, by omega, by rw [Int.natCast_add]; rfl, HST5⟩, by simp [intOf]; omega⟩
                  · go_wp2_with fail
                    case roundEnd =>
                      exact ⟨⟨i + 1, by omega, by rw [Int.natCast_add]; rfl, HST5⟩, by simp [intOf]; omega⟩
                · go_wp2_with fail
                  case roundEnd =>
                    exact ⟨⟨q + 1, by omega, by rw [Int.natCast_add]; rfl, hst4⟩, by simp [intOf]; omega⟩
            · go_wp2_with fail
              go_ret
              exact ⟨rfl, hst3.out.bel⟩
end Go.Proofs.YtlcompihcmhbiaaGreatDoor
