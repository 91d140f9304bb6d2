/- Contract of ustar.Decode. -/
import Derived.Test.YthpmocfdnoehoaaGreatDoorDecState
import Derived.Test.YthpmocfdnoehoaaGreatDoorCopy
import Derived.RegionTactic
import Derived.Test.YthpmocfdnoehoaaGreatDoorFreeAlloc
namespace Go.Proofs.YthpmocfdnoehoaaGreatDoor
open Go.RowKit
def magicB (l : Bs) : Bool := fld l 257 265 == [117, 115, 116, 97, 114, 0, 48, 48]
theorem copy512 (w : World) (c : Nat) (s : ByteArray) (hs : s.size = 512) (hb : w.heap[c]? = some (blk 90 z512)) (ty : TypeId) :
    (Builtin.copy_ #[48, 9] ty #[.slice (some ⟨c, 0, none⟩) 512 512, .string s]).run Tryz.prog w = .ok (.int .i64 512) (setBlk w c (blk 90 s.data.toList)) := by
  have h := run_copy_str (P := Tryz.prog) w 48 9 ty 5 c 0 512 512 s 90 z512 Tryz.underlying48 (by kernel_rfl) hb (by omega) (by rw [z512_len]; omega)
  have h2 : over z512 0 s.data.toList = s.data.toList := by
    have h3 : s.data.toList.length = 512 := hs
    rw [over, h3, List.drop_of_length_le (by rw [z512_len]; omega)]
    simp
  rw [h2, hs] at h
  exact h
theorem text_q (s : ByteArray) (w : World) (hs : s.size ≤ 140737488355328) :
    Calls Tryz.prog 84 #[.string s] w fun e w' => e = .returned (.string ⟨(textOf s.data.toList).toArray⟩) ∧ w' = w :=
  (text_any s w hs).mono fun _ _ ⟨he, hw⟩ => ⟨he, hw.symm⟩
theorem dec_copy (w : World) (s : ByteArray) (hs : s.size = 512) (ty : TypeId) : ∃ w2 : World,
    (Builtin.copy_ #[48, 9] ty #[.slice (some ⟨w.heap.size + 1, 0, none⟩) 512 512, .string s]).run Tryz.prog ((w.alloc (.cells zh 24)).alloc (.cells Tryz.zeroCells90 90)) = .ok (.int .i64 512) w2 ∧
    w2.heap.size = w.heap.size + 2 ∧ w2.heap[w.heap.size]? = some (.cells zh 24 (0, 0)) ∧ w2.heap[w.heap.size + 1]? = some (blk 90 s.data.toList) ∧ Below w.heap.size w w2 := by
  have hb : ((w.alloc (.cells zh 24)).alloc (.cells Tryz.zeroCells90 90)).heap[w.heap.size + 1]? = some (blk 90 z512) := by
    have := heap_new (w.alloc (.cells zh 24)) (.cells Tryz.zeroCells90 90)
    rw [World.size_alloc] at this
    rw [this, zero512]; rfl
  refine ⟨_, copy512 _ _ s hs hb ty, ?_, ?_, setBlk_heap (by simp), ?_⟩
  · rw [setBlk_size]; simp
  · rw [setBlk_other (by omega), Below.heap_alloc _ _ _ (by simp)]; exact heap_new _ _
  · have hB := ((Below.refl w.heap.size w).alloc (Nat.le_refl _) (.cells zh 24)).alloc (by simp) (.cells Tryz.zeroCells90 90)
    exact ⟨hB.os, hB.tape, hB.output, by rw [setBlk_size]; exact hB.size, fun k hk => (setBlk_other (by omega)).trans (hB.block k hk)⟩
/-- All numbers of a header can be read. -/
def okAll (l : Bs) : Bool := (List.range 8).all fun j => numOk (fld l (fromK j) (toK j))
theorem okAll_not {l : Bs} {k x y : Nat} (hx : fromK k = x) (hy : toK k = y) (h : numOk (fld l x y) = false) (hk : k < 8) : okAll l = false := by
  unfold okAll
  rw [List.all_eq_false]
  exact ⟨k, by simpa using hk, by rw [hx, hy, h]; simp⟩
theorem okAll_yes {l : Bs} (h : ∀ j, j < 8 → numOk (fld l (fromK j) (toK j)) = true) : okAll l = true := by
  unfold okAll
  rw [List.all_eq_true]
  exact fun j hj => h j (by simpa using hj)
theorem textOf_le (l : Bs) : (textOf l).length ≤ l.length := (List.takeWhile_sublist _).length_le
/-- A header's fields, the path put together. -/
def decHdr (l : Bs) : Hdr := { hdrK l 8 with path := if textOf (fld l 345 500) = [] then ⟨(textOf (l.take 100)).toArray⟩ else ⟨(textOf (fld l 345 500) ++ [47] ++ textOf (l.take 100)).toArray⟩ }
theorem decHdr_empty {l : Bs} (h : textOf (fld l 345 500) = []) : decHdr l = hdrK l 8 := by
  unfold decHdr; rw [if_pos h]; rfl
theorem decHdr_some {l : Bs} (h : textOf (fld l 345 500) ≠ []) : decHdr l = { hdrK l 8 with path := ⟨(textOf (fld l 345 500) ++ [47] ++ textOf (l.take 100)).toArray⟩ } := by
  unfold decHdr; rw [if_neg h]
/-- What Decode comes to. -/
def decErr (l : Bs) : Int := if okAll l = false then 6 else if numX (fld l 148 156) ≠ sumTo l 512 then 7 else 0
def DecPost (l : Bs) (w : World) (e : Ending) (w' : World) : Prop :=
  e = .returned (.tuple #[.agg (if decErr l = 0 then (decHdr l).cells else zh), if decErr l = 0 then .nilIface else errV (decErr l)]) ∧ Below w.heap.size w w'
theorem DecPost.text {l : Bs} {w w' : World} {e : Ending} (h : okAll l = false) (he : e = .returned (.tuple #[.agg zh, errV 6])) (hb : Below w.heap.size w w') : DecPost l w e w' := by
  have : decErr l = 6 := by rw [decErr, if_pos h]
  exact ⟨by rw [this, if_neg (by decide), if_neg (by decide)]; exact he, hb⟩
theorem DecPost.sum {l : Bs} {w w' : World} {e : Ending} (h : okAll l = true) (h2 : numX (fld l 148 156) ≠ sumTo l 512) (he : e = .returned (.tuple #[.agg zh, errV 7])) (hb : Below w.heap.size w w') : DecPost l w e w' := by
  have : decErr l = 7 := by rw [decErr, if_neg (by simp [h]), if_pos h2]
  exact ⟨by rw [this, if_neg (by decide), if_neg (by decide)]; exact he, hb⟩
theorem DecPost.ok {l : Bs} {w w' : World} {e : Ending} (h : okAll l = true) (h2 : numX (fld l 148 156) = sumTo l 512) (he : e = .returned (.tuple #[.agg (decHdr l).cells, .nilIface])) (hb : Below w.heap.size w w') : DecPost l w e w' := by
  have : decErr l = 0 := by rw [decErr, if_neg (by simp [h]), if_neg (by simp [h2])]
  exact ⟨by rw [this, if_pos rfl, if_pos rfl]; exact he, hb⟩
theorem setBlk_setCell {w : World} {b i : Nat} {c : Array Value} {t : TypeId} {v : Value} (hb : b < w.heap.size) : (setBlk w b (.cells c t (0, 0))).setCell ⟨b, i, none⟩ v = setBlk w b (.cells (c.setIfInBounds i v) t (0, 0)) := by
  rw [setCell_blk (setBlk_heap hb), setBlk_setBlk]
theorem set12 {w : World} {b : Nat} {t : TypeId} (h : w.heap[b]? = some (.cells zh t (0, 0))) (v0 v1 v2 v3 v4 v5 v6 v7 v8 v9 v10 v11 : Value) :
    ((((((((((((w.setCell ⟨b, 0, none⟩ v0).setCell ⟨b, 1, none⟩ v1).setCell ⟨b, 2, none⟩ v2).setCell ⟨b, 3, none⟩ v3).setCell ⟨b, 4, none⟩ v4).setCell ⟨b, 5, none⟩ v5).setCell ⟨b, 6, none⟩ v6).setCell ⟨b, 7, none⟩ v7).setCell ⟨b, 8, none⟩ v8).setCell ⟨b, 9, none⟩ v9).setCell ⟨b, 10, none⟩ v10).setCell ⟨b, 11, none⟩ v11) = setBlk w b (.cells #[v0, v1, v2, v3, v4, v5, v6, v7, v8, v9, v10, v11] t (0, 0)) := by
  have hb := blk_lt h
  simp only [setCell_blk h, setBlk_setCell hb]
  simp only [zh, List.setIfInBounds_toArray, List.set_cons_zero, List.set_cons_succ]
theorem sum_q (b : Nat) (l : Bs) (w : World) (hb : w.heap[b]? = some (blk 90 l)) (hl : l.length = 512) :
    Calls Tryz.prog 49 #[.pointer (some ⟨b, 0, none⟩)] w fun e w' => e = .returned (.int .i64 (sumTo l 512)) ∧ ∃ n, w' = w.drewN n :=
  (sum_any b l w hb hl).mono fun _ _ ⟨he, n, hn⟩ => ⟨he, n, hn.symm⟩
theorem typ_eq (s : ByteArray) (h : 156 < s.size) : s.data.toList.getD 156 0 = s[156] := by
  rw [List.getD_eq_getElem?_getD, List.getElem?_eq_getElem (by simpa using h)]
  rfl
theorem dec_start (w w2 : World) (l : Bs) (hz : w2.heap.size = w.heap.size + 2) (hr : w2.heap[w.heap.size]? = some (.cells zh 24 (0, 0))) (hc : w2.heap[w.heap.size + 1]? = some (blk 90 l)) (hb : Below w.heap.size w w2) (cs : Array Value) (hcs : cs = (hdrK l 0).cells) :
    DecS w l 0 ((((w2.alloc (.cells cs 24)).alloc (.cells #[.int .i64 0] 2)).alloc (.cells (arrP w.heap.size) 162)).drew) := by
  subst hcs
  have e1 : (w2.alloc (.cells (hdrK l 0).cells 24)).heap.size = w.heap.size + 3 := by rw [World.size_alloc, hz]
  have e2 : ((w2.alloc (.cells (hdrK l 0).cells 24)).alloc (.cells #[.int .i64 0] 2)).heap.size = w.heap.size + 4 := by rw [World.size_alloc, e1]
  have n1 := heap_new w2 (.cells (hdrK l 0).cells 24)
  have n2 := heap_new (w2.alloc (.cells (hdrK l 0).cells 24)) (.cells #[.int .i64 0] 2)
  have n3 := heap_new ((w2.alloc (.cells (hdrK l 0).cells 24)).alloc (.cells #[.int .i64 0] 2)) (.cells (arrP w.heap.size) 162)
  rw [hz] at n1
  rw [e1] at n2
  rw [e2] at n3
  refine ⟨?_, ?_, ?_, ?_, ?_, n3, ?_⟩
  · show w.heap.size + 5 ≤ (((w2.alloc (.cells (hdrK l 0).cells 24)).alloc (.cells #[.int .i64 0] 2)).alloc (.cells (arrP w.heap.size) 162)).heap.size
    rw [World.size_alloc, e2]
    omega
  · exact (Below.heap_alloc _ _ _ (by omega)).trans ((Below.heap_alloc _ _ _ (by omega)).trans ((Below.heap_alloc _ _ _ (by omega)).trans hr))
  · exact (Below.heap_alloc _ _ _ (by omega)).trans ((Below.heap_alloc _ _ _ (by omega)).trans ((Below.heap_alloc _ _ _ (by omega)).trans hc))
  · exact (Below.heap_alloc _ _ _ (by omega)).trans ((Below.heap_alloc _ _ _ (by omega)).trans n1)
  · exact (Below.heap_alloc _ _ _ (by omega)).trans n2
  · exact (((hb.alloc (by omega) _).alloc (by omega) _).alloc (by omega) _).drew
set_option maxHeartbeats 800000 in
set_option maxRecDepth 100000 in
theorem decode_any (s : ByteArray) (w : World) (hs : s.size = 512) (hm : magicB s.data.toList = true) :
    Calls Tryz.prog 79 #[.string s] w (DecPost s.data.toList w) := by
  have hs1 : 512 ≤ s.size := by omega
  have hs2 : s.size ≤ 512 := by omega
  have hs3 : (s.size : Int) = 512 := by omega
  obtain ⟨w2, hcp, hz, hr, hc, hb2⟩ := dec_copy w s hs 3
  have HS := Lib.hid hs
  have HZ := Lib.hid hz
  have HR := Lib.hid hr
  have HC := Lib.hid hc
  have HB := Lib.hid hb2
  clear hs hz hr hc hb2
  have hmg : ((s.extract 257 265).toList == [117, 115, 116, 97, 114, 0, 48, 48]) = true := by
    rw [Lib.toList_data, Lib.extract_data]; exact hm
  have HM := Lib.hid hm
  clear hm
  go_enter Tryz.func79, Tryz.ntmps79
  go_wp2_with fail
  clear hcp
  refine wp_region_free_alloc 16 15 _ (.pointer (some ⟨w.heap.size + 2, 0, none⟩)) (w2.drew.alloc (.cells zh 24)) (by kernel_rfl) (by kernel_rfl) rfl rfl ?run (by kernel_rfl) ?lex
  case run =>
    intro a
    have hz2 : ({ w2 with drawn := w2.drawn + 1 } : World).heap.size = w.heap.size + 2 := HZ.out
    go_simp
  simp only [List.take_succ_cons, List.take_zero, List.drop_succ_cons, List.drop_zero]
  refine ⟨_, yb_pure (by decide) rfl (fun W => by go_simp; rfl), ?_⟩
  refine ⟨_, yb_pure (by decide) rfl (fun W => by go_simp; rfl), ?_⟩
  refine ⟨_, yb_call (by decide) rfl (fun W => by go_simp; rfl) (fun W => text_q _ W (by simp; omega)), ?_⟩
  refine ⟨_, yb_pure (by decide) rfl (fun W => by go_simp; rfl), ?_⟩
  refine ⟨_, yb_pure (by decide) rfl (fun W => by go_simp; rfl), ?_⟩
  refine ⟨_, yb_pure (by decide) rfl (fun W => by go_simp; rfl), ?_⟩
  refine ⟨_, yb_pure (by decide) rfl (fun W => by go_simp; rfl), ?_⟩
  refine ⟨_, yb_call (by decide) rfl (fun W => by go_simp; rfl) (fun W => text_q _ W (by simp; omega)), ?_⟩
  refine ⟨_, yb_pure (by decide) rfl (fun W => by go_simp; rfl), ?_⟩
  refine ⟨_, yb_pure (by decide) rfl (fun W => by go_simp; rfl), ?_⟩
  refine ⟨_, yb_call (by decide) rfl (fun W => by go_simp; rfl) (fun W => text_q _ W (by simp; omega)), ?_⟩
  refine ⟨_, yb_pure (by decide) rfl (fun W => by go_simp; rfl), ?_⟩
  refine ⟨_, yb_pure (by decide) rfl (fun W => by go_simp; rfl), ?_⟩
  refine ⟨_, yb_call (by decide) rfl (fun W => by go_simp; rfl) (fun W => text_q _ W (by simp; omega)), ?_⟩
  refine ⟨_, yb_pure (by decide) rfl (fun W => by go_simp; rfl), ?_⟩
  refine ⟨_, yb_alloc, ?_⟩
  have hzd : (w2.drew.alloc (.cells zh 24)).heap.size = w.heap.size + 3 := by
    rw [World.size_alloc]; show w2.heap.size + 1 = _; rw [HZ.out]
  have hz2 : w2.heap.size = w.heap.size + 2 := HZ.out
  change wpList _ _ _ _ _ (w2.drew.alloc (.cells zh 24))
  go_wp2_with fail
  clear hzd hz2 hmg
  go_loopw [67] (fun iv wr => ∃ k : Nat, k ≤ 8 ∧ iv = .int .i64 k ∧ Hid (DecS w s.data.toList k wr) ∧ Hid (∀ j, j < k → numOk (fld s.data.toList (fromK j) (toK j)) = true)) (fun iv _ => 8 - (intOf iv).toNat)
  case atStart =>
    refine ⟨0, Nat.zero_le _, rfl, ?_, fun j hj => absurd hj (Nat.not_lt_zero _)⟩
    refine dec_start w w2 s.data.toList HZ.out HR.out HC.out HB.out _ ?_
    have e := typ_eq s (by omega)
    rw [← e]
    rfl
  case round =>
    obtain ⟨k, hk, rfl, hd, hall⟩ := hrel
    by_cases hlt : k < 8
    · obtain ⟨tb, te, old, c0, c1, c2, htb, ct, cf, hst⟩ := hd.out.round hlt
      obtain ⟨hf1, hf2, hf3⟩ := fromK_to k
      obtain ⟨x, hx⟩ : ∃ x, fromK k = x := ⟨_, rfl⟩
      obtain ⟨y, hy⟩ : ∃ y, toK k = y := ⟨_, rfl⟩
      rw [hx] at c0 hf1 hf3 hst
      rw [hy] at c1 hf1 hf2 hf3 hst
      have HX := Lib.hid hx
      have HY := Lib.hid hy
      have HST := Lib.hid hst
      clear hx hy hst
      go_wp2_with fail
      refine (value_any (s.extract x y) _ (by simp; omega)).mono ?_
      rintro e w4 ⟨rfl, hb4⟩
      rw [extract_fld]
      have hdk := hd.out
      have h4 : Below wr.heap.size wr w4 := ((Below.refl _ wr).alloc (Nat.le_refl _) (.cells #[.int .i64 x, .int .i64 y, .pointer (some ⟨tb, te, none⟩)] 162)).trans (hb4.mono (by simp))
      have D4 := Lib.hid (hdk.keep h4)
      have ct4 : w4.cell? ⟨tb, te, none⟩ = some (.int .i64 old) := (h4.cell (p := ⟨tb, te, none⟩) htb).trans ct
      have cf4 : w4.frozen? ⟨tb, te, none⟩ = false := (h4.frozen (p := ⟨tb, te, none⟩) htb).trans cf
      have cp4 : w4.cell? ⟨wr.heap.size, 2, none⟩ = some (.pointer (some ⟨tb, te, none⟩)) := (hb4.cell (p := ⟨wr.heap.size, 2, none⟩) (by simp)).trans (cell_new _ _ _ _)
      clear hb4 h4 hdk hd
      obtain ⟨z, hz⟩ : ∃ z, numX (fld s.data.toList x y) = z := ⟨_, rfl⟩
      rw [hz] at HST ⊢
      have HZ2 := Lib.hid hz
      clear hz
      cases hok : numOk (fld s.data.toList x y) with
      | false =>
        have HOK := Lib.hid hok
        clear hok
        have cr : ∀ i : Nat, w4.cell? ⟨w.heap.size, i, none⟩ = zh[i]? := fun i => cell_of_heapN D4.out.hr
        have fr : ∀ i : Nat, w4.frozen? ⟨w.heap.size, i, none⟩ = false := fun i => frozen_blk D4.out.hr
        go_wp2_with fail
        rw [set12 D4.out.hr]
        have hW : (setBlk w4 w.heap.size (.cells zh 24 (0, 0))).heap[w.heap.size]? = some (.cells zh 24 (0, 0)) := setBlk_heap (by have := D4.out.size; omega)
        have hcw : ∀ i : Nat, (setBlk w4 w.heap.size (.cells zh 24 (0, 0))).cell? ⟨w.heap.size, i, none⟩ = zh[i]? := fun i => cell_of_heapN hW
        refine bodyPost_ret (v := .tuple #[.agg zh, errV 6]) ?_ rfl (DecPost.text (okAll_not HX.out HY.out HOK.out hlt) rfl (D4.out.bel.setBlk (Nat.le_refl _)))
        simp [results, Tryz.results79, go_sem, hcw]
        rfl
      | true =>
        have HOK := Lib.hid hok
        clear hok
        go_wp2_with fail
        go_roundw
        case rel =>
          refine ⟨k + 1, by omega, by go_num, HST.out _ D4.out, ?_⟩
          intro j hj
          by_cases hjk : j = k
          · subst hjk
            rw [HX.out, HY.out]; exact HOK.out
          · exact hall.out j (by omega)
        case measure => simp [intOf]; omega
    · obtain rfl : k = 8 := by omega
      have hd := hd.out
      have hs3' : numX (fld s.data.toList 148 156) = numX (fld s.data.toList 148 156) := rfl
      obtain ⟨x, hx⟩ : ∃ x, numX (fld s.data.toList 148 156) = x := ⟨_, rfl⟩
      obtain ⟨y, hy⟩ : ∃ y, sumTo s.data.toList 512 = y := ⟨_, rfl⟩
      have cs : wr.cell? ⟨w.heap.size + 3, 0, none⟩ = some (.int .i64 x) := by
        have := cell_of_heapN (i := 0) hd.hs
        rw [if_pos (by decide), hx] at this
        exact this
      have hsum := fun n => sum_q (w.heap.size + 1) s.data.toList (wr.drewN n) hd.hc HS.out
      rw [hy] at hsum
      have HSUM := Lib.hid hsum
      have HX := Lib.hid hx
      have HY := Lib.hid hy
      have HD := Lib.hid hd
      clear hsum hx hy hd hs3'
      go_wp2_with fail
      go_quiet ((go_at_call 49; exact Calls.quiet_of (HSUM.out _)))
      rename_i nq
      obtain ⟨W, hW⟩ : ∃ W, wr.drewN nq = W := ⟨_, rfl⟩
      rw [hW]
      have HD2 := Lib.hid (show DecS w s.data.toList 8 W by rw [← hW]; exact HD.out.drewN nq)
      clear hW HSUM cs HD
      have cr : ∀ i : Nat, W.cell? ⟨w.heap.size, i, none⟩ = zh[i]? := fun i => cell_of_heapN HD2.out.hr
      have fr : ∀ i : Nat, W.frozen? ⟨w.heap.size, i, none⟩ = false := fun i => frozen_blk HD2.out.hr
      by_cases hxy : x = y
      · have HNE := Lib.hid hxy
        have hne : (x != y) = false := by rw [hxy]; simp
        clear hxy
        go_wp2_with fail
        refine (text_any (s.extract 345 500) _ (by simp; omega)).mono ?_
        rintro e W2 ⟨rfl, rfl⟩
        rw [extract_fld]
        obtain ⟨p, hp⟩ : ∃ p : ByteArray, (⟨(textOf (fld s.data.toList 345 500)).toArray⟩ : ByteArray) = p := ⟨_, rfl⟩
        have hpd : p.data.toList = textOf (fld s.data.toList 345 500) := by rw [← hp]
        rw [hp]
        have hps : p.size ≤ 155 := by
          have h1 : p.size = p.data.toList.length := rfl
          have h2 := textOf_le (fld s.data.toList 345 500)
          have h3 : (fld s.data.toList 345 500).length ≤ 155 := by unfold fld; simp only [List.length_take]; omega
          rw [h1, hpd]; omega
        have HP := Lib.hid hpd
        clear hp hpd
        have ch : ∀ i : Nat, W.cell? ⟨w.heap.size + 2, i, none⟩ = (hdrK s.data.toList 8).cells[i]? := fun i => cell_of_heapN HD2.out.hh
        have fh : ∀ i : Nat, W.frozen? ⟨w.heap.size + 2, i, none⟩ = false := fun i => frozen_blk HD2.out.hh
        obtain ⟨H, hH⟩ : ∃ H, hdrK s.data.toList 8 = H := ⟨_, rfl⟩
        rw [hH] at ch
        have hpl : H.path.size ≤ 100 := by
          rw [← hH]
          have h2 := textOf_le (s.data.toList.take 100)
          have h3 : (s.data.toList.take 100).length ≤ 100 := by simp only [List.length_take]; omega
          show (textOf (s.data.toList.take 100)).length ≤ 100
          omega
        have HH := Lib.hid hH
        clear hH
        by_cases he : p.toList = []
        · have he2 : p.toList.isEmpty = true := by rw [he]; rfl
          have HE := Lib.hid he
          clear he
          go_wp2_with fail
          rw [set12 HD2.out.hr]
          have hcw : ∀ i : Nat, (setBlk W w.heap.size (.cells H.cells 24 (0, 0))).cell? ⟨w.heap.size, i, none⟩ = H.cells[i]? := fun i => cell_of_heapN (setBlk_heap (by have := HD2.out.size; omega))
          have hdec : decHdr s.data.toList = H := by rw [decHdr_empty (by rw [← HP.out, ← Lib.toList_data]; exact HE.out)]; exact HH.out
          refine bodyPost_ret (v := .tuple #[.agg H.cells, .nilIface]) ?_ rfl (DecPost.ok (okAll_yes hall.out) (HX.out.trans (HNE.out.trans HY.out.symm)) (by rw [hdec]) (HD2.out.bel.setBlk (Nat.le_refl _)))
          simp [results, Tryz.results79, go_sem, hcw]
        · have he2 : p.toList.isEmpty = false := by simpa using he
          have HE := Lib.hid he
          clear he
          go_wp2_with fail
          have hW3 : ∀ v : Value, (W.setCell ⟨w.heap.size + 2, 0, none⟩ v).heap[w.heap.size]? = some (.cells zh 24 (0, 0)) := fun v => (Below.heap_setCell _ _ _ _ (by simp)).trans HD2.out.hr
          rw [set12 (hW3 _)]
          obtain ⟨V, hV⟩ : ∃ V, W.setCell ⟨w.heap.size + 2, 0, none⟩ (.string (p ++ ⟨#[47]⟩ ++ H.path)) = V := ⟨_, rfl⟩
          have hVs : w.heap.size < V.heap.size := by rw [← hV]; have := HD2.out.size; simp; omega
          have hVb : Below w.heap.size w V := by rw [← hV]; exact HD2.out.bel.setCell (p := ⟨w.heap.size + 2, 0, none⟩) (by simp) _
          rw [hV]
          have hcw : ∀ i : Nat, (setBlk V w.heap.size (.cells ({ H with path := p ++ ⟨#[47]⟩ ++ H.path } : Hdr).cells 24 (0, 0))).cell? ⟨w.heap.size, i, none⟩ = ({ H with path := p ++ ⟨#[47]⟩ ++ H.path } : Hdr).cells[i]? := fun i => cell_of_heapN (setBlk_heap hVs)
          have hdec : decHdr s.data.toList = { H with path := p ++ ⟨#[47]⟩ ++ H.path } := by
            rw [decHdr_some (by rw [← HP.out, ← Lib.toList_data]; exact HE.out), ← HH.out, ← HP.out]
            have hpe : p ++ ⟨#[47]⟩ ++ (hdrK s.data.toList 8).path = ⟨(p.data.toList ++ [47] ++ textOf (s.data.toList.take 100)).toArray⟩ := bytes_eq (by simp [hdrK])
            rw [hpe]
          refine bodyPost_ret (v := .tuple #[.agg ({ H with path := p ++ ⟨#[47]⟩ ++ H.path } : Hdr).cells, .nilIface]) ?_ rfl (DecPost.ok (okAll_yes hall.out) (HX.out.trans (HNE.out.trans HY.out.symm)) (by rw [hdec]) (hVb.setBlk (Nat.le_refl _)))
          simp [results, Tryz.results79, go_sem, hcw]
      · have HNE := Lib.hid hxy
        have hne : (x != y) = true := by rw [bne_iff_ne]; exact hxy
        clear hxy
        go_wp2_with fail
        rw [set12 HD2.out.hr]
        have hW : (setBlk W w.heap.size (.cells zh 24 (0, 0))).heap[w.heap.size]? = some (.cells zh 24 (0, 0)) := setBlk_heap (by have := HD2.out.size; omega)
        have hcw : ∀ i : Nat, (setBlk W w.heap.size (.cells zh 24 (0, 0))).cell? ⟨w.heap.size, i, none⟩ = zh[i]? := fun i => cell_of_heapN hW
        refine bodyPost_ret (v := .tuple #[.agg zh, errV 7]) ?_ rfl (DecPost.sum (okAll_yes hall.out) (fun e => HNE.out (HX.out.symm.trans (e.trans HY.out))) rfl (HD2.out.bel.setBlk (Nat.le_refl _)))
        simp [results, Tryz.results79, go_sem, hcw]
        rfl
set_option maxHeartbeats 800000 in
set_option maxRecDepth 100000 in
theorem decode_magic (s : ByteArray) (w : World) (hs : s.size = 512) (hm : magicB s.data.toList = false) :
    Calls Tryz.prog 79 #[.string s] w fun e w' => e = .returned (.tuple #[.agg zh, errV 4]) ∧ Below w.heap.size w w' := by
  have hs1 : 512 ≤ s.size := by omega
  have hs2 : s.size ≤ 512 := by omega
  have hs3 : (s.size : Int) = 512 := by omega
  clear hs
  have hmg : ((s.extract 257 265).toList == [117, 115, 116, 97, 114, 0, 48, 48]) = false := by
    rw [Lib.toList_data, Lib.extract_data]; exact hm
  have HM := Lib.hid hm
  clear hm
  go_enter Tryz.func79, Tryz.ntmps79
  go_wp2_with fail
  refine bodyPost_ret (v := .tuple #[.agg zh, errV 4]) ?_ rfl ⟨rfl, (Below.refl _ _).alloc (Nat.le_refl _) _⟩
  simp [results, Tryz.results79, go_sem]
  rfl
/-- What Decode of 512 bytes is refused by; 0: by nothing. -/
def decErrM (l : Bs) : Int := if magicB l then decErr l else 4
theorem decode_all (s : ByteArray) (w : World) (hs : s.size = 512) :
    Calls Tryz.prog 79 #[.string s] w fun e w' =>
      e = .returned (.tuple #[.agg (if decErrM s.data.toList = 0 then (decHdr s.data.toList).cells else zh), if decErrM s.data.toList = 0 then .nilIface else errV (decErrM s.data.toList)]) ∧ Below w.heap.size w w' := by
  cases hm : magicB s.data.toList with
  | true =>
    have : decErrM s.data.toList = decErr s.data.toList := by rw [decErrM, if_pos hm]
    rw [this]
    exact (decode_any s w hs hm).mono fun _ _ h => h
  | false =>
    have : decErrM s.data.toList = 4 := by rw [decErrM, if_neg (by simp [hm])]
    rw [this, if_neg (by decide), if_neg (by decide)]
    exact decode_magic s w hs hm
end Go.Proofs.YthpmocfdnoehoaaGreatDoor
