/- Contract of the reference's Decode. -/
import Derived.Test.YthpmocfdnoehoaaGreatDoorRefNum
import Derived.Test.YthpmocfdnoehoaaGreatDoorFreeMake
namespace Go.Proofs.YthpmocfdnoehoaaGreatDoor
open Go.RowKit
/-- The numbers of the first k fields. -/
def fldNums (l : Bs) (k : Nat) : List Value := (List.range k).map fun j => Value.int .i64 (numX (fld l (fromK j) (toK j)))
theorem fldNums_succ (l : Bs) (k : Nat) : fldNums l (k + 1) = fldNums l k ++ [.int .i64 (numX (fld l (fromK k) (toK k)))] := by
  unfold fldNums; rw [List.range_succ, List.map_append]; rfl
def fromV : Array Value := #[.int .i64 100, .int .i64 108, .int .i64 116, .int .i64 124, .int .i64 136, .int .i64 148, .int .i64 329, .int .i64 337]
def toV : Array Value := #[.int .i64 108, .int .i64 116, .int .i64 124, .int .i64 136, .int .i64 148, .int .i64 156, .int .i64 337, .int .i64 345]
theorem fromV_at (k : Nat) (h : k < 8) : fromV[k]? = some (.int .i64 (fromK k)) ∧ toV[k]? = some (.int .i64 (toK k)) := by
  match k, h with
  | 0, _ => exact ⟨rfl, rfl⟩
  | 1, _ => exact ⟨rfl, rfl⟩
  | 2, _ => exact ⟨rfl, rfl⟩
  | 3, _ => exact ⟨rfl, rfl⟩
  | 4, _ => exact ⟨rfl, rfl⟩
  | 5, _ => exact ⟨rfl, rfl⟩
  | 6, _ => exact ⟨rfl, rfl⟩
  | 7, _ => exact ⟨rfl, rfl⟩
  | k + 8, h => exact absurd h (by omega)
/-- The state inside Decode's loop. -/
structure DecR (w0 : World) (l : Bs) (k : Nat) (v : Value) (w : World) : Prop where
  hh : w.heap[w0.heap.size]? = some (.cells zh 24 (0, 0))
  hf : w.heap[w0.heap.size + 1]? = some (.cells fromV 3 (0, 0))
  ht : w.heap[w0.heap.size + 2]? = some (.cells toV 3 (0, 0))
  own : w.ownsRow (w0.heap.size + 3) 2 1 v k (fldNums l k)
  ok : ∀ j, j < k → numOk (fld l (fromK j) (toK j)) = true
  bel : Below w0.heap.size w0 w
theorem DecR.keep {w0 w w' : World} {l : Bs} {k : Nat} {v : Value} (h : DecR w0 l k v w) (hb : Below w.heap.size w w') : DecR w0 l k v w' where
  hh := (hb.block _ (blk_lt h.hh)).trans h.hh
  hf := (hb.block _ (blk_lt h.hf)).trans h.hf
  ht := (hb.block _ (blk_lt h.ht)).trans h.ht
  own := by
    refine ⟨h.own.1, ?_⟩
    rcases h.own.2 with h2 | ⟨g, cap, cur, h1, h2, h3, h4⟩
    · exact .inl h2
    · exact .inr ⟨g, cap, cur, h1, h2, (hb.block g (blk_lt h3)).trans h3, h4⟩
  ok := h.ok
  bel := h.bel.trans (hb.mono h.bel.size)
theorem DecR.start (w : World) (l : Bs) : DecR w l 0 (.slice none 0 0) (((w.alloc (.cells zh 24)).alloc (.cells fromV 3)).alloc (.cells toV 3)) where
  hh := (Below.heap_alloc _ _ _ (by simp; omega)).trans ((Below.heap_alloc _ _ _ (by simp)).trans (heap_new w _))
  hf := by
    have := heap_new (w.alloc (.cells zh 24)) (.cells fromV 3)
    rw [World.size_alloc] at this
    exact (Below.heap_alloc _ _ _ (by simp)).trans this
  ht := by
    have := heap_new ((w.alloc (.cells zh 24)).alloc (.cells fromV 3)) (.cells toV 3)
    rw [World.size_alloc, World.size_alloc] at this
    exact this
  own := World.ownsRow_nil _ _ _ _
  ok := fun j hj => absurd hj (by omega)
  bel := (((Below.refl _ w).alloc (Nat.le_refl _) _).alloc (by simp) _).alloc (by simp; omega) _
/-- What the reference's Decode answers of 512 bytes. -/
def decV (l : Bs) : Value := .tuple #[.agg (if decErrM l = 0 then (decHdr l).cells else zh), .int .i64 (decErrM l)]
set_option maxHeartbeats 3200000 in
set_option maxRecDepth 100000 in
theorem DecodeR_magic (s : ByteArray) (w : World) (hs : s.size = 512) (hm : magicB s.data.toList = false) :
    Calls Tryz.prog 58 #[.string s] w fun e w' => e = .returned (decV s.data.toList) ∧ Below w.heap.size w w' := by
  have hs1 : 512 ≤ s.size := by omega
  have hs2 : s.size ≤ 512 := by omega
  have hs3 : (s.size : Int) = 512 := by omega
  clear hs
  have hmg : ((s.extract 257 265).toList == [117, 115, 116, 97, 114, 0, 48, 48]) = false := by
    rw [Lib.toList_data, Lib.extract_data]; exact hm
  have hv : decV s.data.toList = .tuple #[.agg zh, .int .i64 4] := by
    have : decErrM s.data.toList = 4 := by rw [decErrM, if_neg (by simp [hm])]
    unfold decV
    rw [this, if_neg (by decide)]
  have HV := Lib.hid hv
  clear hm hv
  go_enter Tryz.func58, Tryz.ntmps58
  go_wp2_with fail
  have hc : ∀ i : Nat, (w.alloc (.cells zh 24)).cell? ⟨w.heap.size, i, none⟩ = zh[i]? := fun i => cell_new w zh _ i
  exact bodyPost_ret (v := .tuple #[.agg zh, .int .i64 4]) (by simp [results, Tryz.f58, go_sem, hc]) rfl ⟨congrArg Ending.returned HV.out.symm, (Below.refl _ _).alloc (Nat.le_refl _) _⟩
theorem infoI64 : (Tryz.prog.info? 2).map (fun i => (i.zero, i.size, i.bytes)) = some (some (.int .i64 0), 1, 8) := by kernel_rfl
theorem newV (w : World) (v : Value) (t : TypeId) : ∀ (j : Nat) (u : Value), [v][j]? = some u → (w.alloc (.cells #[v] t)).cell? ((⟨w.heap.size, 0, none⟩ : Addr).add j) = some u := by
  intro j u h
  have hj : j = 0 := by
    have := (List.getElem?_eq_some_iff.1 h).1
    simpa using this
  subst hj
  rw [show ((⟨w.heap.size, 0, none⟩ : Addr).add 0) = ⟨w.heap.size, 0, none⟩ by simp [Addr.add], cell_new]
  simpa using h
theorem DecR.app {w0 w w1 : World} {l : Bs} {k : Nat} {v v' : Value} {tmp : Obj} (h : DecR w0 l k v w) (hok : numOk (fld l (fromK k) (toK k)) = true)
    (hown : w1.ownsRow (w0.heap.size + 3) 2 1 v' (k + 1) (fldNums l k ++ [.int .i64 (numX (fld l (fromK k) (toK k)))])) (hg : (w.alloc tmp).grownBy w1 v.ownBlock) : DecR w0 l (k + 1) v' w1 := by
  have hlt := blk_lt h.ht
  have hob : ∀ j, v.ownBlock = some j → w0.heap.size + 3 ≤ j := fun j ej => by
    rcases h.own.2 with ⟨rfl, _⟩ | ⟨g, cap, cur, rfl, hb', _, _⟩
    · simp [Value.ownBlock] at ej
    · obtain rfl : g = j := by simpa [Value.ownBlock] using ej
      exact hb'
  have old : ∀ j, j < w0.heap.size + 3 → w1.heap[j]? = w.heap[j]? := fun j hj => by
    rw [hg.block j (by simp; omega) (fun e => by have := hob j e.symm; omega)]
    exact Below.heap_alloc _ _ _ (by omega)
  refine ⟨(old _ (by omega)).trans h.hh, (old _ (by omega)).trans h.hf, (old _ (by omega)).trans h.ht, by rw [fldNums_succ]; exact hown, fun j hj => ?_, ?_⟩
  · by_cases e : j = k
    · subst e; exact hok
    · exact h.ok j (by omega)
  · exact h.bel.trans (((Below.refl _ w).alloc (by omega) tmp).grown hg (by simp; omega) fun j ej => by have := hob j ej; omega)
/-- The state behind the loop: the numbers lie in block g. -/
structure Dec8 (w0 : World) (H : Hdr) (X : Int) (g : Nat) (w : World) : Prop where
  hh : w.heap[w0.heap.size]? = some (.cells zh 24 (0, 0))
  lt : g < w.heap.size
  c0 : w.cell? ⟨g, 0, none⟩ = some (.int .i64 H.mode)
  c1 : w.cell? ⟨g, 1, none⟩ = some (.int .i64 H.uid)
  c2 : w.cell? ⟨g, 2, none⟩ = some (.int .i64 H.gid)
  c3 : w.cell? ⟨g, 3, none⟩ = some (.int .i64 H.size)
  c4 : w.cell? ⟨g, 4, none⟩ = some (.int .i64 H.time)
  c5 : w.cell? ⟨g, 5, none⟩ = some (.int .i64 X)
  c6 : w.cell? ⟨g, 6, none⟩ = some (.int .i64 H.major)
  c7 : w.cell? ⟨g, 7, none⟩ = some (.int .i64 H.minor)
  bel : Below w0.heap.size w0 w
theorem Dec8.keep {w0 w w' : World} {H : Hdr} {X : Int} {g : Nat} (h : Dec8 w0 H X g w) (hb : Below w.heap.size w w') : Dec8 w0 H X g w' where
  hh := (hb.block _ (blk_lt h.hh)).trans h.hh
  lt := Nat.lt_of_lt_of_le h.lt hb.size
  c0 := (hb.cell (p := ⟨g, 0, none⟩) h.lt).trans h.c0
  c1 := (hb.cell (p := ⟨g, 1, none⟩) h.lt).trans h.c1
  c2 := (hb.cell (p := ⟨g, 2, none⟩) h.lt).trans h.c2
  c3 := (hb.cell (p := ⟨g, 3, none⟩) h.lt).trans h.c3
  c4 := (hb.cell (p := ⟨g, 4, none⟩) h.lt).trans h.c4
  c5 := (hb.cell (p := ⟨g, 5, none⟩) h.lt).trans h.c5
  c6 := (hb.cell (p := ⟨g, 6, none⟩) h.lt).trans h.c6
  c7 := (hb.cell (p := ⟨g, 7, none⟩) h.lt).trans h.c7
  bel := h.bel.trans (hb.mono h.bel.size)
theorem DecR.done {w0 w : World} {l : Bs} {v : Value} (h : DecR w0 l 8 v w) : ∃ g cap, v = .slice (some ⟨g, 0, none⟩) 8 cap ∧ 8 ≤ cap ∧ cap ≤ 9223372036854775807 ∧ Dec8 w0 (decHdr l) (numX (fld l 148 156)) g w := by
  rcases h.own.2 with ⟨_, h2⟩ | ⟨g, cap, cur, h1, h2, h3, h4, h5, h6, h7⟩
  · omega
  · have hc : ∀ i, i < 8 → w.cell? ⟨g, i, none⟩ = (fldNums l 8)[i]? := fun i hi => by
      rw [cell_of_heapN h3, ← h7, List.getElem?_take, if_pos (by omega), Array.getElem?_toList]
    refine ⟨g, cap, h1, h4, by unfold maxLen at h5; omega, ⟨h.hh, blk_lt h3, hc 0 (by omega), hc 1 (by omega), hc 2 (by omega), hc 3 (by omega), hc 4 (by omega), hc 5 (by omega), hc 6 (by omega), hc 7 (by omega), h.bel⟩⟩
theorem decV_text {l : Bs} (hm : magicB l = true) {k x y : Nat} (hx : fromK k = x) (hy : toK k = y) (h : numOk (fld l x y) = false) (hk : k < 8) : decV l = .tuple #[.agg zh, .int .i64 6] := by
  have h1 : decErr l = 6 := by rw [decErr, if_pos (okAll_not hx hy h hk)]
  have : decErrM l = 6 := by rw [decErrM, if_pos hm, h1]
  unfold decV; rw [this, if_neg (by decide)]
theorem decV_sum {l : Bs} (hm : magicB l = true) (h : okAll l = true) (h2 : numX (fld l 148 156) ≠ sumTo l 512) : decV l = .tuple #[.agg zh, .int .i64 7] := by
  have h1 : decErr l = 7 := by rw [decErr, if_neg (by simp [h]), if_pos h2]
  have : decErrM l = 7 := by rw [decErrM, if_pos hm, h1]
  unfold decV; rw [this, if_neg (by decide)]
theorem decV_ok {l : Bs} (hm : magicB l = true) (h : okAll l = true) (h2 : numX (fld l 148 156) = sumTo l 512) : decV l = .tuple #[.agg (decHdr l).cells, .int .i64 0] := by
  have h1 : decErr l = 0 := by rw [decErr, if_neg (by simp [h]), if_neg (by simp [h2])]
  have : decErrM l = 0 := by rw [decErrM, if_pos hm, h1]
  unfold decV; rw [this, if_pos rfl]
set_option maxHeartbeats 3200000 in
set_option maxRecDepth 100000 in
theorem DecodeR_some (s : ByteArray) (w : World) (hs : s.size = 512) (hm : magicB s.data.toList = true) :
    Calls Tryz.prog 58 #[.string s] w fun e w' => e = .returned (decV s.data.toList) ∧ Below w.heap.size w w' := by
  obtain ⟨i0, hi, hz0, hz1, hz2⟩ := info_parts infoI64
  have hs1 : 512 ≤ s.size := by omega
  have hs2 : s.size ≤ 512 := by omega
  have hs3 : (s.size : Int) = 512 := by omega
  have HS := Lib.hid hs
  clear hs
  have hmg : ((s.extract 257 265).toList == [117, 115, 116, 97, 114, 0, 48, 48]) = true := by
    rw [Lib.toList_data, Lib.extract_data]; exact hm
  have HM := Lib.hid hm
  clear hm
  go_enter Tryz.func58, Tryz.ntmps58
  go_wp2_with fail
  clear hmg
  go_loopw [6, 7] (fun v iv wr => ∃ k : Nat, (k : Int) ≤ 8 ∧ iv = .int .i64 k ∧ Hid (DecR w s.data.toList k v wr)) (fun _ iv _ => 8 - (intOf iv).toNat)
  case atStart => exact ⟨0, by omega, rfl, DecR.start w s.data.toList⟩
  case round =>
    obtain ⟨k, hk, rfl, hd⟩ := hrel
    by_cases hlt : (k : Int) < 8
    · have hk8 : k < 8 := by omega
      obtain ⟨hf1, hf2, hf3⟩ := fromK_to k
      have hfv := fromV_at k hk8
      have HFV := Lib.hid hfv
      clear hfv
      obtain ⟨x, hx⟩ : ∃ x, fromK k = x := ⟨_, rfl⟩
      obtain ⟨y, hy⟩ : ∃ y, toK k = y := ⟨_, rfl⟩
      have HX := Lib.hid hx
      have HY := Lib.hid hy
      rw [hx] at hf1 hf3 HFV
      rw [hy] at hf1 hf2 hf3 HFV
      clear hx hy
      have hxs : x ≤ s.size := by omega
      have hys : y ≤ s.size := by omega
      have hy5 : (y : Int) ≤ 512 := by omega
      have hcf : ∀ W, DecR w s.data.toList k u6 W → W.cell? ⟨w.heap.size + 1, k, none⟩ = some (.int .i64 x) := fun W hI => (cell_of_heapN hI.hf).trans HFV.out.1
      have hct : ∀ W, DecR w s.data.toList k u6 W → W.cell? ⟨w.heap.size + 2, k, none⟩ = some (.int .i64 y) := fun W hI => (cell_of_heapN hI.ht).trans HFV.out.2
      have HCF := Lib.hid hcf
      have HCT := Lib.hid hct
      clear hcf hct
      have hnum := fun W => numberR_any (s.extract x y) W (by simp; omega)
      rw [extract_fld] at hnum
      unfold numV at hnum
      obtain ⟨Z, hZ⟩ : ∃ Z, numX (fld s.data.toList x y) = Z := ⟨_, rfl⟩
      have HZ := Lib.hid hZ
      rw [hZ] at hnum
      clear hZ
      cases hB : numOk (fld s.data.toList x y)
      all_goals
        rw [hB] at hnum
        first
          | rw [if_neg (by decide)] at hnum
          | rw [if_pos rfl] at hnum
        have HB := Lib.hid hB
        have HNUM := Lib.hid hnum
        have hd2 := hd.out.keep ((Below.refl _ _).drew)
        clear hB hnum
        go_wp2_with fail
        refine wp_region_inv (DecR w s.data.toList k u6) 15 (by kernel_rfl) (by kernel_rfl) hd2 ?_
        clear hd2
        simp only [List.take_succ_cons, List.take_zero, List.drop_succ_cons, List.drop_zero]
        refine ⟨_, yi_still rfl (fun W hI => by go_simp; rfl), ?_⟩
        refine ⟨_, yi_still rfl (fun W hI => by go_simp; rfl), ?_⟩
        refine ⟨_, yi_still rfl (fun W hI => by go_simp; rfl), ?_⟩
        refine ⟨_, yi_still rfl (fun W hI => by go_simp; rfl), ?_⟩
        refine ⟨_, yi_still rfl (fun W hI => by have cf := HCF.out W hI; go_simp; rfl), ?_⟩
        refine ⟨_, yi_still rfl (fun W hI => by go_simp; rfl), ?_⟩
        refine ⟨_, yi_still rfl (fun W hI => by go_simp; rfl), ?_⟩
        refine ⟨_, yi_still rfl (fun W hI => by go_simp; rfl), ?_⟩
        refine ⟨_, yi_still rfl (fun W hI => by have ct := HCT.out W hI; go_simp; rfl), ?_⟩
        refine ⟨_, yi_still rfl (fun W hI => by go_simp; rfl), ?_⟩
        refine ⟨_, yi_call rfl (fun W hI => by go_simp) (fun W hI => (HNUM.out W).mono fun e W' ⟨he, hb⟩ => ⟨he, hI.keep hb⟩), ?_⟩
        refine ⟨_, yi_still rfl (fun W hI => by go_simp; rfl), ?_⟩
        refine ⟨_, yi_still rfl (fun W hI => by go_simp; rfl), ?_⟩
        refine ⟨_, yi_still rfl (fun W hI => by go_simp; rfl), ?_⟩
        refine ⟨_, yi_still rfl (fun W hI => by go_simp; rfl), ?_⟩
        rintro W7 hI7
        change wpList _ _ _ _ _ W7
        have H7 := Lib.hid hI7
      · clear hI7 hd
        have cr : ∀ i : Nat, W7.cell? ⟨w.heap.size, i, none⟩ = zh[i]? := fun i => cell_of_heapN H7.out.hh
        have fr : ∀ i : Nat, W7.frozen? ⟨w.heap.size, i, none⟩ = false := fun i => frozen_blk H7.out.hh
        go_wp2_with fail
        rw [set12 H7.out.hh]
        have hW : (setBlk W7 w.heap.size (.cells zh 24 (0, 0))).heap[w.heap.size]? = some (.cells zh 24 (0, 0)) := setBlk_heap (blk_lt H7.out.hh)
        have hcw : ∀ i : Nat, (setBlk W7 w.heap.size (.cells zh 24 (0, 0))).cell? ⟨w.heap.size, i, none⟩ = zh[i]? := fun i => cell_of_heapN hW
        exact bodyPost_ret (v := .tuple #[.agg zh, .int .i64 6]) (by simp [results, Tryz.f58, go_sem, hcw]) rfl ⟨congrArg Ending.returned (decV_text HM.out HX.out HY.out HB.out hk8).symm, H7.out.bel.setBlk (Nat.le_refl _)⟩
      · have hown7 := hI7.own
        have hfl : (fldNums s.data.toList k).length = k := by unfold fldNums; simp
        have HSZ := Lib.hid (show w.heap.size + 3 ≤ W7.heap.size from blk_lt hI7.ht)
        clear hI7 hd hfl
        go_wp2_with (first
          | (at_builtin; refine wpList_append_own _ rfl _ _ 116 rfl (w.heap.size + 3) 2 i0 (.int .i64 0) 1 8 Tryz.underlying116 hi hz0 hz1 hz2 rfl (by decide) _ _ _ rfl (hown7.alloc _) ⟨W7.heap.size, 0, none⟩ 1 1 [.int .i64 Z] rfl rfl (newV W7 _ _) (ints_oneCell .i64 [Z]) (by unfold maxLen; omega) (by omega) (by have := HSZ.out; rw [World.size_alloc]; omega) ?_; intro v' w1 hown' hgrow _)
          | go_in)
        case roundEnd =>
          have h := H7.out.app (by rw [HX.out, HY.out]; exact HB.out) (by rw [HX.out, HY.out, HZ.out]; exact hown') hgrow
          exact ⟨⟨k + 1, by omega, by rw [Int.natCast_add]; rfl, h⟩, by simp [intOf]; omega⟩
    · obtain rfl : k = 8 := by omega
      obtain ⟨g, cap, rfl, hc1, hc2, h8⟩ := hd.out.done
      have HOK := Lib.hid (okAll_yes hd.out.ok)
      have hc3 : (8 : Int) ≤ (cap : Int) := by omega
      have hc4 : (cap : Int) ≤ 9223372036854775807 := by omega
      obtain ⟨X, hX⟩ : ∃ X, numX (fld s.data.toList 148 156) = X := ⟨_, rfl⟩
      rw [hX] at h8
      have HX := Lib.hid hX
      obtain ⟨H, hH⟩ : ∃ H, decHdr s.data.toList = H := ⟨_, rfl⟩
      rw [hH] at h8
      have hsum := fun W => Sum_any s W (by omega)
      rw [HS.out] at hsum
      obtain ⟨Y, hY⟩ : ∃ Y, sumTo s.data.toList 512 = Y := ⟨_, rfl⟩
      rw [hY] at hsum
      have HY := Lib.hid hY
      have HSUM := Lib.hid hsum
      have H8 := Lib.hid h8
      have h8' := h8.keep ((Below.refl _ wr).drew)
      have htx : s[156] = H.typ := by rw [← hH]; exact (typ_eq s (by omega)).symm
      have HT := Lib.hid htx
      have hl : ∀ W, Calls Tryz.prog 78 #[.string (s.extract 157 257)] W fun e w' => e = .returned (.string H.link) ∧ Below W.heap.size W w' := fun W => by
        have := textR_any (s.extract 157 257) W (by simp; omega)
        rw [extract_fld] at this
        rw [← hH]; exact this
      have hu : ∀ W, Calls Tryz.prog 78 #[.string (s.extract 265 297)] W fun e w' => e = .returned (.string H.user) ∧ Below W.heap.size W w' := fun W => by
        have := textR_any (s.extract 265 297) W (by simp; omega)
        rw [extract_fld] at this
        rw [← hH]; exact this
      have hg : ∀ W, Calls Tryz.prog 78 #[.string (s.extract 297 329)] W fun e w' => e = .returned (.string H.group) ∧ Below W.heap.size W w' := fun W => by
        have := textR_any (s.extract 297 329) W (by simp; omega)
        rw [extract_fld] at this
        rw [← hH]; exact this
      have HL := Lib.hid hl
      have HU := Lib.hid hu
      have HGR := Lib.hid hg
      have HH := Lib.hid hH
      clear hX hH hsum hY h8 hd hl hu hg htx hc1 hc2
      go_wp2_with fail
      refine wp_region_inv (Dec8 w H X g) 5 (by kernel_rfl) (by kernel_rfl) h8' ?_
      clear h8'
      simp only [List.take_succ_cons, List.take_zero, List.drop_succ_cons, List.drop_zero]
      refine ⟨_, yi_still rfl (fun W hI => by go_simp; rfl), ?_⟩
      refine ⟨_, yi_still rfl (fun W hI => by go_simp; rfl), ?_⟩
      refine ⟨_, yi_still rfl (fun W hI => by have c := hI.c5; go_simp; rfl), ?_⟩
      refine ⟨_, yi_still rfl (fun W hI => by go_simp; rfl), ?_⟩
      refine ⟨_, yi_call rfl (fun W hI => by go_simp) (fun W hI => (HSUM.out W).mono fun e W' ⟨he, hb⟩ => ⟨he, hI.keep hb⟩), ?_⟩
      rintro W7 hI7
      change wpList _ _ _ _ _ W7
      have H7 := Lib.hid hI7
      clear hI7 H8 HSUM
      by_cases hxy : X = Y
      · have hne : (X != Y) = false := by rw [hxy]; simp
        have HXY := Lib.hid hxy
        clear hxy
        go_wp2_with fail
        refine (textR_any (s.extract 0 100) _ (by simp; omega)).mono ?_
        rintro e W2 ⟨rfl, hb⟩
        have H2 := Lib.hid (H7.out.keep hb)
        obtain ⟨p, hp⟩ : ∃ p : ByteArray, (⟨(textOf (s.extract 0 100).data.toList).toArray⟩ : ByteArray) = p := ⟨_, rfl⟩
        have hpl : p.size ≤ 100 := by
          rw [← hp]
          have h2 := textOf_le (s.extract 0 100).data.toList
          have h3 : (s.extract 0 100).data.toList.length ≤ 100 := by rw [Lib.extract_data]; simp only [List.length_take]; omega
          show (textOf (s.extract 0 100).data.toList).length ≤ 100
          omega
        rw [hp]
        have HP := Lib.hid hp
        clear hb H7 hp
        go_wp2_with fail
        refine (textR_any (s.extract 345 500) _ (by simp; omega)).mono ?_
        rintro e W3 ⟨rfl, hb⟩
        have H3 := Lib.hid (H2.out.keep hb)
        obtain ⟨q, hq⟩ : ∃ q : ByteArray, (⟨(textOf (s.extract 345 500).data.toList).toArray⟩ : ByteArray) = q := ⟨_, rfl⟩
        have hql : q.size ≤ 155 := by
          rw [← hq]
          have h2 := textOf_le (s.extract 345 500).data.toList
          have h3 : (s.extract 345 500).data.toList.length ≤ 155 := by rw [Lib.extract_data]; simp only [List.length_take]; omega
          show (textOf (s.extract 345 500).data.toList).length ≤ 155
          omega
        rw [hq]
        have HQ := Lib.hid hq
        have h3' := H3.out.keep ((Below.refl _ W3).drew)
        have HV := Lib.hid (decV_ok HM.out HOK.out (HX.out.trans (HXY.out.trans HY.out.symm)))
        clear hb H2 hq
        have hpath : (q.toList = [] ∧ H.path = p) ∨ (q.toList ≠ [] ∧ H.path = q ++ ⟨#[47]⟩ ++ p) := by
          by_cases he : q.toList = []
          · refine .inl ⟨he, ?_⟩
            rw [Lib.toList_data, ← HQ.out] at he
            rw [← HH.out, decHdr_empty (by rw [← extract_fld]; exact he), ← HP.out, Lib.extract_data]
            rfl
          · refine .inr ⟨he, ?_⟩
            rw [Lib.toList_data] at he
            have he2 : textOf (fld s.data.toList 345 500) ≠ [] := by rw [← extract_fld]; rw [← HQ.out] at he; exact he
            rw [← HH.out, decHdr_some he2, ← HQ.out, ← HP.out, extract_fld]
            have h100 : (s.extract 0 100).data.toList = s.data.toList.take 100 := by rw [Lib.extract_data]; rfl
            rw [h100]
            exact (bytes_eq (by simp)).symm
        rcases hpath with ⟨he, hpa⟩ | ⟨he, hpa⟩
        all_goals
          have HPA := Lib.hid hpa
          first
            | (have he2 : q.toList.isEmpty = true := by rw [he]; rfl)
            | (have he2 : q.toList.isEmpty = false := by simpa using he)
          have HE := Lib.hid he
          clear he hpa
          go_wp2_with fail
          refine wp_region_inv (Dec8 w H X g) 33 (by kernel_rfl) (by kernel_rfl) h3' ?_
          clear h3'
          simp only [List.take_succ_cons, List.take_zero, List.drop_succ_cons, List.drop_zero]
          refine ⟨_, yi_still rfl (fun W hI => by go_simp; rfl), ?_⟩
          refine ⟨_, yi_still rfl (fun W hI => by go_simp; rfl), ?_⟩
          refine ⟨_, yi_still rfl (fun W hI => by go_simp; rfl), ?_⟩
          refine ⟨_, yi_still rfl (fun W hI => by have c := hI.c0; go_simp; rfl), ?_⟩
          refine ⟨_, yi_still rfl (fun W hI => by go_simp; rfl), ?_⟩
          refine ⟨_, yi_still rfl (fun W hI => by go_simp; rfl), ?_⟩
          refine ⟨_, yi_still rfl (fun W hI => by have c := hI.c1; go_simp; rfl), ?_⟩
          refine ⟨_, yi_still rfl (fun W hI => by go_simp; rfl), ?_⟩
          refine ⟨_, yi_still rfl (fun W hI => by go_simp; rfl), ?_⟩
          refine ⟨_, yi_still rfl (fun W hI => by have c := hI.c2; go_simp; rfl), ?_⟩
          refine ⟨_, yi_still rfl (fun W hI => by go_simp; rfl), ?_⟩
          refine ⟨_, yi_still rfl (fun W hI => by go_simp; rfl), ?_⟩
          refine ⟨_, yi_still rfl (fun W hI => by have c := hI.c3; go_simp; rfl), ?_⟩
          refine ⟨_, yi_still rfl (fun W hI => by go_simp; rfl), ?_⟩
          refine ⟨_, yi_still rfl (fun W hI => by go_simp; rfl), ?_⟩
          refine ⟨_, yi_still rfl (fun W hI => by have c := hI.c4; go_simp; rfl), ?_⟩
          refine ⟨_, yi_still rfl (fun W hI => by go_simp; rfl), ?_⟩
          refine ⟨_, yi_still rfl (fun W hI => by go_simp; rfl), ?_⟩
          refine ⟨_, yi_still rfl (fun W hI => by go_simp; rfl), ?_⟩
          refine ⟨_, yi_still rfl (fun W hI => by go_simp; rfl), ?_⟩
          refine ⟨_, yi_call rfl (fun W hI => by go_simp) (fun W hI => (HL.out W).mono fun e W' ⟨he, hb⟩ => ⟨he, hI.keep hb⟩), ?_⟩
          refine ⟨_, yi_still rfl (fun W hI => by go_simp; rfl), ?_⟩
          refine ⟨_, yi_still rfl (fun W hI => by go_simp; rfl), ?_⟩
          refine ⟨_, yi_call rfl (fun W hI => by go_simp) (fun W hI => (HU.out W).mono fun e W' ⟨he, hb⟩ => ⟨he, hI.keep hb⟩), ?_⟩
          refine ⟨_, yi_still rfl (fun W hI => by go_simp; rfl), ?_⟩
          refine ⟨_, yi_still rfl (fun W hI => by go_simp; rfl), ?_⟩
          refine ⟨_, yi_call rfl (fun W hI => by go_simp) (fun W hI => (HGR.out W).mono fun e W' ⟨he, hb⟩ => ⟨he, hI.keep hb⟩), ?_⟩
          refine ⟨_, yi_still rfl (fun W hI => by go_simp; rfl), ?_⟩
          refine ⟨_, yi_still rfl (fun W hI => by go_simp; rfl), ?_⟩
          refine ⟨_, yi_still rfl (fun W hI => by have c := hI.c6; go_simp; rfl), ?_⟩
          refine ⟨_, yi_still rfl (fun W hI => by go_simp; rfl), ?_⟩
          refine ⟨_, yi_still rfl (fun W hI => by go_simp; rfl), ?_⟩
          refine ⟨_, yi_still rfl (fun W hI => by have c := hI.c7; go_simp; rfl), ?_⟩
          rintro W9 hI9
          change wpList _ _ _ _ _ W9
          have H9 := Lib.hid hI9
          clear hI9 H3 HL HU HGR
          have cr : ∀ i : Nat, W9.cell? ⟨w.heap.size, i, none⟩ = zh[i]? := fun i => cell_of_heapN H9.out.hh
          have fr : ∀ i : Nat, W9.frozen? ⟨w.heap.size, i, none⟩ = false := fun i => frozen_blk H9.out.hh
          go_wp2_with fail
          rw [set12 H9.out.hh, HT.out, ← HPA.out]
          have hW : (setBlk W9 w.heap.size (.cells H.cells 24 (0, 0))).heap[w.heap.size]? = some (.cells H.cells 24 (0, 0)) := setBlk_heap (blk_lt H9.out.hh)
          have hcw : ∀ i : Nat, (setBlk W9 w.heap.size (.cells H.cells 24 (0, 0))).cell? ⟨w.heap.size, i, none⟩ = H.cells[i]? := fun i => cell_of_heapN hW
          exact bodyPost_ret (v := .tuple #[.agg H.cells, .int .i64 0]) (by simp [results, Tryz.f58, go_sem, hcw]) rfl ⟨congrArg Ending.returned (by rw [HV.out, HH.out]), H9.out.bel.setBlk (Nat.le_refl _)⟩
      · have hne : (X != Y) = true := by rw [bne_iff_ne]; exact hxy
        have HXY := Lib.hid hxy
        clear hxy
        have cr : ∀ i : Nat, W7.cell? ⟨w.heap.size, i, none⟩ = zh[i]? := fun i => cell_of_heapN H7.out.hh
        have fr : ∀ i : Nat, W7.frozen? ⟨w.heap.size, i, none⟩ = false := fun i => frozen_blk H7.out.hh
        go_wp2_with fail
        rw [set12 H7.out.hh]
        have hW : (setBlk W7 w.heap.size (.cells zh 24 (0, 0))).heap[w.heap.size]? = some (.cells zh 24 (0, 0)) := setBlk_heap (blk_lt H7.out.hh)
        have hcw : ∀ i : Nat, (setBlk W7 w.heap.size (.cells zh 24 (0, 0))).cell? ⟨w.heap.size, i, none⟩ = zh[i]? := fun i => cell_of_heapN hW
        exact bodyPost_ret (v := .tuple #[.agg zh, .int .i64 7]) (by simp [results, Tryz.f58, go_sem, hcw]) rfl ⟨congrArg Ending.returned (decV_sum HM.out HOK.out (fun e => HXY.out (HX.out.symm.trans (e.trans HY.out)))).symm, H7.out.bel.setBlk (Nat.le_refl _)⟩
theorem DecodeR_any (s : ByteArray) (w : World) (hs : s.size = 512) :
    Calls Tryz.prog 58 #[.string s] w fun e w' => e = .returned (decV s.data.toList) ∧ Below w.heap.size w w' := by
  cases hm : magicB s.data.toList with
  | true => exact DecodeR_some s w hs hm
  | false => exact DecodeR_magic s w hs hm
end Go.Proofs.YthpmocfdnoehoaaGreatDoor
