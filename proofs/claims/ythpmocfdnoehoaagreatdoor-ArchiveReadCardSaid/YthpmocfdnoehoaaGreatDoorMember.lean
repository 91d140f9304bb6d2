/- Contract of archive.member. -/
import Derived.Test.YthpmocfdnoehoaaGreatDoorPiece
import Derived.Test.YthpmocfdnoehoaaGreatDoorDecode
import Derived.Test.YthpmocfdnoehoaaGreatDoorMem
import Derived.Test.YthpmocfdnoehoaaGreatDoorFreeTurn
import Derived.StillTailTactics
namespace Go.Proofs.YthpmocfdnoehoaaGreatDoor
open Go.RowKit
theorem numX_bd (l : Bs) (h : l.length ≤ 12) : 0 ≤ numX l ∧ numX l < 68719476736 := by
  have h1 : (numR l).length ≤ 12 := Nat.le_trans (numR_le l) (Nat.le_trans (numD_le l) h)
  have h2 := octVal_bd (numR l).length (numR l) rfl (fun b hb => by
    obtain ⟨k, hk⟩ := List.getElem?_of_mem hb
    have hlt : k < (numR l).length := (List.getElem?_eq_some_iff.1 hk).1
    refine takeWhile_at isOct (numD l) k b hlt ?_
    unfold numR at hk
    rw [takeWhile_take, List.getElem?_take] at hk
    split at hk
    · exact hk
    · cases hk)
  have h3 : (8 : Int) ^ (numR l).length ≤ 8 ^ 12 := by exact_mod_cast Nat.pow_le_pow_right (by decide) h1
  have h4 : (8 : Int) ^ 12 = 68719476736 := by decide
  unfold numX
  omega
theorem decSize_bd (l : Bs) : 0 ≤ (decHdr l).size ∧ (decHdr l).size < 68719476736 := by
  have : (decHdr l).size = numX (fld l 124 136) := rfl
  rw [this]
  exact numX_bd _ (by unfold fld; simp only [List.length_take]; omega)
/-- The block that begins at a byte. -/
def blkAt (l : Bs) (i : Nat) : Bs := (l.drop i).take 512
/-- What the member at a byte is: the error and its place; the member, and where the next one begins. -/
inductive MemR where
  | bad (e : Int) (i : Nat)
  | good (m : Mem) (next : Nat)
def memAt (l : Bs) (i : Nat) : MemR :=
  if decErrM (blkAt l i) ≠ 0 then .bad (decErrM (blkAt l i)) i else
  if (l.length : Int) < (decHdr (blkAt l i)).size ∨ l.length < i + 512 + whole (decHdr (blkAt l i)).size.toNat then .bad 2 (i + 512) else
  .good ⟨decHdr (blkAt l i), ⟨((l.drop (i + 512)).take (decHdr (blkAt l i)).size.toNat).toArray⟩⟩ (i + 512 + whole (decHdr (blkAt l i)).size.toNat)
/-- The cells of a member without anything. -/
@[reducible] def zm : Array Value := #[.string ⟨#[]⟩, .int .i64 0, .int .i64 0, .int .i64 0, .int .i64 0, .int .i64 0, .int .u8 0, .string ⟨#[]⟩, .string ⟨#[]⟩, .string ⟨#[]⟩, .int .i64 0, .int .i64 0, .string ⟨#[]⟩]
def memV : MemR → Value
  | .bad e i => .tuple #[.agg zm, .int .i64 0, faultV e 0 i]
  | .good m n => .tuple #[.agg m.cells, .int .i64 n, .nilIface]
theorem set13 {w : World} {b : Nat} {t : TypeId} (h : w.heap[b]? = some (.cells zm t (0, 0))) (v0 v1 v2 v3 v4 v5 v6 v7 v8 v9 v10 v11 v12 : Value) :
    ((((((((((((w.setCell ⟨b, 0, none⟩ v0).setCell ⟨b, 1, none⟩ v1).setCell ⟨b, 2, none⟩ v2).setCell ⟨b, 3, none⟩ v3).setCell ⟨b, 4, none⟩ v4).setCell ⟨b, 5, none⟩ v5).setCell ⟨b, 6, none⟩ v6).setCell ⟨b, 7, none⟩ v7).setCell ⟨b, 8, none⟩ v8).setCell ⟨b, 9, none⟩ v9).setCell ⟨b, 10, none⟩ v10).setCell ⟨b, 11, none⟩ v11).setCell ⟨b, 12, none⟩ v12 = setBlk w b (.cells #[v0, v1, v2, v3, v4, v5, v6, v7, v8, v9, v10, v11, v12] t (0, 0)) := by
  have hb := blk_lt h
  simp only [setCell_blk h, setBlk_setCell hb]
  simp only [zm, List.setIfInBounds_toArray, List.set_cons_zero, List.set_cons_succ]
theorem alloc_facts {w2 w3 : World} {cs : Array Value} {t : TypeId} (h : w2.alloc (.cells cs t (0, 0)) = w3) :
    (∀ i : Nat, w3.cell? ⟨w2.heap.size, i, none⟩ = cs[i]?) ∧ (∀ i : Nat, w3.frozen? ⟨w2.heap.size, i, none⟩ = false) ∧ Below w2.heap.size w2 w3 ∧ w2.heap.size < w3.heap.size := by
  subst h
  exact ⟨fun i => cell_of_heapN (heap_new _ _), fun i => frozen_blk (heap_new _ _), (Below.refl _ _).alloc (Nat.le_refl _) _, blk_lt (heap_new _ _)⟩
theorem wrapI {x : Int} (h0 : 0 ≤ x) (h1 : x < 9223372036854775808) : IntKind.i64.wrap x = x := by
  simp only [IntKind.wrap, IntKind.bits, IntKind.signed]
  simp
  omega
theorem conv_block (b k n : Nat) (l : Bs) (cap : Nat) (w : World) (hb : ByAt w b l) (hk : k + n ≤ l.length) :
    (convert 48 9 (.slice (some ⟨b, k, none⟩) n cap)).run Tryz.prog w = .ok (.string ⟨((l.drop k).take n).toArray⟩) w := by
  have hlen : ((l.drop k).take n).length = n := by simp only [List.length_take, List.length_drop]; omega
  have := run_convert_bytes_back (P := Tryz.prog) w 48 9 5 ⟨b, k, none⟩ cap ((l.drop k).take n) Tryz.underlying48 Tryz.underlying5 Tryz.underlying9 (fun j hj => by
    have h1 : (⟨b, k, none⟩ : Addr).add j = ⟨b, k + j, none⟩ := by unfold Addr.add; split <;> simp_all
    rw [h1]
    refine hb.2 (k + j) _ ?_
    rw [← List.getElem?_drop]
    have : ((l.drop k).take n)[j]? = some ((l.drop k).take n)[j] := List.getElem?_eq_getElem hj
    rw [List.getElem?_take] at this
    split at this
    · exact this
    · cases this)
  rw [hlen] at this
  exact this
theorem whole_q (n : Int) (w : World) (h0 : 0 ≤ n) (h1 : n ≤ 9223372036854774784) :
    Calls Tryz.prog 27 #[.int .i64 n] w fun e w' => e = .returned (.int .i64 ((n + 511) / 512 * 512)) ∧ w' = w :=
  (whole_any n w h0 h1).mono fun _ _ ⟨he, hw⟩ => ⟨he, hw.symm⟩
theorem memV_good {h : Hdr} {d : ByteArray} {z q : Int} {k : Nat} (hz : h.size = z) (hq : q = (k : Int)) :
    Value.tuple #[.agg #[.string h.path, .int .i64 h.mode, .int .i64 h.uid, .int .i64 h.gid, .int .i64 z, .int .i64 h.time, .int .u8 (h.typ.toNat : Int), .string h.link, .string h.user, .string h.group, .int .i64 h.major, .int .i64 h.minor, .string d], .int .i64 q, .nilIface] = memV (.good ⟨h, d⟩ k) := by
  subst hz hq; rfl
set_option maxHeartbeats 1600000 in
set_option maxRecDepth 100000 in
theorem member_any (b i cap : Nat) (l : Bs) (w : World) (hb : ByAt w b l) (hl : l.length ≤ 1152921504606846) (hc : l.length ≤ cap) (hc2 : cap ≤ 9223372036854775807) (hi : i + 512 ≤ l.length) :
    Calls Tryz.prog 63 #[.slice (some ⟨b, 0, none⟩) l.length cap, .int .i64 (i : Nat)] w fun e w' => e = .returned (memV (memAt l i)) ∧ Below w.heap.size w w' := by
  have hbs := hb.1
  have HB := Lib.hid hb
  obtain ⟨n, hn⟩ : ∃ n, l.length = n := ⟨_, rfl⟩
  obtain ⟨R, hR⟩ : ∃ R, memAt l i = R := ⟨_, rfl⟩
  rw [hR]
  rw [hn] at hl hc hi ⊢
  have HN := Lib.hid hn
  have HR := Lib.hid hR
  clear hb hn hR
  go_enter Tryz.func63, Tryz.ntmps63
  go_wp2_with fail
  refine (piece_yes b n cap i _ (by omega) hc hc2 hi).mono ?_
  rintro e w1 ⟨rfl, hw1⟩
  have hcr1 : w1.heap[w.heap.size]? = some (.cells zm 26 (0, 0)) := by rw [← hw1]; exact heap_new _ _
  have hb1 : Below w.heap.size w w1 := by rw [← hw1]; exact (Below.refl _ _).alloc (Nat.le_refl _) _
  have hz1 : w.heap.size < w1.heap.size := blk_lt hcr1
  have hby1 := HB.out.keep hb1 hbs
  have hcv := conv_block b i 512 l 512 w1 hby1 (by rw [HN.out]; exact hi)
  obtain ⟨s, hs⟩ : ∃ s : ByteArray, (⟨((l.drop i).take 512).toArray⟩ : ByteArray) = s := ⟨_, rfl⟩
  rw [hs] at hcv
  have hsd : s.data.toList = blkAt l i := by rw [← hs]; rfl
  have hss : s.size = 512 := by
    have : s.size = (blkAt l i).length := by rw [← hsd]; rfl
    rw [this]; unfold blkAt; simp only [List.length_take, List.length_drop, HN.out]; omega
  have HZ := hz1
  have HSD := Lib.hid hsd
  have HCR1 := Lib.hid hcr1
  have HB1 := Lib.hid hb1
  have HBY1 := Lib.hid hby1
  clear hs hsd hw1 hcr1 hb1 hby1
  go_wp2_with fail
  clear hcv
  refine (decode_all s _ hss).mono ?_
  rintro e w2 ⟨rfl, hb2⟩
  rw [HSD.out]
  have HB2 := Lib.hid hb2
  have HR2 : w2.heap[w.heap.size]? = some (.cells zm 26 (0, 0)) := (hb2.block _ HZ).trans HCR1.out
  have HCR2 := Lib.hid HR2
  clear hb2 HR2
  by_cases he : decErrM (blkAt l i) = 0
  · rw [if_pos he, if_pos he]
    obtain ⟨h, hh⟩ : ∃ h, decHdr (blkAt l i) = h := ⟨_, rfl⟩
    have hsz := decSize_bd (blkAt l i)
    have hmem : R = memAt l i := HR.out.symm
    unfold memAt at hmem
    rw [if_neg (by rw [he]; decide), hh, HN.out] at hmem
    rw [hh] at hsz ⊢
    obtain ⟨z, hz⟩ : ∃ z, h.size = z := ⟨_, rfl⟩
    have hcs : h.cells = #[.string h.path, .int .i64 h.mode, .int .i64 h.uid, .int .i64 h.gid, .int .i64 z, .int .i64 h.time, .int .u8 (h.typ.toNat : Int), .string h.link, .string h.user, .string h.group, .int .i64 h.major, .int .i64 h.minor] := by rw [← hz]
    rw [hz] at hsz hmem
    obtain ⟨hz0, hz9⟩ := hsz
    have HM := Lib.hid hmem
    have HZZ := Lib.hid hz
    clear he hh hmem hz
    rw [hcs]
    clear hcs
    by_cases h1 : (n : Int) < z
    · have hra : ∀ a : Obj, (w2.alloc a).heap[w.heap.size]? = some (.cells zm 26 (0, 0)) := fun a => (Below.heap_alloc _ _ _ (blk_lt HCR2.out)).trans HCR2.out
      have cra : ∀ (a : Obj) (i : Nat), (w2.alloc a).cell? ⟨w.heap.size, i, none⟩ = zm[i]? := fun a i => cell_of_heapN (hra a)
      have fra : ∀ (a : Obj) (i : Nat), (w2.alloc a).frozen? ⟨w.heap.size, i, none⟩ = false := fun a i => frozen_blk (hra a)
      have HRA := Lib.hid hra
      clear hra
      go_wp2_with fail
      rw [set13 (HRA.out _)]
      have hcw : ∀ (W5 : World) (hW5 : W5.heap[w.heap.size]? = some (.cells zm 26 (0, 0))) (i : Nat), (setBlk W5 w.heap.size (.cells zm 26 (0, 0))).cell? ⟨w.heap.size, i, none⟩ = zm[i]? := fun W5 hW5 i => cell_of_heapN (setBlk_heap (blk_lt hW5))
      refine bodyPost_ret (v := .tuple #[.agg zm, .int .i64 0, faultV 2 0 ((i : Int) + 512)]) ?_ rfl ⟨?_, ((HB1.out.trans (HB2.out.mono (Nat.le_of_lt HZ))).alloc (Nat.le_of_lt (blk_lt HCR2.out)) _).setBlk (Nat.le_refl _)⟩
      · simp [results, Tryz.results63, go_sem, hcw _ (HRA.out _), faultV]
      · rw [HM.out, if_pos (Or.inl h1)]; rfl
    · by_cases h2 : (n : Int) - (i + 512) < (z + 511) / 512 * 512
      · go_wp2_with fail
        refine (whole_any z _ hz0 (by omega)).mono ?_
        rintro e w3 ⟨rfl, hw3⟩
        obtain ⟨hch, hfh, hb3, hlt3⟩ := alloc_facts hw3
        have hbw : Below w.heap.size w w3 := (HB1.out.trans (HB2.out.mono (Nat.le_of_lt HZ))).trans (hb3.mono (Nat.le_of_lt (blk_lt HCR2.out)))
        have hr3 : w3.heap[w.heap.size]? = some (.cells zm 26 (0, 0)) := (hb3.block _ (blk_lt HCR2.out)).trans HCR2.out
        have HBW := Lib.hid hbw
        have HR3 := Lib.hid hr3
        have cr : ∀ i : Nat, w3.cell? ⟨w.heap.size, i, none⟩ = zm[i]? := fun i => cell_of_heapN hr3
        have fr : ∀ i : Nat, w3.frozen? ⟨w.heap.size, i, none⟩ = false := fun i => frozen_blk hr3
        clear hw3 hb3 hbw hr3 hch hfh
        go_wp2_with fail
        rw [set13 HR3.out]
        have hcw : ∀ i : Nat, (setBlk (w3) w.heap.size (.cells zm 26 (0, 0))).cell? ⟨w.heap.size, i, none⟩ = zm[i]? := fun i => cell_of_heapN (setBlk_heap (blk_lt HR3.out))
        refine bodyPost_ret (v := .tuple #[.agg zm, .int .i64 0, faultV 2 0 ((i : Int) + 512)]) ?_ rfl ⟨?_, HBW.out.setBlk (Nat.le_refl _)⟩
        · simp [results, Tryz.results63, go_sem, hcw, faultV]
        · rw [HM.out, if_pos (Or.inr (by unfold whole; omega))]; rfl
      · go_wp2_with fail
        refine (whole_any z _ hz0 (by omega)).mono ?_
        rintro e w3 ⟨rfl, hw3⟩
        obtain ⟨hch, hfh, hb3, hlt3⟩ := alloc_facts hw3
        have hbw : Below w.heap.size w w3 := (HB1.out.trans (HB2.out.mono (Nat.le_of_lt HZ))).trans (hb3.mono (Nat.le_of_lt (blk_lt HCR2.out)))
        have hr3 : w3.heap[w.heap.size]? = some (.cells zm 26 (0, 0)) := (hb3.block _ (blk_lt HCR2.out)).trans HCR2.out
        have HBW := Lib.hid hbw
        have HR3 := Lib.hid hr3
        have hby := HB.out.keep hbw hbs
        have hcv := conv_block b (i + 512) z.toNat l z.toNat w3 hby (by rw [HN.out]; omega)
        have cr : ∀ i : Nat, w3.cell? ⟨w.heap.size, i, none⟩ = zm[i]? := fun i => cell_of_heapN hr3
        have fr : ∀ i : Nat, w3.frozen? ⟨w.heap.size, i, none⟩ = false := fun i => frozen_blk hr3
        clear hw3 hb3 hbw hr3 hby
        go_wp2_with fail
        obtain ⟨V0, hV0⟩ : ∃ V, w3.drew = V := ⟨_, rfl⟩
        obtain ⟨d, hd⟩ : ∃ d : ByteArray, (⟨((l.drop (i + 512)).take z.toNat).toArray⟩ : ByteArray) = d := ⟨_, rfl⟩
        obtain ⟨V1, hV1⟩ : ∃ V, setBlk V0 w.heap.size (.cells #[.string h.path, .int .i64 h.mode, .int .i64 h.uid, .int .i64 h.gid, .int .i64 z, .int .i64 h.time, .int .u8 (h.typ.toNat : Int), .string h.link, .string h.user, .string h.group, .int .i64 h.major, .int .i64 h.minor, .string d] 26 (0, 0)) = V := ⟨_, rfl⟩
        have hR0 : V0.heap[w.heap.size]? = some (.cells zm 26 (0, 0)) := by rw [← hV0]; exact HR3.out
        have hne : w2.heap.size ≠ w.heap.size := by have := blk_lt HCR2.out; omega
        have hB0 : Below w.heap.size w V0 := by rw [← hV0]; exact HBW.out.drew
        have hB1 : Below w.heap.size w V1 := by rw [← hV1]; exact hB0.setBlk (Nat.le_refl _)
        have hR1 : V1.heap[w.heap.size]? = some (.cells #[.string h.path, .int .i64 h.mode, .int .i64 h.uid, .int .i64 h.gid, .int .i64 z, .int .i64 h.time, .int .u8 (h.typ.toNat : Int), .string h.link, .string h.user, .string h.group, .int .i64 h.major, .int .i64 h.minor, .string d] 26 (0, 0)) := by rw [← hV1]; exact setBlk_heap (blk_lt hR0)
        have hby0 := HB.out.keep hB0 hbs
        have hby1 := HB.out.keep hB1 hbs
        have hch0 : ∀ i : Nat, V0.cell? ⟨w2.heap.size, i, none⟩ = (#[.string h.path, .int .i64 h.mode, .int .i64 h.uid, .int .i64 h.gid, .int .i64 z, .int .i64 h.time, .int .u8 (h.typ.toNat : Int), .string h.link, .string h.user, .string h.group, .int .i64 h.major, .int .i64 h.minor] : Array Value)[i]? := by rw [← hV0]; exact hch
        have hch1 : ∀ i : Nat, V1.cell? ⟨w2.heap.size, i, none⟩ = (#[.string h.path, .int .i64 h.mode, .int .i64 h.uid, .int .i64 h.gid, .int .i64 z, .int .i64 h.time, .int .u8 (h.typ.toNat : Int), .string h.link, .string h.user, .string h.group, .int .i64 h.major, .int .i64 h.minor] : Array Value)[i]? := fun i => by rw [← hch0 i, ← hV1]; exact World.cell?_of_block (w := V0) (setBlk_other hne)
        have cr0 : ∀ i : Nat, V0.cell? ⟨w.heap.size, i, none⟩ = zm[i]? := fun i => cell_of_heapN hR0
        have fr0 : ∀ i : Nat, V0.frozen? ⟨w.heap.size, i, none⟩ = false := fun i => frozen_blk hR0
        rcases Int.lt_or_eq_of_le hz0 with hzp | hzp
        · have hcv0 := conv_block b (i + 512) z.toNat l z.toNat V0 hby0 (by rw [HN.out]; omega)
          have hcv1 := conv_block b (i + 512) z.toNat l z.toNat V1 hby1 (by rw [HN.out]; omega)
          rw [hd] at hcv0 hcv1
          have hc0 : (i + 512 + z.toNat = i + 512) = False := by simp only [eq_iff_iff, iff_false]; omega
          have hc1 : ¬ (z ≤ 0) := by omega
          have hi2 : ((i : Int) + 512).toNat = i + 512 := by omega
          have hwr : IntKind.i64.wrap ((i : Int) + 512 + z) = (i : Int) + 512 + z := wrapI (by omega) (by omega)
          have hmx : max ((i : Int) + 512 + z) 0 = (i : Int) + 512 + z := by omega
          have hb1 : 0 ≤ (i : Int) + 512 + z := by omega
          have hb2 : (i : Int) + 512 + z ≤ (cap : Int) := by omega
          have hb3 : (i : Int) + 512 ≤ (i : Int) + 512 + z := by omega
          have hb4 : 0 ≤ (i : Int) + 512 := by omega
          have hsb : i + 512 + z.toNat - (i + 512) = z.toNat := by omega
          have hwq : IntKind.i64.wrap ((i : Int) + 512 + (z + 511) / 512 * 512) = (i : Int) + 512 + (z + 511) / 512 * 512 := wrapI (by omega) (by omega)
          have hz2 : ((i : Int) + 512 + z).toNat = i + 512 + z.toNat := by omega
          have HR0 := Lib.hid hR0
          have HR1 := Lib.hid hR1
          have HV0 := Lib.hid hV0
          have HV1 := Lib.hid hV1
          have HB1' := Lib.hid hB1
          have HD := Lib.hid hd
          clear hcv hzp hby0 hby1 hB0 hB1 hR0 hR1 hV1 hd hch hfh cr fr hne
          refine wp_region_turn 17 16 _ undef V0 V1 hV0 (by kernel_rfl) (by kernel_rfl) rfl rfl (by kernel_rfl) ?_
          clear hV0
          simp only [List.take_succ_cons, List.take_zero, List.drop_succ_cons, List.drop_zero]
          refine ⟨_, yt_still (by decide) rfl (by go_simp; rfl) (by go_simp), ?_⟩
          refine ⟨_, yt_still (by decide) rfl (by go_simp; rfl) (by go_simp), ?_⟩
          refine ⟨_, yt_still (by decide) rfl (by go_simp; rfl) (by go_simp), ?_⟩
          refine ⟨_, yt_still (by decide) rfl (by go_simp; rfl) (by go_simp), ?_⟩
          refine ⟨_, yt_still (by decide) rfl (by go_simp; rfl) (by go_simp), ?_⟩
          refine ⟨_, yt_still (by decide) rfl (by go_simp; rfl) (by go_simp), ?_⟩
          refine ⟨_, yt_still (by decide) rfl (by go_simp; rfl) (by go_simp), ?_⟩
          refine ⟨_, yt_still (by decide) rfl (by go_simp; rfl) (by go_simp), ?_⟩
          refine ⟨_, yt_still (by decide) rfl (by go_simp; rfl) (by go_simp), ?_⟩
          refine ⟨_, yt_still (by decide) rfl (by go_simp; rfl) (by go_simp), ?_⟩
          refine ⟨_, yt_still (by decide) rfl (by go_simp; rfl) (by go_simp), ?_⟩
          refine ⟨_, yt_still (by decide) rfl (by go_simp; rfl) (by go_simp), ?_⟩
          refine ⟨_, yt_still (by decide) rfl (by go_simp; rfl) (by go_simp), ?_⟩
          refine ⟨_, yt_still (by decide) rfl (by go_simp; rfl) (by go_simp), ?_⟩
          refine ⟨_, yt_call (by decide) rfl (fun W => by go_simp) (fun W => whole_q z W hz0 (by omega)), ?_⟩
          refine ⟨_, yt_still (by decide) rfl (by go_simp; rfl) (by go_simp), ?_⟩
          have e13 := (set13 HR0.out _ _ _ _ _ _ _ _ _ _ _ _ _).trans HV1.out
          refine ⟨_, yt_skip (by go_simp), ?_⟩
          clear e13
          change wpList _ _ _ _ _ V1
          clear cr0 fr0 hcv0 hcv1 hch0 hch1
          have cr1 : ∀ i : Nat, V1.cell? ⟨w.heap.size, i, none⟩ = (#[.string h.path, .int .i64 h.mode, .int .i64 h.uid, .int .i64 h.gid, .int .i64 z, .int .i64 h.time, .int .u8 (h.typ.toNat : Int), .string h.link, .string h.user, .string h.group, .int .i64 h.major, .int .i64 h.minor, .string d] : Array Value)[i]? := fun i => cell_of_heapN HR1.out
          go_wp2_with fail
          refine bodyPost_ret (v := .tuple #[.agg #[.string h.path, .int .i64 h.mode, .int .i64 h.uid, .int .i64 h.gid, .int .i64 z, .int .i64 h.time, .int .u8 (h.typ.toNat : Int), .string h.link, .string h.user, .string h.group, .int .i64 h.major, .int .i64 h.minor, .string d], .int .i64 ((i : Int) + 512 + (z + 511) / 512 * 512), .nilIface]) ?_ rfl ⟨?_, HB1'.out⟩
          · simp [results, Tryz.results63, go_sem, cr1]
          · rw [HM.out, if_neg (by unfold whole; omega), HD.out]
            exact congrArg Ending.returned (memV_good HZZ.out (by unfold whole; omega))
        · have hcv0 := conv_block b 0 z.toNat l z.toNat V0 hby0 (by rw [HN.out]; omega)
          have hcv1 := conv_block b 0 z.toNat l z.toNat V1 hby1 (by rw [HN.out]; omega)
          rw [show (⟨((l.drop 0).take z.toNat).toArray⟩ : ByteArray) = d from by rw [← hd, ← hzp]; rfl] at hcv0 hcv1
          have hc0 : (i + 512 + z.toNat = i + 512) = True := by simp only [eq_iff_iff, iff_true]; omega
          have hc1 : z ≤ 0 := by omega
          have hi2 : ((i : Int) + 512).toNat = i + 512 := by omega
          have hwr : IntKind.i64.wrap ((i : Int) + 512 + z) = (i : Int) + 512 + z := wrapI (by omega) (by omega)
          have hmx : max ((i : Int) + 512 + z) 0 = (i : Int) + 512 + z := by omega
          have hb1 : 0 ≤ (i : Int) + 512 + z := by omega
          have hb2 : (i : Int) + 512 + z ≤ (cap : Int) := by omega
          have hb3 : (i : Int) + 512 ≤ (i : Int) + 512 + z := by omega
          have hb4 : 0 ≤ (i : Int) + 512 := by omega
          have hsb : i + 512 + z.toNat - (i + 512) = z.toNat := by omega
          have hwq : IntKind.i64.wrap ((i : Int) + 512 + (z + 511) / 512 * 512) = (i : Int) + 512 + (z + 511) / 512 * 512 := wrapI (by omega) (by omega)
          have hz2 : ((i : Int) + 512 + z).toNat = i + 512 + z.toNat := by omega
          have HR0 := Lib.hid hR0
          have HR1 := Lib.hid hR1
          have HV0 := Lib.hid hV0
          have HV1 := Lib.hid hV1
          have HB1' := Lib.hid hB1
          have HD := Lib.hid hd
          clear hcv hzp hby0 hby1 hB0 hB1 hR0 hR1 hV1 hd hch hfh cr fr hne
          refine wp_region_turn 17 16 _ undef V0 V1 hV0 (by kernel_rfl) (by kernel_rfl) rfl rfl (by kernel_rfl) ?_
          clear hV0
          simp only [List.take_succ_cons, List.take_zero, List.drop_succ_cons, List.drop_zero]
          refine ⟨_, yt_still (by decide) rfl (by go_simp; rfl) (by go_simp), ?_⟩
          refine ⟨_, yt_still (by decide) rfl (by go_simp; rfl) (by go_simp), ?_⟩
          refine ⟨_, yt_still (by decide) rfl (by go_simp; rfl) (by go_simp), ?_⟩
          refine ⟨_, yt_still (by decide) rfl (by go_simp; rfl) (by go_simp), ?_⟩
          refine ⟨_, yt_still (by decide) rfl (by go_simp; rfl) (by go_simp), ?_⟩
          refine ⟨_, yt_still (by decide) rfl (by go_simp; rfl) (by go_simp), ?_⟩
          refine ⟨_, yt_still (by decide) rfl (by go_simp; rfl) (by go_simp), ?_⟩
          refine ⟨_, yt_still (by decide) rfl (by go_simp; rfl) (by go_simp), ?_⟩
          refine ⟨_, yt_still (by decide) rfl (by go_simp; rfl) (by go_simp), ?_⟩
          refine ⟨_, yt_still (by decide) rfl (by go_simp; rfl) (by go_simp), ?_⟩
          refine ⟨_, yt_still (by decide) rfl (by go_simp; rfl) (by go_simp), ?_⟩
          refine ⟨_, yt_still (by decide) rfl (by go_simp; rfl) (by go_simp), ?_⟩
          refine ⟨_, yt_still (by decide) rfl (by go_simp; rfl) (by go_simp), ?_⟩
          refine ⟨_, yt_still (by decide) rfl (by go_simp; rfl) (by go_simp), ?_⟩
          refine ⟨_, yt_call (by decide) rfl (fun W => by go_simp) (fun W => whole_q z W hz0 (by omega)), ?_⟩
          refine ⟨_, yt_still (by decide) rfl (by go_simp; rfl) (by go_simp), ?_⟩
          have e13 := (set13 HR0.out _ _ _ _ _ _ _ _ _ _ _ _ _).trans HV1.out
          refine ⟨_, yt_skip (by go_simp), ?_⟩
          clear e13
          change wpList _ _ _ _ _ V1
          clear cr0 fr0 hcv0 hcv1 hch0 hch1
          have cr1 : ∀ i : Nat, V1.cell? ⟨w.heap.size, i, none⟩ = (#[.string h.path, .int .i64 h.mode, .int .i64 h.uid, .int .i64 h.gid, .int .i64 z, .int .i64 h.time, .int .u8 (h.typ.toNat : Int), .string h.link, .string h.user, .string h.group, .int .i64 h.major, .int .i64 h.minor, .string d] : Array Value)[i]? := fun i => cell_of_heapN HR1.out
          go_wp2_with fail
          refine bodyPost_ret (v := .tuple #[.agg #[.string h.path, .int .i64 h.mode, .int .i64 h.uid, .int .i64 h.gid, .int .i64 z, .int .i64 h.time, .int .u8 (h.typ.toNat : Int), .string h.link, .string h.user, .string h.group, .int .i64 h.major, .int .i64 h.minor, .string d], .int .i64 ((i : Int) + 512 + (z + 511) / 512 * 512), .nilIface]) ?_ rfl ⟨?_, HB1'.out⟩
          · simp [results, Tryz.results63, go_sem, cr1]
          · rw [HM.out, if_neg (by unfold whole; omega), HD.out]
            exact congrArg Ending.returned (memV_good HZZ.out (by unfold whole; omega))
  · rw [if_neg he, if_neg he]
    obtain ⟨e0, he0⟩ : ∃ e0, decErrM (blkAt l i) = e0 := ⟨_, rfl⟩
    have hmem : R = .bad e0 i := by rw [← HR.out, memAt, if_pos he, he0]
    subst hmem
    rw [he0]
    clear he he0
    unfold errV
    go_wp2_with fail
    refine (fault_any e0 i _).mono ?_
    rintro e w3 ⟨rfl, hw3⟩
    have hr3 : w3.heap[w.heap.size]? = some (.cells zm 26 (0, 0)) := by rw [← hw3]; exact (Below.heap_alloc _ _ _ (blk_lt HCR2.out)).trans HCR2.out
    have hb3 : Below w.heap.size w w3 := by rw [← hw3]; exact (HB1.out.trans (HB2.out.mono (Nat.le_of_lt HZ))).alloc (Nat.le_of_lt (blk_lt HCR2.out)) _
    have HR3 := Lib.hid hr3
    have HB3 := Lib.hid hb3
    have cr : ∀ i : Nat, w3.cell? ⟨w.heap.size, i, none⟩ = zm[i]? := fun i => cell_of_heapN hr3
    have fr : ∀ i : Nat, w3.frozen? ⟨w.heap.size, i, none⟩ = false := fun i => frozen_blk hr3
    clear hw3 hr3 hb3
    go_wp2_with fail
    rw [set13 HR3.out]
    have hcw : ∀ i : Nat, (setBlk w3 w.heap.size (.cells zm 26 (0, 0))).cell? ⟨w.heap.size, i, none⟩ = zm[i]? := fun i => cell_of_heapN (setBlk_heap (blk_lt HR3.out))
    refine bodyPost_ret (v := .tuple #[.agg zm, .int .i64 0, faultV e0 0 i]) ?_ rfl ⟨rfl, HB3.out.setBlk (Nat.le_refl _)⟩
    simp [results, Tryz.results63, go_sem, hcw]
end Go.Proofs.YthpmocfdnoehoaaGreatDoor
