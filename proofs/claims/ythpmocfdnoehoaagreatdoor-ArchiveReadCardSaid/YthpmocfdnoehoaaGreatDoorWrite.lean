/- Contract of archive.Write. -/
import Derived.Test.YthpmocfdnoehoaaGreatDoorMem
import Derived.Test.YthpmocfdnoehoaaGreatDoorBuild
import Derived.Deep.QuietTactic
namespace Go.Proofs.YthpmocfdnoehoaaGreatDoor
open Go.RowKit
def WrPost (l : List Mem) (w : World) (e : Ending) (w' : World) : Prop :=
  e = .returned (.tuple #[.string ⟨(wrGo l 0 []).2.2.toArray⟩, if (wrGo l 0 []).1 = 0 then .nilIface else faultV (wrGo l 0 []).1 0 (wrGo l 0 []).2.1]) ∧ Below w.heap.size w w'
theorem WrPost.bad {l : List Mem} {w w' : World} {e : Ending} {k : Nat} {acc : Bs} {m : Mem} {r : List Mem} {x : Int} (hg : wrGo l 0 [] = wrGo (m :: r) k acc) (hx : wrBad acc.length m = x) (h0 : x ≠ 0) (he : e = .returned (.tuple #[.string ⟨#[]⟩, faultV x 0 k])) (hb : Below w.heap.size w w') : WrPost l w e w' := by
  have : wrGo l 0 [] = (x, k, []) := by rw [hg, wrGo, hx, if_pos h0]
  refine ⟨?_, hb⟩
  rw [this, he]
  simp only [if_neg h0]
theorem WrPost.ok {l : List Mem} {w w' : World} {e : Ending} {k : Nat} {acc : Bs} (hg : wrGo l 0 [] = wrGo [] k acc) (he : e = .returned (.tuple #[.string ⟨(acc ++ List.replicate 1024 0).toArray⟩, .nilIface])) (hb : Below w.heap.size w w') : WrPost l w e w' := by
  have : wrGo l 0 [] = (0, 0, acc ++ List.replicate 1024 0) := by rw [hg, wrGo]
  refine ⟨?_, hb⟩
  rw [this, he]
  rfl
theorem whole_cast (n : Nat) : ((n : Int) + 511) / 512 * 512 = ((Go.Proofs.YthpmocfdnoehoaaGreatDoor.whole n : Nat) : Int) := by unfold whole; omega
theorem whole_le (n : Nat) : n ≤ Go.Proofs.YthpmocfdnoehoaaGreatDoor.whole n ∧ Go.Proofs.YthpmocfdnoehoaaGreatDoor.whole n ≤ n + 511 := by unfold whole; omega
theorem test_big {a q : Nat} (h : 33554432 < a + q + 1536) (ha : a ≤ 33554432) (hq : q ≤ 281474976710656) : decide ((33554432 : Int) < wrap64 (wrap64 ((a : Int) + (q : Int)) + 1536)) = true := by
  have e1 : wrap64 ((a : Int) + (q : Int)) = (a : Int) + q := IntWalk.wrap64_in _ ⟨by omega, by omega⟩
  rw [e1, IntWalk.wrap64_in _ ⟨by omega, by omega⟩]; simp; omega
theorem test_small {a q : Nat} (h : ¬ 33554432 < a + q + 1536) : decide ((33554432 : Int) < wrap64 (wrap64 ((a : Int) + (q : Int)) + 1536)) = false := by
  have e1 : wrap64 ((a : Int) + (q : Int)) = (a : Int) + q := IntWalk.wrap64_in _ ⟨by omega, by omega⟩
  rw [e1, IntWalk.wrap64_in _ ⟨by omega, by omega⟩]; simp; omega
theorem row_cell {w : World} {b off i j : Nat} {m : Mem} {v : Value} (h : ∀ j, j < 13 → w.cell? ⟨b, off + (i * 13 + j), none⟩ = m.cells[j]?) (hj : j < 13) (hv : m.cells[j]? = some v) : w.cell? ⟨b, off + i * 13 + j, none⟩ = some v := by
  rw [Nat.add_assoc]; exact (h j hj).trans hv
set_option maxHeartbeats 1600000 in
set_option maxRecDepth 100000 in
theorem write_any (l : List Mem) (p : Option Addr) (cap : Nat) (w : World) (hM : MemsAt w p l) (hn : l.length ≤ 1152921504606846975) (hs : ∀ m ∈ l, m.small) :
    Calls Tryz.prog 9 #[.slice p l.length cap] w (WrPost l w) := by
  go_enter Tryz.func9, Tryz.ntmps9
  go_wp2_with fail
  obtain ⟨n, hnl⟩ : ∃ n, l.length = n := ⟨_, rfl⟩
  rw [hnl] at hn ⊢
  have HN := Lib.hid hnl
  have HM := Lib.hid hM
  have HS := Lib.hid hs
  clear hnl hM hs
  go_loopw [12] (fun iv wr => ∃ (k : Nat) (acc : Bs), k ≤ n ∧ iv = .int .i64 k ∧ acc.length ≤ 33554432 ∧ Hid (Bld w.heap.size w.heap.size acc wr) ∧ Hid (Below w.heap.size w wr) ∧ Hid (wrGo l 0 [] = wrGo (l.drop k) k acc)) (fun iv _ => n - (intOf iv).toNat)
  case atStart => exact ⟨0, [], Nat.zero_le _, rfl, by simp, bld_new w, (Below.refl _ _).alloc (Nat.le_refl _) _, rfl⟩
  case round =>
    obtain ⟨k, acc, hk, rfl, hacc, hbld, hbel, hgo⟩ := hrel
    have hbl := bld_lt hbld.out
    by_cases hlt : k < n
    · obtain ⟨m, hm⟩ : ∃ m, l[k]? = some m := ⟨_, List.getElem?_eq_getElem (i := k) (by have := HN.out; omega)⟩
      have hdrop : l.drop k = m :: l.drop (k + 1) := by
        have h1 : k < l.length := by have := HN.out; omega
        rw [List.drop_eq_getElem_cons h1]
        congr 1
        exact (List.getElem?_eq_some_iff.1 hm).2
      have HG := Lib.hid (show wrGo l 0 [] = wrGo (m :: l.drop (k + 1)) k acc by rw [hgo.out, hdrop])
      have hsm : m.small := HS.out m (List.mem_of_getElem? hm)
      obtain ⟨b, off, rfl, hb⟩ := HM.out.1 k (by have := HN.out; omega)
      have hrow : ∀ j, j < 13 → wr.cell? ⟨b, off + (k * 13 + j), none⟩ = m.cells[j]? := fun j hj => (hbel.out.cell (p := ⟨b, off + (k * 13 + j), none⟩) hb).trans (HM.out.2 b off rfl k m hm j hj)
      have c0 : wr.cell? ⟨b, off + k * 13, none⟩ = some (.string m.hdr.path) := row_cell hrow (j := 0) (by decide) rfl
      have c1 := row_cell hrow (j := 1) (by decide) rfl
      have c2 := row_cell hrow (j := 2) (by decide) rfl
      have c3 := row_cell hrow (j := 3) (by decide) rfl
      have c4 := row_cell hrow (j := 4) (by decide) rfl
      have c5 := row_cell hrow (j := 5) (by decide) rfl
      have c6 := row_cell hrow (j := 6) (by decide) rfl
      have c7 := row_cell hrow (j := 7) (by decide) rfl
      have c8 := row_cell hrow (j := 8) (by decide) rfl
      have c9 := row_cell hrow (j := 9) (by decide) rfl
      have c10 := row_cell hrow (j := 10) (by decide) rfl
      have c11 := row_cell hrow (j := 11) (by decide) rfl
      have c12 := row_cell hrow (j := 12) (by decide) rfl
      have HSM := Lib.hid hsm
      clear hm hdrop hsm hrow
      go_wp2_with fail
      clear c0 c1 c2 c3 c4 c5 c6 c7 c8 c9 c10 c11 c12
      have hz1 : wr.heap.size < (wr.alloc (.cells m.cells 26)).heap.size := by simp
      have HB1 := Lib.hid (bld_keep hbld.out ((Below.refl wr.heap.size wr).alloc (Nat.le_refl _) (.cells m.cells 26)))
      have HL1 := Lib.hid (hbel.out.alloc (Nat.le_of_lt hbl) (.cells m.cells 26))
      refine (encode_any m.hdr _ HSM.out.1).mono ?_
      rintro e w1 ⟨rfl, hb1⟩
      have cm : ∀ i : Nat, w1.cell? ⟨wr.heap.size, i, none⟩ = m.cells[i]? := fun i => (hb1.cell (p := ⟨wr.heap.size, i, none⟩) hz1).trans (cell_new wr m.cells _ i)
      have HMB := Lib.hid ((hb1.block wr.heap.size hz1).trans (heap_new wr (.cells m.cells 26)))
      have hz2 : wr.heap.size < w1.heap.size := Nat.lt_of_lt_of_le hz1 hb1.size
      have HB2 := Lib.hid (bld_keep HB1.out hb1)
      have HL2 := Lib.hid (HL1.out.trans (hb1.mono (by simp; omega)))
      clear hb1 HB1 HL1 hz1 hbld hbel hgo
      obtain ⟨x, hx⟩ : ∃ x, encErr m.hdr = x := ⟨_, rfl⟩
      rw [hx]
      have HX := Lib.hid hx
      clear hx
      by_cases h0 : x = 0
      · rw [if_pos h0, if_pos h0]
        have HX0 := Lib.hid h0
        clear h0
        have hds : m.data.size ≤ 140737488351232 := HSM.out.2
        by_cases h1 : m.hdr.size = (m.data.size : Int)
        · have hne : (m.hdr.size != (m.data.size : Int)) = false := by rw [h1]; simp
          have HSZ := Lib.hid h1
          clear h1
          go_wp2_with fail
          refine (bld_len _ _ acc _ HB2.out).mono ?_
          rintro e w2 ⟨rfl, rfl⟩
          go_wp2_with fail
          refine (whole_any _ _ (by omega) (by omega)).mono ?_
          rintro e w2 ⟨rfl, rfl⟩
          rw [whole_cast]
          have hwl := whole_le m.data.size
          obtain ⟨q, hq⟩ : ∃ q, Go.Proofs.YthpmocfdnoehoaaGreatDoor.whole m.data.size = q := ⟨_, rfl⟩
          rw [hq] at hwl ⊢
          have HQ := Lib.hid hq
          clear hq
          by_cases h2 : 33554432 < acc.length + q + 1536
          · have H2 := Lib.hid h2
            have H2b := test_big h2 (by omega) (by omega)
            have HA := Lib.hid hacc
            have HWL := Lib.hid hwl
            have HDS := Lib.hid hds
            clear h2 hacc hwl hds
            go_wp2_with fail
            go_ret2
            exact WrPost.bad HG.out (by rw [wrBad, if_neg (by rw [HX.out]; exact fun h => h HX0.out), if_neg (by rw [HSZ.out]; exact fun h => h rfl), if_pos (by rw [HQ.out]; exact H2.out)]) (by decide) rfl HL2.out
          · have H2 := Lib.hid h2
            have H2b := test_small h2
            have HA := Lib.hid hacc
            have HWL := Lib.hid hwl
            have HDS := Lib.hid hds
            clear h2 hacc hwl hds
            go_wp2_with fail
            have hel := encOf_length (HX.out.trans HX0.out)
            refine (bld_write _ _ acc _ _ HB2.out (by have h1 := HA.out; show acc.length + (encOf m.hdr).length ≤ _; omega) (Nat.le_of_lt (Nat.lt_trans hbl hz2))).mono ?_
            rintro e w2 ⟨rfl, hB, hL, hO⟩
            have HB3 := Lib.hid hB
            have HL3 := Lib.hid (HL2.out.trans hL)
            have HMB2 := Lib.hid (hO wr.heap.size _ HMB.out (by simp; omega) (by intro c fz hc; cases hc))
            have cm2 : ∀ i : Nat, w2.cell? ⟨wr.heap.size, i, none⟩ = m.cells[i]? := fun i => cell_of_heapN HMB2.out
            have hz3 : w.heap.size < w2.heap.size := Nat.lt_of_lt_of_le (Nat.lt_trans hbl hz2) hL.size
            clear hB hL hO HB2 HL2 HMB cm
            go_wp2_with fail
            refine (bld_write _ _ _ m.data _ HB3.out (by have h1 := HA.out; have h3 := H2.out; have h4 := HWL.out; simp only [List.length_append, hel]; omega) (Nat.le_of_lt hz3)).mono ?_
            rintro e w3 ⟨rfl, hB, hL, hO⟩
            have HB4 := Lib.hid hB
            have HL4 := Lib.hid (HL3.out.trans hL)
            have hz4 : w.heap.size < w3.heap.size := Nat.lt_of_lt_of_le hz3 hL.size
            clear hB hL hO HB3 HL3 HMB2 cm2
            go_wp2_with fail
            have hds := HDS.out
            have hwl := HWL.out
            refine (whole_any _ _ (by omega) (by omega)).mono ?_
            rintro e w4 ⟨rfl, rfl⟩
            rw [whole_cast, HQ.out]
            go_wp2_with fail
            have eqd : ((q : Int) - (m.data.size : Int)) = ((q - m.data.size : Nat) : Int) := by omega
            rw [eqd]
            clear eqd
            refine (repeat_zero _ _ (by have h3 := H2.out; omega)).mono ?_
            rintro e w4 ⟨rfl, hb4⟩
            have HB5 := Lib.hid (bld_keep HB4.out hb4)
            have HL5 := Lib.hid (HL4.out.trans (hb4.mono (Nat.le_of_lt hz4)))
            have hz5 : w.heap.size < w4.heap.size := Nat.lt_of_lt_of_le hz4 hb4.size
            clear hb4 HB4 HL4 hz4
            go_wp2_with fail
            refine (bld_write _ _ _ _ _ HB5.out (by have h1 := HA.out; have h3 := H2.out; have h4 := HWL.out; have h5 : m.data.data.toList.length = m.data.size := rfl; simp only [List.length_append, hel, h5]; show _ + (List.replicate (q - m.data.size) (0 : UInt8)).length ≤ _; rw [List.length_replicate]; omega) (Nat.le_of_lt hz5)).mono ?_
            rintro e w5 ⟨rfl, hB, hL, _⟩
            have HB6 := Lib.hid hB
            have HL6 := Lib.hid (HL5.out.trans hL)
            clear hB hL HB5 HL5
            go_wp2_with fail
            go_roundw
            case rel =>
              have hmb : acc ++ encOf m.hdr ++ m.data.data.toList ++ (⟨(List.replicate (q - m.data.size) 0).toArray⟩ : ByteArray).data.toList = acc ++ memBytes m := by
                rw [memBytes, HQ.out]; simp
              refine ⟨k + 1, acc ++ memBytes m, by omega, by go_num, ?_, ?_, HL6.out, ?_⟩
              · have h3 := H2.out
                have h4 := HWL.out
                rw [memBytes, HQ.out]
                have h5 : m.data.data.toList.length = m.data.size := rfl
                simp only [List.length_append, hel, h5, List.length_replicate]
                omega
              · rw [← hmb]; exact HB6.out
              · show wrGo l 0 [] = wrGo (l.drop (k + 1)) (k + 1) (acc ++ memBytes m)
                rw [HG.out, wrGo, if_neg]
                rw [wrBad, if_neg (by rw [HX.out]; exact fun h => h HX0.out), if_neg (by rw [HSZ.out]; exact fun h => h rfl), if_neg (by rw [HQ.out]; exact H2.out)]
                exact fun h => h rfl
            case measure => simp [intOf]; omega
        · have hne : (m.hdr.size != (m.data.size : Int)) = true := by rw [bne_iff_ne]; exact h1
          have HSZ := Lib.hid h1
          clear h1
          go_wp2_with fail
          go_ret2
          exact WrPost.bad HG.out (by rw [wrBad, if_neg (by rw [HX.out]; exact fun h => h HX0.out), if_pos HSZ.out]) (by decide) rfl HL2.out
      · rw [if_neg h0, if_neg h0]
        have HX0 := Lib.hid h0
        clear h0
        unfold errV
        go_wp2_with fail
        refine (fault_any x k _).mono ?_
        rintro e w2 ⟨rfl, rfl⟩
        go_wp2_with fail
        go_ret2
        exact WrPost.bad HG.out (by rw [wrBad, HX.out, if_pos HX0.out]) HX0.out rfl HL2.out
    · have hkn : k = n := by omega
      have HG := Lib.hid (show wrGo l 0 [] = wrGo [] k acc by rw [hgo.out, List.drop_eq_nil_of_le (by have := HN.out; omega)])
      have HA := Lib.hid hacc
      clear hgo hkn hacc
      go_wp2_with fail
      have e1024 : (1024 : Int) = ((1024 : Nat) : Int) := rfl
      rw [e1024]
      refine (repeat_zero 1024 _ (by omega)).mono ?_
      rintro e w1 ⟨rfl, hb1⟩
      have HB1 := Lib.hid (bld_keep hbld.out hb1)
      have HL1 := Lib.hid (hbel.out.trans (hb1.mono (Nat.le_of_lt hbl)))
      have hz1 : w.heap.size < w1.heap.size := Nat.lt_of_lt_of_le hbl hb1.size
      clear hb1 hbld hbel e1024
      obtain ⟨Z, hZ⟩ : ∃ Z, List.replicate 1024 (0 : UInt8) = Z := ⟨_, rfl⟩
      have hZl : Z.length = 1024 := by rw [← hZ]; exact List.length_replicate
      rw [hZ]
      have HZ := Lib.hid hZ
      have HZL := Lib.hid hZl
      clear hZ hZl
      go_wp2_with fail
      refine (bld_write _ _ _ _ _ HB1.out (by have h1 := HA.out; have h2 := HZL.out; show _ + Z.length ≤ _; omega) (Nat.le_of_lt hz1)).mono ?_
      rintro e w2 ⟨rfl, hB, hL, _⟩
      have HB2 := Lib.hid hB
      have HL2 := Lib.hid (HL1.out.trans hL)
      have hz2 : w.heap.size < w2.heap.size := Nat.lt_of_lt_of_le hz1 hL.size
      clear hB hL HB1 HL1
      go_wp2_with fail
      refine (bld_string _ _ _ _ HB2.out (Nat.le_of_lt hz2)).mono ?_
      rintro e w3 ⟨rfl, hB, hL, _⟩
      have HL3 := Lib.hid (HL2.out.trans hL)
      clear hB hL HB2 HL2
      go_wp2_with fail
      go_ret2
      exact WrPost.ok HG.out (by rw [HZ.out]; rfl) HL3.out
end Go.Proofs.YthpmocfdnoehoaaGreatDoor
