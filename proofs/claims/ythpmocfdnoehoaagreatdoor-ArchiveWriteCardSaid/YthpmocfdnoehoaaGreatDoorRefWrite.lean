/- Contract of the reference's Write, given that of its Encode. -/
import Derived.Test.YthpmocfdnoehoaaGreatDoorWriteLaw
import Derived.Test.YthpmocfdnoehoaaGreatDoorRefEncA
namespace Go.Proofs.YthpmocfdnoehoaaGreatDoor
open Go.RowKit
def EncodeRSaid : Prop := ∀ (h : Hdr) (w : World), h.small → Calls Tryz.prog 18 #[.agg h.cells] w fun e w' => e = .returned (encV h) ∧ Below w.heap.size w w'
theorem wrV_bad {l r : List Mem} {m : Mem} {k : Nat} {acc : Bs} {x : Int} (hg : wrGo l 0 [] = wrGo (m :: r) k acc) (hx : wrBad acc.length m = x) (h0 : x ≠ 0) : wrV (wrGo l 0 []) = .tuple #[.string ⟨#[]⟩, .int .i64 x, .int .i64 k] := by
  have : wrGo l 0 [] = (x, k, []) := by rw [hg, wrGo, hx, if_pos h0]
  rw [this]; rfl
set_option maxHeartbeats 6400000 in
set_option maxRecDepth 100000 in
theorem WriteR_any (hE : EncodeRSaid) : WriteRSaid := by
  intro l p cap w hM hn hs
  have HE := Lib.hid hE
  go_enter Tryz.func7, Tryz.ntmps7
  go_wp2_with fail
  obtain ⟨n, hnl⟩ : ∃ n, l.length = n := ⟨_, rfl⟩
  rw [hnl] at hn ⊢
  have HN := Lib.hid hnl
  have HM := Lib.hid hM
  have HS := Lib.hid hs
  clear hnl hM hs hE
  go_loopw [5, 6, 7] (fun v sv iv wr => ∃ (k : Nat) (acc : Bs), k ≤ n ∧ iv = .int .i64 k ∧ sv = .int .i64 (1024 + (acc.length : Int)) ∧ (acc.length : Int) ≤ 33553408 ∧ Hid (OwnB w.heap.size acc v wr) ∧ Hid (Below w.heap.size w wr) ∧ Hid (wrGo l 0 [] = wrGo (l.drop k) k acc)) (fun _ _ iv _ => n - (intOf iv).toNat)
  case atStart => exact ⟨0, [], Nat.zero_le _, rfl, rfl, by decide, OwnB.nil _ _, Below.refl _ _, rfl⟩
  case round =>
    obtain ⟨k, acc, hk, rfl, rfl, hacc, hown, hbel, hgo⟩ := hrel
    by_cases hlt : k < n
    · obtain ⟨m, hm⟩ : ∃ m, l[k]? = some m := ⟨_, List.getElem?_eq_getElem (i := k) (by have := HN.out; omega)⟩
      have hdrop : l.drop k = m :: l.drop (k + 1) := by
        have h1 : k < l.length := by have := HN.out; omega
        rw [List.drop_eq_getElem_cons h1]
        congr 1
        exact (List.getElem?_eq_some_iff.1 hm).2
      have HG := Lib.hid (show wrGo l 0 [] = wrGo (m :: l.drop (k + 1)) k acc by rw [hgo.out, hdrop])
      have hsm : m.small := HS.out m (List.mem_of_getElem? hm)
      obtain ⟨b, off, rfl, hb⟩ := HM.out.1 k (by have := HN.out; omega)
      have hrow : ∀ j, j < 13 → wr.cell? ⟨b, off + (k * 13 + j), none⟩ = m.cells[j]? := fun j hj => (hbel.out.cell (p := ⟨b, off + (k * 13 + j), none⟩) hb).trans (HM.out.2 b off rfl k m hm j hj)
      have c0 : wr.cell? ⟨b, off + k * 13, none⟩ = some (.string m.hdr.path) := row_cell hrow (j := 0) (by decide) rfl
      have c1 := row_cell hrow (j := 1) (by decide) rfl
      have c2 := row_cell hrow (j := 2) (by decide) rfl
      have c3 := row_cell hrow (j := 3) (by decide) rfl
      have c4 := row_cell hrow (j := 4) (by decide) rfl
      have c5 := row_cell hrow (j := 5) (by decide) rfl
      have c6 := row_cell hrow (j := 6) (by decide) rfl
      have c7 := row_cell hrow (j := 7) (by decide) rfl
      have c8 := row_cell hrow (j := 8) (by decide) rfl
      have c9 := row_cell hrow (j := 9) (by decide) rfl
      have c10 := row_cell hrow (j := 10) (by decide) rfl
      have c11 := row_cell hrow (j := 11) (by decide) rfl
      have c12 := row_cell hrow (j := 12) (by decide) rfl
      have HRW := Lib.hid (show ∀ w2, Below w.heap.size w w2 → ∀ j, j < 13 → w2.cell? ⟨b, off + (k * 13 + j), none⟩ = m.cells[j]? from fun w2 h2 j hj => (h2.cell (p := ⟨b, off + (k * 13 + j), none⟩) hb).trans (HM.out.2 b off rfl k m hm j hj))
      have HSM := Lib.hid hsm
      clear hm hdrop hsm hrow hgo hb
      go_wp2_with fail
      refine (HE.out m.hdr _ HSM.out.1).mono ?_
      rintro e w1 ⟨rfl, hb1⟩
      have HO1 := Lib.hid (hown.out.keep hb1)
      have HB1 := Lib.hid (hbel.out.trans (hb1.mono hbel.out.size))
      clear c0 c1 c2 c3 c4 c5 c6 c7 c8 c9 c10 c11 c12 hb1 hbel hown
      obtain ⟨x, hx⟩ : ∃ x, encErr m.hdr = x := ⟨_, rfl⟩
      have HX := Lib.hid hx
      unfold encV
      rw [hx]
      clear hx
      by_cases h0 : x = 0
      · rw [if_pos h0, h0]
        have HX0 := Lib.hid h0
        clear h0
        have c4 : w1.cell? ⟨b, off + k * 13 + 4, none⟩ = some (.int .i64 m.hdr.size) := row_cell (HRW.out w1 HB1.out) (j := 4) (by decide) rfl
        have c12 : w1.cell? ⟨b, off + k * 13 + 12, none⟩ = some (.string m.data) := row_cell (HRW.out w1 HB1.out) (j := 12) (by decide) rfl
        by_cases h1 : m.hdr.size = (m.data.size : Int)
        · have HSZ := Lib.hid h1
          rw [h1] at c4
          clear h1
          have hds : (m.data.size : Int) ≤ 140737488351232 := by have := HSM.out.2; omega
          have hbk := fun w2 => blocksR_any m.data.size w2 (by omega)
          have hwl := whole_le m.data.size
          obtain ⟨q, hq⟩ : ∃ q, Go.Proofs.YthpmocfdnoehoaaGreatDoor.whole m.data.size = q := ⟨_, rfl⟩
          have hq5 : q / 512 * 512 = q := by rw [← hq]; unfold whole; omega
          rw [hq] at hwl hbk
          have HQ := Lib.hid hq
          have hqb : (q : Int) ≤ 140737488351743 := by omega
          have hq6 : 512 * ((q : Int) / 512) = (q : Int) := by omega
          have hq7 : (0 : Int) ≤ (q : Int) / 512 := by omega
          have hq8 : (q : Int) / 512 ≤ 274877906945 := by omega
          clear hq hwl hq5
          go_wp2_with fail
          go_region
          have HO2 := Lib.hid (show OwnB w.heap.size acc _ w1.drew from HO1.out)
          have HB1' := Lib.hid HB1.out.drew
          have e4 : w1.drew.cell? ⟨b, off + k * 13 + 4, none⟩ = some (.int .i64 m.data.size) := c4
          have e12 : w1.drew.cell? ⟨b, off + k * 13 + 12, none⟩ = some (.string m.data) := c12
          clear HO1 HB1 c4 c12
          generalize w1.drew = w1' at HO2 HB1' e4 e12 ⊢
          go_wp2_with fail
          refine (hbk _).mono ?_
          rintro e w2 ⟨rfl, rfl⟩
          clear hbk
          by_cases h2 : (33554432 : Int) < 1024 + (acc.length : Int) + 512 + 512 * ((q : Int) / 512)
          · have HB2 := Lib.hid (show wrBad acc.length m = 5 by
              unfold wrBad
              rw [if_neg (by rw [HX.out, HX0.out]; simp), if_neg (by rw [HSZ.out]; simp), HQ.out, if_pos (by omega)])
            go_wp2_with fail
            go_ret3
            exact ⟨congrArg Ending.returned (wrV_bad HG.out HB2.out (by decide)).symm, HB1'.out⟩
          · have HB2 := Lib.hid (show wrBad acc.length m = 0 by
              unfold wrBad
              rw [if_neg (by rw [HX.out, HX0.out]; simp), if_neg (by rw [HSZ.out]; simp), HQ.out, if_neg (by omega)])
            have hq9 : (acc.length : Int) + 512 + (q : Int) ≤ 33553408 := by omega
            have hel : (encOf m.hdr).length = 512 := encOf_length (by rw [HX.out, HX0.out])
            have hqs : (m.data.size : Int) ≤ (q : Int) := by rw [← HQ.out]; have := whole_le m.data.size; omega
            have HMB := Lib.hid (show ((acc ++ encOf m.hdr) ++ m.data.data.toList) ++ List.replicate (Go.Proofs.YthpmocfdnoehoaaGreatDoor.whole m.data.size - m.data.size) 0 = acc ++ memBytes m by unfold memBytes; simp only [List.append_assoc])
            have hmbl : ((acc ++ memBytes m).length : Int) = (acc.length : Int) + 512 + (q : Int) := by
              have hd : m.data.data.toList.length = m.data.size := rfl
              have := HQ.out
              unfold memBytes
              rw [List.length_append, List.length_append, List.length_append, hel, List.length_replicate, hd]
              omega
            have HMBL := Lib.hid hmbl
            have HEL := Lib.hid hel
            clear hmbl hel
            go_wp2_with fail
            refine (added_any w.heap.size acc _ ⟨(encOf m.hdr).toArray⟩ w1' HO2.out HB1'.out.size (by show (acc.length : Int) + ((encOf m.hdr).toArray.size : Int) ≤ _; rw [List.size_toArray, HEL.out]; omega)).mono ?_
            rintro e w2 ⟨v2, rfl, ho2, hb2⟩
            have HO3 := Lib.hid (show OwnB w.heap.size (acc ++ encOf m.hdr) v2 w2 from ho2)
            have HB3 := Lib.hid (HB1'.out.trans hb2)
            have d12 : w2.cell? ⟨b, off + k * 13 + 12, none⟩ = some (.string m.data) := row_cell (HRW.out w2 HB3.out) (j := 12) (by decide) rfl
            clear ho2 hb2 HO2 HB1' e4 e12
            have hdl : m.data.data.toList.length = m.data.size := rfl
            go_wp2_with fail
            refine (added_any w.heap.size _ _ m.data w2 HO3.out HB3.out.size (by rw [List.length_append, HEL.out]; omega)).mono ?_
            rintro e w3 ⟨v3, rfl, ho3, hb3⟩
            have HO4 := Lib.hid ho3
            have HB4 := Lib.hid (HB3.out.trans hb3)
            have e12 : w3.cell? ⟨b, off + k * 13 + 12, none⟩ = some (.string m.data) := row_cell (HRW.out w3 HB4.out) (j := 12) (by decide) rfl
            clear ho3 hb3 HO3 HB3 d12
            go_wp2_with fail
            refine (filled_any m.data w3 (by omega)).mono ?_
            rintro e w4 ⟨rfl, hb4⟩
            have HO5 := Lib.hid (HO4.out.keep hb4)
            have HB5 := Lib.hid (HB4.out.trans (hb4.mono HB4.out.size))
            clear hb4 HO4 HB4 e12
            go_wp2_with fail
            refine (added_any w.heap.size _ _ ⟨(List.replicate (Go.Proofs.YthpmocfdnoehoaaGreatDoor.whole m.data.size - m.data.size) 0).toArray⟩ w4 HO5.out HB5.out.size (by rw [List.length_append, List.length_append, HEL.out]; show _ + (((List.replicate (Go.Proofs.YthpmocfdnoehoaaGreatDoor.whole m.data.size - m.data.size) (0 : UInt8)).toArray.size : Nat) : Int) ≤ _; rw [List.size_toArray, List.length_replicate, HQ.out]; omega)).mono ?_
            rintro e w5 ⟨v5, rfl, ho5, hb5⟩
            have HO6 := Lib.hid (show OwnB w.heap.size (acc ++ memBytes m) v5 w5 by rw [← HMB.out]; exact ho5)
            have HB6 := Lib.hid (HB5.out.trans hb5)
            clear ho5 hb5 HO5 HB5 hdl
            go_wp2_with fail
            refine ⟨⟨k + 1, acc ++ memBytes m, by omega, by rw [Int.natCast_add]; rfl, ?_, by rw [HMBL.out]; exact hq9, HO6, HB6, ?_⟩, by simp [intOf]; omega⟩
            · rw [HMBL.out]
              exact congrArg (Value.int .i64) (by omega)
            · show wrGo l 0 [] = _
              rw [HG.out, wrGo, if_neg (by rw [HB2.out]; simp)]
        · have hne : (m.hdr.size != (m.data.size : Int)) = true := by simpa using h1
          have H1 := Lib.hid h1
          clear h1
          go_wp2_with fail
          go_region
          go_wp2_with fail
          go_ret3
          exact ⟨congrArg Ending.returned (wrV_bad HG.out (show wrBad acc.length m = 1 by rw [wrBad, if_neg (by rw [HX.out, HX0.out]; simp), if_pos H1.out]) (by decide)).symm, HB1.out.drew⟩
      · rw [if_neg h0]
        have H0 := Lib.hid h0
        have hne : (x != 0) = true := by simpa using h0
        clear h0
        go_wp2_with fail
        go_ret3
        exact ⟨congrArg Ending.returned (wrV_bad HG.out (show wrBad acc.length m = x by rw [wrBad, if_pos (by rw [HX.out]; exact H0.out), HX.out]) H0.out).symm, HB1.out⟩
    · have ed : l.drop k = [] := List.drop_eq_nil_of_le (by have := HN.out; omega)
      have HG := Lib.hid (show wrGo l 0 [] = (0, 0, acc ++ List.replicate 1024 0) by rw [hgo.out, ed, wrGo])
      have hF : ∀ w1 : World, Calls Tryz.prog 22 #[.string ⟨#[]⟩, .int .i64 1024] w1 fun e w' => e = .returned (.string ⟨(filledOf [] 1024).toArray⟩) ∧ Below w1.heap.size w1 w' := fun w1 => Filled_any ⟨#[]⟩ 1024 w1 (by decide)
      rw [filledOf_nil] at hF
      obtain ⟨Z, hZ⟩ : ∃ Z : Bs, List.replicate 1024 0 = Z := ⟨_, rfl⟩
      have hzl : Z.length = 1024 := by rw [← hZ, List.length_replicate]
      rw [hZ] at hF HG
      clear hZ ed hgo
      go_wp2_with fail
      refine (hF _).mono ?_
      rintro e w1 ⟨rfl, hb1⟩
      have HO1 := Lib.hid (hown.out.keep hb1)
      have HB1 := Lib.hid (hbel.out.trans (hb1.mono hbel.out.size))
      clear hb1 hF hown hbel
      go_wp2_with fail
      refine (added_any w.heap.size acc _ ⟨Z.toArray⟩ w1 HO1.out HB1.out.size (by show (acc.length : Int) + (Z.toArray.size : Int) ≤ _; rw [List.size_toArray, hzl]; omega)).mono ?_
      rintro e w2 ⟨v2, rfl, ho2, hb2⟩
      have HO2 := Lib.hid (show OwnB w.heap.size (acc ++ Z) v2 w2 from ho2)
      have HB2 := Lib.hid (HB1.out.trans hb2)
      have hc := HO2.out.conv
      clear ho2 hb2 HO1 HB1
      go_wp2_with fail
      go_ret3
      exact ⟨congrArg Ending.returned (show _ = wrV (wrGo l 0 []) by rw [HG.out]; rfl), HB2.out⟩
end Go.Proofs.YthpmocfdnoehoaaGreatDoor
