/- The walk of ArchiveBack. -/
import Derived.Test.YthpmocfdnoehoaaDoorCut
namespace Go.Proofs.YthpmocfdnoehoaaDoor
open Go.RowKit
theorem blocks_any (n : Nat) (w : World) (h : (n : Int) ≤ 9223372036854774784) : Calls Tryd.prog 8 #[.int .i64 n] w fun e w' => e = .returned (.int .i64 ((Go.Proofs.YthpmocfdnoehoaaDoor.whole n / 512 : Nat) : Int)) ∧ w = w' := by
  cases h0 : ((n : Int) % 512 == 0)
  all_goals
    go_enter Tryd.func8, Tryd.ntmps8
    go_wp2_with fail
    go_ret
    refine ⟨ret_int ?_, rfl⟩
    first
      | rw [beq_iff_eq] at h0
      | rw [beq_eq_false_iff_ne] at h0
    unfold whole
    omega
theorem arc_take {l : List Mem} {k : Nat} {m : Mem} (h : l[k]? = some m) (hm : MemOk m) : (arcOf (l.take (k + 1))).length = (arcOf (l.take k)).length + 512 + Go.Proofs.YthpmocfdnoehoaaDoor.whole m.data.size := by
  have e : l.take (k + 1) = l.take k ++ [m] := by rw [List.take_add_one, h]; rfl
  unfold arcOf
  rw [e, List.flatMap_append, List.length_append, List.length_append, List.length_append, List.flatMap_cons, List.flatMap_nil, List.append_nil, memBytes_length hm]
  omega
theorem arc_take_le {l : List Mem} (k : Nat) : (arcOf (l.take k)).length ≤ (arcOf l).length := by
  have e : l = l.take k ++ l.drop k := (List.take_append_drop k l).symm
  conv => rhs; rw [e]
  unfold arcOf
  rw [List.flatMap_append, List.length_append, List.length_append, List.length_append]
  omega
set_option maxHeartbeats 3200000 in
set_option maxRecDepth 100000 in
theorem back_no (l : List Mem) (p : Option Addr) (cap : Nat) (w : World) (hM : MemsAt w p l) (hn : l.length * 144 ≤ 140737488355328) (hs : ∀ m ∈ l, m.small) (hG : ErrT w) (x : Int) (i : Nat) (b : Bs) (h : wrGo l 0 [] = (x, i, b)) (h0 : x ≠ 0) :
    Calls Tryd.prog 3 #[.slice p l.length cap] w fun e w' => e = .returned (.bool true) ∧ Below w.heap.size w w' := by
  have hcp := copy_any l p cap w hM hn
  have hwr := fun q c w1 (hM1 : MemsAt w1 q l) => write_no l q c w1 hM1 (by omega) hs x i b h h0
  unfold faultV at hwr
  have HG := Lib.hid hG
  clear hM hs h h0 hn hG
  go_enter Tryd.func3, Tryd.ntmps3
  go_wp2_with fail
  refine hcp.mono ?_
  rintro e w1 ⟨v, rfl, ho, hb1⟩
  obtain ⟨q, c, rfl, hm, _, _⟩ := ho.at
  have h2 := hwr q c w1 hm
  have HB1 := Lib.hid hb1
  clear hcp hwr ho hm hb1
  go_wp2_with fail
  refine h2.mono ?_
  rintro e w2 ⟨rfl, hb2⟩
  have HB2 := Lib.hid (HB1.out.trans (hb2.mono HB1.out.size))
  clear h2 hb2
  go_wp2_with fail
  refine (works_any _ (HG.out.below HB2.out HG.out.2)).mono ?_
  rintro e w3 ⟨rfl, hb3⟩
  have HB3 := Lib.hid (HB2.out.trans (hb3.mono HB2.out.size))
  go_wp2_with fail
  go_ret
  exact ⟨rfl, HB3.out⟩
theorem MemsAt.below {w w' : World} {p : Option Addr} {l : List Mem} (h : MemsAt w p l) (hb : Below w.heap.size w w') : MemsAt w' p l := by
  refine ⟨fun i hi => ?_, fun b off hp i m hm j hj => ?_⟩
  · obtain ⟨b, off, hp, hlt⟩ := h.1 i hi
    exact ⟨b, off, hp, Nat.lt_of_lt_of_le hlt hb.size⟩
  · obtain ⟨b', off', hp', hlt⟩ := h.1 i (List.getElem?_eq_some_iff.1 hm).1
    rw [hp] at hp'
    cases hp'
    exact (hb.cell (p := ⟨b, off + (i * 13 + j), none⟩) hlt).trans (h.2 b off hp i m hm j hj)
set_option maxHeartbeats 3200000 in
set_option maxRecDepth 100000 in
theorem back_yes (l : List Mem) (p : Option Addr) (cap : Nat) (w : World) (hM : MemsAt w p l) (hn : l.length * 144 ≤ 140737488355328) (hs : ∀ m ∈ l, m.small) (hG : ErrT w) (h0 : (wrGo l 0 []).1 = 0) :
    Calls Tryd.prog 3 #[.slice p l.length cap] w fun e w' => e = .returned (.bool true) ∧ Below w.heap.size w w' := by
  obtain ⟨S, hS⟩ : ∃ S : ByteArray, S.data.toList = arcOf l := ⟨⟨(arcOf l).toArray⟩, rfl⟩
  have hok := (wrGo_fst l 0 [] h0).2.1
  have hz1 := read_small hok h0
  have hSl : S.size = (arcOf l).length := by rw [← hS]; rfl
  have hcp := copy_any l p cap w hM hn
  have hwr := fun q c w1 (hM1 : MemsAt w1 q l) => write_arc l q c w1 hM1 (by omega) hs h0 S hS
  have hrd := fun w1 => read_arc l hok S hS (by omega) w1
  have hsame := fun q c w1 (h1 : MemsAt w1 q l) (h2 : MemsAt w1 p l) => same_any l q p c cap w1 h1 h2 (by omega)
  obtain ⟨n, hnl⟩ : ∃ n, l.length = n := ⟨_, rfl⟩
  have HOK := Lib.hid hok
  have HM := Lib.hid hM
  have HG := Lib.hid hG
  have HSL := Lib.hid hSl
  have HZ := Lib.hid hz1
  have HNL := Lib.hid hnl
  rw [hnl] at hcp hwr hsame hn ⊢
  clear hM hs h0 hG hok hz1 hSl hS hnl
  go_enter Tryd.func3, Tryd.ntmps3
  go_wp2_with fail
  refine hcp.mono ?_
  rintro e w1 ⟨v, rfl, ho, hb1⟩
  obtain ⟨q, c, rfl, hm, _, _⟩ := ho.at
  rw [HNL.out]
  have h2 := hwr q c w1 hm
  have HB1 := Lib.hid hb1
  clear hcp ho hm hb1
  go_wp2_with fail
  refine h2.mono ?_
  rintro e w2 ⟨rfl, hb2⟩
  have HB2 := Lib.hid (HB1.out.trans (hb2.mono HB1.out.size))
  clear h2 hb2
  go_wp2_with fail
  go_loopw [5, 6] (fun sv iv wr => ∃ k : Nat, k ≤ n ∧ iv = .int .i64 k ∧ sv = .int .i64 ((arcOf (l.take k)).length : Int) ∧ Hid (Below w.heap.size w wr)) (fun _ iv _ => n - (intOf iv).toNat)
  case atStart => exact ⟨0, Nat.zero_le _, rfl, rfl, HB2.out⟩
  case round =>
    obtain ⟨k, hk, rfl, rfl, hbel⟩ := hrel
    by_cases hlt : k < n
    · obtain ⟨m, hm⟩ : ∃ m, l[k]? = some m := ⟨_, List.getElem?_eq_getElem (i := k) (by have := HNL.out; omega)⟩
      have hmo := HOK.out m (List.mem_of_getElem? hm)
      have hat := arc_take hm hmo
      have hle := arc_take_le (l := l) (k + 1)
      obtain ⟨b, off, rfl, hb⟩ := HM.out.1 k (by have := HNL.out; omega)
      have hrow : ∀ j, j < 13 → wr.cell? ⟨b, off + (k * 13 + j), none⟩ = m.cells[j]? := fun j hj => (hbel.out.cell (p := ⟨b, off + (k * 13 + j), none⟩) hb).trans (HM.out.2 b off rfl k m hm j hj)
      have c12 := row_cell hrow (j := 12) (by decide) rfl
      obtain ⟨A, hA⟩ : ∃ A, (arcOf (l.take k)).length = A := ⟨_, rfl⟩
      obtain ⟨A', hA'⟩ : ∃ A', (arcOf (l.take (k + 1))).length = A' := ⟨_, rfl⟩
      rw [hA, hA'] at hat
      rw [hA'] at hle
      rw [hA]
      have hwl := whole_le m.data.size
      obtain ⟨Q, hQ⟩ : ∃ Q, Go.Proofs.YthpmocfdnoehoaaDoor.whole m.data.size = Q := ⟨_, rfl⟩
      have hq5 : Q / 512 * 512 = Q := by rw [← hQ]; unfold whole; omega
      rw [hQ] at hat hwl
      have hz := HZ.out
      have hA8 : (A' : Int) ≤ 33554432 := by omega
      have hbk := fun w1 => blocks_any m.data.size w1 (by omega)
      rw [hQ] at hbk
      have HA' := Lib.hid hA'
      have hat' : (A' : Int) = (A : Int) + 512 + (Q : Int) := by omega
      have hq6 : 512 * ((Q / 512 : Nat) : Int) = (Q : Int) := by omega
      have hdz : (m.data.size : Int) ≤ 33554432 := by omega
      clear hm hmo hrow hA hA' hQ hz hle hat hq5 hwl
      go_wp2_with fail
      refine (hbk _).mono ?_
      rintro e w3 ⟨rfl, rfl⟩
      clear hbk c12
      go_wp2_with fail
      exact ⟨⟨k + 1, by omega, by rw [Int.natCast_add]; rfl, by rw [HA'.out]; exact congrArg (Value.int .i64) (by omega), hbel⟩, by simp [intOf]; omega⟩
    · have e : l.take k = l := List.take_of_length_le (by have := HNL.out; omega)
      rw [e, ← HSL.out]
      have hsz : (S.size : Int) ≤ 33554432 := by have := HZ.out; have := HSL.out; omega
      clear e
      go_wp2_with fail
      refine (hrd _).mono ?_
      rintro e w3 ⟨v, rfl, ho, hb3⟩
      obtain ⟨q3, c3, rfl, hm3, _, _⟩ := ho.at
      rw [HNL.out]
      have h3 := hwr q3 c3 w3 hm3
      have HB3 := Lib.hid (hbel.out.trans (hb3.mono hbel.out.size))
      have HM3 := Lib.hid hm3
      clear hrd hwr ho hm3 hb3 hbel
      go_wp2_with fail
      refine h3.mono ?_
      rintro e w4 ⟨rfl, hb4⟩
      have HB4 := Lib.hid (HB3.out.trans (hb4.mono HB3.out.size))
      have h4 := hsame q3 c3 w4 (HM3.out.below hb4) (HM.out.below HB4.out)
      clear h3 hb4 HB3 HM3 hsame
      go_wp2_with fail
      refine h4.mono ?_
      rintro e w5 ⟨rfl, hb5⟩
      have HB5 := Lib.hid (HB4.out.trans (hb5.mono HB4.out.size))
      clear h4 hb5 HB4
      go_wp2_with fail
      refine (works_any _ (HG.out.below HB5.out HG.out.2)).mono ?_
      rintro e w6 ⟨rfl, hb6⟩
      have HB6 := Lib.hid (HB5.out.trans (hb6.mono HB5.out.size))
      clear hb6 HB5
      go_wp2_with fail
      go_ret
      exact ⟨rfl, HB6.out⟩
theorem back_any (l : List Mem) (p : Option Addr) (cap : Nat) (w : World) (hM : MemsAt w p l) (hn : l.length * 144 ≤ 140737488355328) (hs : ∀ m ∈ l, m.small) (hG : ErrT w) :
    Calls Tryd.prog 3 #[.slice p l.length cap] w fun e w' => e = .returned (.bool true) ∧ Below w.heap.size w w' := by
  by_cases h0 : (wrGo l 0 []).1 = 0
  · exact back_yes l p cap w hM hn hs hG h0
  · exact back_no l p cap w hM hn hs hG _ _ _ rfl h0
end Go.Proofs.YthpmocfdnoehoaaDoor
