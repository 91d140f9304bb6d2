/- Contracts of archive.piece, empty, end: blocks of an archive's bytes. -/
import Derived.Test.YthpmocfdnoehoaaGreatDoorSmall
import Derived.Test.YthpmocfdnoehoaaGreatDoorWorld
namespace Go.Proofs.YthpmocfdnoehoaaGreatDoor
open Go.RowKit
/-- The bytes l lie in block b, from its first cell on. -/
def ByAt (w : World) (b : Nat) (l : Bs) : Prop := b < w.heap.size ∧ ∀ (i : Nat) (x : UInt8), l[i]? = some x → w.cell? ⟨b, i, none⟩ = some (byteV x)
theorem ByAt.keep {w w' : World} {b : Nat} {l : Bs} (h : ByAt w b l) {B : Nat} (hb : Below B w w') (hB : b < B) : ByAt w' b l :=
  ⟨Nat.lt_of_lt_of_le h.1 hb.size, fun i x hx => (hb.cell (p := ⟨b, i, none⟩) hB).trans (h.2 i x hx)⟩
/-- Are the 512 bytes from a place on all 0? -/
def zeroAt (l : Bs) (i : Nat) : Bool := ((l.drop i).take 512).all (· == 0)
set_option maxHeartbeats 400000 in
set_option maxRecDepth 100000 in
theorem piece_no (b n cap : Nat) (at' : Int) (w : World) (h0 : 0 ≤ at') (h1 : at' ≤ 1152921504606846975) (hn : n ≤ 1152921504606846975) (h : (n : Int) < at' + 512) :
    Calls Tryz.prog 60 #[.slice (some ⟨b, 0, none⟩) n cap, .int .i64 at'] w fun e w' => e = .returned (.tuple #[.slice none 0 0, .bool false]) ∧ w = w' := by
  have h2 : (n : Int) - at' < 512 := by omega
  go_enter Tryz.func60, Tryz.ntmps60
  go_wp2_with fail
  go_ret2
  exact ⟨rfl, rfl⟩
set_option maxHeartbeats 400000 in
set_option maxRecDepth 100000 in
theorem piece_yes (b n cap k : Nat) (w : World) (hn : n ≤ 1152921504606846975) (hc : n ≤ cap) (hc2 : cap ≤ 9223372036854775807) (h : k + 512 ≤ n) :
    Calls Tryz.prog 60 #[.slice (some ⟨b, 0, none⟩) n cap, .int .i64 k] w fun e w' => e = .returned (.tuple #[.slice (some ⟨b, k, none⟩) 512 512, .bool true]) ∧ w = w' := by
  have h2 : ¬ (n : Int) - k < 512 := by omega
  go_enter Tryz.func60, Tryz.ntmps60
  go_wp2_with fail
  go_ret2
  exact ⟨rfl, rfl⟩
set_option maxHeartbeats 400000 in
set_option maxRecDepth 100000 in
theorem empty_any (b k : Nat) (l : Bs) (w : World) (hb : ByAt w b l) (hk : k + 512 ≤ l.length) :
    Calls Tryz.prog 61 #[.slice (some ⟨b, k, none⟩) 512 512] w fun e w' => e = .returned (.bool (zeroAt l k)) ∧ w = w' := by
  have HB := Lib.hid hb.2
  have HK := Lib.hid hk
  clear hb hk
  go_enter Tryz.func61, Tryz.ntmps61
  go_wp2_with fail
  go_loop [7] (fun iv => ∃ j : Nat, j ≤ 512 ∧ iv = .int .i64 j ∧ Hid (((l.drop k).take j).all (· == 0) = true)) (fun iv => 512 - (intOf iv).toNat)
  case atStart => exact ⟨0, by omega, rfl, rfl⟩
  case round =>
    obtain ⟨j, hj, rfl, hall⟩ := hrel
    by_cases hlt : j < 512
    · obtain ⟨x, hx⟩ : ∃ x, l[k + j]? = some x := ⟨_, List.getElem?_eq_getElem (i := k + j) (by have := HK.out; omega)⟩
      have hcell : w.cell? ⟨b, k + j, none⟩ = some (.int .u8 (x.toNat : Int)) := HB.out _ _ hx
      have hsn : (l.drop k).take (j + 1) = (l.drop k).take j ++ [x] := by
        rw [List.take_add_one, List.getElem?_drop, hx]; rfl
      have HX := Lib.hid hx
      have HN := Lib.hid hsn
      clear hx hsn
      by_cases h0 : x = 0
      · subst h0
        go_wp2_with fail
        go_round
        case rel => exact ⟨j + 1, by omega, by go_num, by show _ = true; rw [HN.out, List.all_append, hall.out]; rfl⟩
        case measure => simp [intOf]; omega
      · have hne : ((x.toNat : Int) != 0) = true := by
          rw [bne_iff_ne]
          intro e
          exact h0 (UInt8.toNat_inj.1 (by simpa using e))
        have H0 := Lib.hid h0
        clear h0
        go_wp2_with fail
        go_ret
        refine ⟨?_, rfl⟩
        have : zeroAt l k = false := by
          unfold zeroAt
          rw [List.all_eq_false]
          refine ⟨x, ?_, by simpa using H0.out⟩
          rw [List.mem_iff_getElem?]
          exact ⟨j, by rw [List.getElem?_take, if_pos hlt, List.getElem?_drop]; exact HX.out⟩
        rw [this]; rfl
    · go_wp2_with fail
      go_ret
      refine ⟨?_, rfl⟩
      have : zeroAt l k = true := by
        unfold zeroAt
        have := hall.out
        rwa [show j = 512 from by omega] at this
      rw [this]; rfl
/-- What stands behind the first block of bytes 0: the error and its place; 0: none. -/
def endGo (l : Bs) : Nat → Nat → Int × Nat
  | 0, _ => (0, 0)
  | f + 1, i => if l.length < i + 512 then (2, i) else if zeroAt l i = false then (3, i) else if l.length ≤ i + 512 then (0, 0) else endGo l f (i + 512)
/-- A bool as a number. -/
def bv : Value → Nat
  | .bool true => 1
  | _ => 0
def endV (x : Int × Nat) : Value := if x.1 = 0 then .nilIface else faultV x.1 0 x.2
set_option maxHeartbeats 800000 in
set_option maxRecDepth 100000 in
theorem end_any (b k cap : Nat) (l : Bs) (w : World) (hb : ByAt w b l) (hl : l.length ≤ 1152921504606846975) (hc : l.length ≤ cap) (hc2 : cap ≤ 9223372036854775807) (hk : k ≤ l.length) :
    Calls Tryz.prog 62 #[.slice (some ⟨b, 0, none⟩) l.length cap, .int .i64 (k : Nat)] w fun e w' => e = .returned (endV (endGo l (l.length + 1) k)) ∧ w = w' := by
  have HB := Lib.hid hb
  obtain ⟨n, hn⟩ : ∃ n, l.length = n := ⟨_, rfl⟩
  obtain ⟨R, hR⟩ : ∃ R, endV (endGo l (l.length + 1) k) = R := ⟨_, rfl⟩
  rw [hR]
  rw [hn] at hR hl hc hk ⊢
  have HN := Lib.hid hn
  have HR := Lib.hid hR
  clear hb hn hR
  go_enter Tryz.func62, Tryz.ntmps62
  go_wp2_with fail
  go_loop [1, 5] (fun av fv => ∃ (i f : Nat) (first : Bool), i ≤ n ∧ av = .int .i64 i ∧ fv = .bool first ∧ n < i + f ∧ Hid ((first = true ∨ i < n) → endV (endGo l f i) = R) ∧ Hid ((first = false ∧ ¬ i < n) → R = .nilIface)) (fun av fv => 2 * (n - (intOf av).toNat) + bv fv)
  case atStart => exact ⟨k, n + 1, true, hk, rfl, rfl, by omega, fun _ => HR.out, fun h => by cases h.1⟩
  case round =>
    obtain ⟨i, f, first, hi, rfl, rfl, hf, h1, h2⟩ := hrel
    by_cases hgo : first = true ∨ i < n
    · obtain ⟨f', rfl⟩ : ∃ f', f = f' + 1 := ⟨f - 1, by omega⟩
      have h1 := h1.out hgo
      rw [endGo, HN.out] at h1
      by_cases hs : n < i + 512
      · rw [if_pos hs] at h1
        have H1 := Lib.hid h1
        clear h1 h2
        cases first with
        | true =>
          go_wp2_with fail
          refine (piece_no b n cap i _ (by omega) (by omega) hl (by omega)).mono ?_
          rintro e w1 ⟨rfl, rfl⟩
          go_wp2_with fail
          go_ret
          exact ⟨by rw [← H1.out]; rfl, rfl⟩
        | false =>
          have hin : i < n := by rcases hgo with h | h; cases h; exact h
          clear hgo
          go_wp2_with fail
          refine (piece_no b n cap i _ (by omega) (by omega) hl (by omega)).mono ?_
          rintro e w1 ⟨rfl, rfl⟩
          go_wp2_with fail
          go_ret
          exact ⟨by rw [← H1.out]; rfl, rfl⟩
      · rw [if_neg hs] at h1
        have hib : i + 512 ≤ n := by omega
        have hie : ((i : Int) < n) = ((i : Int) < n) := rfl
        cases hz : zeroAt l i with
        | false =>
          rw [if_pos hz] at h1
          have H1 := Lib.hid h1
          have HZ := Lib.hid hz
          clear h1 h2 hz hie
          cases first with
          | true =>
            go_wp2_with fail
            refine (piece_yes b n cap i _ hl hc hc2 hib).mono ?_
            rintro e w1 ⟨rfl, rfl⟩
            go_wp2_with fail
            refine (empty_any b i l _ HB.out (by rw [HN.out]; exact hib)).mono ?_
            rintro e w1 ⟨rfl, rfl⟩
            rw [HZ.out]
            go_wp2_with fail
            go_ret
            exact ⟨by rw [← H1.out]; rfl, rfl⟩
          | false =>
            have hin : i < n := by omega
            clear hgo
            go_wp2_with fail
            refine (piece_yes b n cap i _ hl hc hc2 hib).mono ?_
            rintro e w1 ⟨rfl, rfl⟩
            go_wp2_with fail
            refine (empty_any b i l _ HB.out (by rw [HN.out]; exact hib)).mono ?_
            rintro e w1 ⟨rfl, rfl⟩
            rw [HZ.out]
            go_wp2_with fail
            go_ret
            exact ⟨by rw [← H1.out]; rfl, rfl⟩
        | true =>
          rw [if_neg (by rw [hz]; simp)] at h1
          have HZ := Lib.hid hz
          have H1 := Lib.hid h1
          clear h1 h2 hz hie
          cases first with
          | true =>
            go_wp2_with fail
            refine (piece_yes b n cap i _ hl hc hc2 hib).mono ?_
            rintro e w1 ⟨rfl, rfl⟩
            go_wp2_with fail
            refine (empty_any b i l _ HB.out (by rw [HN.out]; exact hib)).mono ?_
            rintro e w1 ⟨rfl, rfl⟩
            rw [HZ.out]
            go_wp2_with fail
            go_round
            case rel =>
              refine ⟨i + 512, f', false, hib, by go_num, rfl, by omega, ?_, ?_⟩
              · intro h
                have h3 : i + 512 < n := by rcases h with h | h; cases h; exact h
                have := H1.out
                rwa [if_neg (by omega)] at this
              · intro h
                have := H1.out
                rw [if_pos (by omega)] at this
                exact this.symm
            case measure => simp [intOf, bv]; omega
          | false =>
            have hin : i < n := by omega
            clear hgo
            go_wp2_with fail
            refine (piece_yes b n cap i _ hl hc hc2 hib).mono ?_
            rintro e w1 ⟨rfl, rfl⟩
            go_wp2_with fail
            refine (empty_any b i l _ HB.out (by rw [HN.out]; exact hib)).mono ?_
            rintro e w1 ⟨rfl, rfl⟩
            rw [HZ.out]
            go_wp2_with fail
            go_round
            case rel =>
              refine ⟨i + 512, f', false, hib, by go_num, rfl, by omega, ?_, ?_⟩
              · intro h
                have h3 : i + 512 < n := by rcases h with h | h; cases h; exact h
                have := H1.out
                rwa [if_neg (by omega)] at this
              · intro h
                have := H1.out
                rw [if_pos (by omega)] at this
                exact this.symm
            case measure => simp [intOf, bv]; omega
    · have hff : first = false := by cases first with | true => exact absurd (.inl rfl) hgo | false => rfl
      subst hff
      have hin : ¬ i < n := fun h => hgo (.inr h)
      have hR := h2.out ⟨rfl, hin⟩
      subst hR
      clear h1 h2 hgo
      go_wp2_with fail
      go_ret
      exact ⟨rfl, rfl⟩
end Go.Proofs.YthpmocfdnoehoaaGreatDoor
