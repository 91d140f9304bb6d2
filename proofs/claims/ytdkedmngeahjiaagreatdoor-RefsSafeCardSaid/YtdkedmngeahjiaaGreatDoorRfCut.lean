/- Contract of the reference's cut. -/
import Derived.Test.YtdkedmngeahjiaaGreatDoorRfTag
import Derived.Test.YtdkedmngeahjiaaGreatDoorRowC
import Derived.Test.YtdkedmngeahjiaaGreatDoorList
namespace Go.Proofs.YtdkedmngeahjiaaGreatDoor
open Go Go.RowKit
/-- A text of these bytes. -/
def lV (l : List UInt8) : Value := .string ⟨l.toArray⟩
theorem RowC.put {base : Nat} {l : List Value} {x : Value} {v : Value} {w : World} (h : RowC base (l ++ [x]) v w) : ∃ g cap, v = .slice (some ⟨g, 0, none⟩) (l.length + 1) cap ∧ w.cell? ⟨g, l.length, none⟩ = some x ∧ w.frozen? ⟨g, l.length, none⟩ = false ∧ base ≤ g ∧ g < w.heap.size ∧ l.length + 1 ≤ cap ∧ ∀ u, RowC base (l ++ [u]) v (w.setCell ⟨g, l.length, none⟩ u) := by
  rcases h with ⟨-, h⟩ | ⟨g, cap, rfl, h2, h3, h4, h5, h6, h7, h8⟩
  · exact absurd h (by simp)
  · rw [List.length_append, List.length_singleton] at h4 ⊢
    have hx : w.cell? ⟨g, l.length, none⟩ = some x := h6 _ _ (by rw [List.getElem?_append_right (Nat.le_refl _), Nat.sub_self]; rfl)
    refine ⟨g, cap, rfl, hx, h8 _ (by omega), h2, h3, h4, fun u => .inr ⟨g, cap, by rw [List.length_append, List.length_singleton], h2, ?_, by rw [List.length_append, List.length_singleton]; exact h4, h5, fun j y hj => ?_, fun j hj => ?_, fun j hj => ?_⟩⟩
    · rw [World.size_setCell]; exact h3
    · by_cases hjl : j = l.length
      · subst hjl
        rw [List.getElem?_append_right (Nat.le_refl _), Nat.sub_self] at hj
        cases hj
        exact World.cell?_setCell_same' _ _ _ (by rw [hx]; rfl)
      · rw [show (w.setCell ⟨g, l.length, none⟩ u).cell? ⟨g, j, none⟩ = w.cell? ⟨g, j, none⟩ from by apply World.cell?_setCell_other; intro e; cases e; exact hjl rfl]
        have hjl2 : j < l.length := by
          have := (List.getElem?_eq_some_iff.1 hj).1
          rw [List.length_append, List.length_singleton] at this
          omega
        refine h6 j y ?_
        rw [List.getElem?_append_left hjl2] at hj ⊢
        exact hj
    · by_cases hjl : j = l.length
      · subst hjl
        rw [World.cell?_setCell_same' _ _ _ (by rw [hx]; rfl)]
        rfl
      · rw [show (w.setCell ⟨g, l.length, none⟩ u).cell? ⟨g, j, none⟩ = w.cell? ⟨g, j, none⟩ from by apply World.cell?_setCell_other; intro e; cases e; exact hjl rfl]
        exact h7 j hj
    · rw [World.frozen?_setCell]
      exact h8 j hj
/-- A slice of one element that was just made. -/
theorem rowC_new (w : World) (t : TypeId) (u : Value) (base : Nat) (hb : base ≤ w.heap.size) : RowC base [u] (.slice (some ⟨w.heap.size, 0, none⟩) 1 1) (w.alloc (.cells #[u] t)) := by
  have hh := heap_new w (.cells #[u] t)
  refine .inr ⟨w.heap.size, 1, rfl, hb, blk_lt hh, Nat.le_refl _, by decide, fun j x hj => ?_, fun j hj => ?_, fun j hj => ?_⟩
  · match j, hj with
    | 0, hj => cases hj; exact (cell_of_heapN hh).trans rfl
  · have : j = 0 := by omega
    subst this
    rw [cell_of_heapN hh]
    rfl
  · unfold World.frozen?
    rw [hh]
    simp
theorem pcs_last (c : UInt8) (l : List UInt8) : ∃ a p, pcs c l = a ++ [p] := by
  have h := pcs_ne c l
  exact ⟨(pcs c l).dropLast, (pcs c l).getLast h, (List.dropLast_concat_getLast h).symm⟩
theorem pcs_add {c b : UInt8} {l : List UInt8} {a : List (List UInt8)} {p : List UInt8} (h : pcs c l = a ++ [p]) (hb : ¬ b = c) : pcs c (l ++ [b]) = a ++ [p ++ [b]] := by
  rw [pcs_snoc, if_neg hb, h, List.dropLast_concat, List.getLast?_append]
  rfl
theorem pcs_flat (c : UInt8) : ∀ l : List UInt8, (pcs c l).flatten.length ≤ l.length
  | [] => Nat.le_refl _
  | b :: r => by
    have ih := pcs_flat c r
    unfold pcs
    split
    · rw [List.flatten_cons, List.nil_append, List.length_cons]; omega
    · have hn := pcs_ne c r
      cases hp : pcs c r with
      | nil => exact absurd hp hn
      | cons p q =>
        rw [hp] at ih
        simp only [List.flatten_cons, List.length_append, List.length_cons] at ih ⊢
        omega
theorem new1V (w : World) (u : Value) (t : TypeId) : (w.alloc (.cells #[u] t)).cell? ((⟨w.heap.size, 0, none⟩ : Addr).add 0) = some u := by
  rw [show ((⟨w.heap.size, 0, none⟩ : Addr).add 0) = ⟨w.heap.size, 0, none⟩ by simp [Addr.add]]
  exact cell_of_heapN (heap_new w _)
theorem take_size (s : ByteArray) : s.data.toList.take s.size = s.data.toList := List.take_of_length_le (by rw [Array.length_toList]; exact Nat.le_refl _)
theorem app_one (p : List UInt8) (s : ByteArray) {i : Nat} {b : UInt8} (h : s.data.toList[i]? = some b) : (⟨p.toArray⟩ : ByteArray) ++ s.extract i (i + 1) = ⟨(p ++ [b]).toArray⟩ := by
  refine ByteArray.ext ?_
  rw [ByteArray.data_append, ByteArray.data_extract]
  refine Array.ext' ?_
  rw [Array.toList_append, Array.toList_extract]
  show p ++ List.take (i + 1 - i) (s.data.toList.drop i) = p ++ [b]
  rw [Nat.add_sub_cancel_left, List.take_one, List.head?_drop, h]
  rfl
set_option maxHeartbeats 3200000 in
set_option maxRecDepth 100000 in
theorem rcut_any (s : ByteArray) (c : UInt8) (hs : (s.size : Int) ≤ 1000) (w : World) :
    Calls Tryz.prog 73 #[.string s, .int .u8 c.toNat] w fun e w' => ∃ v, e = .returned v ∧ RowC w.heap.size ((pcs c s.data.toList).map lV) v w' ∧ Below w.heap.size w w' := by
  obtain ⟨i0, hi, hz0, hz1, hz2⟩ := info_parts infoS
  have hls : s.data.toList.length = s.size := Array.length_toList
  go_enter Tryz.func73, Tryz.ntmps73
  have HR0 : Hid (RowC w.heap.size ((pcs c (s.data.toList.take 0)).map lV) (.slice (some ⟨w.heap.size, 0, none⟩) 1 1) (w.alloc (.cells #[.string ⟨#[]⟩] 9))) := Lib.hid (rowC_new w 9 (.string ⟨#[]⟩) w.heap.size (Nat.le_refl _))
  have HB0 : Hid (Below w.heap.size w (w.alloc (.cells #[.string ⟨#[]⟩] 9))) := Lib.hid ((Below.refl _ _).alloc (Nat.le_refl _) _)
  go_wp2_with fail
  go_loopw [5, 6] (fun v iv wr => ∃ i : Nat, (i : Int) ≤ (s.size : Int) ∧ iv = .int .i64 i ∧ Hid (RowC w.heap.size ((pcs c (s.data.toList.take i)).map lV) v wr) ∧ Hid (Below w.heap.size w wr)) (fun _ iv _ => s.size - (intOf iv).toNat)
  case atStart => exact ⟨0, by omega, rfl, HR0, HB0⟩
  case round =>
    obtain ⟨i, hi2, rfl, HR, HB⟩ := hrel
    by_cases hlt : (i : Int) < (s.size : Int)
    · obtain ⟨b, hb, hg⟩ := byte_at (show i < s.size by omega)
      have hg' : s[i]'(show i < s.size by omega) = b := hg _
      have htk : s.data.toList.take (i + 1) = s.data.toList.take i ++ [b] := by rw [List.take_add_one, hb]; rfl
      have hlen : (pcs c (s.data.toList.take i)).length ≤ i + 1 := by
        rw [pcs_len]
        have h1 : (s.data.toList.take i).count c ≤ (s.data.toList.take i).length := List.count_le_length
        rw [List.length_take] at h1
        omega
      have HLEN := Lib.hid hlen
      by_cases hbc : b = c
      · have hq : ((b.toNat : Int) == (c.toNat : Int)) = true := by rw [hbc]; simp
        have hsn : pcs c (s.data.toList.take (i + 1)) = pcs c (s.data.toList.take i) ++ [[]] := by rw [htk, pcs_snoc, if_pos hbc]
        have HSN := Lib.hid hsn
        obtain ⟨p, cap, rfl, -⟩ := HR.out.slice
        have hql : ((pcs c (s.data.toList.take i)).map lV).length ≤ i + 1 := by rw [List.length_map]; exact hlen
        obtain ⟨K, hK⟩ : ∃ K, ((pcs c (s.data.toList.take i)).map lV).length = K := ⟨_, rfl⟩
        rw [hK] at hql HR ⊢
        have HQL := Lib.hid hql
        have HK := Lib.hid hK
        clear hsn htk hlen hb hg hql hK HLEN
        go_wp2_with (at_builtin; refine wpList_appC rfl _ _ 31 rfl w.heap.size 9 i0 (.string ⟨#[]⟩) 16 Tryz.underlying31 hi hz0 hz1 hz2 rfl _ _ rfl (HR.out.keep ((Below.refl _ _).alloc (Nat.le_refl _) _)) (.string ⟨#[]⟩) ⟨wr.heap.size, 0, none⟩ rfl (new1V wr _ _) rfl (by rw [HK.out]; have := HQL.out; unfold maxLen; omega) (by rw [HK.out]; have := HQL.out; omega) (by rw [World.size_alloc]; have := HB.out.size; omega) ?_; intro v1 w7 hr7 hb7; have HR7 := Lib.hid hr7; have HB7 : Hid (Below w.heap.size w w7) := Lib.hid ((HB.out.alloc (by have := HB.out.size; omega) _).trans hb7); clear hr7 hb7)
        refine ⟨⟨i + 1, by omega, by rw [Int.natCast_add]; rfl, Lib.hid ?_, HB7⟩, by simp [intOf]; omega⟩
        rw [HSN.out, List.map_append]
        exact HR7.out
      · have hq : ((b.toNat : Int) == (c.toNat : Int)) = false := beq_eq_false_iff_ne.2 (fun e => hbc (UInt8.toNat_inj.1 (by omega)))
        obtain ⟨a, p, hap⟩ := pcs_last c (s.data.toList.take i)
        have hsn : pcs c (s.data.toList.take (i + 1)) = a ++ [p ++ [b]] := by rw [htk, pcs_add hap hbc]
        have HSN := Lib.hid hsn
        have hR := HR.out
        rw [hap, List.map_append] at hR
        have hal : a.length ≤ i := by rw [hap, List.length_append, List.length_singleton] at hlen; omega
        obtain ⟨g, cap, rfl, hc, hfz, hbg, hgl, hcp, hst⟩ := hR.put
        rw [List.length_map] at hc hfz hcp hst ⊢
        obtain ⟨K, hK⟩ : ∃ K, a.length = K := ⟨_, rfl⟩
        rw [hK] at hal hc hfz hcp hst ⊢
        have HST := Lib.hid hst
        have HBG := Lib.hid hbg
        have HAP := Lib.hid (app_one p s hb)
        have hc2 : wr.cell? ⟨g, K, none⟩ = some (.string ⟨p.toArray⟩) := hc
        have hpl : (⟨p.toArray⟩ : ByteArray).size ≤ 100000 := by
          have h1 : (pcs c (s.data.toList.take i)).flatten.length ≤ (s.data.toList.take i).length := pcs_flat _ _
          rw [hap, List.flatten_append, List.length_append] at h1
          have h2 : p.length ≤ [p].flatten.length := by simp
          have h3 : (s.data.toList.take i).length ≤ i := by rw [List.length_take]; omega
          show p.length ≤ _
          omega
        obtain ⟨T, hT⟩ : ∃ T : ByteArray, T = ⟨p.toArray⟩ := ⟨_, rfl⟩
        rw [← hT] at hc2 hpl
        have HT := Lib.hid hT
        clear hT hap hsn htk hlen hb hg hR HR hst hbg hc hgl
        go_wp2_with fail
        go_region
        go_wp2_with fail
        refine ⟨⟨i + 1, by omega, by rw [Int.natCast_add]; rfl, Lib.hid ?_, Lib.hid ?_⟩, by simp [intOf]; omega⟩
        · rw [HSN.out, List.map_append, HT.out, HAP.out]
          exact HST.out _
        · first | exact HB.out.drew.setCell (p := ⟨g, K, none⟩) HBG.out _ | exact HB.out.setCell (p := ⟨g, K, none⟩) HBG.out _
    · obtain rfl : i = s.size := by omega
      go_wp2_with fail
      go_ret
      exact ⟨_, rfl, by rw [← take_size s]; exact HR.out, HB.out⟩
end Go.Proofs.YtdkedmngeahjiaaGreatDoor
