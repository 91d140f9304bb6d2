/- Texts among the arguments: read as data, and as they lie in memory; a number among the arguments. -/
import Derived.Test.YtdkedmngeahjiaaGreatDoorOpenRow
import Derived.Test.YtdkedmngeahjiaaGreatDoorM38
namespace Go.Proofs.YtdkedmngeahjiaaGreatDoor
open Go.ChangeShapes Go.WideShapes Go.RowKit Go.Deep
section
variable {H : Type} {enc : TypeId × Value → H} {w : World} {held : Bool}
theorem tx_ln1 {α : Type} {l : List α} (h : l.length = 1) : ∃ a0, l = [a0] := by
  match l, h with
  | [a0], _ => exact ⟨_, rfl⟩
set_option maxRecDepth 100000 in
theorem open_num {v : Value} {d : DataW H} {ps : List MemPlace} {r : Reach} {b0 : Nat} (hv : Value.okWide Tryz.prog w r b0 3 v) (h : DataW.Trod enc Tryz.prog w 0 (fun _ => true) held 3 v d ps) :
    ∃ x : Int, v = .int .i64 x ∧ -9223372036854775808 ≤ x ∧ x ≤ 9223372036854775807 := by
  obtain ⟨fuel, hf⟩ := h
  obtain ⟨x, rfl⟩ := okWide_int Tryz.underlying3 hv
  obtain ⟨s, h1, h2, h3⟩ := DataW.trod_int Tryz.underlying3 hf
  have h1 : [Value.int .i64 x] = [.int .i64 s] := h1
  obtain rfl : x = s := by simpa using h1
  simp only [Lit.wf, Bool.and_eq_true, decide_eq_true_eq] at h3
  exact ⟨x, rfl, h3⟩
theorem open_texts {n : Nat} {v : Value} {x : DataW H × List MemPlace} (h : DataW.trod enc Tryz.prog w 0 (fun _ => true) held n 31 [v] = some x) :
    ∃ (p : Option Addr) (cap : Nat) (l : List ByteArray), v = .slice p l.length cap ∧ TextsRd w (.slice p l.length cap) l ∧ ((∀ k ∈ x.1.weights Tryz.prog 31, k ≤ 140737488351232) → l.length ≤ 8800000000000 ∧ ∀ s ∈ l, s.size ≤ 140737488351232) := by
  obtain ⟨len, cap, p, D, Pl, n', rfl, hl, hm, hi, hw⟩ := open_row 1 16 Tryz.underlying31 (by kernel_rfl) (by kernel_rfl) (by decide) h
  obtain ⟨F, hF⟩ := choose_lt (α := ByteArray) (n := len) (p := fun i s => (∃ b off, p = some ⟨b, off, none⟩ ∧ b < w.heap.size ∧ w.cell? ⟨b, off + i, none⟩ = some (.string s)) ∧ ((∀ k ∈ (D i).weights Tryz.prog 9, k ≤ 140737488351232) → s.size ≤ 140737488351232)) (fun i hil => by
    obtain ⟨b, off, e, hb, cs, hcl, hc, ht⟩ := hi i hil
    obtain ⟨a0, rfl⟩ := tx_ln1 hcl
    obtain ⟨s, h1, h2, -⟩ := DataW.trod_string Tryz.underlying9 ht
    obtain rfl := (List.cons.inj h1).1
    refine ⟨s, ⟨b, off, e, hb, ?_⟩, fun hB => ?_⟩
    · have := hc 0 (by decide)
      rwa [Nat.mul_one, Nat.add_zero] at this
    · have hD : D i = .lit (.string s.data.toList) := by first | exact h2 | exact congrArg Prod.fst h2
      rw [hD] at hB
      refine hB s.size ?_
      simp only [DataW.weights, List.mem_cons, List.mem_singleton, List.not_mem_nil, or_false]
      rfl)
  have hlen : ((List.range len).map F).length = len := by rw [List.length_map, List.length_range]
  have hget : ∀ {i : Nat} {s : ByteArray}, ((List.range len).map F)[i]? = some s → i < len ∧ F i = s := fun {i s} h => by
    rw [List.getElem?_map] at h
    by_cases hi : i < len
    · rw [List.getElem?_range hi] at h
      exact ⟨hi, by simpa using h⟩
    · rw [List.getElem?_eq_none (by simpa using hi)] at h
      cases h
  refine ⟨p, cap, (List.range len).map F, by rw [hlen], ⟨p, cap, by rw [hlen], fun i s his => ?_⟩, fun hB => ⟨?_, fun s hs => ?_⟩⟩
  · obtain ⟨hil, rfl⟩ := hget his
    exact (hF i hil).1
  · rw [hlen]
    have := (hw _ hB).1
    omega
  · obtain ⟨i, hi⟩ := List.getElem?_of_mem hs
    obtain ⟨hil, rfl⟩ := hget hi
    exact (hF i hil).2 ((hw _ hB).2 i hil)
end
end Go.Proofs.YtdkedmngeahjiaaGreatDoor
