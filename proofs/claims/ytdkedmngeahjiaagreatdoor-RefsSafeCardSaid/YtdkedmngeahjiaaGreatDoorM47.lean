/- Texts of the seat, one behind the other: OpenRow, OpenT. -/
import Derived.Test.YtdkedmngeahjiaaGreatDoorProg
import Derived.Test.YtdkedmngeahjiaaGreatDoorM1
import Derived.Deep.Slices
import Derived.Deep.Fields
import Derived.ChangeSame
import Derived.Carry
import Derived.ProofKit
import Derived.OpenShut
import Derived.Test.YtdkedmngeahjiaaGreatDoorM35
/- A slice among the arguments, of any elements: read as data, and as it lies in memory. -/
namespace Go.Proofs.YtdkedmngeahjiaaGreatDoor
open Go.ChangeShapes Go.WideShapes Go.RowKit Go.Deep
section
variable {H : Type} {enc : TypeId × Value → H} {w : World} {held : Bool}
theorem weightsAllIn {P : Program} {e : TypeId} : ∀ {l : List (DataW H)} {d : DataW H}, d ∈ l → ∀ k ∈ d.weights P e, k ∈ DataW.weightsAll P e l
  | x :: r, d, hd, k, hk => by
    rw [DataW.weightsAll, List.mem_append]
    rcases List.mem_cons.1 hd with rfl | h
    · exact .inl hk
    · exact .inr (weightsAllIn h k hk)
theorem open_row {P : Program} {t e : TypeId} (C B : Nat) (ht : P.underlying t = some (.slice e)) (hc : P.cellsOf e = C) (hb : P.bytesOf e = B) (hC : 0 < C) {n : Nat} {v : Value} {x : DataW H × List MemPlace} (h : DataW.trod enc P w 0 (fun _ => true) held n t [v] = some x) :
    ∃ (len cap : Nat) (p : Option Addr) (D : Nat → DataW H) (Pl : Nat → List MemPlace) (n' : Nat), v = .slice p len cap ∧ len ≤ cap ∧ cap ≤ maxLen ∧
      (∀ i, i < len → ∃ b off, p = some ⟨b, off, none⟩ ∧ b < w.heap.size ∧ ∃ cs : List Value, cs.length = C ∧ (∀ j, j < C → w.cell? ⟨b, off + (i * C + j), none⟩ = cs[j]?) ∧ DataW.trod enc P w 0 (fun _ => true) held n' e cs = some (D i, Pl i)) ∧
      (∀ Bd, (∀ k ∈ x.1.weights P t, k ≤ Bd) → len * B ≤ Bd ∧ ∀ i, i < len → ∀ k ∈ (D i).weights P e, k ≤ Bd) := by
  rcases open_slice ht h with ⟨h0, -⟩ | ⟨a', len, cap, m, n', D, Pl, hcs, -, hl, hm, hmm, hx, hi⟩
  · have e : v = .slice none 0 0 := by simpa using h0
    subst e
    exact ⟨0, 0, none, fun _ => .nil, fun _ => [], 0, rfl, Nat.le_refl _, Nat.zero_le _, (fun i hi => absurd hi (Nat.not_lt_zero _)), fun Bd _ => ⟨by omega, fun i hi => absurd hi (Nat.not_lt_zero _)⟩⟩
  · have e : v = .slice (some a') len cap := by simpa using hcs
    subst e
    rw [if_pos rfl] at hmm
    subst hmm
    rw [hc] at hi
    refine ⟨len, m, some a', D, Pl, n', rfl, hl, hm, fun i hil => ?_, fun Bd hB => ?_⟩
    · obtain ⟨b, off, spot⟩ := a'
      have hs : spot = none ∧ b < w.heap.size := by
        obtain ⟨cs0, k1, -⟩ := hi 0 (by omega)
        obtain ⟨-, klen, k3⟩ := World.cells?_some k1
        have g0 := k3 0 hC
        rw [Nat.zero_mul, Go.Deep.add_add, List.getElem?_eq_getElem (by omega)] at g0
        have g1 : w.cell? ⟨b, off, spot⟩ = some cs0[0] := g0
        refine ⟨by simpa using World.cell?_spot g1, ?_⟩
        unfold World.cell? at g1
        split at g1
        · rename_i hh
          exact blk_lt hh
        · cases g1
      obtain ⟨rfl, hbs⟩ := hs
      obtain ⟨cs', h1, h2⟩ := hi i (by omega)
      obtain ⟨-, hlen, h3⟩ := World.cells?_some h1
      refine ⟨b, off, rfl, hbs, cs', hlen, fun j hj => ?_, h2⟩
      have := h3 j hj
      rw [Go.Deep.add_add] at this
      rw [← this]
      unfold Addr.add
      split
      · rename_i e0; rw [e0]; rfl
      · rfl
    · rw [hx] at hB
      have hwt : (DataW.slice ((List.range len).map D) ((List.range (m - len)).map fun j => D (len + j)) : DataW H).weights P t = (((List.range len).map D).length + ((List.range (m - len)).map fun j => D (len + j)).length) * B :: (DataW.weightsAll P e ((List.range len).map D) ++ DataW.weightsAll P e ((List.range (m - len)).map fun j => D (len + j))) := by
        rw [DataW.weights, ht]
        simp only [hb]
      rw [hwt] at hB
      have h1 := hB _ (List.mem_cons_self ..)
      rw [List.length_map, List.length_map, List.length_range, List.length_range] at h1
      refine ⟨Nat.le_trans (Nat.mul_le_mul_right B (by omega)) h1, fun i hil k hk => hB k (List.mem_cons_of_mem _ (List.mem_append.2 (.inl (weightsAllIn (List.mem_map.2 ⟨i, List.mem_range.2 hil, rfl⟩) k hk))))⟩
end
end Go.Proofs.YtdkedmngeahjiaaGreatDoor
/- Texts among the arguments: read as data, and as they lie in memory; a number among the arguments. -/
namespace Go.Proofs.YtdkedmngeahjiaaGreatDoor
open Go.ChangeShapes Go.WideShapes Go.RowKit Go.Deep
section
variable {H : Type} {enc : TypeId × Value → H} {w : World} {held : Bool}
theorem tx_ln1 {α : Type} {l : List α} (h : l.length = 1) : ∃ a0, l = [a0] := by
  match l, h with
  | [a0], _ => exact ⟨_, rfl⟩
set_option maxRecDepth 100000 in
theorem open_num {v : Value} {d : DataW H} {ps : List MemPlace} {r : Reach} {b0 : Nat} (hv : Value.okWide Tryz.prog w r b0 3 v) (h : DataW.Trod enc Tryz.prog w 0 (fun _ => true) held 3 v d ps) :
    ∃ x : Int, v = .int .i64 x ∧ -9223372036854775808 ≤ x ∧ x ≤ 9223372036854775807 := by
  obtain ⟨fuel, hf⟩ := h
  obtain ⟨x, rfl⟩ := okWide_int Tryz.underlying3 hv
  obtain ⟨s, h1, h2, h3⟩ := DataW.trod_int Tryz.underlying3 hf
  have h1 : [Value.int .i64 x] = [.int .i64 s] := h1
  obtain rfl : x = s := by simpa using h1
  simp only [Lit.wf, Bool.and_eq_true, decide_eq_true_eq] at h3
  exact ⟨x, rfl, h3⟩
theorem open_texts {n : Nat} {v : Value} {x : DataW H × List MemPlace} (h : DataW.trod enc Tryz.prog w 0 (fun _ => true) held n 31 [v] = some x) :
    ∃ (p : Option Addr) (cap : Nat) (l : List ByteArray), v = .slice p l.length cap ∧ TextsRd w (.slice p l.length cap) l ∧ ((∀ k ∈ x.1.weights Tryz.prog 31, k ≤ 140737488351232) → l.length ≤ 8800000000000 ∧ ∀ s ∈ l, s.size ≤ 140737488351232) := by
  obtain ⟨len, cap, p, D, Pl, n', rfl, hl, hm, hi, hw⟩ := open_row 1 16 Tryz.underlying31 (by kernel_rfl) (by kernel_rfl) (by decide) h
  obtain ⟨F, hF⟩ := choose_lt (α := ByteArray) (n := len) (p := fun i s => (∃ b off, p = some ⟨b, off, none⟩ ∧ b < w.heap.size ∧ w.cell? ⟨b, off + i, none⟩ = some (.string s)) ∧ ((∀ k ∈ (D i).weights Tryz.prog 9, k ≤ 140737488351232) → s.size ≤ 140737488351232)) (fun i hil => by
    obtain ⟨b, off, e, hb, cs, hcl, hc, ht⟩ := hi i hil
    obtain ⟨a0, rfl⟩ := tx_ln1 hcl
    obtain ⟨s, h1, h2, -⟩ := DataW.trod_string Tryz.underlying9 ht
    obtain rfl := (List.cons.inj h1).1
    refine ⟨s, ⟨b, off, e, hb, ?_⟩, fun hB => ?_⟩
    · have := hc 0 (by decide)
      rwa [Nat.mul_one, Nat.add_zero] at this
    · have hD : D i = .lit (.string s.data.toList) := by first | exact h2 | exact congrArg Prod.fst h2
      rw [hD] at hB
      refine hB s.size ?_
      simp only [DataW.weights, List.mem_cons, List.mem_singleton, List.not_mem_nil, or_false]
      rfl)
  have hlen : ((List.range len).map F).length = len := by rw [List.length_map, List.length_range]
  have hget : ∀ {i : Nat} {s : ByteArray}, ((List.range len).map F)[i]? = some s → i < len ∧ F i = s := fun {i s} h => by
    rw [List.getElem?_map] at h
    by_cases hi : i < len
    · rw [List.getElem?_range hi] at h
      exact ⟨hi, by simpa using h⟩
    · rw [List.getElem?_eq_none (by simpa using hi)] at h
      cases h
  refine ⟨p, cap, (List.range len).map F, by rw [hlen], ⟨p, cap, by rw [hlen], fun i s his => ?_⟩, fun hB => ⟨?_, fun s hs => ?_⟩⟩
  · obtain ⟨hil, rfl⟩ := hget his
    exact (hF i hil).1
  · rw [hlen]
    have := (hw _ hB).1
    omega
  · obtain ⟨i, hi⟩ := List.getElem?_of_mem hs
    obtain ⟨hil, rfl⟩ := hget hi
    exact (hF i hil).2 ((hw _ hB).2 i hil)
end
end Go.Proofs.YtdkedmngeahjiaaGreatDoor
