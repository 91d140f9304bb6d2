/- A slice among the arguments, of any elements: read as data, and as it lies in memory. -/
import Derived.Test.YtdkedmngeahjiaaGreatDoorProg
import Derived.Test.YtdkedmngeahjiaaGreatDoorM1
import Derived.Deep.Slices
import Derived.Deep.Fields
import Derived.ChangeSame
import Derived.Carry
import Derived.ProofKit
import Derived.OpenShut
namespace Go.Proofs.YtdkedmngeahjiaaGreatDoor
open Go.ChangeShapes Go.WideShapes Go.RowKit Go.Deep
section
variable {H : Type} {enc : TypeId × Value → H} {w : World} {held : Bool}
theorem weightsAllIn {P : Program} {e : TypeId} : ∀ {l : List (DataW H)} {d : DataW H}, d ∈ l → ∀ k ∈ d.weights P e, k ∈ DataW.weightsAll P e l
  | x :: r, d, hd, k, hk => by
    rw [DataW.weightsAll, List.mem_append]
    rcases List.mem_cons.1 hd with rfl | h
    · exact .inl hk
    · exact .inr (weightsAllIn h k hk)
theorem open_row {P : Program} {t e : TypeId} (C B : Nat) (ht : P.underlying t = some (.slice e)) (hc : P.cellsOf e = C) (hb : P.bytesOf e = B) (hC : 0 < C) {n : Nat} {v : Value} {x : DataW H × List MemPlace} (h : DataW.trod enc P w 0 (fun _ => true) held n t [v] = some x) :
    ∃ (len cap : Nat) (p : Option Addr) (D : Nat → DataW H) (Pl : Nat → List MemPlace) (n' : Nat), v = .slice p len cap ∧ len ≤ cap ∧ cap ≤ maxLen ∧
      (∀ i, i < len → ∃ b off, p = some ⟨b, off, none⟩ ∧ b < w.heap.size ∧ ∃ cs : List Value, cs.length = C ∧ (∀ j, j < C → w.cell? ⟨b, off + (i * C + j), none⟩ = cs[j]?) ∧ DataW.trod enc P w 0 (fun _ => true) held n' e cs = some (D i, Pl i)) ∧
      (∀ Bd, (∀ k ∈ x.1.weights P t, k ≤ Bd) → len * B ≤ Bd ∧ ∀ i, i < len → ∀ k ∈ (D i).weights P e, k ≤ Bd) := by
  rcases open_slice ht h with ⟨h0, -⟩ | ⟨a', len, cap, m, n', D, Pl, hcs, -, hl, hm, hmm, hx, hi⟩
  · have e : v = .slice none 0 0 := by simpa using h0
    subst e
    exact ⟨0, 0, none, fun _ => .nil, fun _ => [], 0, rfl, Nat.le_refl _, Nat.zero_le _, (fun i hi => absurd hi (Nat.not_lt_zero _)), fun Bd _ => ⟨by omega, fun i hi => absurd hi (Nat.not_lt_zero _)⟩⟩
  · have e : v = .slice (some a') len cap := by simpa using hcs
    subst e
    rw [if_pos rfl] at hmm
    subst hmm
    rw [hc] at hi
    refine ⟨len, m, some a', D, Pl, n', rfl, hl, hm, fun i hil => ?_, fun Bd hB => ?_⟩
    · obtain ⟨b, off, spot⟩ := a'
      have hs : spot = none ∧ b < w.heap.size := by
        obtain ⟨cs0, k1, -⟩ := hi 0 (by omega)
        obtain ⟨-, klen, k3⟩ := World.cells?_some k1
        have g0 := k3 0 hC
        rw [Nat.zero_mul, Go.Deep.add_add, List.getElem?_eq_getElem (by omega)] at g0
        have g1 : w.cell? ⟨b, off, spot⟩ = some cs0[0] := g0
        refine ⟨by simpa using World.cell?_spot g1, ?_⟩
        unfold World.cell? at g1
        split at g1
        · rename_i hh
          exact blk_lt hh
        · cases g1
      obtain ⟨rfl, hbs⟩ := hs
      obtain ⟨cs', h1, h2⟩ := hi i (by omega)
      obtain ⟨-, hlen, h3⟩ := World.cells?_some h1
      refine ⟨b, off, rfl, hbs, cs', hlen, fun j hj => ?_, h2⟩
      have := h3 j hj
      rw [Go.Deep.add_add] at this
      rw [← this]
      unfold Addr.add
      split
      · rename_i e0; rw [e0]; rfl
      · rfl
    · rw [hx] at hB
      have hwt : (DataW.slice ((List.range len).map D) ((List.range (m - len)).map fun j => D (len + j)) : DataW H).weights P t = (((List.range len).map D).length + ((List.range (m - len)).map fun j => D (len + j)).length) * B :: (DataW.weightsAll P e ((List.range len).map D) ++ DataW.weightsAll P e ((List.range (m - len)).map fun j => D (len + j))) := by
        rw [DataW.weights, ht]
        simp only [hb]
      rw [hwt] at hB
      have h1 := hB _ (List.mem_cons_self ..)
      rw [List.length_map, List.length_map, List.length_range, List.length_range] at h1
      refine ⟨Nat.le_trans (Nat.mul_le_mul_right B (by omega)) h1, fun i hil k hk => hB k (List.mem_cons_of_mem _ (List.mem_append.2 (.inl (weightsAllIn (List.mem_map.2 ⟨i, List.mem_range.2 hil, rfl⟩) k hk))))⟩
end
end Go.Proofs.YtdkedmngeahjiaaGreatDoor
