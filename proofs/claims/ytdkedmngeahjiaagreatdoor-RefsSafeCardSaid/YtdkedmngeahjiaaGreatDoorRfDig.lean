/- A digest among the arguments. -/
import Derived.Test.YtdkedmngeahjiaaGreatDoorM47
import Derived.Test.YtdkedmngeahjiaaGreatDoorM25
namespace Go.Proofs.YtdkedmngeahjiaaGreatDoor
open Go.ChangeShapes Go.WideShapes Go.RowKit Go.Deep
/-- A byte, of its cell. -/
def cellB : Value → UInt8
  | .int _ n => UInt8.ofNat n.toNat
  | _ => 0
section
variable {H : Type} {enc : TypeId × Value → H} {w : World} {held : Bool}
set_option maxRecDepth 100000 in
/-- 32 cells that read as a digest are one. -/
theorem dig_cells {fuel : Nat} {cs : List Value} {x : DataW H × List MemPlace} (h : DataW.trod enc Tryz.prog w 0 (fun _ => true) held fuel 33 cs = some x) : (cs.map cellB).length = 32 ∧ cs = (cs.map cellB).map byteV := by
  have hce : Tryz.prog.cellsOf 5 = 1 := by kernel_rfl
  have hct : Tryz.prog.cellsOf 33 = 32 := by kernel_rfl
  obtain ⟨xs, m, -, -, hl, hn, hi⟩ := DataW.trod_array Tryz.underlying33 h
  rw [hct] at hl
  refine ⟨by rw [List.length_map, hl], List.ext_getElem? fun i => ?_⟩
  rw [List.map_map, List.getElem?_map]
  by_cases hi32 : i < 32
  · have h1 := hi i hi32
    rw [hce, List.getElem?_eq_getElem (by omega), Nat.mul_one] at h1
    obtain ⟨n, e1, -, e3⟩ := DataW.trod_int Tryz.underlying5 h1
    have h4 := congrArg (fun l : List Value => l[0]?) e1
    simp only [List.getElem?_take, List.getElem?_drop] at h4
    have h5 : cs[i]? = some (.int .u8 n) := by simpa using h4
    rw [h5]
    simp only [Lit.wf, Bool.and_eq_true, decide_eq_true_eq] at e3
    show some (Value.int .u8 n) = some (byteV (UInt8.ofNat n.toNat))
    have h6 : n = ((UInt8.ofNat n.toNat).toNat : Int) := by
      rw [UInt8.toNat_ofNat']
      have : 0 ≤ n ∧ n ≤ 255 := e3
      omega
    rw [show byteV (UInt8.ofNat n.toNat) = Value.int .u8 ((UInt8.ofNat n.toNat).toNat : Int) from rfl, ← h6]
  · rw [List.getElem?_eq_none (by omega)]
    rfl
set_option maxRecDepth 100000 in
theorem open_dig {v : Value} {d : DataW H} {ps : List MemPlace} {r : Reach} {b0 : Nat} (hv : Value.okWide Tryz.prog w r b0 33 v) (h : DataW.Trod enc Tryz.prog w 0 (fun _ => true) held 33 v d ps) :
    ∃ D : List UInt8, D.length = 32 ∧ v = digV D := by
  obtain ⟨fuel, hf⟩ := h
  have h1 : ∃ cs : Array Value, v = .agg cs := by
    unfold Value.okWide at hv
    rw [Tryz.underlying33] at hv
    obtain ⟨cs, h1, -⟩ := hv
    exact ⟨cs, h1⟩
  obtain ⟨cs, rfl⟩ := h1
  obtain ⟨h2, h3⟩ := dig_cells (cs := cs.toList) hf
  refine ⟨_, h2, ?_⟩
  unfold digV
  rw [← h3]
end
end Go.Proofs.YtdkedmngeahjiaaGreatDoor
