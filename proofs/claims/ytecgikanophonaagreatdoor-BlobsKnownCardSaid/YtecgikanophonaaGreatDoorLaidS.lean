/- What the listed package-level variables give a walk of the seat of blobs. -/
import Derived.Test.YtecgikanophonaaGreatDoorM43
import Derived.Test.YtecgikanophonaaGreatDoorRows
import Derived.LaidLaws
import Derived.LaidHandle
import Derived.OpenShut
import Derived.Deep.DeepHandedRow
import Derived.Deep.DeepLaidRun
namespace Go.Proofs.YtecgikanophonaaGreatDoor
open Go Go.ChangeShapes Go.WideShapes Go.ChangeAt Go.RowKit
theorem gErr : Tryz.prog.globalNamed "errors.errorType" = some 1 := by kernel_rfl
theorem gDig : Tryz.prog.globalNamed "strata/digest.rounds" = some 3 := by kernel_rfl
theorem gRef : Tryz.prog.globalNamed "strata/strataref03.rounds" = some 2 := by kernel_rfl
theorem gBeg : Tryz.prog.globalNamed "strata/strataref03.begin" = some 0 := by kernel_rfl
theorem tDig : (Tryz.prog.globals[3]?).map (·.type) = some 169 := by kernel_rfl
theorem tRef : (Tryz.prog.globals[2]?).map (·.type) = some 169 := by kernel_rfl
theorem tBeg : (Tryz.prog.globals[0]?).map (·.type) = some 97 := by kernel_rfl
theorem rType : (Tryz.prog.cutTypes.find? (·.1 == "internal/reflectlite.rtype")).map (·.2) = some 193 := by kernel_rfl
theorem typesSize : ∃ n, Tryz.prog.types.size = n ∧ ((List.range n).filter fun t => Tryz.prog.rowNamed t [101, 114, 114, 111, 114]) = [26] := ⟨_, rfl, by kernel_rfl⟩
theorem hType : typeHandle Tryz.prog 26 = .pointer (some ⟨5, 26, none⟩) := by kernel_rfl
theorem cell_lt {W : World} {b i : Nat} {v : Value} (h : W.cell? ⟨b, i, none⟩ = some v) : b < W.heap.size := by
  unfold World.cell? at h
  split at h
  · rename_i hh
    exact blk_lt hh
  · cases h
theorem errT_of {W : World} (h : handlesMet Tryz.prog [("errors.errorType", Rows.laid_errors_errorType)] W) : ErrT W := by
  obtain ⟨name, u, ty, e1, e2, e3, e4, e5⟩ := h _ (List.mem_singleton.2 rfl)
  have en : name = [101, 114, 114, 111, 114] := (Option.some.inj e1).symm
  subst en
  obtain rfl := Option.some.inj (rType.symm.trans e2)
  obtain ⟨n, hn, hr⟩ := typesSize
  have hm : ty ∈ (List.range n).filter fun t => Tryz.prog.rowNamed t [101, 114, 114, 111, 114] := List.mem_filter.2 ⟨List.mem_range.2 (by rw [← hn]; exact e3), e4⟩
  rw [hr] at hm
  obtain rfl := List.mem_singleton.1 hm
  rw [hType] at e5
  have hc : W.cell? ⟨1, 0, none⟩ = some (.iface 193 (.agg #[.pointer (some ⟨5, 26, none⟩)])) := by simpa using World.var?_cell gErr e5 0
  exact ⟨hc, cell_lt hc⟩
theorem laidVars_mem {P : Program} {w : World} : ∀ {l : List (String × DataW Unit)} {ps : List MemPlace}, DataW.LaidVars P w l ps → ∀ {n : String} {d : DataW Unit}, (n, d) ∈ l →
    ∃ g t cs fuel p, P.globalNamed n = some g ∧ (P.globals[g]?).map (·.type) = some t ∧ w.var? P n = some cs ∧ DataW.trod (fun _ => ()) P w 0 (fun _ => true) false fuel t cs.toList = some (d, p)
  | [], _, _, _, _, hm => by cases hm
  | (n', d') :: r, _, h, n, d, hm => by
    obtain ⟨g, t, cs, fuel, p, q, h1, h2, h3, h4, h5, -⟩ := h
    rcases List.mem_cons.1 hm with e | hm
    · cases e
      exact ⟨g, t, cs, fuel, p, h1, h2, h3, h4⟩
    · exact laidVars_mem h5 hm
/-- An array of numbers of 32 bits, as it is listed. -/
theorem arr_laid {w : World} {t : TypeId} {n fuel : Nat} {cs : List Value} {ks : List Int} {p : List MemPlace} (ht : Tryz.prog.underlying t = some (.array n 96))
    (h : DataW.trod (fun _ => ()) Tryz.prog w 0 (fun _ => true) false fuel t cs = some (.agg (ks.map fun k => .lit (.int .u32 k)), p)) : ∀ (i : Nat) (k : Int), ks[i]? = some k → cs[i]? = some (.int .u32 k) := by
  have hce : Tryz.prog.cellsOf 96 = 1 := by kernel_rfl
  obtain ⟨xs, m, -, hx, -, hn, hi⟩ := DataW.trod_array ht h
  have hxk : ks.map (fun k => (DataW.lit (.int .u32 k) : DataW Unit)) = xs.map (·.1) := by
    have := (Prod.mk.inj hx).1
    exact DataW.agg.inj this
  intro i k hk
  have hl : xs.length = ks.length := by
    have := congrArg List.length hxk
    rw [List.length_map, List.length_map] at this
    exact this.symm
  have hik := (List.getElem?_eq_some_iff.1 hk).1
  have hix : i < xs.length := by omega
  have h1 := hi i (by omega)
  rw [hce, List.getElem?_eq_getElem hix, Nat.mul_one] at h1
  have h2 : (xs.map (·.1))[i]? = some (DataW.lit (.int .u32 k)) := by rw [← hxk, List.getElem?_map, hk]; rfl
  rw [List.getElem?_map, List.getElem?_eq_getElem hix] at h2
  obtain ⟨n', e1, e2, -⟩ := DataW.trod_int Tryz.underlying96 h1
  rw [e2] at h2
  have h3 : n' = k := by
    have := Option.some.inj h2
    simp only [DataW.lit.injEq, Lit.int.injEq] at this
    exact this.2
  rw [h3] at e1
  have h4 := congrArg (fun l : List Value => l[0]?) e1
  simp only [List.getElem?_take, List.getElem?_drop] at h4
  simpa using h4
theorem rounds_t {W : World} {l : List (String × DataW Unit)} {ps : List MemPlace} (h : DataW.LaidVars Tryz.prog W l ps) (hm : ("strata/digest.rounds", Rows.laid_strata_digest_rounds) ∈ l) : RoundsT W := by
  obtain ⟨g, t, cs, fuel, p, h1, h2, h3, h4⟩ := laidVars_mem h hm
  obtain rfl := Option.some.inj (h1.symm.trans gDig)
  obtain rfl := Option.some.inj (h2.symm.trans tDig)
  have h5 := arr_laid (ks := rk) Tryz.underlying169 h4
  have h6 : ∀ i k, rk[i]? = some k → W.cell? ⟨3, i, none⟩ = some (.int .u32 k) := fun i k hk => by
    rw [World.var?_cell gDig h3, ← Array.getElem?_toList]
    exact h5 i k hk
  exact ⟨h6, cell_lt (h6 0 _ rfl)⟩
theorem rounds_r {W : World} {l : List (String × DataW Unit)} {ps : List MemPlace} (h : DataW.LaidVars Tryz.prog W l ps) (hm : ("strata/strataref03.rounds", Rows.laid_strata_strataref03_rounds) ∈ l) : RoundsR W := by
  obtain ⟨g, t, cs, fuel, p, h1, h2, h3, h4⟩ := laidVars_mem h hm
  obtain rfl := Option.some.inj (h1.symm.trans gRef)
  obtain rfl := Option.some.inj (h2.symm.trans tRef)
  have h5 := arr_laid (ks := rk) Tryz.underlying169 h4
  have h6 : ∀ i k, rk[i]? = some k → W.cell? ⟨2, i, none⟩ = some (.int .u32 k) := fun i k hk => by
    rw [World.var?_cell gRef h3, ← Array.getElem?_toList]
    exact h5 i k hk
  exact ⟨h6, cell_lt (h6 0 _ rfl)⟩
def r8L : List Int := [0x6a09e667, 0xbb67ae85, 0x3c6ef372, 0xa54ff53a, 0x510e527f, 0x9b05688c, 0x1f83d9ab, 0x5be0cd19]
theorem begin_r {W : World} {l : List (String × DataW Unit)} {ps : List MemPlace} (h : DataW.LaidVars Tryz.prog W l ps) (hm : ("strata/strataref03.begin", Rows.laid_strata_strataref03_begin) ∈ l) : BeginR W := by
  obtain ⟨g, t, cs, fuel, p, h1, h2, h3, h4⟩ := laidVars_mem h hm
  obtain rfl := Option.some.inj (h1.symm.trans gBeg)
  obtain rfl := Option.some.inj (h2.symm.trans tBeg)
  have h5 := arr_laid (ks := r8L) Tryz.underlying97 h4
  have h6 : ∀ i k, r8L[i]? = some k → W.cell? ⟨0, i, none⟩ = some (.int .u32 k) := fun i k hk => by
    rw [World.var?_cell gBeg h3, ← Array.getElem?_toList]
    exact h5 i k hk
  refine ⟨fun j hj => h6 j _ ?_, cell_lt (h6 0 _ rfl)⟩
  rcases (show j = 0 ∨ j = 1 ∨ j = 2 ∨ j = 3 ∨ j = 4 ∨ j = 5 ∨ j = 6 ∨ j = 7 by omega) with rfl | rfl | rfl | rfl | rfl | rfl | rfl | rfl <;> rfl
end Go.Proofs.YtecgikanophonaaGreatDoor
