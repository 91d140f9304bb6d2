/- The model's entry (Value).Set at an api.Fault. -/
import Derived.Test.YtdkedmngeahjiaaGreatDoorAsFacts
import Derived.Test.YtdkedmngeahjiaaGreatDoorCopy
namespace Go.Proofs.YtdkedmngeahjiaaGreatDoor
open Go.RowKit Go.Extern.Stop Go.Stop Go.Extern
/-- (Value).Set: the api.Fault at 't' gets what the Value's own variable 'b' holds. -/
theorem as_setF (t b : Nat) (n l a : Int) (o0 o1 o2 : Value) (T : TypeId) (W : World) (hb0 : W.cell? ⟨b, 0, none⟩ = some (.int .i64 n)) (hb1 : W.cell? ⟨b, 1, none⟩ = some (.int .i64 l)) (hb2 : W.cell? ⟨b, 2, none⟩ = some (.int .i64 a))
    (ht : W.heap[t]? = some (.cells #[o0, o1, o2] T (0, 0))) :
    (ReflectliteValue.set #[.agg #[.pointer (some ⟨6, 73, none⟩), .pointer (some ⟨t, 0, none⟩), .int .u64 409], .agg #[.pointer (some ⟨6, 73, none⟩), .pointer (some ⟨b, 0, none⟩), .int .u64 153]]).run Tryz.prog W
      = .ok (.tuple #[]) (setBlk W t (.cells #[.int .i64 n, .int .i64 l, .int .i64 a] T (0, 0))) := by
  have hl := run_loadCells_list (P := Tryz.prog) W ⟨b, 0, none⟩ [.int .i64 n, .int .i64 l, .int .i64 a] (fun j v hj => by
    match j, hj with
    | 0, hj => simp at hj; subst hj; exact hb0
    | 1, hj => simp at hj; subst hj; exact hb1
    | 2, hj => simp at hj; subst hj; exact hb2
    | (j + 3), hj => simp at hj)
  have hs := run_storeCells_at Tryz.prog t 0 T [.int .i64 n, .int .i64 l, .int .i64 a] 0 #[o0, o1, o2] W ht (by simp) (by
    intro v hv
    simp at hv
    rcases hv with rfl | rfl | rfl <;> rfl)
  rw [setRow_setBlk ht] at hs
  simp at hs hl
  rw [rls]
  simp only [Sem.run_bind, as_partsFa, as_partsF, Result.andThen]
  simp [ReflectliteValue.flagAddr, loadVar, isAgg, underlying, Tryz.underlying73, Result.andThen, as_directF, storeVar, Value.cells, hl, hs]
end Go.Proofs.YtdkedmngeahjiaaGreatDoor
