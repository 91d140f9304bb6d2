/- Contracts of errors.As at a target *api.Fault. -/
import Derived.Test.YtdkedmngeahjiaaGreatDoorAsSet
import Derived.Test.YtdkedmngeahjiaaGreatDoorWorld
namespace Go.Proofs.YtdkedmngeahjiaaGreatDoor
open Go.RowKit Go.Extern.Stop Go.Stop Go.Extern
theorem call_valueOf : Extern.find Tryz.f81 = some (fun args => ReflectliteValue.unpack (args.getD 0 (.tuple #[]))) := by kernel_rfl
theorem call_type : Extern.find Tryz.f82 = some (ReflectliteValue.methodAny (ReflectliteValue.valueError "reflectlite.Value.Type" 0) (fun t _ _ _ => ReflectliteType.toType t)) := by kernel_rfl
theorem call_isNil : Extern.find Tryz.f83 = some (ReflectliteValue.method (ReflectliteValue.valueError "reflectlite.Value.IsNil" 0) ReflectliteValue.isNil) := by kernel_rfl
theorem call_kind : Extern.find Tryz.f222 = some (ReflectliteType.abiMethod fun t => do pure (.int .u8 (← Rtype.kind t))) := by kernel_rfl
theorem call_elem : Extern.find Tryz.f237 = some (ReflectliteType.method ReflectliteType.elem) := by kernel_rfl
theorem call_implements : Extern.find Tryz.f238 = some (ReflectliteType.relation "Implements" ReflectliteType.implements_) := by kernel_rfl
theorem call_assignable : Extern.find Tryz.f235 = some (ReflectliteType.relation "AssignableTo" ReflectliteType.assignableTo) := by kernel_rfl
theorem call_velem : Extern.find Tryz.f144 = some (ReflectliteValue.method (ReflectliteValue.valueError "reflectlite.Value.Elem" 0) ReflectliteValue.elem) := by kernel_rfl
theorem call_vset : Extern.find Tryz.f145 = some ReflectliteValue.set := by kernel_rfl
/-- The value that reflectlite makes of a *api.Fault. -/
def rvT (b : Nat) : Value := .agg #[.pointer (some ⟨6, 76, none⟩), .pointer (some ⟨b, 0, none⟩), .int .u64 150]
def rtF : Value := .iface 198 (.agg #[.pointer (some ⟨6, 73, none⟩)])
set_option maxHeartbeats 400000 in
set_option maxRecDepth 100000 in
theorem asin_fault (n l a : Int) (t vb : Nat) (o0 o1 o2 : Value) (T : TypeId) (w : World) (hv : w.cell? ⟨vb, 0, none⟩ = some (.pointer (some ⟨t, 0, none⟩))) (ht : w.heap[t]? = some (.cells #[o0, o1, o2] T (0, 0))) :
    Calls Tryz.prog 84 #[faultV n l a, .iface 76 (.pointer (some ⟨t, 0, none⟩)), rvT vb, rtF] w fun e w' =>
      e = .returned (.bool true) ∧ w'.heap[t]? = some (.cells #[.int .i64 n, .int .i64 l, .int .i64 a] T (0, 0)) ∧ w.grownBy w' (some t) := by
  unfold faultV rvT rtF
  have htl := blk_lt ht
  have hvl : vb < w.heap.size := by
    rcases Nat.lt_or_ge vb w.heap.size with h | h
    · exact h
    · simp [World.cell?, Array.getElem?_eq_none h] at hv
  have h40 := @run_callFunc_extern Tryz.prog 86 _ _ Tryz.func86 (by kernel_rfl) (by kernel_rfl) (by kernel_rfl) call_typeOf
  have h52 := @run_callFunc_extern Tryz.prog 81 _ _ Tryz.func81 (by kernel_rfl) (by kernel_rfl) (by kernel_rfl) call_valueOf
  have h102 := @run_callFunc_extern Tryz.prog 235 _ _ Tryz.func235 (by kernel_rfl) (by kernel_rfl) (by kernel_rfl) call_assignable
  have h59 := @run_callFunc_extern Tryz.prog 144 _ _ Tryz.func144 (by kernel_rfl) (by kernel_rfl) (by kernel_rfl) call_velem
  have h60 := @run_callFunc_extern Tryz.prog 145 _ _ Tryz.func145 (by kernel_rfl) (by kernel_rfl) (by kernel_rfl) call_vset
  have tO := as_typeOfF
  have mA := as_methodAssignableTo
  have aF := as_assignFF
  have vF := as_valueOfF
  obtain ⟨W1, hW1⟩ : ∃ W1, w.alloc (.cells #[.pointer (some ⟨6, 76, none⟩), .pointer (some ⟨vb, 0, none⟩), .int .u64 150] 137) = W1 := ⟨_, rfl⟩
  have hW1s : W1.heap.size = w.heap.size + 1 := by rw [← hW1]; simp
  have hW1t : W1.heap[t]? = some (.cells #[o0, o1, o2] T (0, 0)) := by rw [← hW1, Below.heap_alloc _ _ _ htl]; exact ht
  have el := as_elemVT ⟨vb, 0, none⟩ ⟨t, 0, none⟩ (w.alloc (.cells #[.pointer (some ⟨6, 76, none⟩), .pointer (some ⟨vb, 0, none⟩), .int .u64 150] 137)) ((cell_alloc' hvl).trans hv)
  have st := as_setF t W1.heap.size n l a o0 o1 o2 T (W1.alloc (.cells #[.int .i64 n, .int .i64 l, .int .i64 a] 73)) (cell_of_heapN (heap_new _ _)) (cell_of_heapN (heap_new _ _)) (cell_of_heapN (heap_new _ _))
    (by rw [Below.heap_alloc _ _ _ (by omega)]; exact hW1t)
  have hfin1 : (setBlk (W1.alloc (.cells #[.int .i64 n, .int .i64 l, .int .i64 a] 73)) t (.cells #[.int .i64 n, .int .i64 l, .int .i64 a] T (0, 0))).heap[t]? = some (.cells #[.int .i64 n, .int .i64 l, .int .i64 a] T (0, 0)) := setBlk_heap (by simp; omega)
  have hfin2 : w.grownBy (setBlk (W1.alloc (.cells #[.int .i64 n, .int .i64 l, .int .i64 a] 73)) t (.cells #[.int .i64 n, .int .i64 l, .int .i64 a] T (0, 0))) (some t) := by
    refine ⟨by rw [← hW1]; rfl, by rw [← hW1]; rfl, by rw [← hW1]; rfl, by rw [setBlk_size]; simp; omega, fun i hi hne => ?_⟩
    rw [setBlk_other (fun e => hne (by rw [e])), Below.heap_alloc _ _ _ (by omega), ← hW1, Below.heap_alloc _ _ _ hi]
  rw [← hW1] at st hfin1 hfin2
  rw [World.size_alloc] at st
  have F1 := Lib.hid hfin1
  have F2 := Lib.hid hfin2
  clear hW1 hW1s hW1t hfin1 hfin2 ht hv W1
  go_enter Tryz.func84, Tryz.ntmps84
  go_wp2_with fail
  refine wp_loop_rounds 1 ?_
  rw [rounds_succ]
  go_wp2_with fail
  go_ret
  exact ⟨rfl, F1.out, F2.out⟩
theorem ta_as_errno (v : Value) (w : World) : (Instr.typeAssert (.iface 71 v) 25 202 true).run Tryz.prog w = .ok (.tuple #[.nilIface, .bool false]) w := run_typeAssert_lacksB Tryz.underlying202 (by kernel_rfl) (by kernel_rfl) v 25 w
set_option maxHeartbeats 400000 in
set_option maxRecDepth 100000 in
theorem asin_errno (n : Int) (x rv : Value) (hrv : ∃ cs : Array Value, rv = .agg cs) (w : World) :
    Calls Tryz.prog 84 #[errV n, x, rv, rtF] w fun e w' => e = .returned (.bool false) ∧ Below w.heap.size w w' := by
  obtain ⟨cs, rfl⟩ := hrv
  unfold errV rtF
  have h40 := @run_callFunc_extern Tryz.prog 86 _ _ Tryz.func86 (by kernel_rfl) (by kernel_rfl) (by kernel_rfl) call_typeOf
  have h102 := @run_callFunc_extern Tryz.prog 235 _ _ Tryz.func235 (by kernel_rfl) (by kernel_rfl) (by kernel_rfl) call_assignable
  have tO := typeOf_errno
  have mA := as_methodAssignableTo
  have aF := as_assignEF
  have t1 := ta_as_errno
  have t2 := ta_un_errno
  have t3 := ta_uns_errno
  go_enter Tryz.func84, Tryz.ntmps84
  go_wp2_with fail
  refine wp_loop_rounds 1 ?_
  rw [rounds_succ]
  go_wp2_with fail
  go_ret
  exact ⟨rfl, (Below.refl _ _).alloc (Nat.le_refl _) _⟩
/-- errors.errorType reads as it is laid. -/
def ErrT (w : World) : Prop := w.cell? ⟨0, 0, none⟩ = some (.iface 198 (.agg #[.pointer (some ⟨6, 25, none⟩)])) ∧ 0 < w.heap.size
set_option maxHeartbeats 800000 in
set_option maxRecDepth 100000 in
theorem as_fault (n l a : Int) (t : Nat) (o0 o1 o2 : Value) (T : TypeId) (w : World) (hG : ErrT w) (ht : w.heap[t]? = some (.cells #[o0, o1, o2] T (0, 0))) :
    Calls Tryz.prog 37 #[faultV n l a, .iface 76 (.pointer (some ⟨t, 0, none⟩))] w fun e w' =>
      e = .returned (.bool true) ∧ w'.heap[t]? = some (.cells #[.int .i64 n, .int .i64 l, .int .i64 a] T (0, 0)) ∧ w.grownBy w' (some t) := by
  unfold faultV
  have htl := blk_lt ht
  have h52 := @run_callFunc_extern Tryz.prog 81 _ _ Tryz.func81 (by kernel_rfl) (by kernel_rfl) (by kernel_rfl) call_valueOf
  have h53 := @run_callFunc_extern Tryz.prog 82 _ _ Tryz.func82 (by kernel_rfl) (by kernel_rfl) (by kernel_rfl) call_type
  have h54 := @run_callFunc_extern Tryz.prog 83 _ _ Tryz.func83 (by kernel_rfl) (by kernel_rfl) (by kernel_rfl) call_isNil
  have h94 := @run_callFunc_extern Tryz.prog 222 _ _ Tryz.func222 (by kernel_rfl) (by kernel_rfl) (by kernel_rfl) call_kind
  have h104 := @run_callFunc_extern Tryz.prog 237 _ _ Tryz.func237 (by kernel_rfl) (by kernel_rfl) (by kernel_rfl) call_elem
  have h105 := @run_callFunc_extern Tryz.prog 238 _ _ Tryz.func238 (by kernel_rfl) (by kernel_rfl) (by kernel_rfl) call_implements
  have vT := as_valueOfT
  have tT := as_typeT
  have mK := as_methodKind
  have kT := as_kindT
  have kF := as_kindF
  have mE := as_methodElem
  have eT := as_elemT
  have mI := as_methodImplements
  have iF := as_implementsF
  have n54 := as_isNilT ⟨w.heap.size, 0, none⟩ ⟨t, 0, none⟩ ((w.alloc (.cells #[.pointer (some ⟨t, 0, none⟩)] 76)).alloc (.cells #[.pointer (some ⟨6, 76, none⟩), .pointer (some ⟨w.heap.size, 0, none⟩), .int .u64 150] 137))
    ((cell_alloc' (by simp)).trans (cell_new _ _ _ _))
  have hg2 : ((w.alloc (.cells #[.pointer (some ⟨t, 0, none⟩)] 76)).alloc (.cells #[.pointer (some ⟨6, 76, none⟩), .pointer (some ⟨w.heap.size, 0, none⟩), .int .u64 150] 137)).cell? ⟨0, 0, none⟩ = some (.iface 198 (.agg #[.pointer (some ⟨6, 25, none⟩)])) :=
    (cell_alloc' (by have h := hG.2; rw [World.size_alloc]; show 0 < _; omega)).trans ((cell_alloc' hG.2).trans hG.1)
  have HT := Lib.hid ht
  clear ht
  go_enter Tryz.func37, Tryz.ntmps37
  go_wp2_with fail
  refine (asin_fault n l a t w.heap.size o0 o1 o2 T _ ((cell_alloc' (by simp)).trans (cell_new _ _ _ _)) (by
    rw [Below.heap_alloc _ _ _ (by simp; omega), Below.heap_alloc _ _ _ htl]; exact HT.out)).mono ?_
  rintro e w1 ⟨rfl, h1, h2⟩
  have H1 := Lib.hid h1
  have hgr : w.grownBy w1 (some t) := by
    refine ⟨h2.os, h2.tape, h2.output, ?_, fun i hi hne => ?_⟩
    · have := h2.size; simp at this; omega
    · rw [h2.block i (by simp; omega) hne, Below.heap_alloc _ _ _ (by simp; omega), Below.heap_alloc _ _ _ hi]
  have H2 := Lib.hid hgr
  clear h1 h2 hgr
  go_wp2_with fail
  go_ret
  exact ⟨rfl, H1.out, H2.out⟩
set_option maxHeartbeats 800000 in
set_option maxRecDepth 100000 in
theorem as_errno (n : Int) (t : Nat) (w : World) (hG : ErrT w) :
    Calls Tryz.prog 37 #[errV n, .iface 76 (.pointer (some ⟨t, 0, none⟩))] w fun e w' =>
      e = .returned (.bool false) ∧ Below w.heap.size w w' := by
  unfold errV
  have h52 := @run_callFunc_extern Tryz.prog 81 _ _ Tryz.func81 (by kernel_rfl) (by kernel_rfl) (by kernel_rfl) call_valueOf
  have h53 := @run_callFunc_extern Tryz.prog 82 _ _ Tryz.func82 (by kernel_rfl) (by kernel_rfl) (by kernel_rfl) call_type
  have h54 := @run_callFunc_extern Tryz.prog 83 _ _ Tryz.func83 (by kernel_rfl) (by kernel_rfl) (by kernel_rfl) call_isNil
  have h94 := @run_callFunc_extern Tryz.prog 222 _ _ Tryz.func222 (by kernel_rfl) (by kernel_rfl) (by kernel_rfl) call_kind
  have h104 := @run_callFunc_extern Tryz.prog 237 _ _ Tryz.func237 (by kernel_rfl) (by kernel_rfl) (by kernel_rfl) call_elem
  have h105 := @run_callFunc_extern Tryz.prog 238 _ _ Tryz.func238 (by kernel_rfl) (by kernel_rfl) (by kernel_rfl) call_implements
  have vT := as_valueOfT
  have tT := as_typeT
  have mK := as_methodKind
  have kT := as_kindT
  have kF := as_kindF
  have mE := as_methodElem
  have eT := as_elemT
  have mI := as_methodImplements
  have iF := as_implementsF
  have n54 := as_isNilT ⟨w.heap.size, 0, none⟩ ⟨t, 0, none⟩ ((w.alloc (.cells #[.pointer (some ⟨t, 0, none⟩)] 76)).alloc (.cells #[.pointer (some ⟨6, 76, none⟩), .pointer (some ⟨w.heap.size, 0, none⟩), .int .u64 150] 137))
    ((cell_alloc' (by simp)).trans (cell_new _ _ _ _))
  have hg2 : ((w.alloc (.cells #[.pointer (some ⟨t, 0, none⟩)] 76)).alloc (.cells #[.pointer (some ⟨6, 76, none⟩), .pointer (some ⟨w.heap.size, 0, none⟩), .int .u64 150] 137)).cell? ⟨0, 0, none⟩ = some (.iface 198 (.agg #[.pointer (some ⟨6, 25, none⟩)])) :=
    (cell_alloc' (by have h := hG.2; rw [World.size_alloc]; show 0 < _; omega)).trans ((cell_alloc' hG.2).trans hG.1)
  go_enter Tryz.func37, Tryz.ntmps37
  go_wp2_with fail
  refine (asin_errno n _ _ ⟨_, rfl⟩ _).mono ?_
  rintro e w1 ⟨rfl, h2⟩
  have H2 := Lib.hid (((((Below.refl w.heap.size w).alloc (Nat.le_refl _) (.cells #[.pointer (some ⟨t, 0, none⟩)] 76)).alloc (by simp) (.cells #[.pointer (some ⟨6, 76, none⟩), .pointer (some ⟨w.heap.size, 0, none⟩), .int .u64 150] 137)).trans (h2.mono (by simp; omega))))
  clear h2
  go_wp2_with fail
  go_ret
  exact ⟨rfl, H2.out⟩
set_option maxHeartbeats 400000 in
theorem as_nil (x : Value) (w : World) : Calls Tryz.prog 37 #[.nilIface, x] w fun e w' => e = .returned (.bool false) ∧ w = w' := by
  go_enter Tryz.func37, Tryz.ntmps37
  go_wp2_with fail
  go_ret
  exact ⟨rfl, rfl⟩
end Go.Proofs.YtdkedmngeahjiaaGreatDoor
