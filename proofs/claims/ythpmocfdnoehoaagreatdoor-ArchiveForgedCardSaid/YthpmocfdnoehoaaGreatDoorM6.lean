/- Texts of the seat, one behind the other: As, Num, Place, Works, ReadLaw, Edited, Full, Kept, WriteLaw, ForgedLaw, RefSplit. -/
import Derived.Test.YthpmocfdnoehoaaGreatDoorM5
import Derived.Test.YthpmocfdnoehoaaGreatDoorM1
import Derived.Deep.RegionHeld3
import Derived.Test.YthpmocfdnoehoaaGreatDoorM4
import Derived.Test.YthpmocfdnoehoaaGreatDoorM2
import Derived.Test.YthpmocfdnoehoaaGreatDoorM3
import Derived.Deep.QuietTactic
import Derived.BigQuiet
/- Contracts of errors.As at a target *api.Fault. -/
namespace Go.Proofs.YthpmocfdnoehoaaGreatDoor
open Go.RowKit Go.Extern.Stop Go.Stop Go.Extern
theorem call_valueOf : Extern.find Tryz.f71 = some (fun args => ReflectliteValue.unpack (args.getD 0 (.tuple #[]))) := by kernel_rfl
theorem call_type : Extern.find Tryz.f72 = some (ReflectliteValue.methodAny (ReflectliteValue.valueError "reflectlite.Value.Type" 0) (fun t _ _ _ => ReflectliteType.toType t)) := by kernel_rfl
theorem call_isNil : Extern.find Tryz.f73 = some (ReflectliteValue.method (ReflectliteValue.valueError "reflectlite.Value.IsNil" 0) ReflectliteValue.isNil) := by kernel_rfl
theorem call_kind : Extern.find Tryz.f120 = some (ReflectliteType.abiMethod fun t => do pure (.int .u8 (← Rtype.kind t))) := by kernel_rfl
theorem call_elem : Extern.find Tryz.f133 = some (ReflectliteType.method ReflectliteType.elem) := by kernel_rfl
theorem call_implements : Extern.find Tryz.f134 = some (ReflectliteType.relation "Implements" ReflectliteType.implements_) := by kernel_rfl
theorem call_assignable : Extern.find Tryz.f131 = some (ReflectliteType.relation "AssignableTo" ReflectliteType.assignableTo) := by kernel_rfl
theorem call_velem : Extern.find Tryz.f82 = some (ReflectliteValue.method (ReflectliteValue.valueError "reflectlite.Value.Elem" 0) ReflectliteValue.elem) := by kernel_rfl
theorem call_vset : Extern.find Tryz.f83 = some ReflectliteValue.set := by kernel_rfl
/-- The value that reflectlite makes of a *api.Fault. -/
def rvT (b : Nat) : Value := .agg #[.pointer (some ⟨4, 100, none⟩), .pointer (some ⟨b, 0, none⟩), .int .u64 150]
def rtF : Value := .iface 146 (.agg #[.pointer (some ⟨4, 61, none⟩)])
set_option maxHeartbeats 400000 in
set_option maxRecDepth 100000 in
theorem asin_fault (n l a : Int) (t vb : Nat) (o0 o1 o2 : Value) (T : TypeId) (w : World) (hv : w.cell? ⟨vb, 0, none⟩ = some (.pointer (some ⟨t, 0, none⟩))) (ht : w.heap[t]? = some (.cells #[o0, o1, o2] T (0, 0))) :
    Calls Tryz.prog 74 #[faultV n l a, .iface 100 (.pointer (some ⟨t, 0, none⟩)), rvT vb, rtF] w fun e w' =>
      e = .returned (.bool true) ∧ w'.heap[t]? = some (.cells #[.int .i64 n, .int .i64 l, .int .i64 a] T (0, 0)) ∧ w.grownBy w' (some t) := by
  unfold faultV rvT rtF
  have htl := blk_lt ht
  have hvl : vb < w.heap.size := by
    rcases Nat.lt_or_ge vb w.heap.size with h | h
    · exact h
    · simp [World.cell?, Array.getElem?_eq_none h] at hv
  have h40 := @run_callFunc_extern Tryz.prog 75 _ _ Tryz.func75 (by kernel_rfl) (by kernel_rfl) (by kernel_rfl) call_typeOf
  have h52 := @run_callFunc_extern Tryz.prog 71 _ _ Tryz.func71 (by kernel_rfl) (by kernel_rfl) (by kernel_rfl) call_valueOf
  have h102 := @run_callFunc_extern Tryz.prog 131 _ _ Tryz.func131 (by kernel_rfl) (by kernel_rfl) (by kernel_rfl) call_assignable
  have h59 := @run_callFunc_extern Tryz.prog 82 _ _ Tryz.func82 (by kernel_rfl) (by kernel_rfl) (by kernel_rfl) call_velem
  have h60 := @run_callFunc_extern Tryz.prog 83 _ _ Tryz.func83 (by kernel_rfl) (by kernel_rfl) (by kernel_rfl) call_vset
  have tO := as_typeOfF
  have mA := as_methodAssignableTo
  have aF := as_assignFF
  have vF := as_valueOfF
  obtain ⟨W1, hW1⟩ : ∃ W1, w.alloc (.cells #[.pointer (some ⟨4, 100, none⟩), .pointer (some ⟨vb, 0, none⟩), .int .u64 150] 128) = W1 := ⟨_, rfl⟩
  have hW1s : W1.heap.size = w.heap.size + 1 := by rw [← hW1]; simp
  have hW1t : W1.heap[t]? = some (.cells #[o0, o1, o2] T (0, 0)) := by rw [← hW1, Below.heap_alloc _ _ _ htl]; exact ht
  have el := as_elemVT ⟨vb, 0, none⟩ ⟨t, 0, none⟩ (w.alloc (.cells #[.pointer (some ⟨4, 100, none⟩), .pointer (some ⟨vb, 0, none⟩), .int .u64 150] 128)) ((cell_alloc' hvl).trans hv)
  have st := as_setF t W1.heap.size n l a o0 o1 o2 T (W1.alloc (.cells #[.int .i64 n, .int .i64 l, .int .i64 a] 61)) (cell_of_heapN (heap_new _ _)) (cell_of_heapN (heap_new _ _)) (cell_of_heapN (heap_new _ _))
    (by rw [Below.heap_alloc _ _ _ (by omega)]; exact hW1t)
  have hfin1 : (setBlk (W1.alloc (.cells #[.int .i64 n, .int .i64 l, .int .i64 a] 61)) t (.cells #[.int .i64 n, .int .i64 l, .int .i64 a] T (0, 0))).heap[t]? = some (.cells #[.int .i64 n, .int .i64 l, .int .i64 a] T (0, 0)) := setBlk_heap (by simp; omega)
  have hfin2 : w.grownBy (setBlk (W1.alloc (.cells #[.int .i64 n, .int .i64 l, .int .i64 a] 61)) t (.cells #[.int .i64 n, .int .i64 l, .int .i64 a] T (0, 0))) (some t) := by
    refine ⟨by rw [← hW1]; rfl, by rw [← hW1]; rfl, by rw [← hW1]; rfl, by rw [setBlk_size]; simp; omega, fun i hi hne => ?_⟩
    rw [setBlk_other (fun e => hne (by rw [e])), Below.heap_alloc _ _ _ (by omega), ← hW1, Below.heap_alloc _ _ _ hi]
  rw [← hW1] at st hfin1 hfin2
  rw [World.size_alloc] at st
  have F1 := Lib.hid hfin1
  have F2 := Lib.hid hfin2
  clear hW1 hW1s hW1t hfin1 hfin2 ht hv W1
  go_enter Tryz.func74, Tryz.ntmps74
  go_wp2_with fail
  refine wp_loop_rounds 1 ?_
  rw [rounds_succ]
  go_wp2_with fail
  go_ret
  exact ⟨rfl, F1.out, F2.out⟩
theorem ta_as_errno (v : Value) (w : World) : (Instr.typeAssert (.iface 59 v) 32 150 true).run Tryz.prog w = .ok (.tuple #[.nilIface, .bool false]) w := run_typeAssert_lacksB Tryz.underlying150 (by kernel_rfl) (by kernel_rfl) v 32 w
set_option maxHeartbeats 400000 in
set_option maxRecDepth 100000 in
theorem asin_errno (n : Int) (x rv : Value) (hrv : ∃ cs : Array Value, rv = .agg cs) (w : World) :
    Calls Tryz.prog 74 #[errV n, x, rv, rtF] w fun e w' => e = .returned (.bool false) ∧ Below w.heap.size w w' := by
  obtain ⟨cs, rfl⟩ := hrv
  unfold errV rtF
  have h40 := @run_callFunc_extern Tryz.prog 75 _ _ Tryz.func75 (by kernel_rfl) (by kernel_rfl) (by kernel_rfl) call_typeOf
  have h102 := @run_callFunc_extern Tryz.prog 131 _ _ Tryz.func131 (by kernel_rfl) (by kernel_rfl) (by kernel_rfl) call_assignable
  have tO := typeOf_errno
  have mA := as_methodAssignableTo
  have aF := as_assignEF
  have t1 := ta_as_errno
  have t2 := ta_un_errno
  have t3 := ta_uns_errno
  go_enter Tryz.func74, Tryz.ntmps74
  go_wp2_with fail
  refine wp_loop_rounds 1 ?_
  rw [rounds_succ]
  go_wp2_with fail
  go_ret
  exact ⟨rfl, (Below.refl _ _).alloc (Nat.le_refl _) _⟩
/-- errors.errorType reads as it is laid. -/
def ErrT (w : World) : Prop := w.cell? ⟨0, 0, none⟩ = some (.iface 146 (.agg #[.pointer (some ⟨4, 32, none⟩)])) ∧ 0 < w.heap.size
set_option maxHeartbeats 800000 in
set_option maxRecDepth 100000 in
theorem as_fault (n l a : Int) (t : Nat) (o0 o1 o2 : Value) (T : TypeId) (w : World) (hG : ErrT w) (ht : w.heap[t]? = some (.cells #[o0, o1, o2] T (0, 0))) :
    Calls Tryz.prog 54 #[faultV n l a, .iface 100 (.pointer (some ⟨t, 0, none⟩))] w fun e w' =>
      e = .returned (.bool true) ∧ w'.heap[t]? = some (.cells #[.int .i64 n, .int .i64 l, .int .i64 a] T (0, 0)) ∧ w.grownBy w' (some t) := by
  unfold faultV
  have htl := blk_lt ht
  have h52 := @run_callFunc_extern Tryz.prog 71 _ _ Tryz.func71 (by kernel_rfl) (by kernel_rfl) (by kernel_rfl) call_valueOf
  have h53 := @run_callFunc_extern Tryz.prog 72 _ _ Tryz.func72 (by kernel_rfl) (by kernel_rfl) (by kernel_rfl) call_type
  have h54 := @run_callFunc_extern Tryz.prog 73 _ _ Tryz.func73 (by kernel_rfl) (by kernel_rfl) (by kernel_rfl) call_isNil
  have h94 := @run_callFunc_extern Tryz.prog 120 _ _ Tryz.func120 (by kernel_rfl) (by kernel_rfl) (by kernel_rfl) call_kind
  have h104 := @run_callFunc_extern Tryz.prog 133 _ _ Tryz.func133 (by kernel_rfl) (by kernel_rfl) (by kernel_rfl) call_elem
  have h105 := @run_callFunc_extern Tryz.prog 134 _ _ Tryz.func134 (by kernel_rfl) (by kernel_rfl) (by kernel_rfl) call_implements
  have vT := as_valueOfT
  have tT := as_typeT
  have mK := as_methodKind
  have kT := as_kindT
  have kF := as_kindF
  have mE := as_methodElem
  have eT := as_elemT
  have mI := as_methodImplements
  have iF := as_implementsF
  have n54 := as_isNilT ⟨w.heap.size, 0, none⟩ ⟨t, 0, none⟩ ((w.alloc (.cells #[.pointer (some ⟨t, 0, none⟩)] 100)).alloc (.cells #[.pointer (some ⟨4, 100, none⟩), .pointer (some ⟨w.heap.size, 0, none⟩), .int .u64 150] 128))
    ((cell_alloc' (by simp)).trans (cell_new _ _ _ _))
  have hg2 : ((w.alloc (.cells #[.pointer (some ⟨t, 0, none⟩)] 100)).alloc (.cells #[.pointer (some ⟨4, 100, none⟩), .pointer (some ⟨w.heap.size, 0, none⟩), .int .u64 150] 128)).cell? ⟨0, 0, none⟩ = some (.iface 146 (.agg #[.pointer (some ⟨4, 32, none⟩)])) :=
    (cell_alloc' (by simp)).trans ((cell_alloc' hG.2).trans hG.1)
  have HT := Lib.hid ht
  clear ht
  go_enter Tryz.func54, Tryz.ntmps54
  go_wp2_with fail
  refine (asin_fault n l a t w.heap.size o0 o1 o2 T _ ((cell_alloc' (by simp)).trans (cell_new _ _ _ _)) (by
    rw [Below.heap_alloc _ _ _ (by simp; omega), Below.heap_alloc _ _ _ htl]; exact HT.out)).mono ?_
  rintro e w1 ⟨rfl, h1, h2⟩
  have H1 := Lib.hid h1
  have hgr : w.grownBy w1 (some t) := by
    refine ⟨h2.os, h2.tape, h2.output, ?_, fun i hi hne => ?_⟩
    · have := h2.size; simp at this; omega
    · rw [h2.block i (by simp; omega) hne, Below.heap_alloc _ _ _ (by simp; omega), Below.heap_alloc _ _ _ hi]
  have H2 := Lib.hid hgr
  clear h1 h2 hgr
  go_wp2_with fail
  go_ret
  exact ⟨rfl, H1.out, H2.out⟩
set_option maxHeartbeats 800000 in
set_option maxRecDepth 100000 in
theorem as_errno (n : Int) (t : Nat) (w : World) (hG : ErrT w) :
    Calls Tryz.prog 54 #[errV n, .iface 100 (.pointer (some ⟨t, 0, none⟩))] w fun e w' =>
      e = .returned (.bool false) ∧ Below w.heap.size w w' := by
  unfold errV
  have h52 := @run_callFunc_extern Tryz.prog 71 _ _ Tryz.func71 (by kernel_rfl) (by kernel_rfl) (by kernel_rfl) call_valueOf
  have h53 := @run_callFunc_extern Tryz.prog 72 _ _ Tryz.func72 (by kernel_rfl) (by kernel_rfl) (by kernel_rfl) call_type
  have h54 := @run_callFunc_extern Tryz.prog 73 _ _ Tryz.func73 (by kernel_rfl) (by kernel_rfl) (by kernel_rfl) call_isNil
  have h94 := @run_callFunc_extern Tryz.prog 120 _ _ Tryz.func120 (by kernel_rfl) (by kernel_rfl) (by kernel_rfl) call_kind
  have h104 := @run_callFunc_extern Tryz.prog 133 _ _ Tryz.func133 (by kernel_rfl) (by kernel_rfl) (by kernel_rfl) call_elem
  have h105 := @run_callFunc_extern Tryz.prog 134 _ _ Tryz.func134 (by kernel_rfl) (by kernel_rfl) (by kernel_rfl) call_implements
  have vT := as_valueOfT
  have tT := as_typeT
  have mK := as_methodKind
  have kT := as_kindT
  have kF := as_kindF
  have mE := as_methodElem
  have eT := as_elemT
  have mI := as_methodImplements
  have iF := as_implementsF
  have n54 := as_isNilT ⟨w.heap.size, 0, none⟩ ⟨t, 0, none⟩ ((w.alloc (.cells #[.pointer (some ⟨t, 0, none⟩)] 100)).alloc (.cells #[.pointer (some ⟨4, 100, none⟩), .pointer (some ⟨w.heap.size, 0, none⟩), .int .u64 150] 128))
    ((cell_alloc' (by simp)).trans (cell_new _ _ _ _))
  have hg2 : ((w.alloc (.cells #[.pointer (some ⟨t, 0, none⟩)] 100)).alloc (.cells #[.pointer (some ⟨4, 100, none⟩), .pointer (some ⟨w.heap.size, 0, none⟩), .int .u64 150] 128)).cell? ⟨0, 0, none⟩ = some (.iface 146 (.agg #[.pointer (some ⟨4, 32, none⟩)])) :=
    (cell_alloc' (by simp)).trans ((cell_alloc' hG.2).trans hG.1)
  go_enter Tryz.func54, Tryz.ntmps54
  go_wp2_with fail
  refine (asin_errno n _ _ ⟨_, rfl⟩ _).mono ?_
  rintro e w1 ⟨rfl, h2⟩
  have H2 := Lib.hid (((((Below.refl w.heap.size w).alloc (Nat.le_refl _) (.cells #[.pointer (some ⟨t, 0, none⟩)] 100)).alloc (by simp) (.cells #[.pointer (some ⟨4, 100, none⟩), .pointer (some ⟨w.heap.size, 0, none⟩), .int .u64 150] 128)).trans (h2.mono (by simp; omega))))
  clear h2
  go_wp2_with fail
  go_ret
  exact ⟨rfl, H2.out⟩
set_option maxHeartbeats 400000 in
theorem as_nil (x : Value) (w : World) : Calls Tryz.prog 54 #[.nilIface, x] w fun e w' => e = .returned (.bool false) ∧ w = w' := by
  go_enter Tryz.func54, Tryz.ntmps54
  go_wp2_with fail
  go_ret
  exact ⟨rfl, rfl⟩
end Go.Proofs.YthpmocfdnoehoaaGreatDoor
/- Contract of stratakit.Num at an Errno and at a Fault. -/
namespace Go.Proofs.YthpmocfdnoehoaaGreatDoor
open Go.RowKit
/-- errors.Is knows e by the number m. -/
def IsNum (e : Value) (m : Int) : Prop := ∀ (k : Int) (w : World), Calls Tryz.prog 55 #[e, errV k] w fun r w' => r = .returned (.bool (m == k)) ∧ Below w.heap.size w w'
theorem isNum_errno (n : Int) : IsNum (errV n) n := fun k w => (is_errno n k w).mono fun _ _ ⟨h, hw⟩ => ⟨h, by rw [← hw]; exact Below.refl _ _⟩
theorem isNum_fault (n l a : Int) : IsNum (faultV n l a) n := fun k w => is_fault n l a k w
set_option maxHeartbeats 400000 in
theorem num_nil (w : World) : Calls Tryz.prog 32 #[.nilIface] w fun e w' => e = .returned (.int .i64 0) ∧ w = w' := by
  go_enter Tryz.func32, Tryz.ntmps32
  go_wp2_with fail
  go_ret
  exact ⟨rfl, rfl⟩
set_option maxHeartbeats 800000 in
set_option maxRecDepth 100000 in
theorem num_any (t : TypeId) (x : Value) (m : Int) (w : World) (hI : IsNum (.iface t x) m) (h1 : 1 ≤ m) (h2 : m ≤ 32) :
    Calls Tryz.prog 32 #[.iface t x] w fun e w' => e = .returned (.int .i64 m) ∧ Below w.heap.size w w' := by
  go_enter Tryz.func32, Tryz.ntmps32
  go_wp2_with fail
  go_loopw [3, 4] (fun fv nv wr => ∃ k v : Int, 1 ≤ k ∧ k ≤ 33 ∧ nv = .int .i64 k ∧ fv = .int .i64 v ∧ Hid ((m < k → v = m) ∧ (k ≤ m → v = 0)) ∧ Hid (Below w.heap.size w wr)) (fun _ nv _ => (33 - intOf nv).toNat)
  case atStart => exact ⟨1, 0, by omega, by omega, rfl, rfl, ⟨fun h => by omega, fun _ => rfl⟩, Below.refl _ _⟩
  case round =>
    obtain ⟨k, v, hk1, hk2, rfl, rfl, hv, hb⟩ := hrel
    by_cases hlt : k ≤ 32
    · rcases Int.lt_trichotomy k m with hm | hm | hm
      · have hmk : (m == k) = false := by rw [beq_eq_false_iff_ne]; omega
        have HM := Lib.hid hmk
        clear hmk
        go_wp2_with fail
        refine (hI k _).mono ?_
        rintro e w1 ⟨rfl, hb1⟩
        rw [HM.out]
        have HB := Lib.hid (hb.out.trans (hb1.mono hb.out.size))
        clear hb1
        go_wp2_with fail
        go_roundw
        case rel => exact ⟨k + 1, v, by omega, by omega, rfl, rfl, ⟨fun h => by omega, fun _ => hv.out.2 (by omega)⟩, HB.out⟩
        case measure => simp [intOf]; omega
      · have hv0 : v = 0 := hv.out.2 (by omega)
        subst hv0
        obtain ⟨j, hj⟩ : ∃ j, j = m := ⟨_, rfl⟩
        have hmk : (m == k) = true := by rw [beq_iff_eq]; omega
        have HM := Lib.hid hmk
        have HK := Lib.hid hm
        clear hmk hj j
        have hkm1 : k ≤ m := by omega
        have hkm2 : m ≤ k := by omega
        clear hm
        go_wp2_with fail
        refine (hI k _).mono ?_
        rintro e w1 ⟨rfl, hb1⟩
        rw [HM.out]
        have HB := Lib.hid (hb.out.trans (hb1.mono hb.out.size))
        clear hb1
        go_wp2_with fail
        go_roundw
        case rel => exact ⟨k + 1, k, by omega, by omega, rfl, rfl, ⟨fun _ => HK.out, fun h => by omega⟩, HB.out⟩
        case measure => simp [intOf]; omega
      · have hv0 : v = m := hv.out.1 (by omega)
        have hmk : (m == k) = false := by rw [beq_eq_false_iff_ne]; omega
        have HM := Lib.hid hmk
        subst hv0
        clear hmk
        go_wp2_with fail
        refine (hI k _).mono ?_
        rintro e w1 ⟨rfl, hb1⟩
        rw [HM.out]
        have HB := Lib.hid (hb.out.trans (hb1.mono hb.out.size))
        clear hb1
        go_wp2_with fail
        go_roundw
        case rel => exact ⟨k + 1, v, by omega, by omega, rfl, rfl, ⟨fun _ => rfl, fun h => by omega⟩, HB.out⟩
        case measure => simp [intOf]; omega
    · have hv0 : v = m := hv.out.1 (by omega)
      subst hv0
      have hne : (v == 0) = false := by rw [beq_eq_false_iff_ne]; omega
      have hm0 : (v == (0 : Int)) = false := hne
      have HM := Lib.hid hm0
      go_wp2_with fail
      refine (hI 0 _).mono ?_
      rintro e w1 ⟨rfl, hb1⟩
      rw [HM.out]
      have HB := Lib.hid (hb.out.trans (hb1.mono hb.out.size))
      clear hb1
      go_wp2_with fail
      go_ret
      exact ⟨rfl, HB.out⟩
end Go.Proofs.YthpmocfdnoehoaaGreatDoor
/- Contracts of stratakit.Place and stratakit.At. -/
namespace Go.Proofs.YthpmocfdnoehoaaGreatDoor
open Go.RowKit
theorem ErrT.below {w w' : World} (h : ErrT w) {B : Nat} (hb : Below B w w') (hB : 0 < B) : ErrT w' :=
  ⟨(hb.cell (p := ⟨0, 0, none⟩) hB).trans h.1, Nat.lt_of_lt_of_le h.2 hb.size⟩
theorem ErrT.alloc {w : World} (h : ErrT w) (o : Obj) : ErrT (w.alloc o) := h.below ((Below.refl w.heap.size w).alloc (Nat.le_refl _) o) h.2
theorem below_grown {w0 w w' : World} {t B : Nat} (h : Below B w0 w) (hg : w.grownBy w' (some t)) (ht : B ≤ t) (hB : B ≤ w.heap.size) : Below B w0 w' :=
  h.trans ⟨hg.os, hg.tape, hg.output, hg.size, fun k hk => hg.block k (by omega) (fun e => by cases e; omega)⟩
set_option maxHeartbeats 800000 in
set_option maxRecDepth 100000 in
theorem place_fault (n l a : Int) (w : World) (hG : ErrT w) (h1 : 1 ≤ n) (h2 : n ≤ 32) :
    Calls Tryz.prog 31 #[faultV n l a] w fun e w' => e = .returned (.tuple #[.int .i64 l, .int .i64 a, .bool true]) ∧ Below w.heap.size w w' := by
  have hI := isNum_fault n l a
  unfold faultV
  unfold faultV at hI
  go_enter Tryz.func31, Tryz.ntmps31
  go_wp2_with fail
  refine (as_fault n l a w.heap.size _ _ _ 61 _ (hG.alloc _) (heap_new _ _)).mono ?_
  rintro e w1 ⟨rfl, h3, h4⟩
  have hb := below_grown ((Below.refl w.heap.size w).alloc (Nat.le_refl _) _) h4 (Nat.le_refl _) (by simp)
  have hz : w.heap.size < w1.heap.size := blk_lt h3
  have c0 : w1.cell? ⟨w.heap.size, 0, none⟩ = some (.int .i64 n) := cell_of_heapN h3
  have c1 : w1.cell? ⟨w.heap.size, 1, none⟩ = some (.int .i64 l) := cell_of_heapN h3
  have c2 : w1.cell? ⟨w.heap.size, 2, none⟩ = some (.int .i64 a) := cell_of_heapN h3
  have HB := Lib.hid hb.drew
  clear hb h3 h4
  go_wp2_with fail
  go_region_held3 (fun w' => w'.cell? ⟨w.heap.size, 0, none⟩ = some (.int .i64 n) ∧ w'.cell? ⟨w.heap.size, 1, none⟩ = some (.int .i64 l) ∧ w'.cell? ⟨w.heap.size, 2, none⟩ = some (.int .i64 a) ∧ Hid (Below w.heap.size w w') ∧ w.heap.size < w'.heap.size)
    (first | exact ⟨c0, c1, c2, HB, hz⟩ | exact ⟨k0, k1, k2, k3, k4⟩)
    (first | (go_at_call 32; refine (num_any _ _ n _ hI h1 h2).mono ?_; rintro e w3 ⟨rfl, hb⟩; rename_i hH _ _; have k0 := (hb.cell (p := ⟨w.heap.size, 0, none⟩) hH.2.2.2.2).trans hH.1; have k1 := (hb.cell (p := ⟨w.heap.size, 1, none⟩) hH.2.2.2.2).trans hH.2.1; have k2 := (hb.cell (p := ⟨w.heap.size, 2, none⟩) hH.2.2.2.2).trans hH.2.2.1; have k3 := Lib.hid (hH.2.2.2.1.out.trans (hb.mono hH.2.2.2.1.out.size)); have k4 := Nat.lt_of_lt_of_le hH.2.2.2.2 hb.size))
  go_wp2_with fail
  go_ret3
  exact ⟨rfl, k3.out⟩
set_option maxHeartbeats 400000 in
set_option maxRecDepth 100000 in
theorem place_errno (n : Int) (w : World) (hG : ErrT w) :
    Calls Tryz.prog 31 #[errV n] w fun e w' => e = .returned (.tuple #[.int .i64 0, .int .i64 0, .bool false]) ∧ Below w.heap.size w w' := by
  unfold errV
  go_enter Tryz.func31, Tryz.ntmps31
  go_wp2_with fail
  refine (as_errno n w.heap.size _ (hG.alloc _)).mono ?_
  rintro e w1 ⟨rfl, h4⟩
  have HB := Lib.hid (((Below.refl w.heap.size w).alloc (Nat.le_refl _) (.cells #[.int .i64 0, .int .i64 0, .int .i64 0] 61)).trans (h4.mono (by simp)))
  clear h4
  go_wp2_with fail
  go_ret3
  exact ⟨rfl, HB.out⟩
set_option maxHeartbeats 400000 in
set_option maxRecDepth 100000 in
theorem place_nil (w : World) :
    Calls Tryz.prog 31 #[.nilIface] w fun e w' => e = .returned (.tuple #[.int .i64 0, .int .i64 0, .bool false]) ∧ Below w.heap.size w w' := by
  go_enter Tryz.func31, Tryz.ntmps31
  go_wp2_with fail
  go_ret3
  exact ⟨rfl, (Below.refl _ _).alloc (Nat.le_refl _) _⟩
set_option maxHeartbeats 400000 in
set_option maxRecDepth 100000 in
theorem at_fault (n l a m l' a' : Int) (w : World) (hG : ErrT w) (h1 : 1 ≤ n) (h2 : n ≤ 32) (hm : 1 ≤ m) :
    Calls Tryz.prog 10 #[faultV n l a, .int .i64 m, .int .i64 l', .int .i64 a'] w fun e w' => e = .returned (.bool ((n == m) && (l == l') && (a == a'))) ∧ Below w.heap.size w w' := by
  have hI := isNum_fault n l a
  have hm0 : (m == 0) = false := by rw [beq_eq_false_iff_ne]; omega
  go_enter Tryz.func10, Tryz.ntmps10
  go_wp2_with fail
  refine (place_fault n l a _ hG h1 h2).mono ?_
  rintro e w1 ⟨rfl, hb⟩
  have HB1 := Lib.hid hb
  clear hb
  go_wp2_with fail
  refine (num_any _ _ n _ hI h1 h2).mono ?_
  rintro e w2 ⟨rfl, hb⟩
  have HB2 := Lib.hid (HB1.out.trans (hb.mono HB1.out.size))
  clear hb HB1
  cases hx : (n == m) <;> cases hy : (l == l') <;> cases hz : (a == a')
  all_goals
    go_wp2_with fail
    go_ret
    exact ⟨by first | rfl | (rw [hx, hy, hz]; rfl), HB2.out⟩
set_option maxHeartbeats 400000 in
theorem at_nil (l' a' : Int) (w : World) :
    Calls Tryz.prog 10 #[.nilIface, .int .i64 0, .int .i64 l', .int .i64 a'] w fun e w' => e = .returned (.bool true) ∧ w = w' := by
  go_enter Tryz.func10, Tryz.ntmps10
  go_wp2_with fail
  go_ret
  exact ⟨rfl, rfl⟩
end Go.Proofs.YthpmocfdnoehoaaGreatDoor
/- Contracts of one, Head, Blocks; of works: a member that is written and read, and one that is not. -/
namespace Go.Proofs.YthpmocfdnoehoaaGreatDoor
open Go.RowKit
/-- The member of the examples. -/
def oneM : Mem := ⟨{ path := ⟨#[97]⟩, mode := 420, uid := 0, gid := 0, size := 3, time := 0, typ := 48, link := ⟨#[]⟩, user := ⟨#[]⟩, group := ⟨#[]⟩, major := 0, minor := 0 }, ⟨#[120, 121, 122]⟩⟩
theorem one_ok : MemOk oneM := ⟨by kernel_rfl, rfl⟩
theorem wrGo_one {m : Mem} (h : wrBad 0 m = 0) : (wrGo [m] 0 []).1 = 0 := by
  rw [wrGo, if_neg (by rw [List.length_nil, h]; simp), wrGo]
theorem wrBad_one {m : Mem} (h : MemOk m) (hw : 0 + Go.Proofs.YthpmocfdnoehoaaGreatDoor.whole m.data.size + 1536 ≤ 33554432) : wrBad 0 m = 0 := by
  unfold wrBad
  rw [if_neg (by rw [h.1]; simp), if_neg (by simp [h.2]), if_neg (by omega)]
theorem one_wr : wrGo [oneM] 0 [] = (0, 0, arcOf [oneM]) := by
  have h : wrBad 0 oneM = 0 := wrBad_one one_ok (by have hw : Go.Proofs.YthpmocfdnoehoaaGreatDoor.whole oneM.data.size = 512 := rfl; omega)
  have := (wrGo_fst [oneM] 0 [] (wrGo_one h)).1
  rw [List.nil_append] at this
  exact this
theorem one_small : oneM.small :=
  ⟨⟨by rw [show oneM.hdr.path.size = 1 from rfl]; omega, by rw [show oneM.hdr.link.size = 0 from rfl]; omega, by rw [show oneM.hdr.user.size = 0 from rfl]; omega, by rw [show oneM.hdr.group.size = 0 from rfl]; omega⟩, by rw [show oneM.data.size = 3 from rfl]; omega⟩
theorem one_len : (arcOf [oneM]).length = 2048 := by
  have e : arcOf [] = List.replicate 1024 0 := rfl
  have hw : Go.Proofs.YthpmocfdnoehoaaGreatDoor.whole oneM.data.size = 512 := rfl
  rw [arcOf_cons, List.length_append, memBytes_length one_ok, e, List.length_replicate, hw]
/-- The beginning of it that is shorter. -/
theorem one_cut : rdGo ((arcOf [oneM]).take 1000) (((arcOf [oneM]).take 1000).length + 1) 0 = [.bad 2 512] := by
  have hl := one_len
  obtain ⟨g1, g2⟩ := memAt_back (P := []) (i := 0) (R := arcOf []) one_ok rfl
  rw [List.nil_append, ← arcOf_cons] at g1 g2
  have hk : ((arcOf [oneM]).take 1000).length = 1000 := by rw [List.length_take, hl]; rfl
  rcases memAt_in (k := 1000) g2 (by omega) (by omega) with ⟨h4, h5⟩ | ⟨h4, h5⟩
  · exact rdGo_bad (by omega) (by omega) (by rw [zero_in (by omega)]; exact g1) h5
  · exact absurd h4 (by decide)
set_option maxRecDepth 100000 in
theorem one_any (w : World) : Calls Tryz.prog 15 #[] w fun e w' => e = .returned (.agg oneM.cells) ∧ Below w.heap.size w w' := by
  go_enter Tryz.func15, Tryz.ntmps15
  go_wp2_with fail
  have hc := cell_new w oneM.cells 26
  exact bodyPost_ret (v := .agg oneM.cells) (by simp [results, Tryz.f15, go_sem, hc]; exact ⟨rfl, rfl, rfl, rfl, rfl, rfl, rfl, rfl, rfl, rfl, rfl, rfl, rfl⟩) rfl ⟨rfl, (Below.refl _ _).alloc (Nat.le_refl _) _⟩
set_option maxRecDepth 100000 in
theorem head_any (s : ByteArray) (w : World) (h : (1000 : Int) < (s.size : Int)) : Calls Tryz.prog 17 #[.string s, .int .i64 1000] w fun e w' => e = .returned (.string (s.extract 0 1000)) ∧ w = w' := by
  go_enter Tryz.func17, Tryz.ntmps17
  go_wp2_with fail
  go_ret
  exact ⟨rfl, rfl⟩
attribute [local go_sem] run_eqlM guard_eqlM
set_option maxHeartbeats 3200000 in
set_option maxRecDepth 100000 in
theorem works_any (w : World) (hG : ErrT w) : Calls Tryz.prog 6 #[] w fun e w' => e = .returned (.bool true) ∧ Below w.heap.size w w' := by
  go_enter Tryz.func6, Tryz.ntmps6
  go_wp2_with fail
  obtain ⟨S, hS⟩ : ∃ S : ByteArray, S.data.toList = arcOf [oneM] := ⟨⟨(arcOf [oneM]).toArray⟩, rfl⟩
  have hSz : (S.size : Int) = 2048 := by
    have : S.data.toList.length = 2048 := by rw [hS, one_len]
    have h2 : S.size = S.data.toList.length := rfl
    omega
  have HS := Lib.hid hS
  clear hS
  refine (one_any _).mono ?_
  rintro e w1 ⟨rfl, hb1⟩
  have HB1 := Lib.hid (hb1.alloc hb1.size (.cells oneM.cells 26))
  have HG1 := Lib.hid (hG.below HB1.out hG.2)
  have HM := Lib.hid (memsAt_one w1 oneM)
  clear hb1
  go_wp2_with fail
  refine (write_arc [oneM] _ 1 _ HM.out (by simp) (by intro m hm; rw [List.mem_singleton.1 hm]; exact one_small) (by rw [one_wr]) S HS.out).mono ?_
  rintro e w2 ⟨rfl, hb2⟩
  have HB2 := Lib.hid (HB1.out.trans (hb2.mono HB1.out.size))
  clear hb2 HB1 HG1 HM
  have hok : ∀ m ∈ [oneM], MemOk m := by intro m hm; rw [List.mem_singleton.1 hm]; exact one_ok
  go_wp2_with fail
  refine (read_arc [oneM] hok S HS.out (by omega) _).mono ?_
  rintro e w3 ⟨v, rfl, ho, hb3⟩
  obtain ⟨p, cap, rfl, hm, _, _⟩ := ho.at
  have HB3 := Lib.hid (HB2.out.trans (hb3.mono HB2.out.size))
  have HM := Lib.hid hm
  clear ho hm hb3 HB2 hok
  go_wp2_with fail
  refine (head_any S _ (by omega)).mono ?_
  rintro e w4 ⟨rfl, rfl⟩
  go_wp2_with fail
  refine (read_bad (S.extract 0 1000) [] 2 512 (by rw [Lib.extract_data, HS.out, List.drop_zero]; exact one_cut) (by rw [ByteArray.size_extract]; omega) _).mono ?_
  rintro e w5 ⟨rfl, hb5⟩
  obtain ⟨b, off, rfl, hbl⟩ := HM.out.1 0 (by simp)
  have hrow : ∀ j, j < 13 → w5.cell? ⟨b, off + (0 * 13 + j), none⟩ = oneM.cells[j]? := fun j hj => (hb5.cell (p := ⟨b, off + (0 * 13 + j), none⟩) hbl).trans (HM.out.2 b off rfl 0 oneM rfl j hj)
  have HB5 := Lib.hid (HB3.out.trans (hb5.mono HB3.out.size)).drew
  have HG5 := Lib.hid (hG.below HB5.out hG.2)
  have hz5 : b < w5.heap.size := Nat.lt_of_lt_of_le hbl hb5.size
  clear hb5 HB3 HM hbl
  unfold faultV
  have c0 : w5.cell? ⟨b, off, none⟩ = some (.string oneM.hdr.path) := by simpa using row_cell hrow (j := 0) (by decide) rfl
  have c1 := row_cell hrow (j := 1) (by decide) rfl
  have c2 := row_cell hrow (j := 2) (by decide) rfl
  have c3 := row_cell hrow (j := 3) (by decide) rfl
  have c4 := row_cell hrow (j := 4) (by decide) rfl
  have c5 := row_cell hrow (j := 5) (by decide) rfl
  have c6 := row_cell hrow (j := 6) (by decide) rfl
  have c7 := row_cell hrow (j := 7) (by decide) rfl
  have c8 := row_cell hrow (j := 8) (by decide) rfl
  have c9 := row_cell hrow (j := 9) (by decide) rfl
  have c10 := row_cell hrow (j := 10) (by decide) rfl
  have c11 := row_cell hrow (j := 11) (by decide) rfl
  have c12 := row_cell hrow (j := 12) (by decide) rfl
  have hat := fun w6 (hE : ErrT w6) => at_fault 2 0 512 2 0 512 w6 hE (by decide) (by decide) (by decide)
  unfold faultV at hat
  simp only [Nat.zero_mul, Nat.add_zero] at c1 c2 c3 c4 c5 c6 c7 c8 c9 c10 c11 c12
  clear hrow
  go_wp2_with fail
  go_region_held3 (fun w' => w'.cell? ⟨b, off, none⟩ = some (.string oneM.hdr.path) ∧ w'.cell? ⟨b, off + 1, none⟩ = some (.int .i64 oneM.hdr.mode) ∧ w'.cell? ⟨b, off + 2, none⟩ = some (.int .i64 oneM.hdr.uid) ∧ w'.cell? ⟨b, off + 3, none⟩ = some (.int .i64 oneM.hdr.gid) ∧ w'.cell? ⟨b, off + 4, none⟩ = some (.int .i64 oneM.hdr.size) ∧ w'.cell? ⟨b, off + 5, none⟩ = some (.int .i64 oneM.hdr.time) ∧ w'.cell? ⟨b, off + 6, none⟩ = some (.int .u8 (oneM.hdr.typ.toNat : Int)) ∧ w'.cell? ⟨b, off + 7, none⟩ = some (.string oneM.hdr.link) ∧ w'.cell? ⟨b, off + 8, none⟩ = some (.string oneM.hdr.user) ∧ w'.cell? ⟨b, off + 9, none⟩ = some (.string oneM.hdr.group) ∧ w'.cell? ⟨b, off + 10, none⟩ = some (.int .i64 oneM.hdr.major) ∧ w'.cell? ⟨b, off + 11, none⟩ = some (.int .i64 oneM.hdr.minor) ∧ w'.cell? ⟨b, off + 12, none⟩ = some (.string oneM.data) ∧ Hid (Below w.heap.size w w') ∧ Hid (ErrT w') ∧ b < w'.heap.size)
    (first | exact ⟨c0, c1, c2, c3, c4, c5, c6, c7, c8, c9, c10, c11, c12, HB5, HG5, hz5⟩ | exact ⟨m0, m1, m2, m3, m4, m5, m6, m7, m8, m9, m10, m11, m12, m13, m14, m15⟩ | exact ⟨k0, k1, k2, k3, k4, k5, k6, k7, k8, k9, k10, k11, k12, k13, k14, k15⟩)
    (first | (go_at_call 15; refine (one_any _).mono ?_; rintro e w6 ⟨rfl, hb⟩; rename_i hH _ _; have k0 := (hb.cell (p := ⟨b, off, none⟩) hH.2.2.2.2.2.2.2.2.2.2.2.2.2.2.2).trans hH.1; have k1 := (hb.cell (p := ⟨b, off + 1, none⟩) hH.2.2.2.2.2.2.2.2.2.2.2.2.2.2.2).trans hH.2.1; have k2 := (hb.cell (p := ⟨b, off + 2, none⟩) hH.2.2.2.2.2.2.2.2.2.2.2.2.2.2.2).trans hH.2.2.1; have k3 := (hb.cell (p := ⟨b, off + 3, none⟩) hH.2.2.2.2.2.2.2.2.2.2.2.2.2.2.2).trans hH.2.2.2.1; have k4 := (hb.cell (p := ⟨b, off + 4, none⟩) hH.2.2.2.2.2.2.2.2.2.2.2.2.2.2.2).trans hH.2.2.2.2.1; have k5 := (hb.cell (p := ⟨b, off + 5, none⟩) hH.2.2.2.2.2.2.2.2.2.2.2.2.2.2.2).trans hH.2.2.2.2.2.1; have k6 := (hb.cell (p := ⟨b, off + 6, none⟩) hH.2.2.2.2.2.2.2.2.2.2.2.2.2.2.2).trans hH.2.2.2.2.2.2.1; have k7 := (hb.cell (p := ⟨b, off + 7, none⟩) hH.2.2.2.2.2.2.2.2.2.2.2.2.2.2.2).trans hH.2.2.2.2.2.2.2.1; have k8 := (hb.cell (p := ⟨b, off + 8, none⟩) hH.2.2.2.2.2.2.2.2.2.2.2.2.2.2.2).trans hH.2.2.2.2.2.2.2.2.1; have k9 := (hb.cell (p := ⟨b, off + 9, none⟩) hH.2.2.2.2.2.2.2.2.2.2.2.2.2.2.2).trans hH.2.2.2.2.2.2.2.2.2.1; have k10 := (hb.cell (p := ⟨b, off + 10, none⟩) hH.2.2.2.2.2.2.2.2.2.2.2.2.2.2.2).trans hH.2.2.2.2.2.2.2.2.2.2.1; have k11 := (hb.cell (p := ⟨b, off + 11, none⟩) hH.2.2.2.2.2.2.2.2.2.2.2.2.2.2.2).trans hH.2.2.2.2.2.2.2.2.2.2.2.1; have k12 := (hb.cell (p := ⟨b, off + 12, none⟩) hH.2.2.2.2.2.2.2.2.2.2.2.2.2.2.2).trans hH.2.2.2.2.2.2.2.2.2.2.2.2.1; have k13 := Lib.hid (hH.2.2.2.2.2.2.2.2.2.2.2.2.2.1.out.trans (hb.mono hH.2.2.2.2.2.2.2.2.2.2.2.2.2.1.out.size)); have k14 := Lib.hid (hH.2.2.2.2.2.2.2.2.2.2.2.2.2.2.1.out.below hb hH.2.2.2.2.2.2.2.2.2.2.2.2.2.2.1.out.2); have k15 := Nat.lt_of_lt_of_le hH.2.2.2.2.2.2.2.2.2.2.2.2.2.2.2 hb.size) | (go_at_call 10; refine (hat _ k14.out).mono ?_; rintro e w7 ⟨rfl, hb⟩; have m0 := (hb.cell (p := ⟨b, off, none⟩) k15).trans k0; have m1 := (hb.cell (p := ⟨b, off + 1, none⟩) k15).trans k1; have m2 := (hb.cell (p := ⟨b, off + 2, none⟩) k15).trans k2; have m3 := (hb.cell (p := ⟨b, off + 3, none⟩) k15).trans k3; have m4 := (hb.cell (p := ⟨b, off + 4, none⟩) k15).trans k4; have m5 := (hb.cell (p := ⟨b, off + 5, none⟩) k15).trans k5; have m6 := (hb.cell (p := ⟨b, off + 6, none⟩) k15).trans k6; have m7 := (hb.cell (p := ⟨b, off + 7, none⟩) k15).trans k7; have m8 := (hb.cell (p := ⟨b, off + 8, none⟩) k15).trans k8; have m9 := (hb.cell (p := ⟨b, off + 9, none⟩) k15).trans k9; have m10 := (hb.cell (p := ⟨b, off + 10, none⟩) k15).trans k10; have m11 := (hb.cell (p := ⟨b, off + 11, none⟩) k15).trans k11; have m12 := (hb.cell (p := ⟨b, off + 12, none⟩) k15).trans k12; have m13 := Lib.hid (k13.out.trans (hb.mono k13.out.size)); have m14 := Lib.hid (k14.out.below hb k14.out.2); have m15 := Nat.lt_of_lt_of_le k15 hb.size))
  clear k0 k1 k2 k3 k4 k5 k6 k7 k8 k9 k10 k11 k12 m0 m1 m2 m3 m4 m5 m6 m7 m8 m9 m10 m11 m12 c0 c1 c2 c3 c4 c5 c6 c7 c8 c9 c10 c11 c12
  go_wp2_with fail
  go_ret
  exact ⟨rfl, m13.out⟩
end Go.Proofs.YthpmocfdnoehoaaGreatDoor
/- The walk of ArchiveRead. -/
namespace Go.Proofs.YthpmocfdnoehoaaGreatDoor
open Go.RowKit
theorem endGo_range (l : Bs) : ∀ f i, (endGo l f i).1 = 0 ∨ (1 ≤ (endGo l f i).1 ∧ (endGo l f i).1 ≤ 32) := by
  intro f
  induction f with
  | zero => intro i; left; rfl
  | succ f ih =>
    intro i
    rw [endGo]
    split
    · right; show (1 : Int) ≤ 2 ∧ (2 : Int) ≤ 32; decide
    · split
      · right; show (1 : Int) ≤ 3 ∧ (3 : Int) ≤ 32; decide
      · split
        · left; rfl
        · exact ih _
theorem decErrM_range (l : Bs) : decErrM l = 0 ∨ (1 ≤ decErrM l ∧ decErrM l ≤ 32) := by
  unfold decErrM decErr
  split
  · split
    · right; decide
    · split
      · right; decide
      · left; rfl
  · right; decide
theorem memAt_range {l : Bs} {i j : Nat} {e : Int} (h : memAt l i = .bad e j) : 1 ≤ e ∧ e ≤ 32 := by
  unfold memAt at h
  split at h
  · rename_i hne
    obtain ⟨rfl, -⟩ := MemR.bad.inj h
    rcases decErrM_range (blkAt l i) with h0 | h1
    · exact absurd h0 hne
    · exact h1
  · split at h
    · obtain ⟨rfl, -⟩ := MemR.bad.inj h
      decide
    · cases h
theorem rdGo_range (l : Bs) : ∀ (f i : Nat) (e : Int) (j : Nat), RdX.bad e j ∈ rdGo l f i → 1 ≤ e ∧ e ≤ 32 := by
  intro f
  induction f with
  | zero => intro i e j h; simp [rdGo] at h
  | succ f ih =>
    intro i e j h
    rw [rdGo] at h
    split at h
    · obtain ⟨rfl, -⟩ := RdX.bad.inj (List.mem_singleton.1 h)
      decide
    · split at h
      · split at h
        · simp at h
        · rename_i hne
          obtain ⟨rfl, -⟩ := RdX.bad.inj (List.mem_singleton.1 h)
          rcases endGo_range l (l.length + 1) (i + 512) with h0 | h1
          · exact absurd h0 hne
          · exact h1
      · split at h
        · rename_i hm
          obtain ⟨rfl, -⟩ := RdX.bad.inj (List.mem_singleton.1 h)
          exact memAt_range hm
        · rcases List.mem_cons.1 h with h | h
          · cases h
          · exact ih _ e j h
theorem rdGo_few (l : Bs) : ∀ f i, i ≤ l.length → 512 * (rdGo l f i).length ≤ (l.length - i) + 512 := by
  intro f
  induction f with
  | zero => intro i _; simp [rdGo]
  | succ f ih =>
    intro i hi
    rw [rdGo]
    split
    · simp
    · split
      · split <;> simp
      · split
        · simp
        · rename_i m n hm
          have := memAt_next hm
          have := ih n this.2
          rw [List.length_cons]
          omega
/-- What is read of a text, by both. -/
theorem rd_out (s : ByteArray) : ∃ (x i : Int) (ms : List Mem), (x = 0 ∨ (1 ≤ x ∧ x ≤ 32)) ∧ ms.length ≤ 65537 ∧
    (∀ w : World, Calls Tryz.prog 16 #[.string s] w fun e w' => ∃ v, e = .returned (.tuple #[v, if x = 0 then .nilIface else faultV x 0 i]) ∧ OwnMs w.heap.size ms v w' ∧ Below w.heap.size w w') ∧
    (∀ w : World, Calls Tryz.prog 34 #[.string s] w fun e w' => ∃ v, e = .returned (.tuple #[v, .int .i64 x, .int .i64 i]) ∧ OwnMs w.heap.size ms v w' ∧ Below w.heap.size w w') := by
  have nilOwn : ∀ w w' : World, OwnMs w.heap.size [] (.slice none 0 0) w' := fun w w' => ⟨World.ownsRow_nil _ _ _ _, by simp⟩
  by_cases hs : (33554432 : Int) < (s.size : Int)
  · refine ⟨5, 33554432, [], .inr (by decide), by simp, fun w => (read_big s w hs).mono ?_, fun w => (ReadR_big s w hs).mono ?_⟩
    · rintro e w' ⟨rfl, hb⟩
      exact ⟨_, by rw [if_neg (by decide)], nilOwn w w', hb⟩
    · rintro e w' ⟨rfl, hb⟩
      exact ⟨_, rfl, nilOwn w w', hb⟩
  · have hsz : s.size ≤ 33554432 := by omega
    have hfew := rdGo_few s.data.toList (s.data.toList.length + 1) 0 (Nat.zero_le _)
    have hsl : s.data.toList.length = s.size := rfl
    rcases rdGo_shape s.data.toList (s.data.toList.length + 1) 0 with ⟨ms, h⟩ | ⟨ms, x, j, h⟩
    · refine ⟨0, 0, ms, .inl rfl, by rw [h, List.length_map] at hfew; omega, fun w => (read_walk s w hsz).mono ?_, fun w => (ReadR_any s w (by omega)).mono ?_⟩
      · rintro e w' ⟨hp, hb⟩
        rw [h] at hp
        rcases hp with ⟨ms', v, h1, rfl, h2, h3⟩ | ⟨ms', x, i, h1, _⟩
        · have := mem_inj h1
          subst this
          exact ⟨v, by rw [if_pos rfl], ⟨h2, h3⟩, hb⟩
        · exact absurd h1.symm (no_bad _ [] _ _ _)
      · rintro e w' ⟨hp, hb⟩
        rw [h] at hp
        rcases hp with ⟨ms', v, h1, rfl, h2⟩ | ⟨ms', x, i, h1, _⟩
        · have := mem_inj h1
          subst this
          exact ⟨v, rfl, h2, hb⟩
        · exact absurd h1.symm (no_bad _ [] _ _ _)
    · have hr := rdGo_range s.data.toList (s.data.toList.length + 1) 0 x j (by rw [h]; simp)
      refine ⟨x, (j : Nat), [], .inr hr, by simp, fun w => (read_walk s w hsz).mono ?_, fun w => (ReadR_any s w (by omega)).mono ?_⟩
      · rintro e w' ⟨hp, hb⟩
        rw [h] at hp
        rcases hp with ⟨ms', v, h1, _⟩ | ⟨ms', x', i, h1, rfl⟩
        · exact absurd h1 (no_bad _ [] _ _ _)
        · obtain ⟨rfl, rfl⟩ := one_bad (ms'.map .mem) [] ms _ _ _ _ h1.symm
          exact ⟨_, by rw [if_neg (by omega)], nilOwn w w', hb⟩
      · rintro e w' ⟨hp, hb⟩
        rw [h] at hp
        rcases hp with ⟨ms', v, h1, _⟩ | ⟨ms', x', i, h1, rfl⟩
        · exact absurd h1 (no_bad _ [] _ _ _)
        · obtain ⟨rfl, rfl⟩ := one_bad (ms'.map .mem) [] ms _ _ _ _ h1.symm
          exact ⟨_, rfl, nilOwn w w', hb⟩
/-- Several lists of the call's own. -/
def Kps (A : List (Nat × List Mem × Value)) (w : World) : Prop := ∀ x ∈ A, OwnMs x.1 x.2.1 x.2.2 w
theorem Kps.keep {A : List (Nat × List Mem × Value)} {w w' : World} (h : Kps A w) (hb : Below w.heap.size w w') : Kps A w' := fun x hx => (h x hx).keep hb
theorem Kps.cons {A : List (Nat × List Mem × Value)} {w : World} {b : Nat} {ms : List Mem} {v : Value} (h : Kps A w) (ho : OwnMs b ms v w) : Kps ((b, ms, v) :: A) w := fun x hx => by
  rcases List.mem_cons.1 hx with rfl | hx
  · exact ho
  · exact h x hx
theorem Kps.at {A : List (Nat × List Mem × Value)} {w : World} {b n c : Nat} {p : Option Addr} {ms : List Mem} (h : Kps A w) (hm : (b, ms, .slice p n c) ∈ A) : MemsAt w p ms := by
  obtain ⟨q, cap, e, hq, _⟩ := (h _ hm).at
  obtain ⟨rfl, -, -⟩ := Value.slice.inj e
  exact hq
theorem OwnMs.blk {b : Nat} {ms : List Mem} {v : Value} {w : World} (h : OwnMs b ms v w) : ∀ k, v.ownBlock = some k → b ≤ k ∧ k < w.heap.size := h.1.lt
theorem ownsRow_base {w : World} {B B' S s n : Nat} {v : Value} {xs : List Value} (h : w.ownsRow B S s v n xs) (hB : B' ≤ B) : w.ownsRow B' S s v n xs := by
  refine ⟨h.1, ?_⟩
  rcases h.2 with h2 | ⟨g, cap, cur, h1, h2, h3⟩
  · exact .inl h2
  · exact .inr ⟨g, cap, cur, h1, Nat.le_trans hB h2, h3⟩
set_option maxHeartbeats 6400000 in
set_option maxRecDepth 100000 in
theorem readL_any (s t : ByteArray) (w : World) (hG : ErrT w) :
    Calls Tryz.prog 12 #[.string s, .string t] w fun e w' => e = .returned (.bool true) ∧ Below w.heap.size w w' := by
  obtain ⟨x, i, ms, hx, hml, hA, hR⟩ := rd_out s
  obtain ⟨y, j, ns, hy, hnl, hB, hS⟩ := rd_out t
  have hat : ∀ w4 : World, ErrT w4 → Calls Tryz.prog 10 #[if x = 0 then .nilIface else faultV x 0 i, .int .i64 x, .int .i64 0, .int .i64 i] w4 fun e w' => e = .returned (.bool true) ∧ Below w4.heap.size w4 w' := fun w4 hE => by
    by_cases h0 : x = 0
    · rw [if_pos h0, h0]
      exact (at_nil 0 i w4).mono fun _ _ ⟨he, hw⟩ => ⟨he, by rw [← hw]; exact Below.refl _ _⟩
    · rw [if_neg h0]
      refine (at_fault x 0 i x 0 i w4 hE (by omega) (by omega) (by omega)).mono fun _ _ ⟨he, hw⟩ => ⟨he.trans ?_, hw⟩
      simp
  have hnum : ∀ w4 : World, Calls Tryz.prog 32 #[if y = 0 then .nilIface else faultV y 0 j] w4 fun e w' => e = .returned (.int .i64 y) ∧ Below w4.heap.size w4 w' := fun w4 => by
    by_cases h0 : y = 0
    · rw [if_pos h0, h0]
      exact (num_nil w4).mono fun _ _ ⟨he, hw⟩ => ⟨he, by rw [← hw]; exact Below.refl _ _⟩
    · rw [if_neg h0]
      exact num_any _ _ y w4 (isNum_fault y 0 j) (by omega) (by omega)
  obtain ⟨E, hE⟩ : ∃ E : Value, (if x = 0 then .nilIface else faultV x 0 i) = E := ⟨_, rfl⟩
  obtain ⟨F, hF⟩ : ∃ F : Value, (if y = 0 then .nilIface else faultV y 0 j) = F := ⟨_, rfl⟩
  rw [hE] at hA hat
  rw [hF] at hB hnum
  have HA := Lib.hid hA
  have HB := Lib.hid hB
  have HR := Lib.hid hR
  have HS := Lib.hid hS
  have HAT := Lib.hid hat
  have HNUM := Lib.hid hnum
  have HML := Lib.hid hml
  have HNL := Lib.hid hnl
  have HG := Lib.hid hG
  clear hE hF hA hB hR hS hat hnum hx hy hml hnl hG
  go_enter Tryz.func12, Tryz.ntmps12
  go_wp2_with fail
  refine (HR.out _).mono ?_
  rintro e w1 ⟨v1, rfl, ho1, hb1⟩
  obtain ⟨p1, c1, rfl, -, -, -⟩ := ho1.at
  have K1 := Lib.hid (show Kps [(w.heap.size, ms, .slice p1 ms.length c1)] w1 from Kps.cons (fun _ h => by cases h) ho1)
  have B1 := Lib.hid hb1
  clear ho1 hb1
  go_wp2_with fail
  refine (HS.out _).mono ?_
  rintro e w2 ⟨v2, rfl, ho2, hb2⟩
  obtain ⟨p2, c2, rfl, -, -, -⟩ := ho2.at
  have K2 := Lib.hid ((K1.out.keep hb2).cons ho2)
  have B2 := Lib.hid (B1.out.trans (hb2.mono B1.out.size))
  clear ho2 hb2 K1 B1
  go_wp2_with fail
  refine (HA.out _).mono ?_
  rintro e w3 ⟨v3, rfl, ho3, hb3⟩
  obtain ⟨p3, c3, rfl, -, -, -⟩ := ho3.at
  have K3 := Lib.hid ((K2.out.keep hb3).cons ho3)
  have B3 := Lib.hid (B2.out.trans (hb3.mono B2.out.size))
  have A3 := Lib.hid (show ∀ k, Value.ownBlock (.slice p3 ms.length c3) = some k → k < w3.heap.size from fun k hk => (ho3.blk k hk).2)
  have Z3 := Lib.hid (show w.heap.size ≤ w2.heap.size from B2.out.size)
  clear ho3 hb3 K2 B2
  go_wp2_with fail
  refine (HA.out _).mono ?_
  rintro e w4 ⟨v4, rfl, ho4, hb4⟩
  obtain ⟨p4, c4, rfl, -, -, -⟩ := ho4.at
  have K4 := Lib.hid ((K3.out.keep hb4).cons ho4)
  have B4 := Lib.hid (B3.out.trans (hb4.mono B3.out.size))
  have A4 := Lib.hid (show ∀ k, Value.ownBlock (.slice p4 ms.length c4) = some k → w3.heap.size ≤ k ∧ k < w4.heap.size from fun k hk => ho4.blk k hk)
  have Z4 := Lib.hid (show w.heap.size ≤ w3.heap.size from B3.out.size)
  have S3 := Lib.hid hb4.size
  clear ho4 hb4 K3 B3
  go_wp2_with fail
  refine (HB.out _).mono ?_
  rintro e w5 ⟨v5, rfl, ho5, hb5⟩
  obtain ⟨p5, c5, rfl, -, -, -⟩ := ho5.at
  have K5 := Lib.hid ((K4.out.keep hb5).cons ho5)
  have B5 := Lib.hid (B4.out.trans (hb5.mono B4.out.size))
  have A5 := Lib.hid (show ∀ k, Value.ownBlock (.slice p5 ns.length c5) = some k → w4.heap.size ≤ k ∧ k < w5.heap.size from fun k hk => ho5.blk k hk)
  have Z5 := Lib.hid (show w.heap.size ≤ w4.heap.size from B4.out.size)
  have S4 := Lib.hid hb5.size
  clear ho5 hb5 K4 B4
  go_wp2_with fail
  refine (HA.out _).mono ?_
  rintro e w6 ⟨v6, rfl, ho6, hb6⟩
  obtain ⟨p6, c6, rfl, -, -, -⟩ := ho6.at
  have K6 := Lib.hid ((K5.out.keep hb6).cons ho6)
  have B6 := Lib.hid (B5.out.trans (hb6.mono B5.out.size))
  have A6 := Lib.hid (show ∀ k, Value.ownBlock (.slice p6 ms.length c6) = some k → w5.heap.size ≤ k from fun k hk => (ho6.blk k hk).1)
  have Z6 := Lib.hid (show w.heap.size ≤ w5.heap.size from B5.out.size)
  clear ho6 hb6 K5 B5
  go_wp2_with fail
  refine (HAT.out _ (HG.out.below B6.out HG.out.2)).mono ?_
  rintro e w7 ⟨rfl, hb⟩
  have K7 := Lib.hid (K6.out.keep hb)
  have B7 := Lib.hid (B6.out.trans (hb.mono B6.out.size))
  clear hb K6 B6
  go_wp2_with fail
  refine (HAT.out _ (HG.out.below B7.out HG.out.2)).mono ?_
  rintro e w8 ⟨rfl, hb⟩
  have K8 := Lib.hid (K7.out.keep hb)
  have B8 := Lib.hid (B7.out.trans (hb.mono B7.out.size))
  clear hb K7 B7
  go_wp2_with fail
  refine (HNUM.out _).mono ?_
  rintro e w9 ⟨rfl, hb⟩
  have K9 := Lib.hid (K8.out.keep hb)
  have B9 := Lib.hid (B8.out.trans (hb.mono B8.out.size))
  clear hb K8 B8
  go_wp2_with fail
  refine (HAT.out _ (HG.out.below B9.out HG.out.2)).mono ?_
  rintro e w10 ⟨rfl, hb⟩
  have K10 := Lib.hid (K9.out.keep hb)
  have B10 := Lib.hid (B9.out.trans (hb.mono B9.out.size))
  clear hb K9 B9
  go_wp2_with fail
  refine (same_any ms p3 p1 c3 c1 _ (K10.out.at (b := w2.heap.size) (n := ms.length) (c := c3) (by simp)) (K10.out.at (b := w.heap.size) (n := ms.length) (c := c1) (by simp)) (by have := HML.out; omega)).mono ?_
  rintro e w11 ⟨rfl, hb⟩
  have K11 := Lib.hid (K10.out.keep hb)
  have B11 := Lib.hid (B10.out.trans (hb.mono B10.out.size))
  clear hb K10 B10
  go_wp2_with fail
  refine (same_any ms p4 p1 c4 c1 _ (K11.out.at (b := w3.heap.size) (n := ms.length) (c := c4) (by simp)) (K11.out.at (b := w.heap.size) (n := ms.length) (c := c1) (by simp)) (by have := HML.out; omega)).mono ?_
  rintro e w12 ⟨rfl, hb⟩
  have K12 := Lib.hid (K11.out.keep hb)
  have B12 := Lib.hid (B11.out.trans (hb.mono B11.out.size))
  clear hb K11 B11
  go_wp2_with fail
  refine (same_any ns p5 p2 c5 c2 _ (K12.out.at (b := w4.heap.size) (n := ns.length) (c := c5) (by simp)) (K12.out.at (b := w1.heap.size) (n := ns.length) (c := c2) (by simp)) (by have := HNL.out; omega)).mono ?_
  rintro e w13 ⟨rfl, hb⟩
  have K13 := Lib.hid (K12.out.keep hb)
  have B13 := Lib.hid (B12.out.trans (hb.mono B12.out.size))
  clear hb K12 B12
  go_wp2_with fail
  refine (same_any ms p6 p1 c6 c1 _ (K13.out.at (b := w5.heap.size) (n := ms.length) (c := c6) (by simp)) (K13.out.at (b := w.heap.size) (n := ms.length) (c := c1) (by simp)) (by have := HML.out; omega)).mono ?_
  rintro e w14 ⟨rfl, hb⟩
  have K14 := Lib.hid (K13.out.keep hb)
  have B14 := Lib.hid (B13.out.trans (hb.mono B13.out.size))
  clear hb K13 B13
  have hap : Apart #[.slice p3 ms.length c3, .slice p4 ms.length c4, .slice p5 ns.length c5, .slice p6 ms.length c6] := by
    intro a b v u k hv hu hne hvk huk
    have s3 := S3.out
    have s4 := S4.out
    have a3 := A3.out k
    have a4 := A4.out k
    have a5 := A5.out k
    have a6 := A6.out k
    have ha : a < 4 := by simpa using (Array.getElem?_eq_some_iff.1 hv).1
    have hb : b < 4 := by simpa using (Array.getElem?_eq_some_iff.1 hu).1
    rcases (show a = 0 ∨ a = 1 ∨ a = 2 ∨ a = 3 by omega) with rfl | rfl | rfl | rfl <;> rcases (show b = 0 ∨ b = 1 ∨ b = 2 ∨ b = 3 by omega) with rfl | rfl | rfl | rfl <;> (obtain rfl := Option.some.inj hv; obtain rfl := Option.some.inj hu; first | exact absurd rfl hne | (have q1 := a3 hvk; have q2 := a4 huk; omega) | (have q1 := a3 hvk; have q2 := a5 huk; omega) | (have q1 := a3 hvk; have q2 := a6 huk; omega) | (have q1 := a4 hvk; have q2 := a3 huk; omega) | (have q1 := a4 hvk; have q2 := a5 huk; omega) | (have q1 := a4 hvk; have q2 := a6 huk; omega) | (have q1 := a5 hvk; have q2 := a3 huk; omega) | (have q1 := a5 hvk; have q2 := a4 huk; omega) | (have q1 := a5 hvk; have q2 := a6 huk; omega) | (have q1 := a6 hvk; have q2 := a3 huk; omega) | (have q1 := a6 hvk; have q2 := a4 huk; omega) | (have q1 := a6 hvk; have q2 := a5 huk; omega))
  have HAP := Lib.hid hap
  have hA : ApMA w.heap.size w14.heap.size #[.slice p3 ms.length c3, .slice p4 ms.length c4, .slice p5 ns.length c5, .slice p6 ms.length c6] (w14.alloc (.cells #[.slice p3 ms.length c3, .slice p4 ms.length c4, .slice p5 ns.length c5, .slice p6 ms.length c6] 22)) (fun k => if k = 2 then ns else ms) (w14.alloc (.cells #[.slice p3 ms.length c3, .slice p4 ms.length c4, .slice p5 ns.length c5, .slice p6 ms.length c6] 22)) := by
    refine ⟨heap_new _ _, fun k v hv => ?_, Below.refl _ _, by rw [World.size_alloc]; have := B14.out.size; omega⟩
    have hk : k < 4 := by simpa using (Array.getElem?_eq_some_iff.1 hv).1
    have K15 := K14.out.keep ((Below.refl _ w14).alloc (Nat.le_refl _) (.cells #[.slice p3 ms.length c3, .slice p4 ms.length c4, .slice p5 ns.length c5, .slice p6 ms.length c6] 22))
    rcases (show k = 0 ∨ k = 1 ∨ k = 2 ∨ k = 3 by omega) with rfl | rfl | rfl | rfl
    · obtain rfl := Option.some.inj hv
      exact ownsRow_base (K15 (w2.heap.size, ms, .slice p3 ms.length c3) (by simp)).1 Z3.out
    · obtain rfl := Option.some.inj hv
      exact ownsRow_base (K15 (w3.heap.size, ms, .slice p4 ms.length c4) (by simp)).1 Z4.out
    · obtain rfl := Option.some.inj hv
      exact ownsRow_base (K15 (w4.heap.size, ns, .slice p5 ns.length c5) (by simp)).1 Z5.out
    · obtain rfl := Option.some.inj hv
      exact ownsRow_base (K15 (w5.heap.size, ms, .slice p6 ms.length c6) (by simp)).1 Z6.out
  have HAA := Lib.hid hA
  have HBA := Lib.hid (B14.out.alloc B14.out.size (.cells #[.slice p3 ms.length c3, .slice p4 ms.length c4, .slice p5 ns.length c5, .slice p6 ms.length c6] 22))
  have HZ := Lib.hid B14.out.size
  clear hap hA A3 A4 A5 A6 Z3 Z4 Z5 Z6 S3 S4 K14
  go_wp2_with fail
  refine (apartM_any #[.slice p3 ms.length c3, .slice p4 ms.length c4, .slice p5 ns.length c5, .slice p6 ms.length c6] w14.heap.size 4 w.heap.size (fun k => if k = 2 then ns else ms) _ HAA.out HAP.out HZ.out (by show 0 < 4; decide) (by show 4 ≤ 1000; decide) (by show 4 ≤ 4; decide) (by omega) (fun k => ?_)).mono ?_
  · have h1 := HML.out
    have h2 := HNL.out
    by_cases e : k = 2
    · simp only [if_pos e]; omega
    · simp only [if_neg e]; omega
  rintro e w15 ⟨rfl, hb⟩
  have HB15 := Lib.hid (HBA.out.trans hb)
  clear hb
  go_wp2_with fail
  go_ret
  exact ⟨rfl, HB15.out⟩
set_option maxRecDepth 100000 in
theorem readLaw_any (s t : ByteArray) (w : World) (hG : ErrT w) :
    Calls Tryz.prog 4 #[.string s, .string t] w fun e w' => e = .returned (.bool true) ∧ Below w.heap.size w w' := by
  have HG := Lib.hid hG
  clear hG
  go_enter Tryz.func4, Tryz.ntmps4
  go_wp2_with fail
  refine (readL_any s t _ HG.out).mono ?_
  rintro e w1 ⟨rfl, hb⟩
  have HB := Lib.hid hb
  clear hb
  go_wp2_with fail
  refine (works_any _ (HG.out.below HB.out HG.out.2)).mono ?_
  rintro e w2 ⟨rfl, hb2⟩
  have HB2 := Lib.hid (HB.out.trans (hb2.mono HB.out.size))
  clear hb2
  go_wp2_with fail
  go_ret
  exact ⟨rfl, HB2.out⟩
end Go.Proofs.YthpmocfdnoehoaaGreatDoor
/- Contract of edited: a text with a change. -/
namespace Go.Proofs.YthpmocfdnoehoaaGreatDoor
open Go.RowKit
/-- A change. -/
structure Ed where
  at_ : Int
  piece : ByteArray
  cut : Int
  sum : Bool
@[reducible] def Ed.cells (e : Ed) : Array Value := #[.int .i64 e.at_, .string e.piece, .int .i64 e.cut, .bool e.sum]
def Ed.small (e : Ed) : Prop := (-9223372036854775808 ≤ e.at_ ∧ e.at_ ≤ 9223372036854775807) ∧ (-9223372036854775808 ≤ e.cut ∧ e.cut ≤ 9223372036854775807) ∧ e.piece.size ≤ 140737488351232
def EdPost (s : ByteArray) (w : World) (r : Ending) (w' : World) : Prop := ∃ t : ByteArray, r = .returned (.string t) ∧ t.size ≤ s.size ∧ Below w.heap.size w w'
set_option maxHeartbeats 3200000 in
set_option maxRecDepth 100000 in
theorem edited_any (s : ByteArray) (x : Ed) (w : World) (hs : s.size ≤ 33554432) (hx : x.small) :
    Calls Tryz.prog 14 #[.string s, .agg x.cells] w (EdPost s w) := by
  obtain ⟨i0, hi, hz0, hz1, hz2⟩ := info_parts infoB
  obtain ⟨A0, P, C0, S⟩ := x
  obtain ⟨⟨ha1, ha2⟩, ⟨hc1, hc2⟩, hp⟩ := hx
  dsimp only at ha1 ha2 hc1 hc2 hp
  have hs2 : (s.size : Int) ≤ 33554432 := by omega
  have hp2 : (P.size : Int) ≤ 140737488351232 := by omega
  have HSS := Lib.hid hs
  clear hs hp
  obtain ⟨V, hV⟩ : ∃ V, w.alloc (.cells (Ed.cells ⟨A0, P, C0, S⟩) 42) = V := ⟨_, rfl⟩
  have cV : ∀ i : Nat, V.cell? ⟨w.heap.size, i, none⟩ = (Ed.cells ⟨A0, P, C0, S⟩)[i]? := fun i => by rw [← hV]; exact cell_new w _ _ i
  have HV := Lib.hid hV
  have HBV := Lib.hid (show Below w.heap.size w V by rw [← hV]; exact (Below.refl _ _).alloc (Nat.le_refl _) _)
  have HZV := Lib.hid (show V.heap.size = w.heap.size + 1 by rw [← hV, World.size_alloc])
  clear hV
  by_cases hz : (s.size : Int) = 0
  · have hz2 : ((s.size : Int) == 0) = true := by rw [beq_iff_eq]; exact hz
    clear hz
    go_enter Tryz.func14, Tryz.ntmps14
    go_wp2_with fail
    go_ret
    exact ⟨s, rfl, Nat.le_refl _, by rw [HV.out]; exact HBV.out⟩
  · have hz2 : ((s.size : Int) == 0) = false := by rw [beq_eq_false_iff_ne]; exact hz
    have hz3 : (1 : Int) ≤ (s.size : Int) := by omega
    have hpk := fun W => pick_any A0 (s.size : Int) W hz3 (by omega) ha1 ha2
    have hpb := pick_bd A0 (s.size : Int) hz3
    obtain ⟨a, ha⟩ : ∃ a : Nat, pick A0 (s.size : Int) = (a : Int) := ⟨(pick A0 (s.size : Int)).toNat, by omega⟩
    rw [ha] at hpk hpb
    have hal : (a : Int) < (s.size : Int) := hpb.2
    have hck := fun W => (pick_any C0 1200 W (by decide) (by decide) hc1 hc2).mono fun _ _ ⟨he, hw⟩ => (⟨he, hw.symm⟩ : _ ∧ _)
    have hcb := pick_bd C0 1200 (by decide)
    obtain ⟨c, hc⟩ : ∃ c : Nat, pick C0 1200 = (c : Int) := ⟨(pick C0 1200).toNat, by omega⟩
    rw [hc] at hck hcb
    have hcl : (c : Int) < 1200 := hcb.2
    have HPK := Lib.hid hpk
    have HCK := Lib.hid hck
    clear hz ha hc hpb hcb hpk hck ha1 ha2 hc1 hc2
    go_enter Tryz.func14, Tryz.ntmps14
    go_wp2_with fail
    rw [HV.out]
    refine (HPK.out _).mono ?_
    rintro e w1 ⟨rfl, rfl⟩
    go_wp2_with fail
    clear hz2
    go_loopw [6, 7] (fun bv iv wr => ∃ (k : Nat) (acc : Bs), (k : Int) ≤ (s.size : Int) ∧ iv = .int .i64 k ∧ Hid (acc.length ≤ k) ∧ Hid (OwnB V.heap.size acc bv wr) ∧ Hid (Below V.heap.size V wr)) (fun _ iv _ => s.size - (intOf iv).toNat)
    case atStart => exact ⟨0, [], by omega, rfl, Nat.le_refl _, OwnB.nil _ _, Below.refl _ _⟩
    case round =>
      obtain ⟨k, acc, hk, rfl, hal2, hown, hbel⟩ := hrel
      have cr : ∀ i : Nat, wr.cell? ⟨w.heap.size, i, none⟩ = (Ed.cells ⟨A0, P, C0, S⟩)[i]? := fun i => (hbel.out.cell (p := ⟨w.heap.size, i, none⟩) (by show w.heap.size < _; rw [HZV.out]; omega)).trans (cV i)
      by_cases hlt : (k : Int) < (s.size : Int)
      · have hks : k < s.size := by omega
        have hfl : (acc.length : Int) ≤ 33554432 := by have := hal2.out; omega
        have HZ := Lib.hid hbel.out.size
        by_cases h1 : (a : Int) ≤ (k : Int)
        · by_cases h2 : (k : Int) - (a : Int) < (P.size : Int)
          · have hkp : k - a < P.size := by omega
            have hsub : ((k : Int) - (a : Int)) = ((k - a : Nat) : Int) := by omega
            obtain ⟨d, hd⟩ : ∃ d, k - a = d := ⟨_, rfl⟩
            rw [hd] at hkp hsub
            have hdp : (d : Int) < (P.size : Int) := by omega
            clear hd
            go_wp2_with (first
              | (at_builtin; refine wpList_append_own _ rfl _ _ 48 rfl V.heap.size 5 i0 (.int .u8 0) 1 1 Tryz.underlying48 hi hz0 hz1 hz2 rfl (by decide) _ _ _ rfl (hown.out.alloc _) ⟨wr.heap.size, 0, none⟩ 1 1 [byteV (P[d]'hkp)] rfl rfl (new1 wr _ _) (one1 _) (by unfold maxLen; omega) (by omega) (by have := HZ.out; rw [World.size_alloc]; omega) ?_; intro v' w1 hown' hgrow _)
              | fail)
            case roundEnd =>
              have h := hown.out.app hbel.out HZ.out hown' hgrow
              exact ⟨⟨k + 1, _, by omega, by rw [Int.natCast_add]; rfl, (by have := hal2.out; show _ ≤ _; rw [List.length_append, List.length_singleton]; omega), h.1, h.2⟩, by simp [intOf]; omega⟩
          · have hw1 : (a : Int) + (P.size : Int) ≤ 140737521905664 := by omega
            have hge : (a : Int) + (P.size : Int) ≤ (k : Int) := by omega
            have hd1 : decide ((k : Int) < (a : Int) + (P.size : Int)) = false := decide_eq_false (by omega)
            have hd2 : decide ((k : Int) - (a : Int) < (P.size : Int)) = false := decide_eq_false h2
            by_cases h3 : (a : Int) + (P.size : Int) + (c : Int) ≤ (k : Int)
            · have hd3 : decide ((a : Int) + (P.size : Int) + (c : Int) ≤ (k : Int)) = true := decide_eq_true h3
              go_wp2_with fail
              go_quiet ((go_at_call 37; exact Calls.quiet_of_same (HCK.out _)))
              rename_i nq
              obtain ⟨W, hW⟩ : ∃ W, wr.drewN nq = W := ⟨_, rfl⟩
              rw [hW]
              have HO2 := Lib.hid (show OwnB V.heap.size acc u6 W by rw [← hW]; exact hown.out)
              have HB2 := Lib.hid (show Below V.heap.size V W by rw [← hW]; exact below_drewN hbel.out nq)
              have HZ2 := Lib.hid HB2.out.size
              clear hW hw1
              go_wp2_with (first
                | (at_builtin; refine wpList_append_own _ rfl _ _ 48 rfl V.heap.size 5 i0 (.int .u8 0) 1 1 Tryz.underlying48 hi hz0 hz1 hz2 rfl (by decide) _ _ _ rfl (HO2.out.alloc _) ⟨W.heap.size, 0, none⟩ 1 1 [byteV (s[k]'hks)] rfl rfl (new1 W _ _) (one1 _) (by unfold maxLen; omega) (by omega) (by have := HZ2.out; rw [World.size_alloc]; omega) ?_; intro v' w1 hown' hgrow _)
                | fail)
              case roundEnd =>
                have h := HO2.out.app HB2.out HZ2.out hown' hgrow
                exact ⟨⟨k + 1, _, by omega, by rw [Int.natCast_add]; rfl, (by have := hal2.out; show _ ≤ _; rw [List.length_append, List.length_singleton]; omega), h.1, h.2⟩, by simp [intOf]; omega⟩
            · have hd3 : decide ((a : Int) + (P.size : Int) + (c : Int) ≤ (k : Int)) = false := decide_eq_false h3
              go_wp2_with fail
              go_quiet ((go_at_call 37; exact Calls.quiet_of_same (HCK.out _)))
              rename_i nq
              obtain ⟨W, hW⟩ : ∃ W, wr.drewN nq = W := ⟨_, rfl⟩
              rw [hW]
              have HO2 := Lib.hid (show OwnB V.heap.size acc u6 W by rw [← hW]; exact hown.out)
              have HB2 := Lib.hid (show Below V.heap.size V W by rw [← hW]; exact below_drewN hbel.out nq)
              clear hW
              go_wp2_with fail
              case roundEnd =>
                exact ⟨⟨k + 1, acc, by omega, by rw [Int.natCast_add]; rfl, (by have := hal2.out; show _ ≤ _; omega), HO2, HB2⟩, by simp [intOf]; omega⟩
        · have hd0 : decide ((a : Int) ≤ (k : Int)) = false := decide_eq_false h1
          have hd1 : decide ((k : Int) < (a : Int) + (P.size : Int)) = true := decide_eq_true (by omega)
          go_wp2_with fail
          go_quiet ((go_at_call 37; exact Calls.quiet_of_same (HCK.out _)))
          rename_i nq
          obtain ⟨W, hW⟩ : ∃ W, wr.drewN nq = W := ⟨_, rfl⟩
          rw [hW]
          have HO2 := Lib.hid (show OwnB V.heap.size acc u6 W by rw [← hW]; exact hown.out)
          have HB2 := Lib.hid (show Below V.heap.size V W by rw [← hW]; exact below_drewN hbel.out nq)
          have HZ2 := Lib.hid HB2.out.size
          clear hW
          go_wp2_with (first
            | (at_builtin; refine wpList_append_own _ rfl _ _ 48 rfl V.heap.size 5 i0 (.int .u8 0) 1 1 Tryz.underlying48 hi hz0 hz1 hz2 rfl (by decide) _ _ _ rfl (HO2.out.alloc _) ⟨W.heap.size, 0, none⟩ 1 1 [byteV (s[k]'hks)] rfl rfl (new1 W _ _) (one1 _) (by unfold maxLen; omega) (by omega) (by have := HZ2.out; rw [World.size_alloc]; omega) ?_; intro v' w1 hown' hgrow _)
            | fail)
          case roundEnd =>
            have h := HO2.out.app HB2.out HZ2.out hown' hgrow
            exact ⟨⟨k + 1, _, by omega, by rw [Int.natCast_add]; rfl, (by have := hal2.out; show _ ≤ _; rw [List.length_append, List.length_singleton]; omega), h.1, h.2⟩, by simp [intOf]; omega⟩
      · obtain rfl : k = s.size := by omega
        have hcv := hown.out.conv
        obtain ⟨t, ht⟩ : ∃ t : ByteArray, (⟨acc.toArray⟩ : ByteArray) = t := ⟨_, rfl⟩
        have hts : t.size ≤ s.size := by rw [← ht]; show acc.toArray.size ≤ _; rw [List.size_toArray]; exact hal2.out
        rw [ht] at hcv
        have HTS := Lib.hid hts
        have HBF := Lib.hid (HBV.out.trans (hbel.out.mono (by rw [HZV.out]; omega)))
        have hts2 : (t.size : Int) ≤ 33554432 := by omega
        have HT := Lib.hid ht
        obtain ⟨f, hfa⟩ : ∃ f : Nat, f = a / 512 * 512 := ⟨_, rfl⟩
        have hf : (a : Int) / 512 * 512 = (f : Int) := by omega
        have hfb : (f : Int) ≤ 33554432 := by omega
        clear ht hts hfa
        cases S with
        | false =>
          go_wp2_with fail
          go_ret
          exact ⟨_, rfl, by first | exact HTS.out | (rw [HT.out]; exact HTS.out), HBF.out⟩
        | true =>
          by_cases h5 : (t.size : Int) < (f : Int) + 512
          · have hd5 : decide ((t.size : Int) < (f : Int) + 512) = true := decide_eq_true h5
            go_wp2_with fail
            go_ret
            exact ⟨_, rfl, by first | exact HTS.out | (rw [HT.out]; exact HTS.out), HBF.out⟩
          · have hd5 : decide ((t.size : Int) < (f : Int) + 512) = false := decide_eq_false h5
            have h6 : (f : Int) + 512 ≤ (t.size : Int) := by omega
            have h6n : f + 512 ≤ t.size := by omega
            have hsz : (t.extract f (f + 512)).size = 512 := by rw [ByteArray.size_extract]; omega
            have hsum := fun W => Sum_any (t.extract f (f + 512)) W (by rw [hsz]; decide)
            have hsb := sumTo_bd (t.extract f (f + 512)).data.toList (t.extract f (f + 512)).size
            rw [hsz] at hsum hsb
            obtain ⟨X, hX⟩ : ∃ X, sumTo (t.extract f (f + 512)).data.toList 512 = X := ⟨_, rfl⟩
            rw [hX] at hsum hsb
            have hoc := fun W => Octal_any X 6 W (by decide) hsb.1 (by omega)
            obtain ⟨O, hO⟩ : ∃ O : ByteArray, (⟨(octal 6 X).toArray⟩ : ByteArray) = O := ⟨_, rfl⟩
            have hos : O.size = 6 := by rw [← hO]; show (octal 6 X).toArray.size = 6; rw [List.size_toArray, octal_length]
            rw [hO] at hoc
            have HSUM := Lib.hid hsum
            have HOC := Lib.hid hoc
            have HOS := Lib.hid hos
            have hos2 : (O.size : Int) = 6 := by omega
            clear hsz hsum hsb hX hoc hO h5 hos
            go_wp2_with fail
            refine (HSUM.out _).mono ?_
            rintro e w2 ⟨rfl, hb2⟩
            have HB2 := Lib.hid (HBF.out.trans (hb2.mono HBF.out.size))
            clear hb2 hcv
            go_wp2_with fail
            refine (HOC.out _).mono ?_
            rintro e w3 ⟨rfl, hb3⟩
            have HB3 := Lib.hid (HB2.out.trans (hb3.mono HB2.out.size))
            clear hb3
            go_wp2_with fail
            have hw1 : IntKind.i64.wrap ((f : Int) + 148) = (f : Int) + 148 := wrapI (by omega) (by omega)
            have hw2 : IntKind.i64.wrap ((f : Int) + 156) = (f : Int) + 156 := wrapI (by omega) (by omega)
            have hw3 : (0 : Int) ≤ (f : Int) + 148 := by omega
            have hw4 : (f : Int) + 148 ≤ (t.size : Int) := by omega
            have hw5 : (0 : Int) ≤ (f : Int) + 156 := by omega
            have hw6 : (f : Int) + 156 ≤ (t.size : Int) := by omega
            have hw7 : ((f : Int) + 148).toNat = f + 148 := by omega
            have hw8 : ((f : Int) + 156).toNat = f + 156 := by omega
            go_quiet (fail)
            rename_i nq
            obtain ⟨W, hW⟩ : ∃ W, w3.drewN nq = W := ⟨_, rfl⟩
            rw [hW]
            have HB4 := Lib.hid (show Below w.heap.size w W by rw [← hW]; exact below_drewN HB3.out nq)
            clear hW
            go_wp2_with fail
            go_ret
            clear hw1 hw2 hw7 hw8
            refine ⟨_, rfl, ?_, HB4.out⟩
            have e1 : (ByteArray.mk #[0, 32]).size = 2 := rfl
            have := HTS.out
            rw [ByteArray.size_append, ByteArray.size_append, ByteArray.size_append, ByteArray.size_extract, ByteArray.size_extract, HOS.out, e1]
            omega
end Go.Proofs.YthpmocfdnoehoaaGreatDoor
/- Contracts of FullMembers, LentMembers: a copy with sixteen marks behind. -/
namespace Go.Proofs.YthpmocfdnoehoaaGreatDoor
open Go.RowKit
/-- So many marks. -/
def marks (n : Nat) : List Mem := (List.range n).map fun i => markM 90 (i : Nat)
theorem marks_succ (n : Nat) : marks (n + 1) = marks n ++ [markM 90 (n : Nat)] := by
  unfold marks; rw [List.range_succ, List.map_append]; rfl
set_option maxHeartbeats 3200000 in
set_option maxRecDepth 100000 in
theorem full_any (l : List Mem) (p : Option Addr) (cap : Nat) (w : World) (hM : MemsAt w p l) (hn : ((l.length : Int) + 16) * 144 ≤ 140737488355328) :
    Calls Tryz.prog 23 #[.slice p l.length cap] w fun e w' => ∃ v, e = .returned v ∧ OwnMs w.heap.size (l ++ marks 16) v w' ∧ Below w.heap.size w w' := by
  obtain ⟨i0, hi, hz0, hz1, hz2⟩ := info_parts info33
  go_enter Tryz.func23, Tryz.ntmps23
  go_wp2_with fail
  obtain ⟨n, hnl⟩ : ∃ n, l.length = n := ⟨_, rfl⟩
  rw [hnl] at hn ⊢
  have HN := Lib.hid hnl
  have HM := Lib.hid hM
  clear hnl hM
  go_loopw [3, 4] (fun v iv wr => ∃ k : Nat, k ≤ n ∧ iv = .int .i64 k ∧ Hid (OwnMs w.heap.size (l.take k) v wr) ∧ Hid (Below w.heap.size w wr)) (fun _ iv _ => n - (intOf iv).toNat)
  case atStart => exact ⟨0, Nat.zero_le _, rfl, ⟨World.ownsRow_nil _ _ _ _, by simp⟩, Below.refl _ _⟩
  case round =>
    obtain ⟨k, hk, rfl, hown, hbel⟩ := hrel
    by_cases hlt : k < n
    · obtain ⟨m, hm⟩ : ∃ m, l[k]? = some m := ⟨_, List.getElem?_eq_getElem (i := k) (by have := HN.out; omega)⟩
      have htk : l.take (k + 1) = l.take k ++ [m] := by rw [List.take_add_one, hm]; rfl
      have hlk : (l.take k).length = k := by rw [List.length_take]; have := HN.out; omega
      obtain ⟨b, off, rfl, hb⟩ := HM.out.1 k (by have := HN.out; omega)
      have hrow : ∀ j, j < 13 → wr.cell? ⟨b, off + (k * 13 + j), none⟩ = m.cells[j]? := fun j hj => (hbel.out.cell (p := ⟨b, off + (k * 13 + j), none⟩) hb).trans (HM.out.2 b off rfl k m hm j hj)
      have c0 : wr.cell? ⟨b, off + k * 13, none⟩ = some (.string m.hdr.path) := row_cell hrow (j := 0) (by decide) rfl
      have c1 := row_cell hrow (j := 1) (by decide) rfl
      have c2 := row_cell hrow (j := 2) (by decide) rfl
      have c3 := row_cell hrow (j := 3) (by decide) rfl
      have c4 := row_cell hrow (j := 4) (by decide) rfl
      have c5 := row_cell hrow (j := 5) (by decide) rfl
      have c6 := row_cell hrow (j := 6) (by decide) rfl
      have c7 := row_cell hrow (j := 7) (by decide) rfl
      have c8 := row_cell hrow (j := 8) (by decide) rfl
      have c9 := row_cell hrow (j := 9) (by decide) rfl
      have c10 := row_cell hrow (j := 10) (by decide) rfl
      have c11 := row_cell hrow (j := 11) (by decide) rfl
      have c12 := row_cell hrow (j := 12) (by decide) rfl
      have HTK := Lib.hid htk
      have HLK := Lib.hid hlk
      clear hm htk hrow hlk
      have hsz := hbel.out.size
      go_wp2_with (first
        | (at_builtin; refine wpList_append_own _ rfl _ _ 22 rfl w.heap.size 26 i0 (.agg zm) 13 144 Tryz.underlying22 hi hz0 hz1 hz2 rfl (by decide) _ _ _ rfl (hown.out.1.alloc _) ⟨wr.heap.size, 0, none⟩ 1 1 m.cells.toList rfl rfl (new13 wr m _) (one13 m) (by rw [HLK.out]; unfold maxLen; omega) (by rw [HLK.out]; omega) (by rw [World.size_alloc]; omega) ?_; intro v' w1 hown' hgrow _)
        | go_in)
      case roundEnd =>
        have h := hown.out.app (m := m) hbel.out hsz (by rw [HLK.out] at hown' ⊢; exact hown') hgrow
        rw [← HTK.out] at h
        exact ⟨⟨k + 1, by omega, by rw [Int.natCast_add]; rfl, h.1, h.2⟩, by simp [intOf]; omega⟩
    · have e : l.take k = l := List.take_of_length_le (by have := HN.out; omega)
      have h := hown.out
      rw [e] at h
      have HO := Lib.hid h
      clear h e hown
      go_wp2_with fail
      go_loopw [3, 5] (fun v iv ws => ∃ j : Nat, j ≤ 16 ∧ iv = .int .i64 j ∧ Hid (OwnMs w.heap.size (l ++ marks j) v ws) ∧ Hid (Below w.heap.size w ws)) (fun _ iv _ => 16 - (intOf iv).toNat)
      case atStart => exact ⟨0, by omega, rfl, (by show OwnMs _ (l ++ []) _ _; rw [List.append_nil]; exact HO.out), hbel⟩
      case round =>
        obtain ⟨j, hj, rfl, hown, hbel2⟩ := hrel
        have hml : (l ++ marks j).length = n + j := by rw [List.length_append, HN.out]; unfold marks; rw [List.length_map, List.length_range]
        have HML := Lib.hid hml
        clear hml
        by_cases hlt2 : (j : Int) < 16
        · have hmk : ∀ w1 : World, Calls Tryz.prog 44 #[.int .i64 90, .int .i64 j] w1 fun e w' => e = .returned (.agg (markM 90 (j : Nat)).cells) ∧ Below w1.heap.size w1 w' := fun w1 => markM_any 90 j w1 (by decide) (by omega) (by omega)
          have HMC := Lib.hid hmk
          clear hmk
          have HJ := Lib.hid hj
          have HK := Lib.hid hk
          have HN2 := Lib.hid hn
          clear hj hk hn
          go_wp2_with fail
          refine (HMC.out _).mono ?_
          rintro e w1 ⟨rfl, hb1⟩
          have HO1 := Lib.hid (hown.out.keep hb1)
          have HB1 := Lib.hid (hbel2.out.trans (hb1.mono hbel2.out.size))
          have hsz := HB1.out.size
          clear hown hb1 HMC
          obtain ⟨m, hm⟩ : ∃ m, markM 90 (j : Nat) = m := ⟨_, rfl⟩
          rw [hm]
          have HMK := Lib.hid hm
          clear hm
          go_wp2_with (first
            | (at_builtin; refine wpList_append_own _ rfl _ _ 22 rfl w.heap.size 26 i0 (.agg zm) 13 144 Tryz.underlying22 hi hz0 hz1 hz2 rfl (by decide) _ _ _ rfl (HO1.out.1.alloc _) ⟨w1.heap.size, 0, none⟩ 1 1 m.cells.toList rfl rfl (new13 w1 m _) (one13 m) (by have := HN2.out; rw [HML.out]; unfold maxLen; omega) (by have := HN2.out; rw [HML.out]; omega) (by rw [World.size_alloc]; omega) ?_; intro v' w2 hown' hgrow _)
            | go_in)
          case roundEnd =>
            have h := HO1.out.app (m := m) HB1.out hsz (by rw [HML.out] at hown' ⊢; exact hown') hgrow
            rw [List.append_assoc, ← HMK.out, ← marks_succ] at h
            exact ⟨⟨j + 1, by omega, by rw [Int.natCast_add]; rfl, h.1, h.2⟩, by simp [intOf]; omega⟩
        · obtain rfl : j = 16 := by omega
          go_wp2_with fail
          go_ret
          exact ⟨_, rfl, hown.out, hbel2.out⟩
end Go.Proofs.YthpmocfdnoehoaaGreatDoor
/- Contracts of LentMembers, KeptMembers. -/
namespace Go.Proofs.YthpmocfdnoehoaaGreatDoor
open Go.RowKit
attribute [local go_sem] run_neqM guard_neqM
/-- A lent list: the members, marks in the spare room. -/
def Lent (base : Nat) (l : List Mem) (p : Option Addr) (cap : Nat) (w : World) : Prop := OwnMs base (l ++ marks 16) (.slice p (l.length + 16) cap) w
theorem marks_len (n : Nat) : (marks n).length = n := by unfold marks; rw [List.length_map, List.length_range]
theorem OwnMs.some {base : Nat} {ms : List Mem} {v : Value} {w : World} (h : OwnMs base ms v w) (hn : ms ≠ []) : ∃ g cap, v = .slice (.some ⟨g, 0, none⟩) ms.length cap ∧ base ≤ g ∧ g < w.heap.size ∧ ms.length ≤ cap ∧ cap ≤ 9223372036854775807 := by
  rcases h.1.2 with ⟨h1, h2⟩ | ⟨g, cap, cur, h1, h2, h3, h4, h5, h6, h7⟩
  · exact absurd (List.eq_nil_of_length_eq_zero h2) hn
  · exact ⟨g, cap, h1, h2, blk_lt h3, h4, by unfold maxLen at h5; omega⟩
theorem MemsAt.take {w : World} {p : Option Addr} {l r : List Mem} (h : MemsAt w p (l ++ r)) : MemsAt w p l := by
  refine ⟨fun i hi => h.1 i (by rw [List.length_append]; omega), fun b off hp i m hm j hj => h.2 b off hp i m ?_ j hj⟩
  rw [List.getElem?_append_left (List.getElem?_eq_some_iff.1 hm).1]
  exact hm
set_option maxHeartbeats 1600000 in
set_option maxRecDepth 100000 in
theorem lent_any (l : List Mem) (p : Option Addr) (cap : Nat) (w : World) (hM : MemsAt w p l) (hn : ((l.length : Int) + 16) * 144 ≤ 140737488355328) :
    Calls Tryz.prog 8 #[.slice p l.length cap] w fun e w' => ∃ q c, e = .returned (.slice q l.length c) ∧ Lent w.heap.size l q c w' ∧ Below w.heap.size w w' := by
  have hf := full_any l p cap w hM hn
  obtain ⟨n, hnl⟩ : ∃ n, l.length = n := ⟨_, rfl⟩
  have HN := Lib.hid hnl
  rw [hnl] at hf hn ⊢
  clear hnl hM
  go_enter Tryz.func8, Tryz.ntmps8
  go_wp2_with fail
  refine hf.mono ?_
  rintro e w1 ⟨v, rfl, ho, hb⟩
  obtain ⟨g, c, rfl, hg1, hg2, hc1, hc2⟩ := ho.some (by simp [marks])
  rw [List.length_append, marks_len, HN.out] at ho hc1 ⊢
  have HO := Lib.hid ho
  have HB := Lib.hid hb
  have hc3 : (n : Int) ≤ (c : Int) := by omega
  have hc4 : (c : Int) ≤ 9223372036854775807 := by omega
  clear ho hb hf hc1 hc2 hg1 hg2
  go_wp2_with fail
  go_ret
  exact ⟨_, _, rfl, (by unfold Lent; rw [HN.out]; exact HO.out), HB.out⟩
set_option maxHeartbeats 3200000 in
set_option maxRecDepth 100000 in
theorem keptFull_any (l : List Mem) (q p : Option Addr) (c cap : Nat) (w : World) (hQ : MemsAt w q (l ++ marks 16)) (hP : MemsAt w p l) (hn : (l.length : Int) ≤ 33000000) :
    Calls Tryz.prog 33 #[.slice q (l.length + 16 : Nat) c, .slice p l.length cap] w fun e w' => e = .returned (.bool true) ∧ Below w.heap.size w w' := by
  obtain ⟨n, hnl⟩ : ∃ n, l.length = n := ⟨_, rfl⟩
  have HN := Lib.hid hnl
  have HQ := Lib.hid hQ
  have HP := Lib.hid hP
  rw [hnl] at hn ⊢
  clear hnl hQ hP
  go_enter Tryz.func33, Tryz.ntmps33
  go_wp2_with fail
  go_loopw [5] (fun iv wr => ∃ k : Nat, k ≤ n + 16 ∧ iv = .int .i64 k ∧ Hid (Below w.heap.size w wr)) (fun iv _ => n + 16 - (intOf iv).toNat)
  case atStart => exact ⟨0, by omega, rfl, Below.refl _ _⟩
  case round =>
    obtain ⟨k, hk, rfl, hbel⟩ := hrel
    have HK := Lib.hid hk
    clear hk
    by_cases hlt : (k : Int) < (n : Int) + 16
    · have hmk : ∀ w1 : World, Calls Tryz.prog 44 #[.int .i64 90, .int .i64 ((k : Int) - (n : Int))] w1 fun e w' => e = .returned (.agg (markM 90 ((k : Int) - (n : Int))).cells) ∧ Below w1.heap.size w1 w' := fun w1 => markM_any 90 _ w1 (by decide) (by omega) (by omega)
      have HMC := Lib.hid hmk
      clear hmk
      go_wp2_with fail
      refine (HMC.out _).mono ?_
      rintro e w1 ⟨rfl, hb1⟩
      obtain ⟨M, hM⟩ : ∃ M, markM 90 ((k : Int) - (n : Int)) = M := ⟨_, rfl⟩
      rw [hM]
      have HMM := Lib.hid hM
      have HB1 := Lib.hid (hbel.out.trans (hb1.mono hbel.out.size))
      clear hM hb1 HMC
      by_cases hkn : (k : Int) < (n : Int)
      · obtain ⟨m, hm⟩ : ∃ m, l[k]? = some m := ⟨_, List.getElem?_eq_getElem (i := k) (by have := HN.out; omega)⟩
        obtain ⟨b, off, rfl, hb⟩ := HP.out.1 k (by have := HN.out; omega)
        have hrow : ∀ j, j < 13 → (w1.alloc (.cells M.cells 26)).cell? ⟨b, off + (k * 13 + j), none⟩ = m.cells[j]? := fun j hj => ((HB1.out.alloc HB1.out.size _).cell (p := ⟨b, off + (k * 13 + j), none⟩) hb).trans (HP.out.2 b off rfl k m hm j hj)
        have c0 : (w1.alloc (.cells M.cells 26)).cell? ⟨b, off + k * 13, none⟩ = some (.string m.hdr.path) := row_cell hrow (j := 0) (by decide) rfl
        have c1 := row_cell hrow (j := 1) (by decide) rfl
        have c2 := row_cell hrow (j := 2) (by decide) rfl
        have c3 := row_cell hrow (j := 3) (by decide) rfl
        have c4 := row_cell hrow (j := 4) (by decide) rfl
        have c5 := row_cell hrow (j := 5) (by decide) rfl
        have c6 := row_cell hrow (j := 6) (by decide) rfl
        have c7 := row_cell hrow (j := 7) (by decide) rfl
        have c8 := row_cell hrow (j := 8) (by decide) rfl
        have c9 := row_cell hrow (j := 9) (by decide) rfl
        have c10 := row_cell hrow (j := 10) (by decide) rfl
        have c11 := row_cell hrow (j := 11) (by decide) rfl
        have c12 := row_cell hrow (j := 12) (by decide) rfl
        clear hrow
        go_wp2_with fail
        clear c0 c1 c2 c3 c4 c5 c6 c7 c8 c9 c10 c11 c12
        have hX : (l ++ marks 16)[k]? = some m := by rw [List.getElem?_append_left (by have := HN.out; omega)]; exact hm
        clear hm
        obtain ⟨qb, qo, rfl, hqb⟩ := HQ.out.1 k (by rw [List.length_append, marks_len]; have := HN.out; omega)
        have hrow2 : ∀ j, j < 13 → (w1.alloc (.cells m.cells 26)).cell? ⟨qb, qo + (k * 13 + j), none⟩ = m.cells[j]? := fun j hj => ((HB1.out.alloc HB1.out.size _).cell (p := ⟨qb, qo + (k * 13 + j), none⟩) hqb).trans (HQ.out.2 qb qo rfl k m hX j hj)
        have d0 : (w1.alloc (.cells m.cells 26)).cell? ⟨qb, qo + k * 13, none⟩ = some (.string m.hdr.path) := row_cell hrow2 (j := 0) (by decide) rfl
        have d1 := row_cell hrow2 (j := 1) (by decide) rfl
        have d2 := row_cell hrow2 (j := 2) (by decide) rfl
        have d3 := row_cell hrow2 (j := 3) (by decide) rfl
        have d4 := row_cell hrow2 (j := 4) (by decide) rfl
        have d5 := row_cell hrow2 (j := 5) (by decide) rfl
        have d6 := row_cell hrow2 (j := 6) (by decide) rfl
        have d7 := row_cell hrow2 (j := 7) (by decide) rfl
        have d8 := row_cell hrow2 (j := 8) (by decide) rfl
        have d9 := row_cell hrow2 (j := 9) (by decide) rfl
        have d10 := row_cell hrow2 (j := 10) (by decide) rfl
        have d11 := row_cell hrow2 (j := 11) (by decide) rfl
        have d12 := row_cell hrow2 (j := 12) (by decide) rfl
        have cw := cell_new w1 m.cells 26
        have HB2 := Lib.hid (HB1.out.alloc HB1.out.size (.cells m.cells 26)).drew
        clear hrow2 hX
        change Code.wp _ _ _ _ (w1.alloc (.cells m.cells 26))
        generalize w1.alloc (.cells m.cells 26) = w3 at d0 d1 d2 d3 d4 d5 d6 d7 d8 d9 d10 d11 d12 cw HB2 ⊢
        go_region
        clear d0 d1 d2 d3 d4 d5 d6 d7 d8 d9 d10 d11 d12 cw
        go_wp2_with fail
        go_roundw
        case rel => exact ⟨k + 1, by omega, by rw [Int.natCast_add]; rfl, HB2.out⟩
        case measure => simp [intOf]; omega
      · go_wp2_with fail
        have hX : (l ++ marks 16)[k]? = some M := by
          have hn2 := HN.out
          rw [List.getElem?_append_right (by omega), hn2]
          unfold marks
          rw [List.getElem?_map, List.getElem?_range (by omega), ← HMM.out]
          show some (markM 90 ((k - n : Nat) : Int)) = _
          rw [show ((k - n : Nat) : Int) = (k : Int) - (n : Int) by omega]
        obtain ⟨qb, qo, rfl, hqb⟩ := HQ.out.1 k (by rw [List.length_append, marks_len]; have := HN.out; omega)
        have hrow2 : ∀ j, j < 13 → (w1.alloc (.cells M.cells 26)).cell? ⟨qb, qo + (k * 13 + j), none⟩ = M.cells[j]? := fun j hj => ((HB1.out.alloc HB1.out.size _).cell (p := ⟨qb, qo + (k * 13 + j), none⟩) hqb).trans (HQ.out.2 qb qo rfl k M hX j hj)
        have d0 : (w1.alloc (.cells M.cells 26)).cell? ⟨qb, qo + k * 13, none⟩ = some (.string M.hdr.path) := row_cell hrow2 (j := 0) (by decide) rfl
        have d1 := row_cell hrow2 (j := 1) (by decide) rfl
        have d2 := row_cell hrow2 (j := 2) (by decide) rfl
        have d3 := row_cell hrow2 (j := 3) (by decide) rfl
        have d4 := row_cell hrow2 (j := 4) (by decide) rfl
        have d5 := row_cell hrow2 (j := 5) (by decide) rfl
        have d6 := row_cell hrow2 (j := 6) (by decide) rfl
        have d7 := row_cell hrow2 (j := 7) (by decide) rfl
        have d8 := row_cell hrow2 (j := 8) (by decide) rfl
        have d9 := row_cell hrow2 (j := 9) (by decide) rfl
        have d10 := row_cell hrow2 (j := 10) (by decide) rfl
        have d11 := row_cell hrow2 (j := 11) (by decide) rfl
        have d12 := row_cell hrow2 (j := 12) (by decide) rfl
        have cw := cell_new w1 M.cells 26
        have HB2 := Lib.hid (HB1.out.alloc HB1.out.size (.cells M.cells 26)).drew
        clear hrow2 hX
        change Code.wp _ _ _ _ (w1.alloc (.cells M.cells 26))
        generalize w1.alloc (.cells M.cells 26) = w3 at d0 d1 d2 d3 d4 d5 d6 d7 d8 d9 d10 d11 d12 cw HB2 ⊢
        go_region
        clear d0 d1 d2 d3 d4 d5 d6 d7 d8 d9 d10 d11 d12 cw
        go_wp2_with fail
        go_roundw
        case rel => exact ⟨k + 1, by omega, by rw [Int.natCast_add]; rfl, HB2.out⟩
        case measure => simp [intOf]; omega
    · go_wp2_with fail
      go_ret
      exact ⟨rfl, hbel.out⟩
theorem Lent.mems {base : Nat} {l : List Mem} {q : Option Addr} {c : Nat} {w : World} (h : Lent base l q c w) : MemsAt w q (l ++ marks 16) ∧ l.length + 16 ≤ c ∧ c ≤ 9223372036854775807 := by
  obtain ⟨p, cap, e, hm, h1, h2⟩ := OwnMs.at h
  rw [List.length_append, marks_len] at e h1
  cases e
  exact ⟨hm, h1, h2⟩
theorem Lent.keep {base : Nat} {l : List Mem} {q : Option Addr} {c : Nat} {w w' : World} (h : Lent base l q c w) (hb : Below w.heap.size w w') : Lent base l q c w' := OwnMs.keep h hb
set_option maxHeartbeats 1600000 in
set_option maxRecDepth 100000 in
theorem kept_any (base : Nat) (l : List Mem) (q p : Option Addr) (c cap : Nat) (w : World) (hL : Lent base l q c w) (hP : MemsAt w p l) (hn : (l.length : Int) ≤ 33000000) :
    Calls Tryz.prog 11 #[.slice q l.length c, .slice p l.length cap] w fun e w' => e = .returned (.bool true) ∧ Below w.heap.size w w' := by
  obtain ⟨hm, h1, h2⟩ := hL.mems
  have hk := keptFull_any l q p c cap w hm hP hn
  obtain ⟨n, hnl⟩ : ∃ n, l.length = n := ⟨_, rfl⟩
  rw [hnl] at hk h1 hn ⊢
  have hc1 : (n : Int) + 16 ≤ (c : Int) := by omega
  have hc2 : (c : Int) ≤ 9223372036854775807 := by omega
  have HK := Lib.hid hk
  clear hm hnl hP hL h1 h2 hk
  go_enter Tryz.func11, Tryz.ntmps11
  go_wp2_with fail
  refine HK.out.mono ?_
  rintro e w1 ⟨rfl, hb⟩
  have HB := Lib.hid hb
  clear hb
  go_wp2_with fail
  go_ret
  exact ⟨rfl, HB.out⟩
end Go.Proofs.YthpmocfdnoehoaaGreatDoor
/- The walk of ArchiveWrite. -/
namespace Go.Proofs.YthpmocfdnoehoaaGreatDoor
open Go.RowKit
/-- What the reference's Write answers. -/
def wrV (x : Int × Nat × Bs) : Value := .tuple #[.string ⟨x.2.2.toArray⟩, .int .i64 x.1, .int .i64 x.2.1]
def WriteRSaid : Prop := ∀ (l : List Mem) (p : Option Addr) (cap : Nat) (w : World), MemsAt w p l → l.length ≤ 1152921504606846975 → (∀ m ∈ l, m.small) →
    Calls Tryz.prog 7 #[.slice p l.length cap] w fun e w' => e = .returned (wrV (wrGo l 0 [])) ∧ Below w.heap.size w w'
theorem MemsAt.below {w w' : World} {p : Option Addr} {l : List Mem} (h : MemsAt w p l) {B : Nat} (hb : Below B w w') (hB : w.heap.size ≤ B) : MemsAt w' p l := by
  refine ⟨fun i hi => ?_, fun b off hp i m hm j hj => ?_⟩
  · obtain ⟨b, off, hp, hlt⟩ := h.1 i hi
    exact ⟨b, off, hp, Nat.lt_of_lt_of_le hlt hb.size⟩
  · obtain ⟨b', off', hp', hlt⟩ := h.1 i (List.getElem?_eq_some_iff.1 hm).1
    rw [hp] at hp'
    cases hp'
    exact (hb.cell (p := ⟨b, off + (i * 13 + j), none⟩) (Nat.lt_of_lt_of_le hlt hB)).trans (h.2 b off hp i m hm j hj)
theorem encErr_range (h : Hdr) : encErr h = 0 ∨ (1 ≤ encErr h ∧ encErr h ≤ 32) := by
  unfold encErr
  split
  · right; omega
  · split
    · right; omega
    · split
      · right; omega
      · split
        · left; rfl
        · right; omega
theorem wrBad_range (n : Nat) (m : Mem) : wrBad n m = 0 ∨ (1 ≤ wrBad n m ∧ wrBad n m ≤ 32) := by
  have h := encErr_range m.hdr
  unfold wrBad
  split
  · exact h
  · split
    · right; omega
    · split
      · right; omega
      · left; rfl
theorem wr_range : ∀ (l : List Mem) (i : Nat) (acc : Bs), (wrGo l i acc).1 = 0 ∨ (1 ≤ (wrGo l i acc).1 ∧ (wrGo l i acc).1 ≤ 32)
  | [], _, _ => .inl rfl
  | m :: r, i, acc => by
    rw [wrGo]
    split
    · exact wrBad_range acc.length m
    · exact wr_range r _ _
set_option maxHeartbeats 6400000 in
set_option maxRecDepth 100000 in
theorem writeLaw_any (hWR : WriteRSaid) (l : List Mem) (p : Option Addr) (cap : Nat) (w : World) (hM : MemsAt w p l) (hn : l.length * 144 ≤ 140737488355328) (hs : ∀ m ∈ l, m.small) (hG : ErrT w) :
    Calls Tryz.prog 3 #[.slice p l.length cap] w fun e w' => e = .returned (.bool true) ∧ Below w.heap.size w w' := by
  obtain ⟨n, hnl⟩ : ∃ n, l.length = n := ⟨_, rfl⟩
  have hn3 : (n : Int) ≤ 1000000000000 := by omega
  have HN := Lib.hid hnl
  have HM := Lib.hid hM
  have HS := Lib.hid hs
  have HG := Lib.hid hG
  have HWR := Lib.hid hWR
  rw [hnl]
  clear hnl hM hs hG hWR hn
  go_enter Tryz.func3, Tryz.ntmps3
  go_wp2_with fail
  go_loopw [3, 4] (fun sv iv wr => ∃ (k : Nat) (z : Int), k ≤ n ∧ iv = .int .i64 k ∧ sv = .int .i64 z ∧ 512 * (k : Int) ≤ z ∧ z ≤ 200000000000000 ∧ Hid (Below w.heap.size w wr)) (fun _ iv _ => n - (intOf iv).toNat)
  case atStart => exact ⟨0, 0, Nat.zero_le _, rfl, rfl, by omega, by omega, Below.refl _ _⟩
  case round =>
    obtain ⟨k, z, hk, rfl, rfl, hz1, hz2, hbel⟩ := hrel
    by_cases hlt : k < n
    · by_cases hzs : z ≤ 16777216
      · obtain ⟨m, hm⟩ : ∃ m, l[k]? = some m := ⟨_, List.getElem?_eq_getElem (i := k) (by have := HN.out; omega)⟩
        obtain ⟨b, off, rfl, hb⟩ := HM.out.1 k (by have := HN.out; omega)
        have hrow : ∀ j, j < 13 → wr.cell? ⟨b, off + (k * 13 + j), none⟩ = m.cells[j]? := fun j hj => (hbel.out.cell (p := ⟨b, off + (k * 13 + j), none⟩) hb).trans (HM.out.2 b off rfl k m hm j hj)
        have c12 := row_cell hrow (j := 12) (by decide) rfl
        have hsm := (HS.out m (List.mem_of_getElem? hm)).2
        have hds : (m.data.size : Int) ≤ 140737488351232 := by omega
        have hd0 : (0 : Int) ≤ (m.data.size : Int) := by omega
        clear hrow hm hsm
        go_wp2_with fail
        exact ⟨⟨k + 1, _, by omega, by rw [Int.natCast_add]; rfl, rfl, by omega, by omega, hbel⟩, by simp [intOf]; omega⟩
      · go_wp2_with fail
        refine (works_any _ (HG.out.below hbel.out HG.out.2)).mono ?_
        rintro e w9 ⟨rfl, hb9⟩
        have HB9 := Lib.hid (hbel.out.trans (hb9.mono hbel.out.size))
        clear hb9
        go_wp2_with fail
        go_ret
        exact ⟨rfl, HB9.out⟩
    · by_cases hzs : z ≤ 16777216
      · go_wp2_with fail
        obtain rfl : k = n := by omega
        have hn5 : (k : Int) ≤ 32768 := by omega
        have h1 := HWR.out l p cap wr (MemsAt.below HM.out hbel.out (Nat.le_refl _)) (by have := HN.out; omega) HS.out
        rw [HN.out] at h1
        refine h1.mono ?_
        rintro e w1 ⟨rfl, hb1⟩
        have HB1 := Lib.hid (hbel.out.trans (hb1.mono hbel.out.size))
        clear h1 hb1 hbel
        obtain ⟨⟨x, i, bs⟩, hx⟩ : ∃ t, wrGo l 0 [] = t := ⟨_, rfl⟩
        have hxr := wr_range l 0 []
        rw [hx] at hxr ⊢
        have HX := Lib.hid hx
        unfold wrV
        clear hx
        go_wp2_with fail
        have h2 := lent_any l p cap w1 (MemsAt.below HM.out HB1.out (Nat.le_refl _)) (by have := HN.out; omega)
        rw [HN.out] at h2
        refine h2.mono ?_
        rintro e w2 ⟨q, c, rfl, hL, hb2⟩
        have HL := Lib.hid hL
        have HB2 := Lib.hid (HB1.out.trans (hb2.mono HB1.out.size))
        clear h2 hL hb2 HB1
        go_wp2_with fail
        have h3 := write_any l q c w2 HL.out.mems.1.take (by have := HN.out; omega) HS.out
        unfold WrPost at h3
        rw [HX.out, HN.out] at h3
        refine h3.mono ?_
        rintro e w3 ⟨rfl, hb3⟩
        have HL3 := Lib.hid (HL.out.keep hb3)
        have HB3 := Lib.hid (HB2.out.trans (hb3.mono HB2.out.size))
        have HG3 := Lib.hid (HG.out.below HB3.out HG.out.2)
        clear h3 hb3 HB2 HL
        have hat : ∀ w4 : World, ErrT w4 → Calls Tryz.prog 10 #[if x = 0 then .nilIface else faultV x 0 i, .int .i64 x, .int .i64 0, .int .i64 i] w4 fun e w' => e = .returned (.bool true) ∧ Below w4.heap.size w4 w' := fun w4 hE => by
          by_cases h0 : x = 0
          · rw [if_pos h0, h0]
            exact (at_nil 0 i w4).mono fun _ _ ⟨he, hw⟩ => ⟨he, by rw [← hw]; exact Below.refl _ _⟩
          · rw [if_neg h0]
            refine (at_fault x 0 i x 0 i w4 hE (by omega) (by omega) (by omega)).mono fun _ _ ⟨he, hw⟩ => ⟨he.trans ?_, hw⟩
            simp
        obtain ⟨E, hE⟩ : ∃ E : Value, (if x = 0 then .nilIface else faultV x 0 i) = E := ⟨_, rfl⟩
        dsimp only
        rw [hE]
        have HE := Lib.hid hE
        rw [hE] at hat
        have HAT := Lib.hid hat
        clear hat hE
        go_wp2_with fail
        refine (HAT.out _ HG3.out).mono ?_
        rintro e w4 ⟨rfl, hb4⟩
        have HL4 := Lib.hid (HL3.out.keep hb4)
        have HB4 := Lib.hid (HB3.out.trans (hb4.mono HB3.out.size))
        clear hb4 HB3 HL3 HG3 HAT
        go_wp2_with fail
        have h5 := kept_any _ l q p c cap w4 HL4.out (MemsAt.below HM.out HB4.out (Nat.le_refl _)) (by have := HN.out; omega)
        rw [HN.out] at h5
        refine h5.mono ?_
        rintro e w5 ⟨rfl, hb5⟩
        have HB5 := Lib.hid (HB4.out.trans (hb5.mono HB4.out.size))
        clear h5 hb5 HB4 HL4
        go_wp2_with fail
        refine (works_any _ (HG.out.below HB5.out HG.out.2)).mono ?_
        rintro e w6 ⟨rfl, hb6⟩
        have HB6 := Lib.hid (HB5.out.trans (hb6.mono HB5.out.size))
        clear hb6 HB5
        go_wp2_with fail
        go_ret
        exact ⟨rfl, HB6.out⟩
      · go_wp2_with fail
        refine (works_any _ (HG.out.below hbel.out HG.out.2)).mono ?_
        rintro e w9 ⟨rfl, hb9⟩
        have HB9 := Lib.hid (hbel.out.trans (hb9.mono hbel.out.size))
        clear hb9
        go_wp2_with fail
        go_ret
        exact ⟨rfl, HB9.out⟩
end Go.Proofs.YthpmocfdnoehoaaGreatDoor
/- The walk of ArchiveForged. -/
namespace Go.Proofs.YthpmocfdnoehoaaGreatDoor
open Go.RowKit
/-- A slice of changes lies in memory. -/
def EdsAt (w : World) (p : Option Addr) (l : List Ed) : Prop :=
  (∀ i, i < l.length → ∃ b off, p = some ⟨b, off, none⟩ ∧ b < w.heap.size) ∧ ∀ b off, p = some ⟨b, off, none⟩ → ∀ (i : Nat) (m : Ed), l[i]? = some m → ∀ j, j < 4 → w.cell? ⟨b, off + (i * 4 + j), none⟩ = m.cells[j]?
def FitsPost (w : World) (e : Ending) (w' : World) : Prop := ∃ b : Bool, e = .returned (.bool b) ∧ Below w.heap.size w w'
set_option maxHeartbeats 3200000 in
set_option maxRecDepth 100000 in
theorem fits_any (l : List Mem) (p : Option Addr) (cap : Nat) (w : World) (hM : MemsAt w p l) (hn : l.length * 144 ≤ 140737488355328) (hs : ∀ m ∈ l, m.small) :
    Calls Tryz.prog 13 #[.slice p l.length cap] w (FitsPost w) := by
  obtain ⟨n, hnl⟩ : ∃ n, l.length = n := ⟨_, rfl⟩
  have hn3 : (n : Int) ≤ 1000000000000 := by omega
  have HN := Lib.hid hnl
  have HM := Lib.hid hM
  have HS := Lib.hid hs
  rw [hnl]
  clear hnl hM hs hn
  go_enter Tryz.func13, Tryz.ntmps13
  go_wp2_with fail
  go_loopw [3, 4] (fun sv iv wr => ∃ (k : Nat) (z : Int), k ≤ n ∧ iv = .int .i64 k ∧ sv = .int .i64 z ∧ 512 * (k : Int) ≤ z ∧ z ≤ 200000000000000 ∧ Hid (Below w.heap.size w wr)) (fun _ iv _ => n - (intOf iv).toNat)
  case atStart => exact ⟨0, 0, Nat.zero_le _, rfl, rfl, by omega, by omega, Below.refl _ _⟩
  case round =>
    obtain ⟨k, z, hk, rfl, rfl, hz1, hz2, hbel⟩ := hrel
    by_cases hlt : k < n
    · by_cases hzs : z ≤ 262144
      · obtain ⟨m, hm⟩ : ∃ m, l[k]? = some m := ⟨_, List.getElem?_eq_getElem (i := k) (by have := HN.out; omega)⟩
        obtain ⟨b, off, rfl, hb⟩ := HM.out.1 k (by have := HN.out; omega)
        have hrow : ∀ j, j < 13 → wr.cell? ⟨b, off + (k * 13 + j), none⟩ = m.cells[j]? := fun j hj => (hbel.out.cell (p := ⟨b, off + (k * 13 + j), none⟩) hb).trans (HM.out.2 b off rfl k m hm j hj)
        have c12 := row_cell hrow (j := 12) (by decide) rfl
        have hsm := (HS.out m (List.mem_of_getElem? hm)).2
        have hds : (m.data.size : Int) ≤ 140737488351232 := by omega
        have hd0 : (0 : Int) ≤ (m.data.size : Int) := by omega
        clear hrow hm hsm
        go_wp2_with fail
        exact ⟨⟨k + 1, _, by omega, by rw [Int.natCast_add]; rfl, rfl, by omega, by omega, hbel⟩, by simp [intOf]; omega⟩
      · go_wp2_with fail
        go_ret
        exact ⟨_, rfl, hbel.out⟩
    · go_wp2_with fail
      go_ret
      exact ⟨_, rfl, hbel.out⟩
theorem ed_cell {w : World} {b off i j : Nat} {m : Ed} {v : Value} (h : ∀ j, j < 4 → w.cell? ⟨b, off + (i * 4 + j), none⟩ = m.cells[j]?) (hj : j < 4) (hv : m.cells[j]? = some v) : w.cell? ⟨b, off + i * 4 + j, none⟩ = some v := by
  rw [Nat.add_assoc]; exact (h j hj).trans hv
set_option maxHeartbeats 6400000 in
set_option maxRecDepth 100000 in
theorem forgedLaw_any (hWR : WriteRSaid) (l : List Mem) (p : Option Addr) (cap : Nat) (es : List Ed) (q : Option Addr) (c : Nat) (w : World) (hM : MemsAt w p l) (hn : l.length * 144 ≤ 140737488355328) (hs : ∀ m ∈ l, m.small) (hE : EdsAt w q es) (hes : ∀ e ∈ es, e.small) (hel : (es.length : Int) ≤ 9223372036854775807) (hG : ErrT w) :
    Calls Tryz.prog 5 #[.slice p l.length cap, .slice q es.length c] w fun e w' => e = .returned (.bool true) ∧ Below w.heap.size w w' := by
  have hfit := fits_any l p cap w hM hn hs
  have hwr := fun w1 (hb : Below w.heap.size w w1) => hWR l p cap w1 (MemsAt.below hM hb (Nat.le_refl _)) (by omega) hs
  obtain ⟨m, hml⟩ : ∃ m, es.length = m := ⟨_, rfl⟩
  rw [hml] at hel ⊢
  have HFIT := Lib.hid hfit
  have HWR := Lib.hid hwr
  have HML := Lib.hid hml
  have HE := Lib.hid hE
  have HES := Lib.hid hes
  have HG := Lib.hid hG
  have HX := Lib.hid (show (wrGo l 0 []).1 = 0 → (wrGo l 0 []).2.2.length ≤ 33554432 from fun h0 => by
    have h1 := wrGo_fst l 0 [] h0
    have h2 : (arcOf l).length ≤ 33554432 := by
      by_cases e : l = []
      · subst e
        show (List.replicate 1024 (0 : UInt8)).length ≤ 33554432
        rw [List.length_replicate]
        omega
      · have := h1.2.2 e
        simpa using this
    rw [h1.1]
    simpa using h2)
  obtain ⟨⟨x, i, bs⟩, hx⟩ : ∃ t, wrGo l 0 [] = t := ⟨_, rfl⟩
  rw [hx] at HX HWR
  clear hfit hwr hml hM hn hs hE hes hG hWR hx
  go_enter Tryz.func5, Tryz.ntmps5
  go_wp2_with fail
  refine HFIT.out.mono ?_
  rintro e w1 ⟨b, rfl, hb1⟩
  have HB1 := Lib.hid hb1
  clear hb1
  cases b with
  | false =>
    go_wp2_with fail
    refine (works_any _ (HG.out.below HB1.out HG.out.2)).mono ?_
    rintro e w2 ⟨rfl, hb2⟩
    have HB2 := Lib.hid (HB1.out.trans (hb2.mono HB1.out.size))
    clear hb2
    go_wp2_with fail
    go_ret
    exact ⟨rfl, HB2.out⟩
  | true =>
    go_wp2_with fail
    refine (HWR.out _ HB1.out).mono ?_
    rintro e w2 ⟨rfl, hb2⟩
    unfold wrV
    dsimp only
    have HB2 := Lib.hid (HB1.out.trans (hb2.mono HB1.out.size))
    clear hb2 HB1
    by_cases hx0 : x = 0
    · have hbl := HX.out hx0
      subst hx0
      obtain ⟨S, hS⟩ : ∃ S : ByteArray, (⟨bs.toArray⟩ : ByteArray) = S := ⟨_, rfl⟩
      have HSZ := Lib.hid (show S.size ≤ 33554432 by rw [← hS]; show bs.toArray.size ≤ _; rw [List.size_toArray]; exact hbl)
      rw [hS]
      clear hbl hS
      go_wp2_with fail
      go_loopw [8, 9] (fun tv iv wr => ∃ (k : Nat) (t : ByteArray), (k : Int) ≤ (m : Int) ∧ (k : Int) ≤ 8 ∧ iv = .int .i64 k ∧ tv = .string t ∧ Hid (t.size ≤ 33554432) ∧ Hid (Below w.heap.size w wr)) (fun _ iv _ => 8 - (intOf iv).toNat)
      case atStart => exact ⟨0, S, by omega, by omega, rfl, rfl, HSZ, HB2⟩
      case round =>
        obtain ⟨k, t, hk, hk8, rfl, rfl, hts, hbel⟩ := hrel
        by_cases hlt : (k : Int) < (m : Int) ∧ (k : Int) < 8
        · obtain ⟨hlt1, hlt2⟩ := hlt
          obtain ⟨x, hx⟩ : ∃ x, es[k]? = some x := ⟨_, List.getElem?_eq_getElem (i := k) (by have := HML.out; omega)⟩
          obtain ⟨b, off, rfl, hb⟩ := HE.out.1 k (by have := HML.out; omega)
          have hrow : ∀ j, j < 4 → wr.cell? ⟨b, off + (k * 4 + j), none⟩ = x.cells[j]? := fun j hj => (hbel.out.cell (p := ⟨b, off + (k * 4 + j), none⟩) hb).trans (HE.out.2 b off rfl k x hx j hj)
          have c0 : wr.cell? ⟨b, off + k * 4, none⟩ = some (.int .i64 x.at_) := ed_cell hrow (j := 0) (by decide) rfl
          have c1 := ed_cell hrow (j := 1) (by decide) rfl
          have c2 := ed_cell hrow (j := 2) (by decide) rfl
          have c3 := ed_cell hrow (j := 3) (by decide) rfl
          have HSM := Lib.hid (HES.out x (List.mem_of_getElem? hx))
          clear hrow hx hb
          go_wp2_with fail
          refine (edited_any t x _ hts.out HSM.out).mono ?_
          rintro e w3 ⟨t2, rfl, ht2, hb3⟩
          have HB3 := Lib.hid (hbel.out.trans (hb3.mono hbel.out.size))
          have HT2 := Lib.hid (Nat.le_trans ht2 hts.out)
          clear hb3 ht2 c0 c1 c2 c3
          go_wp2_with fail
          case roundEnd =>
            exact ⟨⟨k + 1, t2, by omega, by omega, by rw [Int.natCast_add]; rfl, rfl, HT2, HB3⟩, by simp [intOf]; omega⟩
        · have hor : ¬ (k : Int) < (m : Int) ∨ ((k : Int) < (m : Int) ∧ ¬ (k : Int) < 8) := by omega
          clear hlt
          rcases hor with hlt | ⟨hlt, hlt8⟩
          all_goals
            go_wp2_with fail
            refine (readL_any t S _ (HG.out.below hbel.out HG.out.2)).mono ?_
            rintro e w3 ⟨rfl, hb3⟩
            have HB3 := Lib.hid (hbel.out.trans (hb3.mono hbel.out.size))
            clear hb3
            go_wp2_with fail
            refine (works_any _ (HG.out.below HB3.out HG.out.2)).mono ?_
            rintro e w4 ⟨rfl, hb4⟩
            have HB4 := Lib.hid (HB3.out.trans (hb4.mono HB3.out.size))
            clear hb4
            go_wp2_with fail
            go_ret
            exact ⟨rfl, HB4.out⟩
    · have hne : (x != 0) = true := by rw [bne_iff_ne]; exact hx0
      clear hx0
      go_wp2_with fail
      refine (works_any _ (HG.out.below HB2.out HG.out.2)).mono ?_
      rintro e w3 ⟨rfl, hb3⟩
      have HB3 := Lib.hid (HB2.out.trans (hb3.mono HB2.out.size))
      clear hb3
      go_wp2_with fail
      go_ret
      exact ⟨rfl, HB3.out⟩
end Go.Proofs.YthpmocfdnoehoaaGreatDoor
/- Contract of the reference's Split: the same as splitOf. -/
namespace Go.Proofs.YthpmocfdnoehoaaGreatDoor
open Go.RowKit
/-- A slash behind which 1 to 100 bytes stand. -/
def qual (p : ByteArray) (j : Nat) : Prop := p.data.toList[j]? = some 47 ∧ j + 2 ≤ p.size ∧ p.size ≤ j + 101
theorem win_at (p : ByteArray) (h : 100 < p.size) (j : Nat) : (win p)[j]? = if j < 100 then p.data.toList[p.size - 101 + j]? else none := by
  unfold win
  rw [List.getElem?_take]
  by_cases hj : j < 100
  · rw [if_pos (by omega), if_pos hj, List.getElem?_drop, Nat.sub_sub]
  · rw [if_neg (by omega), if_neg hj]
theorem win_none (p : ByteArray) (h : 100 < p.size) (hn : ∀ j, j < p.size → ¬ qual p j) : Lib.indexByte (win p) 47 = -1 := by
  have hg := Lib.indexByte_ge (win p) 47
  obtain ⟨o, ho⟩ : ∃ o, Lib.indexByte (win p) 47 = o := ⟨_, rfl⟩
  by_cases h0 : o < 0
  · omega
  · obtain ⟨k, rfl⟩ : ∃ k : Nat, o = k := ⟨o.toNat, by omega⟩
    have hs := (Lib.indexByte_some ho).1
    rw [win_at p h] at hs
    split at hs
    · rename_i hk
      exact absurd ⟨hs, by omega, by omega⟩ (hn (p.size - 101 + k) (by omega))
    · cases hs
theorem win_first (p : ByteArray) (h : 100 < p.size) (k : Nat) (hq : qual p k) (hn : ∀ j, j < k → ¬ qual p j) : Lib.indexByte (win p) 47 = (k : Int) - (p.size : Int) + 101 := by
  have hg := Lib.indexByte_ge (win p) 47
  obtain ⟨hq1, hq2, hq3⟩ := hq
  have hw : (win p)[k + 101 - p.size]? = some 47 := by
    rw [win_at p h, if_pos (by omega), show p.size - 101 + (k + 101 - p.size) = k by omega]
    exact hq1
  obtain ⟨o, ho⟩ : ∃ o, Lib.indexByte (win p) 47 = o := ⟨_, rfl⟩
  by_cases h0 : o < 0
  · have : o = -1 := by omega
    subst this
    exact absurd hw (Lib.indexByte_none ho _)
  · obtain ⟨m, rfl⟩ : ∃ m : Nat, o = m := ⟨o.toNat, by omega⟩
    obtain ⟨hs, hlt⟩ := Lib.indexByte_some ho
    have h1 : ¬ k + 101 - p.size < m := fun hh => hlt _ hh hw
    rw [win_at p h] at hs
    split at hs
    · rename_i hm
      have h2 : ¬ m < k + 101 - p.size := fun hh => hn (p.size - 101 + m) (by omega) ⟨hs, by omega, by omega⟩
      omega
    · cases hs
/-- What Split answers. -/
def splitV (p : ByteArray) : Value := match splitOf p with
  | none => .tuple #[.string ⟨#[]⟩, .string ⟨#[]⟩, .int .i64 9]
  | some (a, b) => .tuple #[.string a, .string b, .int .i64 0]
theorem splitV_short {p : ByteArray} (h : p.size ≤ 100) : splitV p = .tuple #[.string ⟨#[]⟩, .string p, .int .i64 0] := by
  unfold splitV splitOf; rw [if_pos h]
theorem splitV_none {p : ByteArray} (h : 100 < p.size) (hn : ∀ j, j < p.size → ¬ qual p j) : splitV p = .tuple #[.string ⟨#[]⟩, .string ⟨#[]⟩, .int .i64 9] := by
  unfold splitV splitOf; rw [if_neg (by omega), win_none p h hn, if_pos (.inl (by decide))]
theorem splitV_bad {p : ByteArray} (h : 100 < p.size) (k : Nat) (hq : qual p k) (hn : ∀ j, j < k → ¬ qual p j) (hk : k < 1 ∨ 155 < k) : splitV p = .tuple #[.string ⟨#[]⟩, .string ⟨#[]⟩, .int .i64 9] := by
  unfold splitV splitOf; rw [if_neg (by omega), win_first p h k hq hn, if_pos (by omega)]
theorem splitV_some {p : ByteArray} (h : 100 < p.size) (k : Nat) (hq : qual p k) (hn : ∀ j, j < k → ¬ qual p j) (h1 : 1 ≤ k) (h2 : k ≤ 155) : splitV p = .tuple #[.string (p.extract 0 k), .string (p.extract (k + 1) p.size), .int .i64 0] := by
  have hq2 := hq.2
  unfold splitV splitOf
  rw [if_neg (by omega), win_first p h k hq hn, if_neg (by omega), show p.size - 100 - 1 + ((k : Int) - (p.size : Int) + 101).toNat = k by omega]
set_option maxHeartbeats 1600000 in
set_option maxRecDepth 100000 in
theorem SplitR_any (p : ByteArray) (w : World) (hp : (p.size : Int) ≤ 140737488355328) :
    Calls Tryz.prog 42 #[.string p] w fun e w' => e = .returned (splitV p) ∧ Below w.heap.size w w' := by
  by_cases h0 : (p.size : Int) ≤ 100
  · have hs := splitV_short (p := p) (by omega)
    go_enter Tryz.func42, Tryz.ntmps42
    go_wp2_with fail
    go_ret3
    exact ⟨congrArg Ending.returned hs.symm, Below.refl _ _⟩
  · have hbig : (100 : Int) < (p.size : Int) := by omega
    go_enter Tryz.func42, Tryz.ntmps42
    go_wp2_with fail
    go_loopw [5] (fun iv wr => ∃ k : Nat, k ≤ p.size ∧ iv = .int .i64 k ∧ Hid (∀ i, i < k → ¬ qual p i) ∧ Hid (Below w.heap.size w wr)) (fun iv _ => p.size - (intOf iv).toNat)
    case atStart => exact ⟨0, Nat.zero_le _, rfl, (fun i hi => absurd hi (by omega)), Below.refl _ _⟩
    case round =>
      obtain ⟨k, hk, rfl, hno, hbel⟩ := hrel
      by_cases hlt : k < p.size
      · have hl : p.data.toList[k]? = some p[k] := List.getElem?_eq_getElem (by exact hlt)
        have HL := Lib.hid hl
        clear hl
        by_cases h47 : p[k] = 47
        · have hn47 : p[k].toNat = 47 := by rw [h47]; rfl
          have H47 := Lib.hid h47
          clear h47
          by_cases hb1 : (k : Int) + 2 ≤ (p.size : Int)
          · by_cases hb2 : (p.size : Int) ≤ (k : Int) + 101
            · have HQ : Hid (qual p k) := ⟨by rw [HL.out, H47.out], by omega, by omega⟩
              by_cases hk1 : (k : Int) < 1
              · go_wp2_with fail
                go_ret3
                exact ⟨congrArg Ending.returned (splitV_bad (by omega) k HQ.out hno.out (.inl (by omega))).symm, hbel.out⟩
              · by_cases hk2 : (155 : Int) < (k : Int)
                · go_wp2_with fail
                  go_ret3
                  exact ⟨congrArg Ending.returned (splitV_bad (by omega) k HQ.out hno.out (.inr (by omega))).symm, hbel.out⟩
                · go_wp2_with fail
                  go_region
                  go_wp2_with fail
                  go_ret3
                  exact ⟨congrArg Ending.returned (splitV_some (by omega) k HQ.out hno.out (by omega) (by omega)).symm, hbel.out.drew⟩
            · have HQ : Hid (¬ qual p k) := fun h => hb2 (by have := h.2.2; omega)
              go_wp2_with fail
              refine ⟨⟨k + 1, by omega, by rw [Int.natCast_add]; rfl, fun i hi => ?_, hbel⟩, by simp [intOf]; omega⟩
              by_cases hik : i < k
              · exact hno.out i hik
              · obtain rfl : i = k := by omega
                exact HQ.out
          · have HQ : Hid (¬ qual p k) := fun h => hb1 (by have := h.2.1; omega)
            go_wp2_with fail
            refine ⟨⟨k + 1, by omega, by rw [Int.natCast_add]; rfl, fun i hi => ?_, hbel⟩, by simp [intOf]; omega⟩
            by_cases hik : i < k
            · exact hno.out i hik
            · obtain rfl : i = k := by omega
              exact HQ.out
        · have HQ : Hid (¬ qual p k) := fun h => h47 (by have h1 := h.1; rw [HL.out] at h1; exact Option.some.inj h1)
          have hn47 : ¬ p[k].toNat = 47 := fun e => h47 (UInt8.toNat_inj.1 e)
          clear h47
          go_wp2_with fail
          refine ⟨⟨k + 1, by omega, by rw [Int.natCast_add]; rfl, fun i hi => ?_, hbel⟩, by simp [intOf]; omega⟩
          by_cases hik : i < k
          · exact hno.out i hik
          · obtain rfl : i = k := by omega
            exact HQ.out
      · go_wp2_with fail
        obtain rfl : k = p.size := by omega
        go_ret3
        exact ⟨congrArg Ending.returned (splitV_none (by omega) hno.out).symm, hbel.out⟩
end Go.Proofs.YthpmocfdnoehoaaGreatDoor
