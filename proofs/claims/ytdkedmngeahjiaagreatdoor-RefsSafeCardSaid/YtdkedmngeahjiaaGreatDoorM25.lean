/- Texts of the seat, one behind the other: DigB, RfMap, RfWith. -/
import Derived.Test.YtdkedmngeahjiaaGreatDoorDigP
import Derived.Stop.BytesEq
import Derived.Deep.MidRow
import Derived.Deep.WholeRow
import Derived.Test.YtdkedmngeahjiaaGreatDoorUsed
import Derived.Maps.RangeWalk
/- Digests in cells: facts, and steps of a walk at rows of 32 cells (for a seat without the store). -/
namespace Go.Proofs.YtdkedmngeahjiaaGreatDoor
open Go Go.RowKit
theorem dig_info {d : List UInt8} (hd : d.length = 32) : (Tryz.prog.info? 33).map (·.size) = some (d.map byteV).length := by rw [List.length_map, hd]; kernel_rfl
theorem dig_info2 {d : List UInt8} (hd : d.length = 32) : (Tryz.prog.info? 33).map (·.size) = some (d.map byteV).toArray.size := by rw [List.size_toArray]; exact dig_info hd
theorem dig_one (d : List UInt8) : (d.map byteV).toArray.all (·.oneCell') = true := all_oneCell_toArray fun v hv => by obtain ⟨x, _, rfl⟩ := List.mem_map.1 hv; rfl
theorem dig_und : Tryz.prog.underlying 33 = some (.array 32 5) := Tryz.underlying33
theorem dig_size {d : List UInt8} (hd : d.length = 32) : z32.size = (d.map byteV).toArray.size := show (32 : Nat) = (d.map byteV).length by rw [List.length_map, hd]
theorem dig_range {w : World} {b : Nat} {d : List UInt8} (h : w.heap[b]? = some (.cells (d.map byteV).toArray 33 (0, 0))) : w.rangeAt b 0 (d.map byteV) := fun j v hv => by
  rw [Nat.zero_add, cell_of_heapN h, List.getElem?_toArray]
  exact hv
theorem size_u8 (w : World) : (Go.sizeOf 5).run Tryz.prog w = .ok 1 w := by
  obtain ⟨i0, h1, h2⟩ := Option.map_eq_some_iff.1 (show (Tryz.prog.info? 5).map (·.size) = some 1 by kernel_rfl)
  simp [Go.sizeOf, Go.typeInfo, h1, h2, go_sem]
theorem dig_in (w : World) {d e : List UInt8} (hd : d.length = 32) (he : e.length = 32) : (Op.equalIn 10000 33 (.agg (d.map byteV).toArray) (.agg (e.map byteV).toArray)).run Tryz.prog w = .ok (d == e) w :=
  run_equalIn_bytes (P := Tryz.prog) w 9998 33 5 32 dig_und Tryz.underlying5 size_u8 d e hd he
theorem dig_eql (w : World) {d e : List UInt8} (hd : d.length = 32) (he : e.length = 32) : (binOp .eql 33 (.agg (d.map byteV).toArray) (.agg (e.map byteV).toArray)).run Tryz.prog w = .ok (.bool (d == e)) w :=
  run_eql_bytes w 33 5 32 dig_und Tryz.underlying5 size_u8 d e hd he
theorem dig_neq (w : World) {d e : List UInt8} (hd : d.length = 32) (he : e.length = 32) : (binOp .neq 33 (.agg (d.map byteV).toArray) (.agg (e.map byteV).toArray)).run Tryz.prog w = .ok (.bool (!(d == e))) w := by
  have h := run_equalIn_bytes (P := Tryz.prog) w 9998 33 5 32 dig_und Tryz.underlying5 size_u8 d e hd he
  rw [run_neq_struct]
  have h' : (Op.equalIn 10000 33 (.agg (d.map byteV).toArray) (.agg (e.map byteV).toArray)).run Tryz.prog w = .ok (d == e) w := h
  rw [h']
  rfl
theorem wpList_store_new {P : Program} {ops : Array Oper} {rest : List Oper} {op : Oper} {a : Act} {w : World} {Q : Exit → Act → World → Prop} (hgd : op.guard = none) (ty : TypeId) (x y : Operand) (ho : op.op = .store ty x y) (c c' : Array Value) (b : Nat) (hb : b = w.heap.size)
    (hx : a.eval x = .pointer (some ⟨b, 0, none⟩)) (hy : a.eval y = .agg c') (hi : (P.info? ty).map (·.size) = some c'.size) (hc : c.size = c'.size) (h1 : c'.all (·.oneCell') = true)
    (h : wpList P ops Q rest (a.put op.dst undef) (w.alloc (.cells c' ty))) : wpList P ops Q (op :: rest) a (w.alloc (.cells c ty)) :=
  wpList_plain hgd fun _ hK => by
    subst hb
    unfold Oper.wp execOp
    simp only [ho, hx, hy, Instr.storeAt, Instr.sureAddr, Sem.run_bind, Sem.run_pure, Result.andThen_ok, run_storeVar_new w ty c c' hi hc h1]
    exact hK _ _ h
/-- A load of a row behind a guard. -/
theorem wpList_load_midG {P : Program} {ops : Array Oper} {rest : List Oper} {op : Oper} {a : Act} {w : World} {Q : Exit → Act → World → Prop} (hw : Region.wanted op (yielded ops a.tmps) = true) (ty : TypeId) (x : Operand) (ho : op.op = .load ty x)
    (b o : Nat) (hx : a.eval x = .pointer (some ⟨b, o, none⟩)) (cs : List Value) (d : TypeDesc) (hc : w.rangeAt b o cs)
    (hu : P.underlying ty = some d) (hd : d.isRow = true) (hi : (P.info? ty).map (·.size) = some cs.length)
    (h : wpList P ops Q rest (a.put op.dst (.agg cs.toArray)) w) : wpList P ops Q (op :: rest) a w :=
  wpList_step fun _ hK => by
    rw [if_pos hw]
    exact wp_load_mid ty x ho b o hx cs d hc hu hd hi (hK _ _ h)
set_option maxRecDepth 100000 in
/-- Two digests compared. -/
theorem wpList_eqlD {ops : Array Oper} {rest : List Oper} {op : Oper} {a : Act} {w : World} {Q : Exit → Act → World → Prop} (hgd : op.guard = none) (x y : Operand) (ty : TypeId) (ho : op.op = .binOp .eql 33 x y ty) {d e : List UInt8} (hd : d.length = 32) (he : e.length = 32)
    (hx : a.eval x = .agg (d.map byteV).toArray) (hy : a.eval y = .agg (e.map byteV).toArray) (h : wpList Tryz.prog ops Q rest (a.put op.dst (.bool (d == e))) w) : wpList Tryz.prog ops Q (op :: rest) a w := by
  refine wpList_plain hgd fun K hK => ?_
  have hq := dig_eql w hd he
  have ht : Tryz.prog.eqGuardType Tryz.prog.depth 33 = false := by kernel_rfl
  have hg : (eqGuard .eql 33 x y (.agg (d.map byteV).toArray) (.agg (e.map byteV).toArray)).run Tryz.prog w = .ok () w := by
    unfold eqGuard
    have hpr : ∀ W : World, (Sem.program Sem.pure).run Tryz.prog W = .ok Tryz.prog W := fun _ => rfl
    simp [Sem.run_bind, program, hpr, ht, Result.andThen]
  unfold Oper.wp execOp
  simp only [ho, hx, hy, hg, hq, Sem.run_bind, Sem.run_pure, Result.andThen_ok]
  exact hK _ _ h
set_option maxRecDepth 100000 in
/-- Two digests compared, behind a guard. -/
theorem wpList_neqDG {ops : Array Oper} {rest : List Oper} {op : Oper} {a : Act} {w : World} {Q : Exit → Act → World → Prop} (hw : Region.wanted op (yielded ops a.tmps) = true) (x y : Operand) (ty : TypeId) (ho : op.op = .binOp .neq 33 x y ty) {d e : List UInt8} (hd : d.length = 32) (he : e.length = 32)
    (hx : a.eval x = .agg (d.map byteV).toArray) (hy : a.eval y = .agg (e.map byteV).toArray) (h : wpList Tryz.prog ops Q rest (a.put op.dst (.bool (!(d == e)))) w) : wpList Tryz.prog ops Q (op :: rest) a w := by
  refine wpList_step fun K hK => ?_
  rw [if_pos hw]
  have hq := dig_neq w hd he
  have ht : Tryz.prog.eqGuardType Tryz.prog.depth 33 = false := by kernel_rfl
  have hg : (eqGuard .neq 33 x y (.agg (d.map byteV).toArray) (.agg (e.map byteV).toArray)).run Tryz.prog w = .ok () w := by
    unfold eqGuard
    have hpr : ∀ W : World, (Sem.program Sem.pure).run Tryz.prog W = .ok Tryz.prog W := fun _ => rfl
    simp [Sem.run_bind, program, hpr, ht, Result.andThen]
  unfold Oper.wp execOp
  simp only [ho, hx, hy, hg, hq, Sem.run_bind, Sem.run_pure, Result.andThen_ok]
  exact hK _ _ h
end Go.Proofs.YtdkedmngeahjiaaGreatDoor
/- A map in memory from names to digests (stratalaw24.led). -/
namespace Go.Proofs.YtdkedmngeahjiaaGreatDoor
open Go Go.Maps Go.RowKit
/-- A digest's number, and back. -/
def codeD : List UInt8 → Nat
  | [] => 0
  | b :: r => b.toNat + 256 * codeD r
def decK : Nat → Nat → List UInt8
  | 0, _ => []
  | k + 1, n => UInt8.ofNat n :: decK k (n / 256)
def decD (n : Nat) : List UInt8 := decK 32 n
theorem decK_len : ∀ k n, (decK k n).length = k
  | 0, _ => rfl
  | k + 1, n => by rw [decK, List.length_cons, decK_len k]
theorem decD_len (n : Nat) : (decD n).length = 32 := decK_len 32 n
theorem decK_code : ∀ d : List UInt8, decK d.length (codeD d) = d
  | [] => rfl
  | b :: r => by
    have hb := b.toNat_lt
    rw [List.length_cons, decK, codeD]
    have h1 : UInt8.ofNat (b.toNat + 256 * codeD r) = b := by
      refine UInt8.toNat_inj.1 ?_
      rw [UInt8.toNat_ofNat']
      omega
    have h2 : (b.toNat + 256 * codeD r) / 256 = codeD r := by omega
    rw [h1, h2, decK_code r]
theorem dec_code {d : List UInt8} (h : d.length = 32) : decD (codeD d) = d := by
  unfold decD
  rw [← h]
  exact decK_code d
theorem mapV_inj : ∀ {d e : List UInt8}, d.map byteV = e.map byteV → d = e
  | [], [], _ => rfl
  | [], _ :: _, h => by cases h
  | _ :: _, [], h => by cases h
  | x :: r, y :: s, h => by
    rw [List.map_cons, List.map_cons] at h
    have h1 := (List.cons.inj h).1
    have h2 : Value.int .u8 ((x.toNat : Nat) : Int) = Value.int .u8 ((y.toNat : Nat) : Int) := h1
    simp only [Value.int.injEq] at h2
    rw [UInt8.toNat_inj.1 (show x.toNat = y.toNat by omega), mapV_inj (List.cons.inj h).2]
theorem byteV_inj {d e : List UInt8} (h : (d.map byteV).toArray = (e.map byteV).toArray) : d = e := mapV_inj (Array.mk.inj h)
/-- How an element reads: as its digest's number. -/
noncomputable def digElem (v : Value) : Option (DataW Unit × List MemPlace) :=
  open Classical in
  if h : ∃ d : List UInt8, d.length = 32 ∧ v = digV d then some (.lit (.int .i64 (codeD h.choose : Int)), []) else none
theorem digElem_mk {d : List UInt8} (h : d.length = 32) : digElem (digV d) = some (.lit (.int .i64 (codeD d : Int)), []) := by
  have he : ∃ e : List UInt8, e.length = 32 ∧ digV d = digV e := ⟨d, h, rfl⟩
  unfold digElem
  rw [dif_pos he]
  have h1 := he.choose_spec.2
  have h2 : d = he.choose := byteV_inj (by unfold digV at h1; exact Value.agg.inj h1)
  rw [← h2]
theorem digElem_inv {v : Value} {y : DataW Unit × List MemPlace} (h : digElem v = some y) : ∃ d : List UInt8, d.length = 32 ∧ v = digV d ∧ y = (.lit (.int .i64 (codeD d : Int)), []) := by
  unfold digElem at h
  split at h
  · rename_i he
    exact ⟨he.choose, he.choose_spec.1, he.choose_spec.2, (Option.some.inj h).symm⟩
  · cases h
/-- Block b is a map that reads as the table: names, and their digests' numbers. -/
def LedAt (w : World) (b : Nat) (l : Tab) : Prop := w.ownsMap Tryz.prog 9 digElem b l.length (tabD l)
theorem led_exact {w : World} {b n : Nat} {l : Tab} (h : w.ownsMap Tryz.prog 9 digElem b n (tabD l)) : LedAt w b l := by
  obtain ⟨es, clock, hb, F, hs, hD⟩ := h
  refine ⟨es, clock, hb, F, ?_, hD⟩
  have e := DataW.map.inj hD
  have e2 := congrArg List.length e
  rw [length_sorted, List.length_map, List.length_map] at e2
  have e3 : es.toList.length = es.size := Array.length_toList
  omega
theorem LedAt.rising {w : World} {b : Nat} {l : Tab} (h : LedAt w b l) : Rising l := tabD_canon (World.ownsMap.canon h key_string) rfl
theorem LedAt.lt {w : World} {b : Nat} {l : Tab} (h : LedAt w b l) : b < w.heap.size := World.ownsMap.lt h
theorem LedAt.keep {w w' : World} {b : Nat} {l : Tab} (h : LedAt w b l) (hb : w'.heap[b]? = w.heap[b]?) : LedAt w' b l := by
  obtain ⟨es, clock, h1, r⟩ := h
  exact ⟨es, clock, hb.trans h1, r⟩
theorem LedAt.below {w w' : World} {b : Nat} {l : Tab} (h : LedAt w b l) (hb : Below w.heap.size w w') : LedAt w' b l := h.keep (hb.block b h.lt)
theorem has_tab (l : Tab) (s : Bs) : Maps.has (tabD l) (.string s) = (tget l s).isSome := by
  show List.any (l.map tentry) (fun p => p.1.sameKey (.string s)) = _
  unfold tget
  rw [List.any_map, Option.isSome_map]
  induction l with
  | nil => rfl
  | cons p r ih =>
    rw [List.any_cons, List.find?_cons, ih]
    have e : ((fun p : Lit × DataW Unit => p.1.sameKey (.string s)) ∘ tentry) p = (p.1 == s) := rfl
    rw [e]
    cases p.1 == s <;> rfl
theorem key_mk (s : ByteArray) (h : s.size ≤ maxLen) : keyOf Tryz.prog 9 (.string s) = some (.string s.data.toList) := keyB h
theorem zero_digV (w : World) : (zeroValue 33).run Tryz.prog w = .ok (digV zeroD) w := by kernel_rfl
theorem und_led : Tryz.prog.underlying 40 = some (.map 9 33) := Tryz.underlying40
/-- What a name leads to. -/
def ledV (o : Option Nat) : List UInt8 := match o with
  | some c => decD c
  | none => zeroD
theorem ledV_len (o : Option Nat) : (ledV o).length = 32 := by
  cases o with
  | none => rfl
  | some c => exact decD_len c
section
variable {w : World} {ops : Array Oper} {rest : List Oper} {o : Oper} {a : Act} {Q : Exit → Act → World → Prop}
theorem wpList_look_led (hg : o.guard = none) (m x : Operand) (hop : o.op = Op.lookup 40 m x true) (b : Nat) (l : Tab)
    (hm : a.eval m = .map (some b)) (hown : LedAt w b l) (s : ByteArray) (hs : s.size ≤ maxLen) (hx : a.eval x = .string s)
    (hK : wpList Tryz.prog ops Q rest (a.put o.dst (.tuple #[.agg ((ledV (tget l s.data.toList)).map byteV).toArray, .bool (tget l s.data.toList).isSome])) w) :
    wpList Tryz.prog ops Q (o :: rest) a w := by
  refine wpList_lookup_own_ok w hg m x _ hop 9 33 key_string und_led digElem (zero_digV w) _ _ (digElem_mk (d := zeroD) rfl) b _ _ hm hown _ _ hx (key_mk s hs) ?_
  intro v ps hv
  obtain ⟨d, hd, rfl, hy⟩ := digElem_inv hv
  rw [has_tab]
  have h1 := (Prod.mk.inj hy).1
  rw [tabD_at] at h1
  have h2 : d = ledV (tget l s.data.toList) := by
    cases ht : tget l s.data.toList with
    | some c =>
      rw [ht] at h1
      simp only [DataW.lit.injEq, Lit.int.injEq, true_and] at h1
      have h3 : c = codeD d := by omega
      show d = decD c
      rw [h3, dec_code hd]
    | none =>
      rw [ht] at h1
      simp only [DataW.lit.injEq, Lit.int.injEq, true_and] at h1
      have h3 : codeD zeroD = codeD d := by omega
      have h4 : decD (codeD zeroD) = zeroD := dec_code rfl
      show d = zeroD
      rw [← h4, h3, dec_code hd]
  rw [h2]
  exact hK
theorem wpList_len_led (hg : o.guard = none) (m : Operand) (hop : o.op = Op.call { callee := Callee.builtin Builtin.len, args := #[m], argTypes := #[40] })
    (b : Nat) (l : Tab) (hm : a.eval m = .map (some b)) (hown : LedAt w b l) (hK : wpList Tryz.prog ops Q rest (a.put o.dst (.int .i64 (l.length : Int))) w) :
    wpList Tryz.prog ops Q (o :: rest) a w := by
  refine wpList_len_own w hg m _ hop 9 33 und_led digElem b _ _ hm hown ?_
  have e : Maps.size (tabD l) = l.length := List.length_map ..
  rw [e]
  exact hK
theorem wpList_next_led (hg : o.guard = none) (it : Operand) (hop : o.op = Op.next it false) (b r n : Nat) (D : DataW Unit) (left : Lit → Bool) (cnt : Nat)
    (hit : a.eval it = .pointer (some ⟨r, 0, none⟩)) (h : w.ranges Tryz.prog 9 digElem b r n D left cnt)
    (hDone : cnt = 0 → (∀ kl, left kl = false) → wpList Tryz.prog ops Q rest (a.put o.dst (.tuple #[.bool false])) w)
    (hMore : ∀ (k : Bs) (d : List UInt8) (w' : World) (cnt' : Nat), (⟨k.toArray⟩ : ByteArray).size ≤ maxLen → d.length = 32 → left (.string k) = true → (∀ zd, D.atKey (.string k) zd = .lit (.int .i64 (codeD d : Int))) → w'.ranges Tryz.prog 9 digElem b r n D (fun z => left z && !z.sameKey (.string k)) cnt' → cnt' < cnt →
      w.grownBy w' (some r) → w'.heap.size = w.heap.size → (Instr.entry (.pointer (some ⟨r, 0, none⟩))).run Tryz.prog w' = .ok (.tuple #[.string ⟨k.toArray⟩, .agg (d.map byteV).toArray]) w' → wpList Tryz.prog ops Q rest (a.put o.dst (.tuple #[.bool true, .string ⟨k.toArray⟩, .agg (d.map byteV).toArray])) w') :
    wpList Tryz.prog ops Q (o :: rest) a w := by
  refine wpList_next_ranges w hg it hop 9 key_string digElem Go.Proofs.encStr digV (fun key kl hk => by obtain ⟨x, h1, h2⟩ := Maps.keyOf_str Tryz.underlying9 hk; exact ⟨x, h1⟩) (fun v y hv => by obtain ⟨d, -, h2, -⟩ := digElem_inv hv; exact ⟨d, h2⟩) b r n D left cnt hit h hDone ?_
  intro x c kl y w' cnt' hkey hlk hv hat hrg hlt hgr hsz hen
  obtain ⟨x', e1, rfl, hxs⟩ := Maps.keyOf_str Tryz.underlying9 hkey
  obtain rfl := Go.encStr_inj e1
  obtain ⟨d, hd, e2, rfl⟩ := digElem_inv hv
  rw [e2] at hen ⊢
  exact hMore x d w' cnt' hxs hd hlk hat hrg hlt hgr hsz hen
end
end Go.Proofs.YtdkedmngeahjiaaGreatDoor
/- Contract of stratalaw24.with. -/
namespace Go.Proofs.YtdkedmngeahjiaaGreatDoor
open Go Go.Maps Go.RowKit
/-- A table with one name leading to a digest, or to nothing. -/
def withT (l : Tab) (k : Bs) (c : Nat) (gone : Bool) : Tab := if gone then tdel (tput l k c) k else tput l k c
set_option maxHeartbeats 6400000 in
set_option maxRecDepth 100000 in
theorem with_any (w : World) (b : Nat) (l : Tab) (hown : LedAt w b l) (hl : l.length ≤ 1000000) (s : ByteArray) (hs : s.size ≤ maxLen) (D : List UInt8) (hD : D.length = 32) (gone : Bool) :
    Calls Tryz.prog 16 #[.map (some b), .string s, digV D, .bool gone] w fun e w' => ∃ q, e = .returned (.map (some q)) ∧ w.heap.size ≤ q ∧ LedAt w' q (withT l s.data.toList (codeD D) gone) ∧ Below w.heap.size w w' := by
  have hbl := hown.lt
  have hI := dig_info hD
  have hI2 := dig_info2 hD
  have hU := dig_und
  have hmm := @run_makeMap Tryz.prog
  have HO := Lib.hid hown
  have HDL := Lib.hid hD
  have HKS := Lib.hid (key_mk s hs)
  have HEM := Lib.hid (digElem_mk hD)
  obtain ⟨W1, hW1⟩ : ∃ W, w.alloc (.cells (D.map byteV).toArray 33) = W := ⟨_, rfl⟩
  have hb1 : Below w.heap.size w W1 := by rw [← hW1]; exact (Below.refl _ _).alloc (Nat.le_refl _) _
  have hx1 : W1.heap[w.heap.size]? = some (.cells (D.map byteV).toArray 33 (0, 0)) := by rw [← hW1]; exact heap_new _ _
  have HB1 := Lib.hid hb1
  have HX1 := Lib.hid hx1
  have hz1 : W1.heap.size = w.heap.size + 1 := by rw [← hW1, World.size_alloc]
  have HZ1 := Lib.hid hz1
  unfold digV
  clear hown hs hb1 hx1 hz1 hD
  go_enter Tryz.func16, Tryz.ntmps16
  go_wp2_with (at_range; refine wpList_range_own _ rfl _ 40 rfl 9 33 key_string und_led digElem b _ _ rfl ((HO.out.below HB1.out).alloc _) ?_; intro w0 hrg0 hg0 hs0)
  go_frame
  have e1 : (W1.alloc (.map #[] 0)).heap.size = w.heap.size + 2 := by rw [World.size_alloc, HZ1.out]
  have e2 : W1.heap.size = w.heap.size + 1 := HZ1.out
  rw [e1] at hrg0 hs0
  have hout0 : w0.ownsMap Tryz.prog 9 digElem (w.heap.size + 1) 0 (.map []) := by
    have h1 := (World.ownsMap_made W1 Tryz.prog 9 digElem).kept hg0 (by simp)
    rw [e2] at h1
    exact h1
  have HB0 : Hid (Below w.heap.size w w0) := Lib.hid ((HB1.out.alloc (by rw [e2]; omega) _).grown hg0 (by rw [World.size_alloc, e2]; omega) (fun j hj => by cases hj))
  have HX0 : Hid (w0.heap[w.heap.size]? = some (.cells (D.map byteV).toArray 33 (0, 0))) := Lib.hid ((hg0.block _ (by rw [World.size_alloc, e2]; omega) (by simp)).trans ((Below.heap_alloc W1 _ _ (by rw [e2]; omega)).trans HX1.out))
  have HR0 := Lib.hid hrg0
  have HOUT0 := Lib.hid hout0
  have HS0 : Hid (w0.heap.size = w.heap.size + 3) := Lib.hid hs0
  have hcan := World.ownsMap.canon HO.out key_string
  have HCAN := Lib.hid hcan
  clear hrg0 hg0 hs0 hout0 hcan
  try simp only [e1, e2]
  go_loopw [] (fun wr => ∃ (left : Lit → Bool) (cnt : Nat) (Dout : DataW Unit), Hid (wr.ranges Tryz.prog 9 digElem b (w.heap.size + 2) l.length (tabD l) left cnt) ∧ Hid (cnt ≤ l.length ∧ wr.ownsMap Tryz.prog 9 digElem (w.heap.size + 1) (l.length - cnt) Dout ∧ Agree Dout (tabD l) left) ∧ Hid (Below w.heap.size w wr ∧ w.heap.size + 3 ≤ wr.heap.size) ∧ Hid (wr.heap[w.heap.size]? = some (.cells (D.map byteV).toArray 33 (0, 0))))
    (fun wr => wr.rangeLeft b (w.heap.size + 2))
  case atStart =>
    have hsz : Maps.size (tabD l) = l.length := List.length_map ..
    exact ⟨_, _, .map [], HR0, Lib.hid ⟨by rw [hsz]; exact Nat.le_refl _, HOUT0.out.mono (Nat.zero_le _), agree_start (tabD l)⟩, Lib.hid ⟨HB0.out, by rw [HS0.out]; exact Nat.le_refl _⟩, HX0⟩
  case round =>
    obtain ⟨left, cnt, Dout, HRG, HA, HB, HX⟩ := hrel
    go_wp2_with (at_next; refine wpList_next_led rfl _ rfl b (w.heap.size + 2) _ _ left cnt rfl HRG.out ?_ ?_)
    · intro hc0 hl0
      subst hc0
      have hout := HA.out.2.1
      have e := agree_end HA.out.2.2 hl0 (hout.canon key_string) HCAN.out
      subst e
      have HL0 := Lib.hid (led_exact hout)
      have HRX := Lib.hid (dig_range HX.out)
      clear hout hl0
      have hlm : l.length < maxLen := by unfold maxLen; omega
      cases gone with
      | false =>
        go_wp2_with (first | refine wpList_load_mid rfl _ _ rfl w.heap.size 0 rfl (D.map byteV) _ HRX.out hU rfl hI ?_ | (at_mapUpdate; refine wpList_mapUpdate_in _ rfl _ _ _ 40 rfl 9 33 key_string und_led digElem (w.heap.size + 1) _ _ rfl HL0.out (by omega) _ _ _ rfl rfl HKS.out _ _ HEM.out ?_; intro w2 hown2 hturn2; have HO2 := Lib.hid hown2; have HT2 := Lib.hid hturn2; clear hown2 hturn2))
        go_ret
        exact ⟨_, rfl, by omega, led_exact (by have := HO2.out; rw [tabD_put] at this; exact this), HB.out.1.grown HT2.out.grown HB.out.1.size (fun j hj => by cases hj; omega)⟩
      | true =>
        go_wp2_with (first | refine wpList_load_mid rfl _ _ rfl w.heap.size 0 rfl (D.map byteV) _ HRX.out hU rfl hI ?_ | (at_mapUpdate; refine wpList_mapUpdate_in _ rfl _ _ _ 40 rfl 9 33 key_string und_led digElem (w.heap.size + 1) _ _ rfl HL0.out (by omega) _ _ _ rfl rfl HKS.out _ _ HEM.out ?_; intro w2 hown2 hturn2; have HO2 := Lib.hid hown2; have HT2 := Lib.hid hturn2; clear hown2 hturn2) | (at_delete; refine wpList_delete_own _ rfl _ _ 40 9 rfl 33 key_string und_led digElem (w.heap.size + 1) _ _ rfl (led_exact (by have := HO2.out; rw [tabD_put] at this; exact this)) _ _ rfl HKS.out ?_; intro w3 hown3 hturn3; have HO3 := Lib.hid hown3; have HT3 := Lib.hid hturn3; clear hown3 hturn3))
        go_ret
        have hb2 := HB.out.1.grown HT2.out.grown HB.out.1.size (fun j hj => by cases hj; omega)
        exact ⟨_, rfl, by omega, led_exact (by have := HO3.out; rw [tabD_del] at this; exact this), hb2.grown HT3.out.grown hb2.size (fun j hj => by cases hj; omega)⟩
    · intro k d w1 cnt1 hks hd hlk hat hrg1 hlt hg1 hs1 hen
      have hid := dig_info hd
      have hid2 := dig_info2 hd
      have hd1 := dig_one d
      have hdz := dig_size hd
      have hout1 := HA.out.2.1.kept hg1 (by simp)
      have HRG1 := Lib.hid hrg1
      have HOUT1 := Lib.hid hout1
      have HG1 := Lib.hid hg1
      have HS1 := Lib.hid hs1
      have HLT := Lib.hid hlt
      have HAT := Lib.hid hat
      have HKK := Lib.hid (key_mk ⟨k.toArray⟩ hks)
      have HEK := Lib.hid (digElem_mk hd)
      clear hrg1 hout1 hg1 hs1 hlt hat hks hlk hd
      go_wp2_with (first | (refine wpList_store_new rfl _ _ _ rfl _ (d.map byteV).toArray _ rfl rfl rfl hid2 hdz hd1 ?_; (obtain ⟨W4, hW4⟩ : ∃ W, w1.alloc (.cells (d.map byteV).toArray 33) = W := ⟨_, rfl⟩; have hx4 : W4.heap[w1.heap.size]? = some (.cells (d.map byteV).toArray 33 (0, 0)) := (by rw [← hW4]; exact heap_new _ _); have HRX4 := Lib.hid (dig_range hx4); have HOUT4 : Hid (W4.ownsMap Tryz.prog 9 digElem (w.heap.size + 1) (l.length - cnt) Dout) := Lib.hid (by rw [← hW4]; exact HOUT1.out.alloc _); have HRG4 : Hid (W4.ranges Tryz.prog 9 digElem b (w.heap.size + 2) l.length (tabD l) (fun z => left z && !z.sameKey (.string k)) cnt1) := Lib.hid (by rw [← hW4]; exact HRG1.out.alloc _); have HB4 : Hid (Below w1.heap.size w1 W4) := Lib.hid (by rw [← hW4]; exact (Below.refl _ _).alloc (Nat.le_refl _) _); rw [hW4]; clear hW4 hx4)) | refine wpList_load_mid rfl _ _ rfl w1.heap.size 0 rfl (d.map byteV) _ HRX4.out hU rfl hid ?_ | (at_mapUpdate; refine wpList_mapUpdate_in _ rfl _ _ _ 40 rfl 9 33 key_string und_led digElem (w.heap.size + 1) _ _ rfl HOUT4.out (by unfold maxLen; omega) _ _ _ rfl rfl HKK.out _ _ HEK.out ?_; intro w2 hown2 hturn2; have HO2 := Lib.hid hown2; have HT2 := Lib.hid hturn2; clear hown2 hturn2))
      have hsz := HS1.out
      have hszb := HB.out.2
      have hg2 := HT2.out.grown
      have hrg2 := HRG4.out.kept hg2 (fun e => by have := Option.some.inj e; omega) (fun e => by have := Option.some.inj e; omega)
      have hbw1 : Below w.heap.size w w1 := HB.out.1.grown HG1.out HB.out.1.size (fun j hj => by cases hj; omega)
      have hbw4 := hbw1.trans (HB4.out.mono hbw1.size)
      have hbw2 := hbw4.grown hg2 hbw4.size (fun j hj => by cases hj; omega)
      have hx2 : w2.heap[w.heap.size]? = some (.cells (D.map byteV).toArray 33 (0, 0)) := (hg2.block _ (by have := HB4.out.size; omega) (fun e => by have := Option.some.inj e; omega)).trans ((HB4.out.block _ (by omega)).trans ((HG1.out.block _ (by omega) (fun e => by have := Option.some.inj e; omega)).trans HX.out))
      refine ⟨⟨_, cnt1, Lib.hid hrg2, ⟨_, Lib.hid ⟨by have := HA.out.1; have := HLT.out; omega, HO2.out.mono (by have := HA.out.1; have := HLT.out; omega), agree_step HA.out.2.2 HA.out.2.1.isMap trivial HAT.out⟩⟩, Lib.hid ⟨hbw2, by have := hg2.size; have := HB4.out.size; omega⟩, Lib.hid hx2⟩, ?_⟩
      rw [hrg2.left_eq, HRG.out.left_eq]
      exact HLT.out
end Go.Proofs.YtdkedmngeahjiaaGreatDoor
