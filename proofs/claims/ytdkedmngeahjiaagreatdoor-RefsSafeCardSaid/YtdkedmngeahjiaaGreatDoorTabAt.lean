/- A table in memory: a map from names to pointers; the laws on its operations, exact. -/
import Derived.Test.YtdkedmngeahjiaaGreatDoorM7
import Derived.Maps.OwnOps
import Derived.Deep.QuietTactic
namespace Go.Proofs.YtdkedmngeahjiaaGreatDoor
open Go Go.Maps
section
variable {P : Program} {k : TypeId}
/-- Block b is a map that reads as the table. -/
def TabAt (P : Program) (k : TypeId) (w : World) (b : Nat) (l : Tab) : Prop := w.ownsMap P k ptrElem b l.length (tabD l)
theorem size_exact {w : World} {b n : Nat} {l : Tab} (h : w.ownsMap P k ptrElem b n (tabD l)) : TabAt P k w b l := by
  obtain ⟨es, clock, hb, F, hs, hD⟩ := h
  refine ⟨es, clock, hb, F, ?_, hD⟩
  have e := DataW.map.inj hD
  have e2 := congrArg List.length e
  rw [length_sorted, List.length_map, List.length_map] at e2
  have e3 : es.toList.length = es.size := Array.length_toList
  omega
theorem TabAt.rising {w : World} {b : Nat} {l : Tab} (h : TabAt P k w b l) (K : Keyed P k) : Rising l := tabD_canon (World.ownsMap.canon h K) rfl
theorem TabAt.lt {w : World} {b : Nat} {l : Tab} (h : TabAt P k w b l) : b < w.heap.size := World.ownsMap.lt h
theorem TabAt.keep {w w' : World} {b : Nat} {l : Tab} (h : TabAt P k w b l) (hb : w'.heap[b]? = w.heap[b]?) : TabAt P k w' b l := by
  obtain ⟨es, clock, h1, r⟩ := h
  exact ⟨es, clock, hb.trans h1, r⟩
theorem TabAt.look {w : World} {b : Nat} {l : Tab} (h : TabAt P k w b l) (K : Keyed P k) {t e : TypeId} (ht : P.underlying t = some (.map k e)) (hz : (zeroValue e).run P w = .ok (.pointer none) w) {key : Value} {s : Bs} (hk : keyOf P k key = some (.string s)) :
    (Instr.lookup t (.map (some b)) key false).run P w = .ok (ptrV (tget l s)) w := by
  obtain ⟨v, ps, hrun, hv⟩ := World.ownsMap.lookup h K ht hz (zd := .nil) (zp := []) rfl hk
  rw [hrun]
  rw [tabD_at] at hv
  cases hg : tget l s with
  | none => rw [hg] at hv; rw [ptrElem_nil hv]; rfl
  | some c => rw [hg] at hv; rw [ptrElem_inv hv]; rfl
theorem TabAt.store {w : World} {b : Nat} {l : Tab} (h : TabAt P k w b l) (K : Keyed P k) {t e : TypeId} (ht : P.underlying t = some (.map k e)) (hn : l.length < maxLen) {key : Value} {s : Bs} (hk : keyOf P k key = some (.string s)) (c : Nat) :
    ∃ w', (Instr.mapUpdate t (.map (some b)) key (ptrV (some c))).run P w = .ok () w' ∧ TabAt P k w' b (tput l s c) ∧ w.mapTurned w' b := by
  obtain ⟨w', h1, h2, h3⟩ := World.ownsMap.store h K ht hn (val := ptrV (some c)) (d := .lit (.int .i64 (c : Int))) (ps := []) hk rfl
  rw [tabD_put] at h2
  exact ⟨w', h1, size_exact h2, h3⟩
theorem TabAt.drop {w : World} {b : Nat} {l : Tab} (h : TabAt P k w b l) (K : Keyed P k) {t e : TypeId} (ht : P.underlying t = some (.map k e)) {key : Value} {s : Bs} (hk : keyOf P k key = some (.string s)) (ty : TypeId) :
    ∃ w', (Builtin.delete_ #[t, k] ty #[.map (some b), key]).run P w = .ok (.tuple #[]) w' ∧ TabAt P k w' b (tdel l s) ∧ w.mapTurned w' b := by
  obtain ⟨w', h1, h2, h3⟩ := World.ownsMap.drop h K ht hk ty
  rw [tabD_del] at h2
  exact ⟨w', h1, size_exact h2, h3⟩
theorem TabAt.made (w : World) : TabAt P k (w.alloc (.map #[] 0)) w.heap.size [] := World.ownsMap_made w P k ptrElem
variable {w : World} {ops : Array Oper} {rest : List Oper} {o : Oper} {a : Act} {Q : Exit → Act → World → Prop}
theorem wpList_look_tab (hg : o.guard = none) (m x : Operand) (t : TypeId) (hop : o.op = Op.lookup t m x false)
    (e : TypeId) (K : Keyed P k) (ht : P.underlying t = some (.map k e)) (hz : ∀ w, (zeroValue e).run P w = .ok (.pointer none) w) (b : Nat) (l : Tab)
    (hm : a.eval m = .map (some b)) (hT : TabAt P k w b l) (key : Value) (s : Bs) (hx : a.eval x = key) (hk : keyOf P k key = some (.string s))
    (hK : wpList P ops Q rest (a.put o.dst (ptrV (tget l s))) w) : wpList P ops Q (o :: rest) a w := by
  refine wpList_plain hg fun K' hK' => ?_
  have hrun := hT.look K ht (hz w) hk
  unfold Oper.wp
  simp [execOp, hop, hm, hx, hrun, Result.andThen]
  exact hK' _ _ hK
theorem wpList_store_tab (hg : o.guard = none) (m x v : Operand) (t : TypeId) (hop : o.op = Op.mapUpdate t m x v)
    (e : TypeId) (K : Keyed P k) (ht : P.underlying t = some (.map k e)) (b : Nat) (l : Tab)
    (hm : a.eval m = .map (some b)) (hT : TabAt P k w b l) (hn : l.length < maxLen) (key : Value) (s : Bs) (c : Nat) (hx : a.eval x = key) (hv : a.eval v = ptrV (some c)) (hk : keyOf P k key = some (.string s))
    (hK : ∀ w', TabAt P k w' b (tput l s c) → w.mapTurned w' b → wpList P ops Q rest (a.put o.dst undef) w') : wpList P ops Q (o :: rest) a w := by
  refine wpList_plain hg fun K' hK' => ?_
  obtain ⟨w', hrun, r1, r2⟩ := hT.store K ht hn hk c
  unfold Oper.wp
  simp [execOp, hop, hm, hx, hv, hrun, Result.andThen]
  exact hK' _ _ (hK w' r1 r2)
theorem wpList_drop_tab (hg : o.guard = none) (m x : Operand) (t : TypeId) (hop : o.op = Op.call { callee := Callee.builtin Builtin.delete, args := #[m, x], argTypes := #[t, k] })
    (e : TypeId) (K : Keyed P k) (ht : P.underlying t = some (.map k e)) (b : Nat) (l : Tab)
    (hm : a.eval m = .map (some b)) (hT : TabAt P k w b l) (key : Value) (s : Bs) (hx : a.eval x = key) (hk : keyOf P k key = some (.string s))
    (hK : ∀ w', TabAt P k w' b (tdel l s) → w.mapTurned w' b → wpList P ops Q rest (a.put o.dst (.tuple #[])) w') : wpList P ops Q (o :: rest) a w := by
  refine wpList_plain hg fun K' hK' => ?_
  obtain ⟨w', hrun, r1, r2⟩ := hT.drop K ht hk o.type
  unfold Oper.wp
  simp [execOp, hop, resolve, invoke, builtin, hm, hx, hrun, Result.andThen]
  exact hK' _ _ (hK w' r1 r2)
end
/-- w' is w but for blocks of S, and for new ones. -/
structure Off (S : Nat → Prop) (w w' : World) : Prop where
  os : w'.os = w.os
  tape : w'.tape = w.tape
  output : w'.output = w.output
  size : w.heap.size ≤ w'.heap.size
  block : ∀ i, i < w.heap.size → ¬ S i → w'.heap[i]? = w.heap[i]?
theorem Off.refl (S : Nat → Prop) (w : World) : Off S w w := ⟨rfl, rfl, rfl, Nat.le_refl _, fun _ _ _ => rfl⟩
/-- S, and what is new. -/
def grow (S : Nat → Prop) (w w' : World) : Nat → Prop := fun b => S b ∨ (w.heap.size ≤ b ∧ b < w'.heap.size)
theorem Off.trans {S S' : Nat → Prop} {a b c : World} (h : Off S a b) (k : Off S' b c) (hs : ∀ i, i < a.heap.size → S' i → S i) : Off S a c :=
  ⟨k.os.trans h.os, k.tape.trans h.tape, k.output.trans h.output, Nat.le_trans h.size k.size, fun i hi hn => (k.block i (Nat.lt_of_lt_of_le hi h.size) (fun hS => hn (hs i hi hS))).trans (h.block i hi hn)⟩
theorem Off.tr {S : Nat → Prop} {a b c : World} (h : Off S a b) (k : Off S b c) : Off S a c := h.trans k (fun _ _ x => x)
theorem Off.trG {S : Nat → Prop} {a b c : World} (h : Off S a b) (k : Off (grow S a b) b c) : Off S a c :=
  h.trans k (fun i hi hs => by rcases hs with hs | ⟨h1, _⟩; exact hs; omega)
theorem Off.mono {S S' : Nat → Prop} {a b : World} (h : Off S a b) (hs : ∀ i, i < a.heap.size → S i → S' i) : Off S' a b :=
  ⟨h.os, h.tape, h.output, h.size, fun i hi hn => h.block i hi (fun x => hn (hs i hi x))⟩
theorem Off.alloc {S : Nat → Prop} {a b : World} (h : Off S a b) (o : Obj) : Off S a (b.alloc o) :=
  h.tr ⟨rfl, rfl, rfl, by rw [World.size_alloc]; omega, fun i hi _ => RowKit.Below.heap_alloc b o i hi⟩
theorem Off.below {S : Nat → Prop} {a b c : World} (h : Off S a b) {B : Nat} (k : RowKit.Below B b c) (hB : a.heap.size ≤ B) : Off S a c :=
  ⟨k.os.trans h.os, k.tape.trans h.tape, k.output.trans h.output, Nat.le_trans h.size k.size, fun i hi hn => (k.block i (by omega)).trans (h.block i hi hn)⟩
theorem Off.grown {S : Nat → Prop} {a b c : World} (h : Off S a b) {r : Nat} (k : b.grownBy c (some r)) (hr : r < a.heap.size → S r) : Off S a c :=
  ⟨k.os.trans h.os, k.tape.trans h.tape, k.output.trans h.output, Nat.le_trans h.size k.size, fun i hi hn => (k.block i (Nat.lt_of_lt_of_le hi h.size) (fun e => by cases e; exact hn (hr hi))).trans (h.block i hi hn)⟩
theorem Off.setCell {S : Nat → Prop} {a b : World} (h : Off S a b) (p : Addr) (v : Value) (hr : p.block < a.heap.size → S p.block) : Off S a (b.setCell p v) :=
  ⟨h.os, h.tape, h.output, by rw [World.size_setCell]; exact h.size, fun i hi hn => (RowKit.Below.heap_setCell _ _ _ _ (fun e => hn (by rw [e] at hi ⊢; exact hr hi))).trans (h.block i hi hn)⟩
theorem Off.draws {S : Nat → Prop} {a b : World} (h : Off S a b) (n : Nat) : Off S a (b.drewN n) := ⟨h.os, h.tape, h.output, h.size, h.block⟩
theorem Off.toBelow {S : Nat → Prop} {a b : World} (h : Off S a b) {B : Nat} (hB : ∀ i, S i → B ≤ i) (hb : B ≤ a.heap.size) : RowKit.Below B a b :=
  ⟨h.os, h.tape, h.output, h.size, fun i hi => h.block i (by omega) (fun hS => by have := hB i hS; omega)⟩
theorem Off.cell {S : Nat → Prop} {a b : World} (h : Off S a b) {p : Addr} (h1 : p.block < a.heap.size) (h2 : ¬ S p.block) : b.cell? p = a.cell? p := by
  simp only [World.cell?, h.block p.block h1 h2]
theorem grow_grow {S : Nat → Prop} {a b c : World} (h1 : a.heap.size ≤ b.heap.size) (h2 : b.heap.size ≤ c.heap.size) (i : Nat) : grow (grow S a b) b c i ↔ grow S a c i := by
  unfold grow
  constructor
  · rintro ((h | ⟨h3, h4⟩) | ⟨h3, h4⟩)
    · exact .inl h
    · exact .inr ⟨h3, by omega⟩
    · exact .inr ⟨by omega, h4⟩
  · rintro (h | ⟨h3, h4⟩)
    · exact .inl (.inl h)
    · by_cases h5 : i < b.heap.size
      · exact .inl (.inr ⟨h3, h5⟩)
      · exact .inr ⟨by omega, h4⟩
end Go.Proofs.YtdkedmngeahjiaaGreatDoor
