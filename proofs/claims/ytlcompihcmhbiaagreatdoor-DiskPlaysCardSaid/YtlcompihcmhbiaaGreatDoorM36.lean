/- Texts of the seat, one behind the other: OpenS, Held, Two. -/
import Derived.Test.YtlcompihcmhbiaaGreatDoorOpenRow
import Derived.Test.YtlcompihcmhbiaaGreatDoorM34
/- Steps and fates among the arguments: read as data, and as they lie in memory. -/
namespace Go.Proofs.YtlcompihcmhbiaaGreatDoor
open Go.ChangeShapes Go.WideShapes Go.RowKit Go.Deep
/-- Steps in memory, as a call has them from its caller. -/
def StepsAt (w : World) (v : Value) (l : List StepM) : Prop :=
  ∃ p cap, v = .slice p l.length cap ∧ ∀ i m, l[i]? = some m → ∃ b off kv, p = some ⟨b, off, none⟩ ∧ b < w.heap.size ∧ (∀ j, j < 6 → w.cell? ⟨b, off + (i * 6 + j), none⟩ = (m.cells kv)[j]?) ∧ IntsRd (fun b => w.heap.size ≤ b) w kv m.keep
/-- Fates in memory. -/
def FatesAt (w : World) (v : Value) (l : List (List Int)) : Prop :=
  ∃ p cap, v = .slice p l.length cap ∧ ∀ i ks, l[i]? = some ks → ∃ b off kv, p = some ⟨b, off, none⟩ ∧ b < w.heap.size ∧ w.cell? ⟨b, off + i, none⟩ = some kv ∧ IntsRd (fun b => w.heap.size ≤ b) w kv ks
def big (x : Int) : Prop := -9223372036854775808 ≤ x ∧ x ≤ 9223372036854775807
def StepM.Fits (m : StepM) : Prop := big m.act ∧ big m.who ∧ big m.num ∧ m.name.size ≤ 140737488351232 ∧ m.data.size ≤ 140737488351232 ∧ m.keep.length * 8 ≤ 140737488351232
section
variable {H : Type} {enc : TypeId × Value → H} {w : World} {held : Bool}
theorem ln1 {α : Type} {l : List α} (h : l.length = 1) : ∃ a0, l = [a0] := by
  match l, h with
  | [a0], _ => exact ⟨_, rfl⟩
theorem ln4 {α : Type} {l : List α} (h : l.length = 4) : ∃ a0 a1 a2 a3, l = [a0, a1, a2, a3] := by
  match l, h with
  | [a0, a1, a2, a3], _ => exact ⟨_, _, _, _, rfl⟩
theorem ln6 {α : Type} {l : List α} (h : l.length = 6) : ∃ a0 a1 a2 a3 a4 a5, l = [a0, a1, a2, a3, a4, a5] := by
  match l, h with
  | [a0, a1, a2, a3, a4, a5], _ => exact ⟨_, _, _, _, _, _, rfl⟩
def strL (s : ByteArray) : DataW H := .lit (.string s.data.toList)
theorem reads_str {n : Nat} {v : Value} {y : DataW H × List MemPlace} (h : DataW.trod enc Tryz.prog w 0 (fun _ => true) held n 9 [v] = some y) : ∃ s : ByteArray, v = .string s ∧ y.1 = strL s := by
  obtain ⟨s, h1, h2, _⟩ := DataW.trod_string Tryz.underlying9 h
  exact ⟨s, (List.cons.inj h1).1, by rw [h2]; rfl⟩
theorem reads_int {n : Nat} {v : Value} {y : DataW H × List MemPlace} (h : DataW.trod enc Tryz.prog w 0 (fun _ => true) held n 3 [v] = some y) : ∃ x : Int, v = .int .i64 x ∧ y.1 = .lit (.int .i64 x) ∧ big x := by
  obtain ⟨s, h1, h2, h3⟩ := DataW.trod_int Tryz.underlying3 h
  simp only [Lit.wf, Bool.and_eq_true, decide_eq_true_eq] at h3
  exact ⟨s, (List.cons.inj h1).1, by rw [h2], h3⟩
theorem open_ints {n : Nat} {v : Value} {x : DataW H × List MemPlace} (h : DataW.trod enc Tryz.prog w 0 (fun _ => true) held n 24 [v] = some x) :
    ∃ ks : List Int, IntsRd (fun b => w.heap.size ≤ b) w v ks ∧ ∀ B, (∀ k ∈ x.1.weights Tryz.prog 24, k ≤ B) → ks.length * 8 ≤ B := by
  obtain ⟨len, cap, p, D, Pl, n', rfl, hl, hm, hi, hw⟩ := open_row 1 8 Tryz.underlying24 (by kernel_rfl) (by kernel_rfl) (by decide) h
  obtain ⟨F, hF⟩ := choose_lt (α := Int) (n := len) (p := fun i k => big k ∧ ∃ b off, p = some ⟨b, off, none⟩ ∧ b < w.heap.size ∧ w.cell? ⟨b, off + i, none⟩ = some (.int .i64 k)) (fun i hil => by
    obtain ⟨b, off, e, hb, cs, hcl, hc, ht⟩ := hi i hil
    obtain ⟨a0, rfl⟩ := ln1 hcl
    obtain ⟨k, rfl, -, hk⟩ := reads_int ht
    refine ⟨k, hk, b, off, e, hb, ?_⟩
    have := hc 0 (by decide)
    rwa [Nat.mul_one, Nat.add_zero] at this)
  refine ⟨(List.range len).map F, ⟨p, cap, by rw [List.length_map, List.length_range], by rw [List.length_map, List.length_range]; exact ⟨hl, hm⟩, fun j k hj => ?_⟩, fun B hB => by rw [List.length_map, List.length_range]; exact (hw B hB).1⟩
  rw [List.getElem?_map] at hj
  by_cases hjl : j < len
  · rw [List.getElem?_range hjl] at hj
    obtain rfl : F j = k := by simpa using hj
    obtain ⟨h1, b, off, e, hb, hc⟩ := hF j hjl
    exact ⟨h1, b, off, e, hc, hb, .inl (by omega)⟩
  · rw [List.getElem?_eq_none (by simpa using hjl)] at hj
    cases hj
theorem open_fate {n : Nat} {cs : List Value} {x : DataW H × List MemPlace} (h : DataW.trod enc Tryz.prog w 0 (fun _ => true) held n 26 cs = some x) :
    ∃ (kv : Value) (ks : List Int), cs = [kv] ∧ IntsRd (fun b => w.heap.size ≤ b) w kv ks ∧ ∀ B, (∀ k ∈ x.1.weights Tryz.prog 26, k ≤ B) → ks.length * 8 ≤ B := by
  obtain ⟨xs, n1, rfl, rfl, hl, hxl, hf⟩ := DataW.trod_struct Tryz.underlying26 h
  have hcM : Tryz.prog.cellsOf 26 = 1 := by kernel_rfl
  have hcI : Tryz.prog.cellsOf 24 = 1 := by kernel_rfl
  rw [hcM] at hl
  obtain ⟨a0, rfl⟩ := ln1 hl
  obtain ⟨y0, rfl⟩ := ln1 hxl
  have h0 := hf 0 _ rfl
  simp only [List.getElem_toArray, List.getElem_cons_zero, List.getElem_cons_succ, hcI, List.drop_zero, List.drop_succ_cons, List.take_succ_cons, List.take_zero, List.getElem?_cons_zero, List.getElem?_cons_succ] at h0
  obtain ⟨ks, h1, h2⟩ := open_ints h0
  refine ⟨a0, ks, rfl, h1, fun B hB => h2 B fun k hk => hB k ?_⟩
  show k ∈ (DataW.agg [y0.1]).weights _ _
  simp only [DataW.weights, DataW.weightsEach, Tryz.underlying26, List.map_cons, List.map_nil, List.append_nil]
  exact hk
set_option maxHeartbeats 800000 in
theorem open_step {n : Nat} {cs : List Value} {x : DataW H × List MemPlace} (h : DataW.trod enc Tryz.prog w 0 (fun _ => true) held n 36 cs = some x) :
    ∃ (m : StepM) (kv : Value), cs = (m.cells kv).toList ∧ IntsRd (fun b => w.heap.size ≤ b) w kv m.keep ∧ ((∀ k ∈ x.1.weights Tryz.prog 36, k ≤ 140737488351232) → m.Fits) := by
  obtain ⟨xs, n1, rfl, rfl, hl, hxl, hf⟩ := DataW.trod_struct Tryz.underlying36 h
  have hcM : Tryz.prog.cellsOf 36 = 6 := by kernel_rfl
  have hcS : Tryz.prog.cellsOf 9 = 1 := by kernel_rfl
  have hcI : Tryz.prog.cellsOf 3 = 1 := by kernel_rfl
  have hcF : Tryz.prog.cellsOf 26 = 1 := by kernel_rfl
  rw [hcM] at hl
  obtain ⟨a0, a1, a2, a3, a4, a5, rfl⟩ := ln6 hl
  obtain ⟨y0, y1, y2, y3, y4, y5, rfl⟩ := ln6 hxl
  have h0 := hf 0 _ rfl
  have h1 := hf 1 _ rfl
  have h2 := hf 2 _ rfl
  have h3 := hf 3 _ rfl
  have h4 := hf 4 _ rfl
  have h5 := hf 5 _ rfl
  simp only [List.getElem_toArray, List.getElem_cons_zero, List.getElem_cons_succ, hcS, hcI, hcF, List.drop_zero, List.drop_succ_cons, List.take_succ_cons, List.take_zero, List.getElem?_cons_zero, List.getElem?_cons_succ] at h0 h1 h2 h3 h4 h5
  obtain ⟨s0, rfl, e0, b0⟩ := reads_int h0
  obtain ⟨s1, rfl, e1, b1⟩ := reads_int h1
  obtain ⟨s2, rfl, e2⟩ := reads_str h2
  obtain ⟨s3, rfl, e3⟩ := reads_str h3
  obtain ⟨s4, rfl, e4, b4⟩ := reads_int h4
  obtain ⟨kv, ks, e5, k1, k2⟩ := open_fate h5
  obtain rfl : a5 = kv := (List.cons.inj e5).1
  refine ⟨⟨s0, s1, s2, s3, s4, ks⟩, a5, rfl, k1, fun hB => ?_⟩
  have hB' : ∀ k ∈ (DataW.agg [y0.1, y1.1, y2.1, y3.1, y4.1, y5.1]).weights Tryz.prog 36, k ≤ 140737488351232 := hB
  rw [e0, e1, e2, e3, e4] at hB'
  simp only [strL, DataW.weights, DataW.weightsEach, Tryz.underlying36, List.map_cons, List.map_nil, List.append_nil, List.nil_append, List.cons_append, List.mem_cons, forall_eq_or_imp] at hB'
  obtain ⟨g1, g2, g3⟩ := hB'
  exact ⟨b0, b1, b4, g1, g2, k2 _ g3⟩
instance : Inhabited StepM := ⟨⟨0, 0, ⟨#[]⟩, ⟨#[]⟩, 0, []⟩⟩
theorem getMap {α : Type} {F : Nat → α} {len i : Nat} {m : α} (h : ((List.range len).map F)[i]? = some m) : i < len ∧ F i = m := by
  rw [List.getElem?_map] at h
  by_cases hi : i < len
  · rw [List.getElem?_range hi] at h
    exact ⟨hi, by simpa using h⟩
  · rw [List.getElem?_eq_none (by simpa using hi)] at h
    cases h
theorem open_steps {n : Nat} {v : Value} {x : DataW H × List MemPlace} (h : DataW.trod enc Tryz.prog w 0 (fun _ => true) held n 22 [v] = some x) :
    ∃ l : List StepM, StepsAt w v l ∧ ((∀ k ∈ x.1.weights Tryz.prog 22, k ≤ 140737488351232) → l.length ≤ 1760000000000 ∧ ∀ m ∈ l, m.Fits) := by
  obtain ⟨len, cap, p, D, Pl, n', rfl, hl, hm, hi, hw⟩ := open_row 6 80 Tryz.underlying22 (by kernel_rfl) (by kernel_rfl) (by decide) h
  obtain ⟨F, hF⟩ := choose_lt (α := StepM) (n := len) (p := fun i m => (∃ b off kv, p = some ⟨b, off, none⟩ ∧ b < w.heap.size ∧ (∀ j, j < 6 → w.cell? ⟨b, off + (i * 6 + j), none⟩ = (m.cells kv)[j]?) ∧ IntsRd (fun b => w.heap.size ≤ b) w kv m.keep) ∧ ((∀ k ∈ (D i).weights Tryz.prog 36, k ≤ 140737488351232) → m.Fits)) (fun i hil => by
    obtain ⟨b, off, e, hb, cs, hcl, hc, ht⟩ := hi i hil
    obtain ⟨m, kv, rfl, hk, hs⟩ := open_step ht
    exact ⟨m, ⟨b, off, kv, e, hb, fun j hj => by rw [hc j hj, Array.getElem?_toList], hk⟩, hs⟩)
  refine ⟨(List.range len).map F, ⟨p, cap, by rw [List.length_map, List.length_range], fun i m him => ?_⟩, fun hB => ⟨?_, fun m hm => ?_⟩⟩
  · obtain ⟨hil, rfl⟩ := getMap him
    exact (hF i hil).1
  · have := (hw _ hB).1
    rw [List.length_map, List.length_range]
    omega
  · obtain ⟨i, hir, rfl⟩ := List.mem_map.1 hm
    have hil := List.mem_range.1 hir
    exact (hF i hil).2 ((hw _ hB).2 i hil)
theorem open_fates {n : Nat} {v : Value} {x : DataW H × List MemPlace} (h : DataW.trod enc Tryz.prog w 0 (fun _ => true) held n 23 [v] = some x) :
    ∃ l : List (List Int), FatesAt w v l ∧ ((∀ k ∈ x.1.weights Tryz.prog 23, k ≤ 140737488351232) → l.length ≤ 8000000000000 ∧ ∀ ks ∈ l, ks.length * 8 ≤ 140737488351232) := by
  obtain ⟨len, cap, p, D, Pl, n', rfl, hl, hm, hi, hw⟩ := open_row 1 24 Tryz.underlying23 (by kernel_rfl) (by kernel_rfl) (by decide) h
  obtain ⟨F, hF⟩ := choose_lt (α := List Int) (n := len) (p := fun i ks => (∃ b off kv, p = some ⟨b, off, none⟩ ∧ b < w.heap.size ∧ w.cell? ⟨b, off + i, none⟩ = some kv ∧ IntsRd (fun b => w.heap.size ≤ b) w kv ks) ∧ ((∀ k ∈ (D i).weights Tryz.prog 26, k ≤ 140737488351232) → ks.length * 8 ≤ 140737488351232)) (fun i hil => by
    obtain ⟨b, off, e, hb, cs, hcl, hc, ht⟩ := hi i hil
    obtain ⟨kv, ks, rfl, hk, hs⟩ := open_fate ht
    exact ⟨ks, ⟨b, off, kv, e, hb, by have := hc 0 (by decide); rwa [Nat.mul_one, Nat.add_zero] at this, hk⟩, hs _⟩)
  refine ⟨(List.range len).map F, ⟨p, cap, by rw [List.length_map, List.length_range], fun i m him => ?_⟩, fun hB => ⟨?_, fun m hm => ?_⟩⟩
  · obtain ⟨hil, rfl⟩ := getMap him
    exact (hF i hil).1
  · have := (hw _ hB).1
    rw [List.length_map, List.length_range]
    omega
  · obtain ⟨i, hir, rfl⟩ := List.mem_map.1 hm
    have hil := List.mem_range.1 hir
    exact (hF i hil).2 ((hw _ hB).2 i hil)
end
end Go.Proofs.YtlcompihcmhbiaaGreatDoor
/- A disk of the call's own, beside blocks that it leaves alone. -/
namespace Go.Proofs.YtlcompihcmhbiaaGreatDoor
open Go Go.RowKit Go.Maps Go.Shelf
/-- Block a is a disk that is m; what it has lies above all that was there when the call began, and none of it is in P. -/
def Held (w w' : World) (P : Nat → Prop) (a n : Nat) (m : DM) : Prop := ∃ S : Nat → Prop, DiskAt w' a n m S ∧ (∀ b, S b → w.heap.size ≤ b ∧ ¬ P b) ∧ Below w.heap.size w w' ∧ (∀ b, P b → b < w'.heap.size)
/-- P's blocks are as they were. -/
def Same (P : Nat → Prop) (w w' : World) : Prop := ∀ b, P b → w'.heap[b]? = w.heap[b]?
/-- Texts that lie in P. -/
def TextsIn (P : Nat → Prop) (w : World) (v : Value) (l : List ByteArray) : Prop :=
  ∃ p cap, v = .slice p l.length cap ∧ ∀ (i : Nat) (s : ByteArray), l[i]? = some s → ∃ b off, p = some ⟨b, off, none⟩ ∧ P b ∧ w.cell? ⟨b, off + i, none⟩ = some (.string s)
theorem TextsIn.keep {P : Nat → Prop} {w w' : World} {v : Value} {l : List ByteArray} (h : TextsIn P w v l) (hs : Same P w w') : TextsIn P w' v l := by
  obtain ⟨p, cap, rfl, h1⟩ := h
  refine ⟨p, cap, rfl, fun i s hi => ?_⟩
  obtain ⟨b, off, e, hb, hc⟩ := h1 i s hi
  exact ⟨b, off, e, hb, (cell_of_heap (hs b hb)).trans hc⟩
theorem TextsIn.mono {P Q : Nat → Prop} {w : World} {v : Value} {l : List ByteArray} (h : TextsIn P w v l) (hs : ∀ b, P b → Q b) : TextsIn Q w v l := by
  obtain ⟨p, cap, rfl, h1⟩ := h
  refine ⟨p, cap, rfl, fun i s hi => ?_⟩
  obtain ⟨b, off, e, hb, hc⟩ := h1 i s hi
  exact ⟨b, off, e, hs b hb, hc⟩
theorem TextsIn.rd {P : Nat → Prop} {w : World} {v : Value} {l : List ByteArray} (h : TextsIn P w v l) : TextsRd w v l := by
  obtain ⟨p, cap, rfl, h1⟩ := h
  refine ⟨p, cap, rfl, fun i s hi => ?_⟩
  obtain ⟨b, off, e, hb, hc⟩ := h1 i s hi
  refine ⟨b, off, e, ?_, hc⟩
  unfold World.cell? at hc
  split at hc
  · rename_i hh
    exact blk_lt hh
  · cases hc
theorem TextsIn.at {P : Nat → Prop} {w : World} {p : Option Addr} {K c : Nat} {l : List ByteArray} (h : TextsIn P w (.slice p K c) l) {i : Nat} {s : ByteArray} (hi : l[i]? = some s) : ∃ b off, p = some ⟨b, off, none⟩ ∧ P b ∧ w.cell? ⟨b, off + i, none⟩ = some (.string s) := by
  obtain ⟨p', c', e, h1⟩ := h
  cases e
  exact h1 i s hi
theorem OwnTexts.within {B : Nat} {w : World} {v : Value} {l : List ByteArray} (h : OwnTexts B w v l) : TextsIn (fun b => B ≤ b ∧ b < w.heap.size) w v l := by
  have h2 := h.blk
  obtain ⟨p, cap, rfl, h1⟩ := row_at h
  refine ⟨p, cap, rfl, fun i s hs => ?_⟩
  obtain ⟨g, cs, e, hg, hc⟩ := h1 i (strV s) (by rw [List.getElem?_map, hs]; rfl)
  subst e
  exact ⟨g, 0, rfl, ⟨(h2 g rfl).1, (h2 g rfl).2.1⟩, by rw [Nat.zero_add, cell_of_heapN hg]; exact hc⟩
section
variable {w w1 w' : World} {P : Nat → Prop} {a n n' : Nat} {m m' : DM}
theorem Mine.held (h : Mine w w1 a n m) : Held w w1 (fun _ => False) a n m := ⟨_, h.1, fun _ hb => ⟨hb.1, fun hf => hf⟩, h.2, fun _ hb => hb.elim⟩
theorem Held.ok (h : Held w w1 P a n m) : m.Ok n := by obtain ⟨S, h1, -⟩ := h; exact h1.ok
theorem Held.bel (h : Held w w1 P a n m) : Below w.heap.size w w1 := by obtain ⟨S, h1, h2, h3, -⟩ := h; exact h3
theorem Held.lt (h : Held w w1 P a n m) : ∀ b, P b → b < w1.heap.size := by obtain ⟨S, h1, h2, h3, h4⟩ := h; exact h4
theorem Held.more (h : Held w w1 P a n m) (hn : n ≤ n') : Held w w1 P a n' m := by
  obtain ⟨S, h1, h2⟩ := h
  exact ⟨S, h1.more hn, h2⟩
theorem Held.fit (h : Held w w1 P a n m) (k : Nat) (h1 : m.now.length ≤ k) (h2 : m.safe.length + m.pend.length ≤ k) : Held w w1 P a k m := by
  obtain ⟨S, ⟨bn, bs, pv, fv, loc, hd⟩, hr⟩ := h
  exact ⟨S, ⟨bn, bs, pv, fv, loc, { hd with ok := { hd.ok with nowN := h1, safeN := h2 } }⟩, hr⟩
theorem Held.post {S : Nat → Prop} (h1 : ∀ b, S b → w.heap.size ≤ b ∧ ¬ P b) (h2 : Below w.heap.size w w1) (h3 : ∀ b, P b → b < w1.heap.size) (hp : DiskPost a n m S w1 w') : Held w w' P a n m ∧ Same P w1 w' := by
  have hz := h2.size
  have hz2 := hp.2.size
  refine ⟨⟨_, hp.1, ?_, h2.trans (hp.2.toBelow (fun b hb => (h1 b hb).1) hz), fun b hb => Nat.lt_of_lt_of_le (h3 b hb) hz2⟩, fun b hb => hp.2.block b (h3 b hb) (fun hS => (h1 b hS).2 hb)⟩
  rintro b (hb | ⟨hb, hb2⟩)
  · exact h1 b hb
  · exact ⟨by omega, fun hPb => absurd (h3 b hPb) (by omega)⟩
theorem Held.call {S : Nat → Prop} {c : DCall} {e : Ending} (h1 : ∀ b, S b → w.heap.size ≤ b ∧ ¬ P b) (h2 : Below w.heap.size w w1) (h3 : ∀ b, P b → b < w1.heap.size) (hp : OpPost a n m c S w1 w' e) : e = .returned (errE (m.op c).2) ∧ Held w w' P a (n + 1) (m.op c).1 ∧ Same P w1 w' := ⟨hp.1, Held.post h1 h2 h3 hp.2⟩
/-- Behind something that makes new blocks only: these may be left alone from now on. -/
theorem Held.below (h : Held w w1 P a n m) (hb : Below w1.heap.size w1 w') : Held w w' P a n m := by
  obtain ⟨S, h1, h2, h3, h4⟩ := h
  exact ⟨S, h1.below hb, h2, h3.trans (hb.mono h3.size), fun b hP => Nat.lt_of_lt_of_le (h4 b hP) hb.size⟩
theorem Held.same (h : Held w w1 P a n m) (hb : Below w1.heap.size w1 w') : Same P w1 w' := fun b hP => hb.block b (h.lt b hP)
theorem Held.keeps (h : Held w w1 P a n m) (hb : Below w1.heap.size w1 w') : Held w w' (fun b => P b ∨ (w1.heap.size ≤ b ∧ b < w'.heap.size)) a n m := by
  obtain ⟨S, h1, h2, h3, h4⟩ := h
  refine ⟨S, h1.below hb, fun b hS => ⟨(h2 b hS).1, ?_⟩, h3.trans (hb.mono h3.size), ?_⟩
  · rintro (hP | ⟨hP, -⟩)
    · exact (h2 b hS).2 hP
    · exact absurd (h1.lt b hS) (by omega)
  · rintro b (hP | ⟨-, hP⟩)
    · exact Nat.lt_of_lt_of_le (h4 b hP) hb.size
    · exact hP
/-- A cell of a block in P is set. -/
theorem Held.setP (h : Held w w1 P a n m) {p : Addr} (hp : P p.block) (hw : w.heap.size ≤ p.block) (v : Value) : Held w (w1.setCell p v) P a n m := by
  obtain ⟨S, h1, h2, h3, h4⟩ := h
  refine ⟨S, h1.frame (fun b hS => Below.heap_setCell _ _ _ _ (fun e => (h2 b hS).2 (e ▸ hp))) (by rw [World.size_setCell]; exact Nat.le_refl _), h2, h3.setCell hw v, fun b hP => by rw [World.size_setCell]; exact h4 b hP⟩
theorem Held.drews {q : Nat} (h : Held w w1 P a n m) : Held w (w1.drewN q) P a n m := by
  obtain ⟨S, h1, h2, h3, h4⟩ := h
  exact ⟨S, h1.frame (fun _ _ => rfl) (Nat.le_refl _), h2, ⟨h3.os, h3.tape, h3.output, h3.size, h3.block⟩, h4⟩
theorem Held.sub (h : Held w w1 P a n m) {Q : Nat → Prop} (hs : ∀ b, Q b → P b) : Held w w1 Q a n m := by
  obtain ⟨S, h1, h2, h3, h4⟩ := h
  exact ⟨S, h1, fun b hS => ⟨(h2 b hS).1, fun hQ => (h2 b hS).2 (hs b hQ)⟩, h3, fun b hQ => h4 b (hs b hQ)⟩
theorem Held.name_le (h : Held w w1 P a n m) {s : ByteArray} (hs : s ∈ m.namesOf) : s.size ≤ maxLen := by
  obtain ⟨S, ⟨bn, bs, pv, fv, loc, hd⟩, -⟩ := h
  obtain ⟨q, hq, rfl⟩ := List.mem_map.1 hs
  have h2 := strKeys_le hd.now Tryz.underlying9 q.1 (by
    rw [strKeys_tab]
    exact List.mem_map.2 ⟨(q.1, loc q.2), List.mem_map.2 ⟨_, hq, rfl⟩, rfl⟩)
  show q.1.toArray.size ≤ _
  rw [List.size_toArray]
  exact h2
theorem held_new (hb : Below w.heap.size w w1) (hP : ∀ b, P b → b < w1.heap.size) (r : Int) (h1 : -9223372036854775808 ≤ r) (h2 : r ≤ 9223372036854775807) :
    Calls Tryz.prog 8 #[.int .i64 r] w1 fun e w' => ∃ a, e = .returned (.pointer (some ⟨a, 0, none⟩)) ∧ Held w w' P a 0 (DM.new r) ∧ Same P w1 w' := by
  refine (new_any w1 r h1 h2).mono ?_
  rintro e w' ⟨a, rfl, hd, hb2⟩
  have hz := hb.size
  exact ⟨a, rfl, ⟨_, hd, fun b hS => ⟨by omega, fun hPb => absurd (hP b hPb) (by omega)⟩, hb.trans (hb2.mono hz), fun b hPb => Nat.lt_of_lt_of_le (hP b hPb) hb2.size⟩, fun b hPb => hb2.block b (hP b hPb)⟩
theorem held_change (h : Held w w1 P a n m) (s : StepM) (kv : Value) (hs : s.Fits) (hn : n + 1 ≤ 8000000000000) (hnr : n * m.room ≤ 4611686018427387904) :
    Calls Tryz.prog 10 #[.pointer (some ⟨a, 0, none⟩), .agg (s.cells kv)] w1 fun e w' => e = .returned (errE (m.op s.call).2) ∧ Held w w' P a (n + 1) (m.op s.call).1 ∧ Same P w1 w' := by
  obtain ⟨S, h1, h2, h3, h4⟩ := h
  exact (change_any h1 s kv (Nat.le_trans hs.2.2.2.1 (by omega)) (Nat.le_trans hs.2.2.2.2.1 (by omega)) hn hnr).mono fun e w' hp => Held.call h2 h3 h4 hp
theorem held_sync (h : Held w w1 P a n m) (s : ByteArray) (hs : s.size ≤ maxLen) (hn : n + 1 ≤ 8000000000000) :
    Calls Tryz.prog 12 #[.pointer (some ⟨a, 0, none⟩), .string s] w1 fun e w' => e = .returned (errE (m.op (.sync s)).2) ∧ Held w w' P a (n + 1) (m.op (.sync s)).1 ∧ Same P w1 w' := by
  obtain ⟨S, h1, h2, h3, h4⟩ := h
  exact (sync_any h1 s hs hn).mono fun e w' hp => Held.call h2 h3 h4 hp
theorem held_flush (h : Held w w1 P a n m) (hn : n + 1 ≤ 8000000000000) :
    Calls Tryz.prog 13 #[.pointer (some ⟨a, 0, none⟩)] w1 fun e w' => e = .returned (errE (m.op .flush).2) ∧ Held w w' P a (n + 1) (m.op .flush).1 ∧ Same P w1 w' := by
  obtain ⟨S, h1, h2, h3, h4⟩ := h
  exact (flush_any h1 hn).mono fun e w' hp => Held.call h2 h3 h4 hp
theorem held_crash (h : Held w w1 P a n m) (kv : Value) (ks : List Int) (hk : IntsRd (fun b => w.heap.size ≤ b) w kv ks) (hn : n ≤ 8000000000000) :
    Calls Tryz.prog 15 #[.pointer (some ⟨a, 0, none⟩), .agg #[kv]] w1 fun e w' => e = .returned (.tuple #[]) ∧ Held w w' P a n (m.crash ks) ∧ Same P w1 w' := by
  obtain ⟨S, h1, h2, h3, h4⟩ := h
  have hk1 : IntsRd S w1 kv ks := hk.keep h3.size (fun b hS _ => (h2 b hS).1) (fun b hb _ => h3.block b hb)
  exact (crash_any h1 kv ks hk1 hn).mono fun e w' hp => ⟨hp.1, Held.post h2 h3 h4 hp.2⟩
theorem held_revive (h : Held w w1 P a n m) :
    Calls Tryz.prog 16 #[.pointer (some ⟨a, 0, none⟩)] w1 fun e w' => e = .returned (.tuple #[]) ∧ Held w w' P a n m.revive ∧ Same P w1 w' := by
  obtain ⟨S, h1, h2, h3, h4⟩ := h
  exact (revive_any h1).mono fun e w' hp => ⟨hp.1, Held.post h2 h3 h4 hp.2⟩
theorem held_read (h : Held w w1 P a n m) (s : ByteArray) (hs : s.size ≤ maxLen) :
    Calls Tryz.prog 18 #[.pointer (some ⟨a, 0, none⟩), .string s] w1 fun e w' => e = .returned (.tuple #[.string (m.reads s).1, errE (m.reads s).2]) ∧ w1 = w' := by
  obtain ⟨S, h1, -⟩ := h
  exact read_any h1 s hs
theorem held_list (h : Held w w1 P a n m) (hn : n ≤ 8000000000000) (ho : m.off = false) :
    Calls Tryz.prog 11 #[.pointer (some ⟨a, 0, none⟩), .string ⟨#[]⟩] w1 fun e w' => ∃ u, e = .returned (.tuple #[u, .nilIface]) ∧ TextsIn (fun b => w1.heap.size ≤ b ∧ b < w'.heap.size) w' u m.namesOf ∧ Below w1.heap.size w1 w' := by
  obtain ⟨S, h1, -⟩ := h
  refine (list_any h1 ⟨#[]⟩ hn).mono fun e w' hp => ?_
  obtain ⟨u, rfl, hu, hb⟩ := hp
  rw [lists_all ho] at hu
  exact ⟨u, by rw [ho]; rfl, hu.within, hb⟩
theorem held_shown (h : Held w w1 P a n m) (hn : n ≤ 8000000000000) (ho : m.off = false) :
    Calls Tryz.prog 14 #[.pointer (some ⟨a, 0, none⟩)] w1 fun e w' => ∃ v u, e = .returned (.tuple #[.agg #[v, u], .bool true]) ∧ TextsIn (fun b => w1.heap.size ≤ b ∧ b < w'.heap.size) w' v m.namesOf ∧ TextsIn (fun b => w1.heap.size ≤ b ∧ b < w'.heap.size) w' u m.datas ∧ Below w1.heap.size w1 w' := by
  obtain ⟨S, h1, -⟩ := h
  refine (shown_any h1 hn ho).mono fun e w' hp => ?_
  obtain ⟨v, u, rfl, hv, hu, hb⟩ := hp
  exact ⟨v, u, rfl, hv.within, hu.within, hb⟩
theorem held_shownK (h : Held w w1 P a n m) (hn : n ≤ 8000000000000) (ho : m.off = false) {K : Nat} (hK : m.now.length = K) :
    Calls Tryz.prog 14 #[.pointer (some ⟨a, 0, none⟩)] w1 fun e w' => ∃ vp vc up uc, e = .returned (.tuple #[.agg #[.slice vp K vc, .slice up K uc], .bool true]) ∧ TextsIn (fun b => w1.heap.size ≤ b ∧ b < w'.heap.size) w' (.slice vp K vc) m.namesOf ∧ TextsIn (fun b => w1.heap.size ≤ b ∧ b < w'.heap.size) w' (.slice up K uc) m.datas ∧ Below w1.heap.size w1 w' := by
  have e1 : m.namesOf.length = K := by unfold DM.namesOf; rw [List.length_map]; exact hK
  have e2 : m.datas.length = K := by unfold DM.datas; rw [List.length_map]; exact hK
  refine (held_shown h hn ho).mono fun e w' hp => ?_
  obtain ⟨v, u, rfl, hv, hu, hb⟩ := hp
  obtain ⟨vp, vc, rfl, hv1⟩ := hv
  obtain ⟨up, uc, rfl, hu1⟩ := hu
  rw [e1, e2]
  exact ⟨vp, vc, up, uc, rfl, ⟨vp, vc, by rw [e1], hv1⟩, ⟨up, uc, by rw [e2], hu1⟩, hb⟩
/-- What was shown is laid into a box; the texts and the box are left alone from now on. -/
theorem held_was (h : Held w w1 P a n m) (hb : Below w1.heap.size w1 w') {v u : Value} {l r : List ByteArray} (hv : TextsIn (fun b => w1.heap.size ≤ b ∧ b < w'.heap.size) w' v l) (hu : TextsIn (fun b => w1.heap.size ≤ b ∧ b < w'.heap.size) w' u r) (o : Obj) :
    ∃ PT : Nat → Prop, Held w (w'.alloc o) PT a n m ∧ TextsIn PT (w'.alloc o) v l ∧ TextsIn PT (w'.alloc o) u r ∧ PT w'.heap.size ∧ (w'.alloc o).heap[w'.heap.size]? = some o ∧ Same P w1 (w'.alloc o) ∧ (∀ b, P b → PT b) ∧ w.heap.size ≤ w'.heap.size := by
  have hb7 : Below w1.heap.size w1 (w'.alloc o) := hb.alloc hb.size _
  have hz : (w'.alloc o).heap.size = w'.heap.size + 1 := World.size_alloc _ _
  have hsub : ∀ b, (w1.heap.size ≤ b ∧ b < w'.heap.size) → P b ∨ (w1.heap.size ≤ b ∧ b < (w'.alloc o).heap.size) := fun b hb => .inr ⟨hb.1, by omega⟩
  have hsm : Same (fun b => w1.heap.size ≤ b ∧ b < w'.heap.size) w' (w'.alloc o) := fun b hb => Below.heap_alloc w' _ b hb.2
  have := h.bel.size
  have := hb.size
  exact ⟨_, h.keeps hb7, (hv.keep hsm).mono hsub, (hu.keep hsm).mono hsub, .inr ⟨hb.size, by omega⟩, heap_new _ _, h.same hb7, fun b => .inl, by omega⟩
end
end Go.Proofs.YtlcompihcmhbiaaGreatDoor
/- Two disks of the call's own, beside blocks that they leave alone. -/
namespace Go.Proofs.YtlcompihcmhbiaaGreatDoor
open Go Go.RowKit Go.Maps Go.Shelf
theorem DiskAt.frameS {w w' : World} {a n : Nat} {m : DM} {S : Nat → Prop} (h : DiskAt w a n m S) (hb : ∀ b, S b → w'.heap[b]? = w.heap[b]?) : DiskAt w' a n m S := by
  obtain ⟨bn, bs, pv, fv, loc, h⟩ := h
  exact ⟨bn, bs, pv, fv, loc, { h with
    head := (hb _ h.sa).trans h.head
    now := h.now.keep (hb _ h.sn)
    safe := h.safe.keep (hb _ h.ss)
    file := fun i f hf => ⟨(h.file i f hf).1, (hb _ (h.file i f hf).1).trans (h.file i f hf).2⟩
    pend := by
      obtain ⟨vs, h1, h2, h3⟩ := h.pend
      exact ⟨vs, row_keep h1 h3 (fun b _ hS _ => hb b hS), h2.keep (fun b _ _ hS _ _ => hb b hS) (fun _ x => x) (fun _ _ _ => rfl), h3⟩
    fate := ⟨row_keep h.fate.1 h.fate.2 (fun b _ hS _ => hb b hS), h.fate.2⟩
    lt := fun b hS => by
      have h1 := hb b hS
      rw [Array.getElem?_eq_getElem (h.lt b hS)] at h1
      exact blk_lt h1 }⟩
/-- Blocks a and b are disks that have nothing in common. -/
def Two (w w' : World) (P : Nat → Prop) (a na : Nat) (ma : DM) (b nb : Nat) (mb : DM) : Prop :=
  ∃ S : Nat → Prop, Held w w' (fun x => P x ∨ S x) a na ma ∧ DiskAt w' b nb mb S ∧ ∀ x, S x → w.heap.size ≤ x ∧ ¬ P x
section
variable {w w1 w' : World} {P : Nat → Prop} {a b na nb : Nat} {ma mb : DM}
theorem Two.swap (h : Two w w1 P a na ma b nb mb) : Two w w1 P b nb mb a na ma := by
  obtain ⟨S, ⟨T, h1, h2, h3, h4⟩, h5, h6⟩ := h
  refine ⟨T, ⟨S, h5, fun x hx => ⟨(h6 x hx).1, ?_⟩, h3, ?_⟩, h1, fun x hx => ⟨(h2 x hx).1, fun hP => (h2 x hx).2 (.inl hP)⟩⟩
  · rintro (hP | hT)
    · exact (h6 x hx).2 hP
    · exact (h2 x hT).2 (.inr hx)
  · rintro x (hP | hT)
    · exact h4 x (.inl hP)
    · exact h1.lt x hT
theorem Two.fst (h : Two w w1 P a na ma b nb mb) : Held w w1 P a na ma := by
  obtain ⟨S, h1, -⟩ := h
  exact h1.sub (fun _ => .inl)
theorem Two.snd (h : Two w w1 P a na ma b nb mb) : Held w w1 P b nb mb := h.swap.fst
theorem Two.below (h : Two w w1 P a na ma b nb mb) (hb : Below w1.heap.size w1 w') : Two w w' P a na ma b nb mb := by
  obtain ⟨S, h1, h2, h3⟩ := h
  exact ⟨S, h1.below hb, h2.below hb, h3⟩
theorem Two.drews {q : Nat} (h : Two w w1 P a na ma b nb mb) : Two w (w1.drewN q) P a na ma b nb mb := by
  obtain ⟨S, h1, h2, h3⟩ := h
  exact ⟨S, h1.drews, h2.frame (fun _ _ => rfl) (Nat.le_refl _), h3⟩
theorem Two.sub (h : Two w w1 P a na ma b nb mb) {Q : Nat → Prop} (hs : ∀ b, Q b → P b) : Two w w1 Q a na ma b nb mb := by
  obtain ⟨S, h1, h2, h3⟩ := h
  exact ⟨S, h1.sub (fun b hb => hb.imp (hs b) id), h2, fun x hx => ⟨(h3 x hx).1, fun hQ => (h3 x hx).2 (hs x hQ)⟩⟩
/-- These new blocks may be left alone from now on. -/
theorem Two.keeps (h : Two w w1 P a na ma b nb mb) (hb : Below w1.heap.size w1 w') : Two w w' (fun b => P b ∨ (w1.heap.size ≤ b ∧ b < w'.heap.size)) a na ma b nb mb := by
  obtain ⟨S, h1, h2, h3⟩ := h
  refine ⟨S, (h1.keeps hb).sub ?_, h2.below hb, fun x hx => ⟨(h3 x hx).1, ?_⟩⟩
  · rintro x ((hP | hP) | hS)
    · exact .inl (.inl hP)
    · exact .inr hP
    · exact .inl (.inr hS)
  · rintro (hP | ⟨hP, -⟩)
    · exact (h3 x hx).2 hP
    · exact absurd (h2.lt x hx) (by omega)
theorem Two.more (h : Two w w1 P a na ma b nb mb) {na' nb' : Nat} (h1 : na ≤ na') (h2 : nb ≤ nb') : Two w w1 P a na' ma b nb' mb := by
  obtain ⟨S, h3, h4, h5⟩ := h
  exact ⟨S, h3.more h1, h4.more h2, h5⟩
/-- An operation of the first. -/
theorem Two.lift {f : FuncId} {args : Array Value} (R : Ending → Prop) {na' : Nat} {ma' : DM} (h : Two w w1 P a na ma b nb mb)
    (hc : ∀ P', Held w w1 P' a na ma → Calls Tryz.prog f args w1 fun e w' => R e ∧ Held w w' P' a na' ma' ∧ Same P' w1 w') : Calls Tryz.prog f args w1 fun e w' => R e ∧ Two w w' P a na' ma' b nb mb ∧ Same P w1 w' := by
  obtain ⟨S, h1, h2, h3⟩ := h
  refine (hc _ h1).mono fun e w' hp => ?_
  obtain ⟨hR, hd, hs⟩ := hp
  exact ⟨hR, ⟨S, hd, h2.frameS (fun x hx => hs x (.inr hx)), h3⟩, fun x hx => hs x (.inl hx)⟩
/-- An operation of the second. -/
theorem Two.lift2 {f : FuncId} {args : Array Value} (R : Ending → Prop) {nb' : Nat} {mb' : DM} (h : Two w w1 P a na ma b nb mb)
    (hc : ∀ P', Held w w1 P' b nb mb → Calls Tryz.prog f args w1 fun e w' => R e ∧ Held w w' P' b nb' mb' ∧ Same P' w1 w') : Calls Tryz.prog f args w1 fun e w' => R e ∧ Two w w' P a na ma b nb' mb' ∧ Same P w1 w' :=
  (h.swap.lift R hc).mono fun _ _ ⟨h1, h2, h3⟩ => ⟨h1, h2.swap, h3⟩
theorem two_new (h : Held w w1 P a na ma) (r : Int) (h1 : -9223372036854775808 ≤ r) (h2 : r ≤ 9223372036854775807) :
    Calls Tryz.prog 8 #[.int .i64 r] w1 fun e w' => ∃ b, e = .returned (.pointer (some ⟨b, 0, none⟩)) ∧ Two w w' P a na ma b 0 (DM.new r) ∧ Same P w1 w' := by
  obtain ⟨S, h3, h4, h5, h6⟩ := h
  refine (held_new (P := fun x => P x ∨ S x) h5 (fun x hx => hx.elim (h6 x) (h3.lt x)) r h1 h2).mono fun e w' hp => ?_
  obtain ⟨b, rfl, hd, hs⟩ := hp
  have hT : Two w w' P b 0 (DM.new r) a na ma := ⟨S, hd, h3.frameS (fun x hx => hs x (.inr hx)), h4⟩
  exact ⟨b, rfl, hT.swap, fun x hx => hs x (.inl hx)⟩
theorem held_arm (h : Held w w1 P a na ma) (x : Int) (kv : Value) (ks : List Int) (hk : IntsRd (fun b => w.heap.size ≤ b) w kv ks) (hl : ks.length * 8 ≤ 140737488355328) (hx : x ≤ 9223372036854775807) :
    Calls Tryz.prog 23 #[.pointer (some ⟨a, 0, none⟩), .int .i64 x, .agg #[kv]] w1 fun e w' => e = .returned (.tuple #[]) ∧ Held w w' P a na (ma.arm x ks) ∧ Same P w1 w' := by
  obtain ⟨S, h1, h2, h3, h4⟩ := h
  have hk1 : IntsRd S w1 kv ks := hk.keep h3.size (fun b hS _ => (h2 b hS).1) (fun b hb _ => h3.block b hb)
  exact (arm_any h1 x kv ks hk1 hl hx).mono fun e w' hp => ⟨hp.1, Held.post h2 h3 h4 hp.2⟩
theorem held_used (h : Held w w1 P a na ma) (hn : na * ma.room ≤ 4611686018427387904) :
    Calls Tryz.prog 26 #[.pointer (some ⟨a, 0, none⟩)] w1 fun e w' => e = .returned (.int .i64 ma.used) ∧ Below w1.heap.size w1 w' := by
  obtain ⟨S, h1, -⟩ := h
  exact (used_any h1 hn).mono fun e w' hp => hp
theorem held_dead (h : Held w w1 P a na ma) (hn : na ≤ 8000000000000) (ho : ma.off = true) :
    Calls Tryz.prog 11 #[.pointer (some ⟨a, 0, none⟩), .string ⟨#[]⟩] w1 fun e w' => ∃ u, e = .returned (.tuple #[u, errE 27]) ∧ Below w1.heap.size w1 w' := by
  obtain ⟨S, h1, -⟩ := h
  refine (list_any h1 ⟨#[]⟩ hn).mono fun e w' hp => ?_
  obtain ⟨u, rfl, -, hb⟩ := hp
  exact ⟨u, by rw [ho]; rfl, hb⟩
end
end Go.Proofs.YtlcompihcmhbiaaGreatDoor
