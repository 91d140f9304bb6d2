/- Steps and fates among the arguments: read as data, and as they lie in memory. -/
import Derived.Test.YtlcompihcmhbiaaGreatDoorOpenRow
import Derived.Test.YtlcompihcmhbiaaGreatDoorShown
namespace Go.Proofs.YtlcompihcmhbiaaGreatDoor
open Go.ChangeShapes Go.WideShapes Go.RowKit Go.Deep
/-- Steps in memory, as a call has them from its caller. -/
def StepsAt (w : World) (v : Value) (l : List StepM) : Prop :=
  ∃ p cap, v = .slice p l.length cap ∧ ∀ i m, l[i]? = some m → ∃ b off kv, p = some ⟨b, off, none⟩ ∧ b < w.heap.size ∧ (∀ j, j < 6 → w.cell? ⟨b, off + (i * 6 + j), none⟩ = (m.cells kv)[j]?) ∧ IntsRd (fun b => w.heap.size ≤ b) w kv m.keep
/-- Fates in memory. -/
def FatesAt (w : World) (v : Value) (l : List (List Int)) : Prop :=
  ∃ p cap, v = .slice p l.length cap ∧ ∀ i ks, l[i]? = some ks → ∃ b off kv, p = some ⟨b, off, none⟩ ∧ b < w.heap.size ∧ w.cell? ⟨b, off + i, none⟩ = some kv ∧ IntsRd (fun b => w.heap.size ≤ b) w kv ks
def big (x : Int) : Prop := -9223372036854775808 ≤ x ∧ x ≤ 9223372036854775807
def StepM.Fits (m : StepM) : Prop := big m.act ∧ big m.who ∧ big m.num ∧ m.name.size ≤ 140737488351232 ∧ m.data.size ≤ 140737488351232 ∧ m.keep.length * 8 ≤ 140737488351232
section
variable {H : Type} {enc : TypeId × Value → H} {w : World} {held : Bool}
theorem ln1 {α : Type} {l : List α} (h : l.length = 1) : ∃ a0, l = [a0] := by
  match l, h with
  | [a0], _ => exact ⟨_, rfl⟩
theorem ln4 {α : Type} {l : List α} (h : l.length = 4) : ∃ a0 a1 a2 a3, l = [a0, a1, a2, a3] := by
  match l, h with
  | [a0, a1, a2, a3], _ => exact ⟨_, _, _, _, rfl⟩
theorem ln6 {α : Type} {l : List α} (h : l.length = 6) : ∃ a0 a1 a2 a3 a4 a5, l = [a0, a1, a2, a3, a4, a5] := by
  match l, h with
  | [a0, a1, a2, a3, a4, a5], _ => exact ⟨_, _, _, _, _, _, rfl⟩
def strL (s : ByteArray) : DataW H := .lit (.string s.data.toList)
theorem reads_str {n : Nat} {v : Value} {y : DataW H × List MemPlace} (h : DataW.trod enc Tryz.prog w 0 (fun _ => true) held n 9 [v] = some y) : ∃ s : ByteArray, v = .string s ∧ y.1 = strL s := by
  obtain ⟨s, h1, h2, _⟩ := DataW.trod_string Tryz.underlying9 h
  exact ⟨s, (List.cons.inj h1).1, by rw [h2]; rfl⟩
theorem reads_int {n : Nat} {v : Value} {y : DataW H × List MemPlace} (h : DataW.trod enc Tryz.prog w 0 (fun _ => true) held n 3 [v] = some y) : ∃ x : Int, v = .int .i64 x ∧ y.1 = .lit (.int .i64 x) ∧ big x := by
  obtain ⟨s, h1, h2, h3⟩ := DataW.trod_int Tryz.underlying3 h
  simp only [Lit.wf, Bool.and_eq_true, decide_eq_true_eq] at h3
  exact ⟨s, (List.cons.inj h1).1, by rw [h2], h3⟩
theorem open_ints {n : Nat} {v : Value} {x : DataW H × List MemPlace} (h : DataW.trod enc Tryz.prog w 0 (fun _ => true) held n 24 [v] = some x) :
    ∃ ks : List Int, IntsRd (fun b => w.heap.size ≤ b) w v ks ∧ ∀ B, (∀ k ∈ x.1.weights Tryz.prog 24, k ≤ B) → ks.length * 8 ≤ B := by
  obtain ⟨len, cap, p, D, Pl, n', rfl, hl, hm, hi, hw⟩ := open_row 1 8 Tryz.underlying24 (by kernel_rfl) (by kernel_rfl) (by decide) h
  obtain ⟨F, hF⟩ := choose_lt (α := Int) (n := len) (p := fun i k => big k ∧ ∃ b off, p = some ⟨b, off, none⟩ ∧ b < w.heap.size ∧ w.cell? ⟨b, off + i, none⟩ = some (.int .i64 k)) (fun i hil => by
    obtain ⟨b, off, e, hb, cs, hcl, hc, ht⟩ := hi i hil
    obtain ⟨a0, rfl⟩ := ln1 hcl
    obtain ⟨k, rfl, -, hk⟩ := reads_int ht
    refine ⟨k, hk, b, off, e, hb, ?_⟩
    have := hc 0 (by decide)
    rwa [Nat.mul_one, Nat.add_zero] at this)
  refine ⟨(List.range len).map F, ⟨p, cap, by rw [List.length_map, List.length_range], by rw [List.length_map, List.length_range]; exact ⟨hl, hm⟩, fun j k hj => ?_⟩, fun B hB => by rw [List.length_map, List.length_range]; exact (hw B hB).1⟩
  rw [List.getElem?_map] at hj
  by_cases hjl : j < len
  · rw [List.getElem?_range hjl] at hj
    obtain rfl : F j = k := by simpa using hj
    obtain ⟨h1, b, off, e, hb, hc⟩ := hF j hjl
    exact ⟨h1, b, off, e, hc, hb, .inl (by omega)⟩
  · rw [List.getElem?_eq_none (by simpa using hjl)] at hj
    cases hj
theorem open_fate {n : Nat} {cs : List Value} {x : DataW H × List MemPlace} (h : DataW.trod enc Tryz.prog w 0 (fun _ => true) held n 26 cs = some x) :
    ∃ (kv : Value) (ks : List Int), cs = [kv] ∧ IntsRd (fun b => w.heap.size ≤ b) w kv ks ∧ ∀ B, (∀ k ∈ x.1.weights Tryz.prog 26, k ≤ B) → ks.length * 8 ≤ B := by
  obtain ⟨xs, n1, rfl, rfl, hl, hxl, hf⟩ := DataW.trod_struct Tryz.underlying26 h
  have hcM : Tryz.prog.cellsOf 26 = 1 := by kernel_rfl
  have hcI : Tryz.prog.cellsOf 24 = 1 := by kernel_rfl
  rw [hcM] at hl
  obtain ⟨a0, rfl⟩ := ln1 hl
  obtain ⟨y0, rfl⟩ := ln1 hxl
  have h0 := hf 0 _ rfl
  simp only [List.getElem_toArray, List.getElem_cons_zero, List.getElem_cons_succ, hcI, List.drop_zero, List.drop_succ_cons, List.take_succ_cons, List.take_zero, List.getElem?_cons_zero, List.getElem?_cons_succ] at h0
  obtain ⟨ks, h1, h2⟩ := open_ints h0
  refine ⟨a0, ks, rfl, h1, fun B hB => h2 B fun k hk => hB k ?_⟩
  show k ∈ (DataW.agg [y0.1]).weights _ _
  simp only [DataW.weights, DataW.weightsEach, Tryz.underlying26, List.map_cons, List.map_nil, List.append_nil]
  exact hk
set_option maxHeartbeats 800000 in
theorem open_step {n : Nat} {cs : List Value} {x : DataW H × List MemPlace} (h : DataW.trod enc Tryz.prog w 0 (fun _ => true) held n 36 cs = some x) :
    ∃ (m : StepM) (kv : Value), cs = (m.cells kv).toList ∧ IntsRd (fun b => w.heap.size ≤ b) w kv m.keep ∧ ((∀ k ∈ x.1.weights Tryz.prog 36, k ≤ 140737488351232) → m.Fits) := by
  obtain ⟨xs, n1, rfl, rfl, hl, hxl, hf⟩ := DataW.trod_struct Tryz.underlying36 h
  have hcM : Tryz.prog.cellsOf 36 = 6 := by kernel_rfl
  have hcS : Tryz.prog.cellsOf 9 = 1 := by kernel_rfl
  have hcI : Tryz.prog.cellsOf 3 = 1 := by kernel_rfl
  have hcF : Tryz.prog.cellsOf 26 = 1 := by kernel_rfl
  rw [hcM] at hl
  obtain ⟨a0, a1, a2, a3, a4, a5, rfl⟩ := ln6 hl
  obtain ⟨y0, y1, y2, y3, y4, y5, rfl⟩ := ln6 hxl
  have h0 := hf 0 _ rfl
  have h1 := hf 1 _ rfl
  have h2 := hf 2 _ rfl
  have h3 := hf 3 _ rfl
  have h4 := hf 4 _ rfl
  have h5 := hf 5 _ rfl
  simp only [List.getElem_toArray, List.getElem_cons_zero, List.getElem_cons_succ, hcS, hcI, hcF, List.drop_zero, List.drop_succ_cons, List.take_succ_cons, List.take_zero, List.getElem?_cons_zero, List.getElem?_cons_succ] at h0 h1 h2 h3 h4 h5
  obtain ⟨s0, rfl, e0, b0⟩ := reads_int h0
  obtain ⟨s1, rfl, e1, b1⟩ := reads_int h1
  obtain ⟨s2, rfl, e2⟩ := reads_str h2
  obtain ⟨s3, rfl, e3⟩ := reads_str h3
  obtain ⟨s4, rfl, e4, b4⟩ := reads_int h4
  obtain ⟨kv, ks, e5, k1, k2⟩ := open_fate h5
  obtain rfl : a5 = kv := (List.cons.inj e5).1
  refine ⟨⟨s0, s1, s2, s3, s4, ks⟩, a5, rfl, k1, fun hB => ?_⟩
  have hB' : ∀ k ∈ (DataW.agg [y0.1, y1.1, y2.1, y3.1, y4.1, y5.1]).weights Tryz.prog 36, k ≤ 140737488351232 := hB
  rw [e0, e1, e2, e3, e4] at hB'
  simp only [strL, DataW.weights, DataW.weightsEach, Tryz.underlying36, List.map_cons, List.map_nil, List.append_nil, List.nil_append, List.cons_append, List.mem_cons, forall_eq_or_imp] at hB'
  obtain ⟨g1, g2, g3⟩ := hB'
  exact ⟨b0, b1, b4, g1, g2, k2 _ g3⟩
instance : Inhabited StepM := ⟨⟨0, 0, ⟨#[]⟩, ⟨#[]⟩, 0, []⟩⟩
theorem getMap {α : Type} {F : Nat → α} {len i : Nat} {m : α} (h : ((List.range len).map F)[i]? = some m) : i < len ∧ F i = m := by
  rw [List.getElem?_map] at h
  by_cases hi : i < len
  · rw [List.getElem?_range hi] at h
    exact ⟨hi, by simpa using h⟩
  · rw [List.getElem?_eq_none (by simpa using hi)] at h
    cases h
theorem open_steps {n : Nat} {v : Value} {x : DataW H × List MemPlace} (h : DataW.trod enc Tryz.prog w 0 (fun _ => true) held n 22 [v] = some x) :
    ∃ l : List StepM, StepsAt w v l ∧ ((∀ k ∈ x.1.weights Tryz.prog 22, k ≤ 140737488351232) → l.length ≤ 1760000000000 ∧ ∀ m ∈ l, m.Fits) := by
  obtain ⟨len, cap, p, D, Pl, n', rfl, hl, hm, hi, hw⟩ := open_row 6 80 Tryz.underlying22 (by kernel_rfl) (by kernel_rfl) (by decide) h
  obtain ⟨F, hF⟩ := choose_lt (α := StepM) (n := len) (p := fun i m => (∃ b off kv, p = some ⟨b, off, none⟩ ∧ b < w.heap.size ∧ (∀ j, j < 6 → w.cell? ⟨b, off + (i * 6 + j), none⟩ = (m.cells kv)[j]?) ∧ IntsRd (fun b => w.heap.size ≤ b) w kv m.keep) ∧ ((∀ k ∈ (D i).weights Tryz.prog 36, k ≤ 140737488351232) → m.Fits)) (fun i hil => by
    obtain ⟨b, off, e, hb, cs, hcl, hc, ht⟩ := hi i hil
    obtain ⟨m, kv, rfl, hk, hs⟩ := open_step ht
    exact ⟨m, ⟨b, off, kv, e, hb, fun j hj => by rw [hc j hj, Array.getElem?_toList], hk⟩, hs⟩)
  refine ⟨(List.range len).map F, ⟨p, cap, by rw [List.length_map, List.length_range], fun i m him => ?_⟩, fun hB => ⟨?_, fun m hm => ?_⟩⟩
  · obtain ⟨hil, rfl⟩ := getMap him
    exact (hF i hil).1
  · have := (hw _ hB).1
    rw [List.length_map, List.length_range]
    omega
  · obtain ⟨i, hir, rfl⟩ := List.mem_map.1 hm
    have hil := List.mem_range.1 hir
    exact (hF i hil).2 ((hw _ hB).2 i hil)
theorem open_fates {n : Nat} {v : Value} {x : DataW H × List MemPlace} (h : DataW.trod enc Tryz.prog w 0 (fun _ => true) held n 23 [v] = some x) :
    ∃ l : List (List Int), FatesAt w v l ∧ ((∀ k ∈ x.1.weights Tryz.prog 23, k ≤ 140737488351232) → l.length ≤ 8000000000000 ∧ ∀ ks ∈ l, ks.length * 8 ≤ 140737488351232) := by
  obtain ⟨len, cap, p, D, Pl, n', rfl, hl, hm, hi, hw⟩ := open_row 1 24 Tryz.underlying23 (by kernel_rfl) (by kernel_rfl) (by decide) h
  obtain ⟨F, hF⟩ := choose_lt (α := List Int) (n := len) (p := fun i ks => (∃ b off kv, p = some ⟨b, off, none⟩ ∧ b < w.heap.size ∧ w.cell? ⟨b, off + i, none⟩ = some kv ∧ IntsRd (fun b => w.heap.size ≤ b) w kv ks) ∧ ((∀ k ∈ (D i).weights Tryz.prog 26, k ≤ 140737488351232) → ks.length * 8 ≤ 140737488351232)) (fun i hil => by
    obtain ⟨b, off, e, hb, cs, hcl, hc, ht⟩ := hi i hil
    obtain ⟨kv, ks, rfl, hk, hs⟩ := open_fate ht
    exact ⟨ks, ⟨b, off, kv, e, hb, by have := hc 0 (by decide); rwa [Nat.mul_one, Nat.add_zero] at this, hk⟩, hs _⟩)
  refine ⟨(List.range len).map F, ⟨p, cap, by rw [List.length_map, List.length_range], fun i m him => ?_⟩, fun hB => ⟨?_, fun m hm => ?_⟩⟩
  · obtain ⟨hil, rfl⟩ := getMap him
    exact (hF i hil).1
  · have := (hw _ hB).1
    rw [List.length_map, List.length_range]
    omega
  · obtain ⟨i, hir, rfl⟩ := List.mem_map.1 hm
    have hil := List.mem_range.1 hir
    exact (hF i hil).2 ((hw _ hB).2 i hil)
end
end Go.Proofs.YtlcompihcmhbiaaGreatDoor
