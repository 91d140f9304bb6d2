/- Acts on names among the arguments: read as data, and as they lie in memory. -/
import Derived.Test.YtdkedmngeahjiaaGreatDoorM47
import Derived.Test.YtdkedmngeahjiaaGreatDoorRfDig
import Derived.Test.YtdkedmngeahjiaaGreatDoorRfActs
namespace Go.Proofs.YtdkedmngeahjiaaGreatDoor
open Go.ChangeShapes Go.WideShapes Go.RowKit Go.Deep
section
variable {H : Type} {enc : TypeId × Value → H} {w : World} {held : Bool}
theorem on1 {α : Type} {l : List α} (h : l.length = 1) : ∃ a0, l = [a0] := by
  match l, h with
  | [a0], _ => exact ⟨_, rfl⟩
theorem on3 {α : Type} {l : List α} (h : l.length = 3) : ∃ a0 a1 a2, l = [a0, a1, a2] := by
  match l, h with
  | [a0, a1, a2], _ => exact ⟨_, _, _, rfl⟩
theorem on5 {α : Type} {l : List α} (h : l.length = 5) : ∃ a0 a1 a2 a3 a4, l = [a0, a1, a2, a3, a4] := by
  match l, h with
  | [a0, a1, a2, a3, a4], _ => exact ⟨_, _, _, _, _, rfl⟩
theorem on36 {cs : List Value} (h : cs.length = 36) : ∃ a dl b n k, dl.length = 32 ∧ cs = a :: (dl ++ [b, n, k]) := by
  cases cs with
  | nil => cases h
  | cons a r =>
    rw [List.length_cons] at h
    have h1 : (r.drop 32).length = 3 := by rw [List.length_drop]; omega
    obtain ⟨b, n, k, e⟩ := on3 h1
    exact ⟨a, r.take 32, b, n, k, by rw [List.length_take]; omega, by rw [← e, List.take_append_drop]⟩
theorem reads_strR {n : Nat} {v : Value} {y : DataW H × List MemPlace} (h : DataW.trod enc Tryz.prog w 0 (fun _ => true) held n 9 [v] = some y) : ∃ s : ByteArray, v = .string s ∧ y.1 = .lit (.string s.data.toList) := by
  obtain ⟨s, h1, h2, _⟩ := DataW.trod_string Tryz.underlying9 h
  exact ⟨s, (List.cons.inj h1).1, by rw [h2]⟩
theorem reads_intR {n : Nat} {v : Value} {y : DataW H × List MemPlace} (h : DataW.trod enc Tryz.prog w 0 (fun _ => true) held n 3 [v] = some y) : ∃ x : Int, v = .int .i64 x ∧ y.1 = .lit (.int .i64 x) ∧ bigI x := by
  obtain ⟨s, h1, h2, h3⟩ := DataW.trod_int Tryz.underlying3 h
  simp only [Lit.wf, Bool.and_eq_true, decide_eq_true_eq] at h3
  exact ⟨s, (List.cons.inj h1).1, by rw [h2], h3⟩
theorem open_intsR {n : Nat} {v : Value} {x : DataW H × List MemPlace} (h : DataW.trod enc Tryz.prog w 0 (fun _ => true) held n 51 [v] = some x) :
    ∃ ks : List Int, IntsIn w v ks ∧ ∀ B, (∀ k ∈ x.1.weights Tryz.prog 51, k ≤ B) → ks.length * 8 ≤ B := by
  obtain ⟨len, cap, p, D, Pl, n', rfl, hl, hm, hi, hw⟩ := open_row 1 8 Tryz.underlying51 (by kernel_rfl) (by kernel_rfl) (by decide) h
  obtain ⟨F, hF⟩ := choose_lt (α := Int) (n := len) (p := fun i k => bigI k ∧ ∃ b off, p = some ⟨b, off, none⟩ ∧ b < w.heap.size ∧ w.cell? ⟨b, off + i, none⟩ = some (.int .i64 k)) (fun i hil => by
    obtain ⟨b, off, e, hb, cs, hcl, hc, ht⟩ := hi i hil
    obtain ⟨a0, rfl⟩ := on1 hcl
    obtain ⟨k, rfl, -, hk⟩ := reads_intR ht
    refine ⟨k, hk, b, off, e, hb, ?_⟩
    have := hc 0 (by decide)
    rwa [Nat.mul_one, Nat.add_zero] at this)
  refine ⟨(List.range len).map F, ⟨p, cap, by rw [List.length_map, List.length_range], by rw [List.length_map, List.length_range]; exact ⟨hl, hm⟩, fun j k hj => ?_⟩, fun B hB => by rw [List.length_map, List.length_range]; exact (hw B hB).1⟩
  rw [List.getElem?_map] at hj
  by_cases hjl : j < len
  · rw [List.getElem?_range hjl] at hj
    obtain rfl : F j = k := by simpa using hj
    obtain ⟨h1, b, off, e, hb, hc⟩ := hF j hjl
    exact ⟨h1, b, off, e, hc, hb, .inl (fun x => x)⟩
  · rw [List.getElem?_eq_none (by simpa using hjl)] at hj
    cases hj
set_option maxHeartbeats 800000 in
set_option maxRecDepth 100000 in
theorem open_actR {n : Nat} {cs : List Value} {x : DataW H × List MemPlace} (h : DataW.trod enc Tryz.prog w 0 (fun _ => true) held n 59 cs = some x) :
    ∃ (m : ActR) (kv : Value), cs = m.cells kv ∧ IntsIn w kv m.keep ∧ ((∀ k ∈ x.1.weights Tryz.prog 59, k ≤ 140737488351232) → m.Fits) := by
  obtain ⟨xs, n1, rfl, rfl, hl, hxl, hf⟩ := DataW.trod_struct Tryz.underlying59 h
  have hcM : Tryz.prog.cellsOf 59 = 36 := by kernel_rfl
  have hcS : Tryz.prog.cellsOf 9 = 1 := by kernel_rfl
  have hcI : Tryz.prog.cellsOf 3 = 1 := by kernel_rfl
  have hcB : Tryz.prog.cellsOf 4 = 1 := by kernel_rfl
  have hcF : Tryz.prog.cellsOf 51 = 1 := by kernel_rfl
  have hcD : Tryz.prog.cellsOf 33 = 32 := by kernel_rfl
  rw [hcM] at hl
  obtain ⟨a0, dl, a2, a3, a4, hdl, rfl⟩ := on36 hl
  obtain ⟨y0, y1, y2, y3, y4, rfl⟩ := on5 hxl
  have d0 : ((a0 :: (dl ++ [a2, a3, a4])).drop 0).take 1 = [a0] := rfl
  have d1 : ((a0 :: (dl ++ [a2, a3, a4])).drop 1).take 32 = dl := by rw [List.drop_succ_cons, List.drop_zero, List.take_left' hdl]
  have k2 : dl.drop 32 = [] := List.drop_eq_nil_of_le (by omega)
  have k3 : dl.drop 33 = [] := List.drop_eq_nil_of_le (by omega)
  have k4 : dl.drop 34 = [] := List.drop_eq_nil_of_le (by omega)
  have d2 : ((a0 :: (dl ++ [a2, a3, a4])).drop 33).take 1 = [a2] := by simp [List.drop_append, hdl, k2, k3, k4]
  have d3 : ((a0 :: (dl ++ [a2, a3, a4])).drop 34).take 1 = [a3] := by simp [List.drop_append, hdl, k2, k3, k4]
  have d4 : ((a0 :: (dl ++ [a2, a3, a4])).drop 35).take 1 = [a4] := by simp [List.drop_append, hdl, k2, k3, k4]
  have h0 := hf 0 _ rfl
  have h1 := hf 1 _ rfl
  have h2 := hf 2 _ rfl
  have h3 := hf 3 _ rfl
  have h4 := hf 4 _ rfl
  simp only [List.getElem_toArray, List.getElem_cons_zero, List.getElem_cons_succ, hcS, hcI, hcF, hcB, hcD, d0, d1, d2, d3, d4, List.getElem?_cons_zero, List.getElem?_cons_succ] at h0 h1 h2 h3 h4
  obtain ⟨s0, rfl, e0⟩ := reads_strR h0
  obtain ⟨q1, q2⟩ := dig_cells h1
  obtain ⟨b2, e2a, e2⟩ := DataW.trod_bool Tryz.underlying4 h2
  obtain rfl : a2 = .bool b2 := (List.cons.inj e2a).1
  obtain ⟨s3, rfl, e3, b3⟩ := reads_intR h3
  clear k2 k3 k4
  obtain ⟨ks, k1, k2⟩ := open_intsR h4
  refine ⟨⟨s0, dl.map cellB, b2, s3, ks⟩, a4, ?_, k1, fun hB => ?_⟩
  · unfold ActR.cells
    show Value.string s0 :: (dl ++ _) = .string s0 :: ((dl.map cellB).map byteV ++ _)
    rw [← q2]
  · have hB' : ∀ k ∈ (DataW.agg [y0.1, y1.1, y2.1, y3.1, y4.1]).weights Tryz.prog 59, k ≤ 140737488351232 := hB
    rw [e0, e2, e3] at hB'
    simp only [DataW.weights, DataW.weightsEach, Tryz.underlying59, List.map_cons, List.map_nil, List.append_nil, List.nil_append, List.cons_append, List.mem_cons, List.mem_append, or_imp, forall_and, forall_eq] at hB'
    obtain ⟨g1, -, g3⟩ := hB'
    exact ⟨q1, b3, g1, k2 _ g3⟩
instance : Inhabited ActR := ⟨⟨⟨#[]⟩, [], false, 0, []⟩⟩
theorem getMapR {α : Type} {F : Nat → α} {len i : Nat} {m : α} (h : ((List.range len).map F)[i]? = some m) : i < len ∧ F i = m := by
  rw [List.getElem?_map] at h
  by_cases hi : i < len
  · rw [List.getElem?_range hi] at h
    exact ⟨hi, by simpa using h⟩
  · rw [List.getElem?_eq_none (by simpa using hi)] at h
    cases h
theorem open_actsR {n : Nat} {v : Value} {x : DataW H × List MemPlace} (h : DataW.trod enc Tryz.prog w 0 (fun _ => true) held n 56 [v] = some x) :
    ∃ l : List ActR, ActsR w v l ∧ ((∀ k ∈ x.1.weights Tryz.prog 56, k ≤ 140737488351232) → l.length ≤ 8800000000000 ∧ ∀ m ∈ l, m.Fits) := by
  obtain ⟨len, cap, p, D, Pl, n', rfl, hl, hm, hi, hw⟩ := open_row 36 88 Tryz.underlying56 (by kernel_rfl) (by kernel_rfl) (by decide) h
  obtain ⟨F, hF⟩ := choose_lt (α := ActR) (n := len) (p := fun i m => (∃ b off kv, p = some ⟨b, off, none⟩ ∧ b < w.heap.size ∧ (∀ j, j < 36 → w.cell? ⟨b, off + (i * 36 + j), none⟩ = (m.cells kv)[j]?) ∧ IntsIn w kv m.keep) ∧ ((∀ k ∈ (D i).weights Tryz.prog 59, k ≤ 140737488351232) → m.Fits)) (fun i hil => by
    obtain ⟨b, off, e, hb, cs, hcl, hc, ht⟩ := hi i hil
    obtain ⟨m, kv, rfl, hk, hs⟩ := open_actR ht
    exact ⟨m, ⟨b, off, kv, e, hb, fun j hj => hc j hj, hk⟩, hs⟩)
  refine ⟨(List.range len).map F, ⟨p, cap, by rw [List.length_map, List.length_range], fun i m him => ?_⟩, fun hB => ⟨?_, fun m hm => ?_⟩⟩
  · obtain ⟨hil, rfl⟩ := getMapR him
    exact (hF i hil).1
  · have := (hw _ hB).1
    rw [List.length_map, List.length_range]
    omega
  · obtain ⟨i, hir, rfl⟩ := List.mem_map.1 hm
    have hil := List.mem_range.1 hir
    exact (hF i hil).2 ((hw _ hB).2 i hil)
end
end Go.Proofs.YtdkedmngeahjiaaGreatDoor
