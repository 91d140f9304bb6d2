/- A slice of members among the arguments: read as data, and as it lies in memory. -/
import Derived.Test.YthpmocfdnoehoaaGreatDoorMem
import Derived.Test.YthpmocfdnoehoaaGreatDoorWorld
import Derived.Deep.Slices
import Derived.Deep.Fields
import Derived.ChangeSame
import Derived.Carry
import Derived.ProofKit
import Derived.OpenShut
namespace Go.Proofs.YthpmocfdnoehoaaGreatDoor
open Go.ChangeShapes Go.WideShapes Go.RowKit Go.Deep
section
variable {H : Type} {enc : TypeId × Value → H} {w : World} {base : Nat} {spare : Nat → Bool} {held : Bool}
def strD (s : ByteArray) : DataW H := .lit (.string s.data.toList)
/-- A member as data. -/
def memD (m : Mem) : DataW H :=
  .agg [.agg [strD m.hdr.path, .lit (.int .i64 m.hdr.mode), .lit (.int .i64 m.hdr.uid), .lit (.int .i64 m.hdr.gid), .lit (.int .i64 m.hdr.size), .lit (.int .i64 m.hdr.time), .lit (.int .u8 (m.hdr.typ.toNat : Int)), strD m.hdr.link, strD m.hdr.user, strD m.hdr.group, .lit (.int .i64 m.hdr.major), .lit (.int .i64 m.hdr.minor)], strD m.data]
theorem len13 {α : Type} {l : List α} (h : l.length = 13) : ∃ a0 a1 a2 a3 a4 a5 a6 a7 a8 a9 a10 a11 a12, l = [a0, a1, a2, a3, a4, a5, a6, a7, a8, a9, a10, a11, a12] := by
  match l, h with
  | [a0, a1, a2, a3, a4, a5, a6, a7, a8, a9, a10, a11, a12], _ => exact ⟨_, _, _, _, _, _, _, _, _, _, _, _, _, rfl⟩
theorem len12 {α : Type} {l : List α} (h : l.length = 12) : ∃ a0 a1 a2 a3 a4 a5 a6 a7 a8 a9 a10 a11, l = [a0, a1, a2, a3, a4, a5, a6, a7, a8, a9, a10, a11] := by
  match l, h with
  | [a0, a1, a2, a3, a4, a5, a6, a7, a8, a9, a10, a11], _ => exact ⟨_, _, _, _, _, _, _, _, _, _, _, _, rfl⟩
theorem len2 {α : Type} {l : List α} (h : l.length = 2) : ∃ a0 a1, l = [a0, a1] := by
  match l, h with
  | [a0, a1], _ => exact ⟨_, _, rfl⟩
theorem read_str {n : Nat} {v : Value} {y : DataW H × List MemPlace} (h : DataW.trod enc Tryz.prog w base spare held n 9 [v] = some y) : ∃ s : ByteArray, v = .string s ∧ y.1 = strD s := by
  obtain ⟨s, h1, h2, _⟩ := DataW.trod_string Tryz.underlying9 h
  exact ⟨s, (List.cons.inj h1).1, by rw [h2]; rfl⟩
theorem read_i64 {n : Nat} {v : Value} {y : DataW H × List MemPlace} (h : DataW.trod enc Tryz.prog w base spare held n 2 [v] = some y) : ∃ x : Int, v = .int .i64 x ∧ y.1 = .lit (.int .i64 x) := by
  obtain ⟨s, h1, h2, _⟩ := DataW.trod_int Tryz.underlying2 h
  exact ⟨s, (List.cons.inj h1).1, by rw [h2]⟩
theorem read_u8 {n : Nat} {v : Value} {y : DataW H × List MemPlace} (h : DataW.trod enc Tryz.prog w base spare held n 5 [v] = some y) : ∃ x : UInt8, v = .int .u8 (x.toNat : Int) ∧ y.1 = .lit (.int .u8 (x.toNat : Int)) := by
  obtain ⟨s, h1, h2, h3⟩ := DataW.trod_int Tryz.underlying5 h
  have hs : 0 ≤ s ∧ s < 256 := by
    simp only [Lit.wf, Bool.and_eq_true, decide_eq_true_eq] at h3
    have e1 : IntKind.u8.min = 0 := rfl
    have e2 : IntKind.u8.max = 255 := rfl
    omega
  refine ⟨UInt8.ofNat s.toNat, ?_, ?_⟩
  · rw [(List.cons.inj h1).1, UInt8.toNat_ofNat', Nat.mod_eq_of_lt (by omega), Int.toNat_of_nonneg hs.1]
  · rw [h2, UInt8.toNat_ofNat', Nat.mod_eq_of_lt (by omega), Int.toNat_of_nonneg hs.1]
set_option maxHeartbeats 800000 in
theorem open_mem {n : Nat} {cs : List Value} {x : DataW H × List MemPlace} (h : DataW.trod enc Tryz.prog w base spare held n 26 cs = some x) : ∃ m : Mem, cs = m.cells.toList ∧ x.1 = memD m := by
  obtain ⟨xs, n1, rfl, rfl, hl, hxl, hf⟩ := DataW.trod_struct Tryz.underlying26 h
  have hcM : Tryz.prog.cellsOf 26 = 13 := by kernel_rfl
  have hcH : Tryz.prog.cellsOf 24 = 12 := by kernel_rfl
  have hcS : Tryz.prog.cellsOf 9 = 1 := by kernel_rfl
  have hcI : Tryz.prog.cellsOf 2 = 1 := by kernel_rfl
  have hcB : Tryz.prog.cellsOf 5 = 1 := by kernel_rfl
  rw [hcM] at hl
  obtain ⟨a0, a1, a2, a3, a4, a5, a6, a7, a8, a9, a10, a11, a12, rfl⟩ := len13 hl
  obtain ⟨y0, y1, rfl⟩ := len2 hxl
  have h0 := hf 0 _ rfl
  have h1 := hf 1 _ rfl
  simp only [List.getElem_toArray, List.getElem_cons_zero, List.getElem_cons_succ, hcH, hcS] at h0 h1
  obtain ⟨zs, n2, rfl, hy0, _, hzl, hg⟩ := DataW.trod_struct Tryz.underlying24 h0
  obtain ⟨z0, z1, z2, z3, z4, z5, z6, z7, z8, z9, z10, z11, rfl⟩ := len12 hzl
  have g0 := hg 0 _ rfl
  have g1 := hg 1 _ rfl
  have g2 := hg 2 _ rfl
  have g3 := hg 3 _ rfl
  have g4 := hg 4 _ rfl
  have g5 := hg 5 _ rfl
  have g6 := hg 6 _ rfl
  have g7 := hg 7 _ rfl
  have g8 := hg 8 _ rfl
  have g9 := hg 9 _ rfl
  have g10 := hg 10 _ rfl
  have g11 := hg 11 _ rfl
  simp only [List.getElem_toArray, List.getElem_cons_zero, List.getElem_cons_succ, hcS, hcI, hcB, List.drop_zero, List.drop_succ_cons, List.take_succ_cons, List.take_zero, List.getElem?_cons_zero, List.getElem?_cons_succ] at g0 g1 g2 g3 g4 g5 g6 g7 g8 g9 g10 g11 h1
  obtain ⟨s0, rfl, e0⟩ := read_str g0
  obtain ⟨s1, rfl, e1⟩ := read_i64 g1
  obtain ⟨s2, rfl, e2⟩ := read_i64 g2
  obtain ⟨s3, rfl, e3⟩ := read_i64 g3
  obtain ⟨s4, rfl, e4⟩ := read_i64 g4
  obtain ⟨s5, rfl, e5⟩ := read_i64 g5
  obtain ⟨s6, rfl, e6⟩ := read_u8 g6
  obtain ⟨s7, rfl, e7⟩ := read_str g7
  obtain ⟨s8, rfl, e8⟩ := read_str g8
  obtain ⟨s9, rfl, e9⟩ := read_str g9
  obtain ⟨s10, rfl, e10⟩ := read_i64 g10
  obtain ⟨s11, rfl, e11⟩ := read_i64 g11
  obtain ⟨s12, rfl, e12⟩ := read_str h1
  refine ⟨⟨{ path := s0, mode := s1, uid := s2, gid := s3, size := s4, time := s5, typ := s6, link := s7, user := s8, group := s9, major := s10, minor := s11 }, s12⟩, rfl, ?_⟩
  have hy : y0.1 = .agg [z0.1, z1.1, z2.1, z3.1, z4.1, z5.1, z6.1, z7.1, z8.1, z9.1, z10.1, z11.1] := by rw [hy0]; rfl
  show DataW.agg [y0.1, y1.1] = _
  rw [hy, e0, e1, e2, e3, e4, e5, e6, e7, e8, e9, e10, e11, e12]
  rfl
instance : Inhabited Mem := ⟨⟨{ path := ⟨#[]⟩, mode := 0, uid := 0, gid := 0, size := 0, time := 0, typ := 0, link := ⟨#[]⟩, user := ⟨#[]⟩, group := ⟨#[]⟩, major := 0, minor := 0 }, ⟨#[]⟩⟩⟩
theorem weightsAll_mem {P : Program} {e : TypeId} : ∀ {l : List (DataW H)} {d : DataW H}, d ∈ l → ∀ k ∈ d.weights P e, k ∈ DataW.weightsAll P e l
  | x :: r, d, hd, k, hk => by
    rw [DataW.weightsAll, List.mem_append]
    rcases List.mem_cons.1 hd with rfl | h
    · exact .inl hk
    · exact .inr (weightsAll_mem h k hk)
theorem memD_small {m : Mem} (h : ∀ k ∈ (memD m : DataW H).weights Tryz.prog 26, k ≤ 140737488351232) : m.small := by
  have e : (memD m : DataW H).weights Tryz.prog 26 = [m.hdr.path.size, m.hdr.link.size, m.hdr.user.size, m.hdr.group.size, m.data.size] := by
    simp only [memD, strD, DataW.weights, DataW.weightsEach, Tryz.underlying26, Tryz.underlying24, List.map_cons, List.map_nil, List.append_nil, List.nil_append, List.cons_append]
    rfl
  rw [e] at h
  simp only [List.mem_cons, List.not_mem_nil, or_false, forall_eq_or_imp, forall_eq] at h
  obtain ⟨h1, h2, h3, h4, h5⟩ := h
  exact ⟨⟨by omega, by omega, by omega, by omega⟩, by omega⟩
theorem memsAt_of {a : Addr} {len : Nat} {F : Nat → Mem} (h : ∀ i, i < len → w.cells? 0 (a.add (i * 13)) 13 = some (F i).cells.toList) : MemsAt w (some a) ((List.range len).map F) := by
  have hc : ∀ i, i < len → ∀ j, j < 13 → w.cell? (a.add (i * 13 + j)) = (F i).cells[j]? := fun i hi j hj => by
    have := (World.cells?_some (h i hi)).2.2 j hj
    rw [Go.Deep.add_add] at this
    rw [this, Array.getElem?_toList]
  refine ⟨fun i hi => ?_, fun b off hb i m hm j hj => ?_⟩
  · have h0 : 0 < len := by simp at hi; omega
    have g := hc 0 h0 0 (by decide)
    rw [Nat.zero_mul, show a.add (0 + 0) = a from rfl] at g
    obtain ⟨b, off, spot⟩ := a
    have g' : w.cell? ⟨b, off, spot⟩ = some (.string (F 0).hdr.path) := g
    have hs : spot = none := by simpa using World.cell?_spot g'
    subst hs
    refine ⟨b, off, rfl, ?_⟩
    unfold World.cell? at g'
    split at g'
    · rename_i hh
      exact blk_lt hh
    · cases g'
  · cases hb
    rw [List.getElem?_map] at hm
    by_cases hi : i < len
    · rw [List.getElem?_range hi] at hm
      obtain rfl : F i = m := by simpa using hm
      rw [← hc i hi j hj]
      unfold Addr.add
      split
      · rename_i e; rw [e]; rfl
      · rfl
    · rw [List.getElem?_eq_none (by simpa using hi)] at hm
      cases hm
set_option maxRecDepth 100000 in
theorem open_members {r : Reach} {b0 : Nat} {v : Value} {d : DataW H} {ps : List MemPlace} (hv : Value.okWide Tryz.prog w r b0 22 v) (h : DataW.Trod enc Tryz.prog w 0 (fun _ => true) true 22 v d ps) (hw : ∀ k ∈ d.weights Tryz.prog 22, k ≤ 140737488351232) :
    ∃ (l : List Mem) (p : Option Addr) (cap : Nat), v = .slice p l.length cap ∧ MemsAt w p l ∧ l.length * 144 ≤ 140737488355328 ∧ (∀ m ∈ l, m.small) := by
  obtain ⟨a, len, cap, rfl⟩ := okWide_slice Tryz.underlying22 hv
  obtain ⟨fuel, hf⟩ := h
  have hcM : Tryz.prog.cellsOf 26 = 13 := by kernel_rfl
  have hbM : Tryz.prog.bytesOf 26 = 144 := by kernel_rfl
  rcases open_slice Tryz.underlying22 hf with ⟨h0, -⟩ | ⟨a', len', cap', m, n, D, Pl, hcs, hb, hl, hm, hmm, hx, hi⟩
  · have e : Value.slice a len cap = .slice none 0 0 := by simpa [Value.cells] using h0
    cases e
    exact ⟨[], none, 0, rfl, ⟨(fun i hi => by cases hi), (fun b off hb => by cases hb)⟩, by rw [List.length_nil]; omega, (fun _ hm => by cases hm)⟩
  · have e : Value.slice a len cap = .slice (some a') len' cap' := by simpa [Value.cells] using hcs
    cases e
    rw [if_pos rfl] at hmm
    subst hmm
    rw [hcM] at hi hx
    have hex : ∀ i, i < len → ∃ x : Mem, w.cells? 0 (a'.add (i * 13)) 13 = some x.cells.toList ∧ D i = memD x := fun i hil => by
      obtain ⟨cs', h1, h2⟩ := hi i (by omega)
      obtain ⟨x, rfl, h3⟩ := open_mem h2
      exact ⟨x, h1, h3⟩
    obtain ⟨F, hF⟩ := choose_lt hex
    obtain ⟨hd, -⟩ := Prod.mk.inj hx
    subst hd
    have hwt : (DataW.slice ((List.range len).map D) ((List.range (m - len)).map fun j => D (len + j)) : DataW H).weights Tryz.prog 22 = (((List.range len).map D).length + ((List.range (m - len)).map fun j => D (len + j)).length) * 144 :: (DataW.weightsAll Tryz.prog 26 ((List.range len).map D) ++ DataW.weightsAll Tryz.prog 26 ((List.range (m - len)).map fun j => D (len + j))) := by
      rw [DataW.weights, Tryz.underlying22]
      simp only [hbM]
    rw [hwt] at hw
    have hlen := hw _ (List.mem_cons_self ..)
    rw [List.length_map, List.length_map, List.length_range, List.length_range] at hlen
    refine ⟨(List.range len).map F, some a', m, by rw [List.length_map, List.length_range], memsAt_of (fun i hil => (hF i hil).1), by rw [List.length_map, List.length_range]; omega, fun x hx => ?_⟩
    obtain ⟨i, hir, rfl⟩ := List.mem_map.1 hx
    have hil := List.mem_range.1 hir
    refine memD_small (H := H) fun k hk => hw k (List.mem_cons_of_mem _ (List.mem_append.2 (.inl (weightsAll_mem (List.mem_map.2 ⟨i, hir, (hF i hil).2⟩) k hk))))
end
end Go.Proofs.YthpmocfdnoehoaaGreatDoor
