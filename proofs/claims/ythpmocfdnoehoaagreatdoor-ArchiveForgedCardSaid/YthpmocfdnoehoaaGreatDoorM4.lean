/- Texts of the seat, one behind the other: Seq, Lists, Read, RefRead, ReadBig, Grid, ApartS, MemEq, Same, Lent. -/
import Derived.Test.YthpmocfdnoehoaaGreatDoorM3
import Derived.RangeFuncNested
import Derived.RangeFuncBound
import Derived.RangeFuncCalls
import Derived.RangeFuncLeaves
import Derived.Shelf.Abstract
import Derived.Shelf.RegionOpen
import Derived.OwnWalkIn
import Derived.TacticsInMore
import Derived.LoopNIn
import Derived.LoopIn
import Derived.Test.YthpmocfdnoehoaaGreatDoorM1
import Derived.Maps.AppendAt
import Derived.Lib.ConvBytes
import Derived.Test.YthpmocfdnoehoaaGreatDoorM2
import Derived.Laws.StructEq
/- archive.members: what it hands out. -/
namespace Go.Proofs.YthpmocfdnoehoaaGreatDoor
open Go.RowKit Go.Shelf
attribute [local go_sem] Oper.semAt_some
/-- What is handed out: a member, or the error. -/
inductive RdX where
  | mem (m : Mem)
  | bad (e : Int) (i : Nat)
def rdE : RdX → Array Value
  | .mem m => #[.agg m.cells, .nilIface]
  | .bad e i => #[.agg zm, faultV e 0 i]
/-- What is handed out from a byte on. -/
def rdGo (l : Bs) : Nat → Nat → List RdX
  | 0, _ => []
  | f + 1, i =>
    if l.length < i + 512 then [.bad 2 i] else
    if zeroAt l i = true then (if (endGo l (l.length + 1) (i + 512)).1 = 0 then [] else [.bad (endGo l (l.length + 1) (i + 512)).1 (endGo l (l.length + 1) (i + 512)).2]) else
    match memAt l i with
    | .bad e j => [.bad e j]
    | .good m n => .mem m :: rdGo l f n
theorem rdGo_short {l : Bs} {f i : Nat} (hf : 0 < f) (h : l.length < i + 512) : rdGo l f i = [.bad 2 i] := by
  obtain ⟨g, rfl⟩ : ∃ g, f = g + 1 := ⟨f - 1, by omega⟩
  rw [rdGo, if_pos h]
theorem rdGo_end {l : Bs} {f i : Nat} (hf : 0 < f) (h : ¬ l.length < i + 512) (hz : zeroAt l i = true) : rdGo l f i = (if (endGo l (l.length + 1) (i + 512)).1 = 0 then [] else [.bad (endGo l (l.length + 1) (i + 512)).1 (endGo l (l.length + 1) (i + 512)).2]) := by
  obtain ⟨g, rfl⟩ : ∃ g, f = g + 1 := ⟨f - 1, by omega⟩
  rw [rdGo, if_neg h, if_pos hz]
theorem rdGo_bad {l : Bs} {f i j : Nat} {e : Int} (hf : 0 < f) (h : ¬ l.length < i + 512) (hz : zeroAt l i = false) (hm : memAt l i = .bad e j) : rdGo l f i = [.bad e j] := by
  obtain ⟨g, rfl⟩ : ∃ g, f = g + 1 := ⟨f - 1, by omega⟩
  rw [rdGo, if_neg h, if_neg (by simp [hz])]
  simp only [hm]
theorem rdGo_mem {l : Bs} {f i n : Nat} {m : Mem} (hf : 0 < f) (h : ¬ l.length < i + 512) (hz : zeroAt l i = false) (hm : memAt l i = .good m n) : rdGo l f i = .mem m :: rdGo l (f - 1) n := by
  obtain ⟨g, rfl⟩ : ∃ g, f = g + 1 := ⟨f - 1, by omega⟩
  rw [rdGo, if_neg h, if_neg (by simp [hz])]
  simp only [hm, Nat.add_sub_cancel]
theorem snoc_len {α : Type} {p q r : List α} {x : α} (h : p ++ x :: q = r) : p.length < r.length := by rw [← h]; simp
theorem snoc_pre {α : Type} {p q r : List α} {x : α} (h : p ++ x :: q = r) : p ++ [x] <+: r := ⟨q, by rw [← h]; simp⟩
theorem memAt_next {l : Bs} {i k : Nat} {m : Mem} (h : memAt l i = .good m k) : i + 512 ≤ k ∧ k ≤ l.length := by
  unfold memAt at h
  split at h
  · cases h
  · split at h
    · cases h
    · rename_i hc
      obtain ⟨-, rfl⟩ := MemR.good.inj h
      exact ⟨by omega, by omega⟩
theorem grown_none {w w' : World} (h : Below w.heap.size w w') : w.grownBy w' none := ⟨h.os, h.tape, h.output, h.size, fun k hk _ => h.block k hk⟩
/-- Two blocks lie as they lay. -/
def Kp2 (b c : Nat) (A B : World) : Prop := A.heap.size ≤ B.heap.size ∧ B.heap[b]? = A.heap[b]? ∧ B.heap[c]? = A.heap[c]?
theorem Kp2.trans {b c : Nat} {A B C : World} (h : Kp2 b c A B) (k : Kp2 b c B C) : Kp2 b c A C :=
  ⟨Nat.le_trans h.1 k.1, k.2.1.trans h.2.1, k.2.2.trans h.2.2⟩
theorem Kp2.put {b c : Nat} {w : World} (hb : b < w.heap.size) (hc : c < w.heap.size) (W : World) (l : Nat) (o o' : Obj) (hl : w.heap.size ≤ l) (hW : W.heap[l]? = some o) (_ : o.isCells = false) (_ : o.isWalk = false) : Kp2 b c W (W.putObj l o') := by
  have h := grownBy_putObj' W l o'
  have hlt := (Array.getElem?_eq_some_iff.1 hW).1
  exact ⟨h.size, h.block b (by omega) (by intro e; cases e; omega), h.block c (by omega) (by intro e; cases e; omega)⟩
theorem ByAt.kp2 {b c : Nat} {A B : World} {l : Bs} (h : Kp2 b c A B) (hb : ByAt A b l) : ByAt B b l :=
  ⟨Nat.lt_of_lt_of_le hb.1 h.1, fun i x hx => by rw [← hb.2 i x hx]; exact World.cell?_of_block (w := A) h.2.1⟩
/-- members makes the closure: its argument lies in a block. -/
theorem members_any (p : Option Addr) (n cap : Nat) (w : World) :
    Calls Tryz.prog 40 #[.slice p n cap] w fun e w' => e = .returned (.func (.func 59) #[] #[.pointer (some ⟨w.heap.size, 0, none⟩)]) ∧ w' = w.alloc (.cells #[.slice p n cap] 48) := by
  go_enter Tryz.func40, Tryz.ntmps40
  go_wp2_with fail
  go_ret
  exact ⟨rfl, rfl⟩
set_option maxHeartbeats 1600000 in
set_option maxRecDepth 100000 in
theorem mems_stops (b c cap : Nat) (l : Bs) (w : World) (hb : ByAt w b l) (hl : l.length ≤ 1152921504606846) (hc : l.length ≤ cap) (hc2 : cap ≤ 9223372036854775807) (hcc : w.heap[c]? = some (.cells #[.slice (some ⟨b, 0, none⟩) l.length cap] 48 (0, 0))) (n : Nat) (hn : 1 ≤ n) :
    SeqStopsK Fence.wide n Tryz.prog 59 #[.pointer (some ⟨c, 0, none⟩)] rdE (Kp2 b c) (fun ys => ys = rdGo l (l.length + 1) 0) (fun ys => ys <+: rdGo l (l.length + 1) 0) (rdGo l (l.length + 1) 0).length w := by
  intro y J Jx W hW hJ hJx hY h0
  refine callsIn_of_wp Tryz.func59 rfl trivial ?_ rfl
  simp only [Tryz.ntmps59, List.size_toArray, List.length_cons, List.length_nil, Nat.reduceAdd, Nat.reduceSub, Array.replicate_succ, Array.replicate_zero, List.push_toArray, List.append_toArray, List.nil_append, List.cons_append]
  have hbW := hb.keep hW hb.1
  have hcW : W.heap[c]? = some (.cells #[.slice (some ⟨b, 0, none⟩) l.length cap] 48 (0, 0)) := (hW.block c (blk_lt hcc)).trans hcc
  obtain ⟨N, hN⟩ : ∃ N, l.length = N := ⟨_, rfl⟩
  have HY := Lib.hid hY
  have HBW := Lib.hid hbW
  have HCW := Lib.hid hcW
  have HJ := Lib.hid hJ
  have HJX := Lib.hid hJx
  have H0 := Lib.hid h0
  clear hY hbW hcW hJ hJx h0 hb hcc
  rw [hN] at hl hc HCW
  have HN := Lib.hid hN
  clear hN
  gi_wp2
  gi_loopw [3] (fun iv wr => ∃ (i f : Nat) (pre : List RdX), i ≤ N ∧ iv = .int .i64 i ∧ Hid (N < f + i) ∧ Hid (pre ++ rdGo l f i = rdGo l (l.length + 1) 0) ∧ Hid (Kp2 b c W wr) ∧ Hid (J pre wr)) (fun iv _ => N + 1 - (intOf iv).toNat)
  case atStart =>
    exact ⟨0, l.length + 1, [], by omega, rfl, (show N < l.length + 1 + 0 by have := HN.out; omega), rfl, ⟨Nat.le_refl _, rfl, rfl⟩, H0.out⟩
  case round =>
    obtain ⟨i, f, pre, hi, rfl, hf, hpre, hkp, hj⟩ := hrel
    have hcr : wr.heap[c]? = some (.cells #[.slice (some ⟨b, 0, none⟩) N cap] 48 (0, 0)) := hkp.out.2.2.trans HCW.out
    have cc : wr.cell? ⟨c, 0, none⟩ = some (.slice (some ⟨b, 0, none⟩) N cap) := cell_of_heapN hcr
    have HCR := Lib.hid hcr
    have hby := HBW.out.kp2 hkp.out
    have HBY := Lib.hid hby
    clear hcr hby
    by_cases h1 : N < i + 512
    · have hg : pre ++ [.bad 2 i] = rdGo l (l.length + 1) 0 := by rw [← hpre.out, rdGo_short (by have := hf.out; omega) (by rw [HN.out]; exact h1)]
      obtain ⟨fn, tmps, assign, body, hy, hR⟩ := HY.out pre (.bad 2 i) wr hj.out (snoc_len hg)
      dsimp only [rdE, zm, faultV] at hy
      gi_wp2_with (refine ⟨trivial, ?_⟩; gi_at_call 60; refine (callsIn_wide.2 (piece_no b N cap i _ (by omega) (by omega) (by omega) (by omega))).mono ?_; rintro e w1 ⟨rfl, rfl⟩)
      refine hR.mono ?_
      rintro e W' (⟨rfl, hJ', hk⟩ | ⟨rfl, hJx'⟩)
      · gi_wp2
        exact bodyPost_ret (results_none rfl _ _ _) rfl ⟨⟨_, rfl⟩, .inl ⟨_, hg, hJ'⟩⟩
      · gi_wp2
        exact bodyPost_ret (results_none rfl _ _ _) rfl ⟨⟨_, rfl⟩, .inr ⟨_, ⟨[], by rw [List.append_nil]; exact hg⟩, hJx'⟩⟩
    · have hby := HBY.out
      cases hz : zeroAt l i with
      | true =>
        have HZ := Lib.hid hz
        have hem := empty_any b i l wr hby (by rw [HN.out]; omega)
        rw [hz] at hem
        have hen := end_any b (i + 512) cap l wr hby (by rw [HN.out]; omega) (by rw [HN.out]; exact hc) hc2 (by rw [HN.out]; omega)
        obtain ⟨x, hx⟩ : ∃ x, endGo l (l.length + 1) (i + 512) = x := ⟨_, rfl⟩
        rw [hx, HN.out] at hen
        have HX := Lib.hid hx
        clear hz hx hby
        by_cases hx0 : x.1 = 0
        · unfold endV at hen
          rw [if_pos hx0] at hen
          have HX0 := Lib.hid hx0
          clear hx0
          gi_wp2_with (first
            | (refine ⟨trivial, ?_⟩; gi_at_call 60; refine (callsIn_wide.2 (piece_yes b N cap i _ (by omega) hc hc2 (by omega))).mono ?_; rintro e w1 ⟨rfl, rfl⟩)
            | (refine ⟨trivial, ?_⟩; gi_at_call 61; refine (callsIn_wide.2 hem).mono ?_; rintro e w1 ⟨rfl, rfl⟩)
            | (refine ⟨trivial, ?_⟩; gi_at_call 62; refine (callsIn_wide.2 hen).mono ?_; rintro e w1 ⟨rfl, rfl⟩))
          exact bodyPost_ret (results_none rfl _ _ _) rfl ⟨⟨_, rfl⟩, .inl ⟨pre, (by rw [← hpre.out, rdGo_end (by have := hf.out; omega) (by rw [HN.out]; exact h1) HZ.out, HX.out, if_pos HX0.out, List.append_nil]), hj.out⟩⟩
        · have hg : pre ++ [.bad x.1 x.2] = rdGo l (l.length + 1) 0 := by rw [← hpre.out, rdGo_end (by have := hf.out; omega) (by rw [HN.out]; exact h1) HZ.out, HX.out, if_neg hx0]
          obtain ⟨fn, tmps, assign, body, hy, hR⟩ := HY.out pre (.bad x.1 x.2) wr hj.out (snoc_len hg)
          dsimp only [rdE, zm, faultV] at hy
          unfold endV at hen
          rw [if_neg hx0] at hen
          unfold faultV at hen
          have HX0 := Lib.hid hx0
          clear hx0
          gi_wp2_with (first
            | (refine ⟨trivial, ?_⟩; gi_at_call 60; refine (callsIn_wide.2 (piece_yes b N cap i _ (by omega) hc hc2 (by omega))).mono ?_; rintro e w1 ⟨rfl, rfl⟩)
            | (refine ⟨trivial, ?_⟩; gi_at_call 61; refine (callsIn_wide.2 hem).mono ?_; rintro e w1 ⟨rfl, rfl⟩)
            | (refine ⟨trivial, ?_⟩; gi_at_call 62; refine (callsIn_wide.2 hen).mono ?_; rintro e w1 ⟨rfl, rfl⟩))
          refine hR.mono ?_
          rintro e W' (⟨rfl, hJ', hk⟩ | ⟨rfl, hJx'⟩)
          · gi_wp2
            exact bodyPost_ret (results_none rfl _ _ _) rfl ⟨⟨_, rfl⟩, .inl ⟨_, hg, hJ'⟩⟩
          · gi_wp2
            exact bodyPost_ret (results_none rfl _ _ _) rfl ⟨⟨_, rfl⟩, .inr ⟨_, ⟨[], by rw [List.append_nil]; exact hg⟩, hJx'⟩⟩
      | false =>
        have HZ := Lib.hid hz
        have hem := empty_any b i l wr hby (by rw [HN.out]; omega)
        rw [hz] at hem
        have hme := member_any b i cap l wr hby (by rw [HN.out]; exact hl) (by rw [HN.out]; exact hc) hc2 (by rw [HN.out]; omega)
        rw [HN.out] at hme
        cases hR : memAt l i with
        | bad e j =>
          rw [hR] at hme
          unfold memV faultV at hme
          have HR := Lib.hid hR
          clear hR hz hby
          have hg : pre ++ [.bad e j] = rdGo l (l.length + 1) 0 := by rw [← hpre.out, rdGo_bad (by have := hf.out; omega) (by rw [HN.out]; exact h1) HZ.out HR.out]
          gi_wp2_with (first
            | (refine ⟨trivial, ?_⟩; gi_at_call 60; refine (callsIn_wide.2 (piece_yes b N cap i _ (by omega) hc hc2 (by omega))).mono ?_; rintro e w1 ⟨rfl, rfl⟩)
            | (refine ⟨trivial, ?_⟩; gi_at_call 61; refine (callsIn_wide.2 hem).mono ?_; rintro e w1 ⟨rfl, rfl⟩))
          refine ⟨trivial, ?_⟩
          refine (callsIn_wide.2 hme).mono ?_
          rintro _ w2 ⟨rfl, hb2⟩
          have hb3 := hb2.alloc hb2.size (.cells zm 26)
          have hj2 := HJ.out pre wr _ none hj.out (grown_none hb3) (by intro r h; cases h)
          obtain ⟨fn, tmps, assign, body, hy, hR⟩ := HY.out pre (.bad e j) _ hj2 (snoc_len hg)
          dsimp only [rdE, zm, faultV] at hy hR
          clear hb2 hb3 hj2
          gi_wp2
          refine hR.mono ?_
          rintro e' W' (⟨rfl, hJ', hk⟩ | ⟨rfl, hJx'⟩)
          · gi_wp2
            exact bodyPost_ret (results_none rfl _ _ _) rfl ⟨⟨_, rfl⟩, .inl ⟨_, hg, hJ'⟩⟩
          · gi_wp2
            exact bodyPost_ret (results_none rfl _ _ _) rfl ⟨⟨_, rfl⟩, .inr ⟨_, ⟨[], by rw [List.append_nil]; exact hg⟩, hJx'⟩⟩
        | good m k =>
          rw [hR] at hme
          unfold memV at hme
          have HR := Lib.hid hR
          clear hR hz hby
          have hg : pre ++ .mem m :: rdGo l (f - 1) k = rdGo l (l.length + 1) 0 := by rw [← hpre.out, rdGo_mem (by have := hf.out; omega) (by rw [HN.out]; exact h1) HZ.out HR.out]
          gi_wp2_with (first
            | (refine ⟨trivial, ?_⟩; gi_at_call 60; refine (callsIn_wide.2 (piece_yes b N cap i _ (by omega) hc hc2 (by omega))).mono ?_; rintro e w1 ⟨rfl, rfl⟩)
            | (refine ⟨trivial, ?_⟩; gi_at_call 61; refine (callsIn_wide.2 hem).mono ?_; rintro e w1 ⟨rfl, rfl⟩))
          refine ⟨trivial, ?_⟩
          refine (callsIn_wide.2 hme).mono ?_
          rintro _ w2 ⟨rfl, hb2⟩
          have hb3 := hb2.alloc hb2.size (.cells m.cells 26)
          have hj2 := HJ.out pre wr _ none hj.out (grown_none hb3) (by intro r h; cases h)
          obtain ⟨fn, tmps, assign, body, hy, hR⟩ := HY.out pre (.mem m) _ hj2 (snoc_len hg)
          dsimp only [rdE, Mem.cells] at hy hR
          have HB2 := Lib.hid hb3
          clear hb2 hb3 hj2
          gi_wp2
          refine hR.mono ?_
          rintro e' W' (⟨rfl, hJ', hk⟩ | ⟨rfl, hJx'⟩)
          · have HK := Lib.hid hk
            have HJ' := Lib.hid hJ'
            have HNX := Lib.hid (memAt_next HR.out)
            clear hk hJ'
            gi_wp2
            go_roundw
            case rel =>
              refine ⟨k, f - 1, pre ++ [.mem m], (by have := HNX.out.2; have := HN.out; omega), rfl, (by have := HNX.out; have := hf.out; show N < f - 1 + k; omega), (by show _ = _; rw [List.append_assoc]; exact hg), ?_, HJ'⟩
              exact hkp.out.trans (Kp2.trans ⟨HB2.out.size, HB2.out.block b HBY.out.1, HB2.out.block c (blk_lt HCR.out)⟩ HK.out)
            case measure => have := HNX.out; simp [intOf]; omega
          · gi_wp2
            exact bodyPost_ret (results_none rfl _ _ _) rfl ⟨⟨_, rfl⟩, .inr ⟨_, snoc_pre hg, hJx'⟩⟩
end Go.Proofs.YthpmocfdnoehoaaGreatDoor
/- Contracts of the functions on lists of members: CopyMembers. -/
namespace Go.Proofs.YthpmocfdnoehoaaGreatDoor
open Go.RowKit
def memCells (ms : List Mem) : List Value := ms.flatMap (fun m => m.cells.toList)
theorem memCells_snoc (p : List Mem) (m : Mem) : memCells (p ++ [m]) = memCells p ++ m.cells.toList := by
  unfold memCells; simp
theorem memCells_at : ∀ (ms : List Mem) (i j : Nat) (m : Mem), ms[i]? = some m → j < 13 → (memCells ms)[i * 13 + j]? = m.cells[j]?
  | [], i, j, m, h, _ => by simp at h
  | x :: r, 0, j, m, h, hj => by
    obtain rfl : x = m := by simpa using h
    unfold memCells
    rw [List.flatMap_cons, Nat.zero_mul, Nat.zero_add, List.getElem?_append_left (by simpa using hj), Array.getElem?_toList]
  | x :: r, i + 1, j, m, h, hj => by
    have h' : r[i]? = some m := by simpa using h
    have ih := memCells_at r i j m h' hj
    unfold memCells at ih ⊢
    rw [List.flatMap_cons, List.getElem?_append_right (by simp; omega), ← ih]
    congr 1
    simp
    omega
/-- A slice of members that a call has made. -/
def OwnMs (base : Nat) (ms : List Mem) (v : Value) (w : World) : Prop := w.ownsRow base 26 13 v ms.length (memCells ms) ∧ (v = .slice none 0 0 ↔ ms = [])
theorem OwnMs.keep {base : Nat} {ms : List Mem} {v : Value} {w w' : World} (h : OwnMs base ms v w) (hb : Below w.heap.size w w') : OwnMs base ms v w' := by
  refine ⟨?_, h.2⟩
  refine ⟨h.1.1, ?_⟩
  rcases h.1.2 with h2 | ⟨g, cap, cur, h1, h2, h3, h4⟩
  · exact .inl h2
  · exact .inr ⟨g, cap, cur, h1, h2, (hb.block g (blk_lt h3)).trans h3, h4⟩
theorem OwnMs.at {base : Nat} {ms : List Mem} {v : Value} {w : World} (h : OwnMs base ms v w) : ∃ p cap, v = .slice p ms.length cap ∧ MemsAt w p ms ∧ ms.length ≤ cap ∧ cap ≤ 9223372036854775807 := by
  rcases h.1.2 with ⟨h1, h2⟩ | ⟨g, cap, cur, h1, h2, h3, h4, h5, h6, h7⟩
  · have : ms = [] := List.eq_nil_of_length_eq_zero h2
    subst this
    exact ⟨none, 0, h1, ⟨(fun i hi => by cases hi), (fun b off hb => by cases hb)⟩, Nat.le_refl _, by omega⟩
  · refine ⟨_, cap, h1, ⟨fun i _ => ⟨g, 0, rfl, blk_lt h3⟩, fun b off hb i m hm j hj => ?_⟩, h4, by unfold maxLen at h5; omega⟩
    cases hb
    rw [Nat.zero_add, cell_of_heapN h3, ← memCells_at ms i j m hm hj, ← h7, List.getElem?_take, if_pos ?_, Array.getElem?_toList]
    have := (List.getElem?_eq_some_iff.1 hm).1
    omega
theorem info33 : (Tryz.prog.info? 26).map (fun i => (i.zero, i.size, i.bytes)) = some (some (.agg zm), 13, 144) := by kernel_rfl
theorem new13 (w : World) (m : Mem) (t : TypeId) : ∀ (j : Nat) (u : Value), (m.cells.toList)[j]? = some u → (w.alloc (.cells m.cells t)).cell? ((⟨w.heap.size, 0, none⟩ : Addr).add j) = some u := by
  intro j u h
  rw [show ((⟨w.heap.size, 0, none⟩ : Addr).add j) = ⟨w.heap.size, j, none⟩ by simp [Addr.add]; intro e; exact e.symm, cell_new, ← h, Array.getElem?_toList]
theorem one13 (m : Mem) : ∀ u ∈ m.cells.toList, u.oneCell' = true := by
  intro u hu
  simp only [Mem.cells, List.mem_cons, List.not_mem_nil, or_false] at hu
  rcases hu with rfl | rfl | rfl | rfl | rfl | rfl | rfl | rfl | rfl | rfl | rfl | rfl | rfl <;> rfl
theorem OwnMs.app {base : Nat} {ms : List Mem} {m : Mem} {v v' : Value} {w0 w w1 : World} {tmp : Obj} (h : OwnMs base ms v w) (hw : Below base w0 w) (hb : base ≤ w.heap.size) (hown' : w1.ownsRow base 26 13 v' (ms.length + 1) (memCells ms ++ m.cells.toList)) (hg : (w.alloc tmp).grownBy w1 v.ownBlock) :
    OwnMs base (ms ++ [m]) v' w1 ∧ Below base w0 w1 := by
  refine ⟨⟨by rw [memCells_snoc, List.length_append]; exact hown', ⟨fun e => ?_, fun e => by simp at e⟩⟩, ?_⟩
  · subst e
    rcases hown'.2 with ⟨_, h2⟩ | ⟨g, cap, cur, h1, _⟩
    · omega
    · cases h1
  · refine hw.trans (((Below.refl base w).alloc hb tmp).grown hg (by simp; omega) fun j ej => ?_)
    rcases h.1.2 with ⟨rfl, _⟩ | ⟨g, cap, cur, rfl, hb', _, _⟩
    · simp [Value.ownBlock] at ej
    · obtain rfl : g = j := by simpa [Value.ownBlock] using ej
      exact hb'
end Go.Proofs.YthpmocfdnoehoaaGreatDoor
/- archive.Read. -/
namespace Go.Proofs.YthpmocfdnoehoaaGreatDoor
open Go.RowKit Go.Shelf
attribute [local go_sem] Oper.semAt_some
/-- The members among what was handed out. -/
def okMems : List RdX → List Mem
  | [] => []
  | .mem m :: r => m :: okMems r
  | .bad _ _ :: r => okMems r
def allMem : List RdX → Prop
  | [] => True
  | .mem _ :: r => allMem r
  | .bad _ _ :: _ => False
theorem okMems_snoc (p : List RdX) (m : Mem) : okMems (p ++ [.mem m]) = okMems p ++ [m] := by
  induction p with
  | nil => rfl
  | cons x r ih => cases x with
    | mem m' => simp only [List.cons_append, okMems, ih]
    | bad e i => simp only [List.cons_append, okMems, ih]
theorem allMem_snoc {p : List RdX} {m : Mem} (h : allMem p) : allMem (p ++ [.mem m]) := by
  induction p with
  | nil => exact trivial
  | cons x r ih => cases x with
    | mem m' => exact ih h
    | bad e i => exact h.elim
/-- A block lies as it was laid. -/
theorem ownFrom_heap {β : Type} {B k : Nat} {o : Obj} (hk : k < B) : OwnFrom B (fun (_ : β) (W : World) => W.heap[k]? = some o) := by
  intro s W W' row hs hg hr
  have hlt := (Array.getElem?_eq_some_iff.1 hs).1
  exact (hg.block k hlt (fun e => by have := (hr k e.symm).1; omega)).trans hs
/-- What Read's own cells hold between two rounds. -/
def RdI (n0 : Nat) (OB OC : Obj) (w : World) (pre : List RdX) (W : World) : Prop :=
  ((((∃ v, Boxed W (n0 + 2) 22 v ∧ W.ownsRow n0 26 13 v (okMems pre).length (memCells (okMems pre)) ∧ (v = .slice none 0 0 ↔ okMems pre = [])) ∧
    Boxed W n0 22 (.slice none 0 0)) ∧ Boxed W (n0 + 1) 32 .nilIface) ∧ (W.heap[n0 + 3]? = some OB ∧ W.heap[n0 + 4]? = some OC)) ∧ (Below n0 w W ∧ allMem pre)
theorem rdI_own (n0 : Nat) (OB OC : Obj) (w : World) (hn : n0 ≤ w.heap.size) : OwnFrom (n0 + 5) (RdI n0 OB OC w) :=
  OwnFrom.and (OwnFrom.and (OwnFrom.and (OwnFrom.and (Own.from (holdsRow_own n0 (n0 + 2) _ _ 13 (fun pre => (okMems pre).length) (fun pre => memCells (okMems pre)) (fun pre v => v = .slice none 0 0 ↔ okMems pre = [])) _)
    (Own.from (boxed_own n0 _ (fun _ => .slice none 0 0)) _)) (Own.from (boxed_own (n0 + 1) _ (fun _ => .nilIface)) _)) (OwnFrom.and (ownFrom_heap (by omega)) (ownFrom_heap (by omega)))) (OwnFrom.and (ownFrom_below hn (by omega)) (ownFrom_pure _ _))
/-- A round has left: the error is the result. -/
def RdX' (n0 : Nat) (w : World) (c : Code) (pre : List RdX) (W : World) : Prop :=
  ∃ (e : Int) (i : Nat), (c = .ret ∧ ∃ p, pre = p ++ [.bad e i]) ∧ ((Boxed W n0 22 (.slice none 0 0) ∧ Boxed W (n0 + 1) 32 (faultV e 0 i)) ∧ Below n0 w W)
theorem rdX_own (n0 : Nat) (w : World) (c : Code) (hn : n0 ≤ w.heap.size) : OwnFrom (n0 + 5) (RdX' n0 w c) := by
  rintro s W W' row ⟨e, i, hp, hs⟩ hg hr
  exact ⟨e, i, hp, (OwnFrom.and (OwnFrom.and (Own.from (boxed_own n0 _ (fun (_ : Unit) => .slice none 0 0)) _) (Own.from (boxed_own (n0 + 1) _ (fun (_ : Unit) => faultV e 0 i)) _)) (ownFrom_below hn (by omega))) () W W' row hs hg hr⟩
/-- The world at the loop's start. -/
structure RdS (n0 cap : Nat) (s : ByteArray) (w W0 : World) (OB : Obj) : Prop where
  r1 : Boxed W0 n0 22 (.slice none 0 0)
  r2 : Boxed W0 (n0 + 1) 32 .nilIface
  l : Boxed W0 (n0 + 2) 22 (.slice none 0 0)
  ob : W0.heap[n0 + 3]? = some OB
  oc : W0.heap[n0 + 4]? = some (.cells #[.slice (some ⟨n0 + 3, 0, none⟩) s.size cap] 48 (0, 0))
  bel : Below n0 w W0
  size : W0.heap.size = n0 + 5
  by' : ByAt W0 (n0 + 3) s.data.toList
theorem rd_start {w V : World} {n0 cap : Nat} {s : ByteArray} (hn : w.heap.size = n0) (hV : (((w.alloc (.cells #[.slice none 0 0] 22)).alloc (.cells #[.nilIface] 32)).alloc (.cells #[.slice none 0 0] 22)) = V) :
    RdS n0 cap s w ((Lib.bytesWorld V 5 s).alloc (.cells #[.slice (some ⟨n0 + 3, 0, none⟩) s.size cap] 48)) (.cells (Lib.bytesCells V 5 s) 5 ((Lib.bytesCells V 5 s).size, (Lib.bytesCells V 5 s).size + 1)) := by
  subst hn
  have hVs : V.heap.size = w.heap.size + 3 := by rw [← hV]; simp
  have hBs : (Lib.bytesWorld V 5 s).heap.size = w.heap.size + 4 := by rw [Lib.bytesWorld_size, hVs]
  have old : ∀ (c : Array Value) (t : TypeId) (k : Nat), k < w.heap.size + 3 → ((Lib.bytesWorld V 5 s).alloc (.cells c t)).heap[k]? = V.heap[k]? := fun c t k hk =>
    (Below.heap_alloc _ _ _ (by omega)).trans (Lib.bytesWorld_at_old V _ s k (by omega))
  have n0' := heap_new w (.cells #[.slice none 0 0] 22)
  have n1' := heap_new (w.alloc (.cells #[.slice none 0 0] 22)) (.cells #[.nilIface] 32)
  have n2' := heap_new ((w.alloc (.cells #[.slice none 0 0] 22)).alloc (.cells #[.nilIface] 32)) (.cells #[.slice none 0 0] 22)
  rw [World.size_alloc] at n1'
  rw [World.size_alloc, World.size_alloc] at n2'
  refine ⟨?_, ?_, ?_, ?_, ?_, ?_, ?_, ?_, ?_⟩
  · exact (old _ _ _ (by omega)).trans (by rw [← hV]; exact (Below.heap_alloc _ _ _ (by simp; omega)).trans ((Below.heap_alloc _ _ _ (by simp)).trans n0'))
  · exact (old _ _ _ (by omega)).trans (by rw [← hV]; exact (Below.heap_alloc _ _ _ (by simp)).trans n1')
  · exact (old _ _ _ (by omega)).trans (by rw [← hV]; exact n2')
  · rw [Below.heap_alloc _ _ _ (by omega), ← hVs]; exact Lib.bytesWorld_at_new V _ s
  · have := heap_new (Lib.bytesWorld V 5 s) (.cells #[.slice (some ⟨w.heap.size + 3, 0, none⟩) s.size cap] 48)
    rw [hBs] at this
    exact this
  · have h1 : Below w.heap.size w V := by rw [← hV]; exact (((Below.refl _ w).alloc (Nat.le_refl _) _).alloc (by simp) _).alloc (by simp; omega) _
    have h2 : Below w.heap.size V (Lib.bytesWorld V 5 s) := ⟨rfl, rfl, rfl, by omega, fun k hk => Lib.bytesWorld_at_old V _ s k (by omega)⟩
    exact (h1.trans h2).alloc (by omega) _
  · rw [World.size_alloc, hBs]
  · rw [World.size_alloc, hBs]; omega
  · intro i x hx
    have hi : i < s.size := (List.getElem?_eq_some_iff.1 hx).1
    have h1 := Lib.bytesWorld_cell V 5 s i hi
    rw [hVs] at h1
    rw [World.cell?_of_block (w := Lib.bytesWorld V 5 s) (Below.heap_alloc _ _ _ (by show w.heap.size + 3 < _; omega)), h1]
    rw [List.getD_eq_getElem?_getD, hx]
    rfl
theorem rdGo_len (l : Bs) : ∀ f i, (rdGo l f i).length ≤ f := by
  intro f
  induction f with
  | zero => intro i; simp [rdGo]
  | succ f ih =>
    intro i
    rw [rdGo]
    split
    · simp
    · split
      · split <;> simp
      · split
        · simp
        · rw [List.length_cons]; have := ih (by assumption); omega
theorem rdGo_shape (l : Bs) : ∀ f i, (∃ ms : List Mem, rdGo l f i = ms.map .mem) ∨ ∃ (ms : List Mem) (e : Int) (j : Nat), rdGo l f i = ms.map .mem ++ [.bad e j] := by
  intro f
  induction f with
  | zero => intro i; exact .inl ⟨[], rfl⟩
  | succ f ih =>
    intro i
    rw [rdGo]
    split
    · exact .inr ⟨[], _, _, rfl⟩
    · split
      · split
        · exact .inl ⟨[], rfl⟩
        · exact .inr ⟨[], _, _, rfl⟩
      · split
        · exact .inr ⟨[], _, _, rfl⟩
        · rename_i m n _
          rcases ih n with ⟨ms, h⟩ | ⟨ms, e, j, h⟩
          · exact .inl ⟨m :: ms, by rw [h]; rfl⟩
          · exact .inr ⟨m :: ms, e, j, by rw [h]; rfl⟩
theorem no_bad : ∀ (p q : List RdX) (ms : List Mem) (e : Int) (i : Nat), p ++ .bad e i :: q ≠ ms.map .mem
  | [], q, [], e, i => by simp
  | [], q, m :: ms, e, i => by simp
  | x :: p, q, [], e, i => by simp
  | x :: p, q, m :: ms, e, i => by
    intro h
    rw [List.cons_append, List.map_cons] at h
    exact no_bad p q ms e i (List.cons.inj h).2
theorem one_bad : ∀ (p q : List RdX) (ms : List Mem) (e e' : Int) (i j : Nat), p ++ .bad e i :: q = ms.map .mem ++ [.bad e' j] → e = e' ∧ i = j
  | [], q, [], e, e', i, j, h => by
    obtain ⟨h1, -⟩ := List.cons.inj h
    exact RdX.bad.inj h1
  | [], q, m :: ms, e, e', i, j, h => by cases (List.cons.inj h).1
  | x :: p, q, [], e, e', i, j, h => by
    have := (List.cons.inj h).2
    simp at this
  | x :: p, q, m :: ms, e, e', i, j, h => one_bad p q ms e e' i j (List.cons.inj h).2
theorem all_map {p : List RdX} : allMem p → p = (okMems p).map .mem := by
  intro h
  induction p with
  | nil => rfl
  | cons x r ih => cases x with
    | mem m => rw [okMems, List.map_cons, ← ih h]
    | bad e i => exact h.elim
theorem okMems_le (p : List RdX) : (okMems p).length ≤ p.length := by
  induction p with
  | nil => exact Nat.le_refl _
  | cons x r ih => cases x with
    | mem m => simp only [okMems, List.length_cons]; omega
    | bad e i => simp only [okMems, List.length_cons]; omega
/-- What a store behind an append leaves as it lay. -/
theorem app_other {W w1 : World} {base B j : Nat} {v u : Value} {k : Nat} {xs : List Value} {tmp : Obj} {c : Array Value} {t : TypeId} {fz : Nat × Nat} (hrow : W.ownsRow base 26 13 v k xs) (hgrow : (W.alloc tmp).grownBy w1 v.ownBlock) (hj : W.heap[j]? = some (.cells c t fz)) (ht : t ≠ 26) (hB : j ≠ B) :
    (w1.setCell ⟨B, 0, none⟩ u).heap[j]? = W.heap[j]? := by
  have hlt := blk_lt hj
  have h1 : (w1.setCell ⟨B, 0, none⟩ u).heap[j]? = w1.heap[j]? := by
    simp only [World.setCell, Array.getElem?_modify, if_neg (Ne.symm hB)]
  rw [h1, hgrow.block j (by simp; omega) (fun e => ?_), Below.heap_alloc _ _ _ hlt]
  rcases hrow.2 with ⟨rfl, _⟩ | ⟨g, cap, cur, rfl, _, hg, _⟩
  · simp [Value.ownBlock] at e
  · obtain rfl : g = j := by simpa [Value.ownBlock] using e.symm
    rw [hg] at hj
    cases hj
    exact ht rfl
theorem rd_app {n0 : Nat} {OB OC : Obj} {w W w1 : World} {pre : List RdX} {m : Mem} {v v' : Value} {tmp : Obj} (hO : ∃ c f, OB = .cells c 5 f) (hC : ∃ c f, OC = .cells c 48 f)
    (hI : RdI n0 OB OC w pre W) (hrow : W.ownsRow n0 26 13 v (okMems pre).length (memCells (okMems pre))) (hgrow : (W.alloc tmp).grownBy w1 v.ownBlock)
    (hv2 : Boxed (w1.setCell ⟨n0 + 2, 0, none⟩ v') (n0 + 2) 22 v') (hr2 : (w1.setCell ⟨n0 + 2, 0, none⟩ v').ownsRow n0 26 13 v' ((okMems pre).length + 1) (memCells (okMems pre) ++ m.cells.toList)) (hne : v' ≠ .slice none 0 0) (hb2 : Below n0 W (w1.setCell ⟨n0 + 2, 0, none⟩ v')) :
    Kp2 (n0 + 3) (n0 + 4) W (w1.setCell ⟨n0 + 2, 0, none⟩ v') ∧ RdI n0 OB OC w (pre ++ [.mem m]) (w1.setCell ⟨n0 + 2, 0, none⟩ v') := by
  obtain ⟨c, f, rfl⟩ := hO
  obtain ⟨c2, f2, rfl⟩ := hC
  obtain ⟨⟨⟨⟨_, h1⟩, h2⟩, h3, h4⟩, hB, hall⟩ := hI
  have e1 := app_other (u := v') (B := n0 + 2) hrow hgrow (show W.heap[n0]? = _ from h1) (by decide) (by omega)
  have e2 := app_other (u := v') (B := n0 + 2) hrow hgrow (show W.heap[n0 + 1]? = _ from h2) (by decide) (by omega)
  have e3 := app_other (u := v') (B := n0 + 2) hrow hgrow h3 (by decide) (by omega)
  have e4 := app_other (u := v') (B := n0 + 2) hrow hgrow h4 (by decide) (by omega)
  refine ⟨⟨hb2.size, e3, e4⟩, ⟨⟨⟨⟨v', hv2, ?_, ?_⟩, e1.trans h1⟩, e2.trans h2⟩, e3.trans h3, e4.trans h4⟩, hB.trans hb2, allMem_snoc hall⟩
  · rw [okMems_snoc, memCells_snoc, List.length_append]; exact hr2
  · rw [okMems_snoc]
    exact ⟨fun e => absurd e hne, fun e => by simp at e⟩
theorem row_slice {W : World} {base size : Nat} {e : TypeId} {v : Value} {k : Nat} {xs : List Value} (h : W.ownsRow base e size v k xs) : ∃ p n c, v = .slice p n c := by
  rcases h.2 with ⟨rfl, _⟩ | ⟨g, cap, cur, rfl, _⟩
  · exact ⟨_, _, _, rfl⟩
  · exact ⟨_, _, _, rfl⟩
/-- What Read answers. -/
def RdPost (l : Bs) (w : World) (e : Ending) (W' : World) : Prop :=
  ((∃ (ms : List Mem) (v : Value), rdGo l (l.length + 1) 0 = ms.map .mem ∧ e = .returned (.tuple #[v, .nilIface]) ∧ W'.ownsRow w.heap.size 26 13 v ms.length (memCells ms) ∧ (v = .slice none 0 0 ↔ ms = [])) ∨
   (∃ (ms : List Mem) (x : Int) (i : Nat), rdGo l (l.length + 1) 0 = ms.map .mem ++ [.bad x i] ∧ e = .returned (.tuple #[.slice none 0 0, faultV x 0 i]))) ∧ Below w.heap.size w W'
set_option maxHeartbeats 1600000 in
set_option maxRecDepth 100000 in
theorem read_walk (s : ByteArray) (w : World) (hs : s.size ≤ 33554432) :
    Calls Tryz.prog 16 #[.string s] w (RdPost s.data.toList w) := by
  refine (callsIn_wide (n := 5)).1 ?_
  refine callsIn_of_wp_marks Tryz.func16 rfl trivial ?_ rfl
  simp only [Tryz.ntmps16, List.size_toArray, List.length_cons, List.length_nil, Nat.reduceAdd, Nat.reduceSub, Array.replicate_succ, Array.replicate_zero, List.push_toArray, List.append_toArray, List.nil_append, List.cons_append]
  have hcv : ∀ W : World, (convert 9 48 (.string s)).run Tryz.prog W = .ok (.slice (some ⟨W.heap.size, 0, none⟩) s.size (grownCap W s.size 0 5)) (Lib.bytesWorld W 5 s) := fun W =>
    Lib.run_convert_string_bytes W 9 48 5 s Tryz.underlying9 Tryz.underlying48 Tryz.underlying5
  gi_wp2_with (refine ⟨trivial, ?_⟩; gi_at_call 40; refine (callsIn_wide.2 (members_any _ _ _ _)).mono ?_; rintro e w1 ⟨rfl, rfl⟩)
  obtain ⟨n0, hn0⟩ : ∃ n0, w.heap.size = n0 := ⟨_, rfl⟩
  generalize hV : (((w.alloc (.cells #[.slice none 0 0] 22)).alloc (.cells #[.nilIface] 32)).alloc (.cells #[.slice none 0 0] 22)) = V
  have hVs : V.heap.size = n0 + 3 := by rw [← hV]; simp; omega
  generalize hcap : grownCap V s.size 0 5 = cap
  have hc1 : s.size ≤ cap := by rw [← hcap]; exact grownCap_ge _ _ _ _
  have hc2 : cap ≤ 9223372036854775807 := by rw [← hcap]; exact grownCap_le_maxLen _ _ _ _ (by unfold maxLen; omega)
  have hst := rd_start (cap := cap) (s := s) hn0 hV
  have HO : Hid (∃ c f, Obj.cells (Lib.bytesCells V 5 s) 5 ((Lib.bytesCells V 5 s).size, (Lib.bytesCells V 5 s).size + 1) = .cells c 5 f) := ⟨_, _, rfl⟩
  rw [Lib.bytesWorld_size, hVs, hn0]
  generalize hOB : Obj.cells (Lib.bytesCells V 5 s) 5 ((Lib.bytesCells V 5 s).size, (Lib.bytesCells V 5 s).size + 1) = OB at hst HO
  generalize hW0 : (Lib.bytesWorld V 5 s).alloc (.cells #[.slice (some ⟨n0 + 3, 0, none⟩) s.size cap] 48) = W0 at hst ⊢
  clear hV hVs hcap hOB hW0 hcv
  obtain ⟨i0, hi, hz0, hz1, hz2⟩ := info_parts info33
  have hsz := hst.size
  refine wpIn_rangeFunc_ownH rfl (by omega) (gf := 59) (lb := #[.pointer (some ⟨n0 + 4, 0, none⟩)]) rfl trivial (enters_of Tryz.func59 (by kernel_rfl) rfl)
    (mems_stops (n0 + 3) (n0 + 4) cap s.data.toList W0 hst.by' (by show s.size ≤ _; omega) hc1 hc2 hst.oc 4 (by omega)) Kp2.trans (Kp2.put (by omega) (by omega)) (Below.refl _ _) (fun x => by cases x <;> rfl)
    (RdI n0 OB _ w) (RdX' n0 w) (by rw [hsz]; exact rdI_own n0 OB _ w (by omega)) (fun c => by rw [hsz]; exact rdX_own n0 w c (by omega))
    ⟨⟨⟨⟨⟨_, hst.l, World.ownsRow_nil _ _ _ _, by simp [okMems]⟩, hst.r1⟩, hst.r2⟩, hst.ob, hst.oc⟩, hst.bel, trivial⟩
    (fun x a' W => ∃ Bx, n0 + 4 < Bx ∧ W.heap[Bx]? = some (.cells (rdE x)[0]!.cells 26 (0, 0)) ∧ a' = { tmps := #[.string s, undef, .pointer (some ⟨n0, 0, none⟩), .pointer (some ⟨n0 + 1, 0, none⟩), .pointer (some ⟨n0 + 1 + 1, 0, none⟩), .pointer (some ⟨Bx, 0, none⟩), (rdE x)[1]!, .string s, .int .i64 s.size, .bool (decide (33554432 < (s.size : Int))), undef, undef, .string s, .slice (some ⟨n0 + 3, 0, none⟩) s.size cap, .func (.func 59) #[] #[.pointer (some ⟨n0 + 4, 0, none⟩)], (rdE x)[0]!, (rdE x)[1]!, undef, undef, undef, undef, undef, undef, undef, undef], defers := [] })
    (fun x a' _ X Y row hs hg hr => by
      obtain ⟨Bx, h1, h2, h3⟩ := hs
      refine ⟨Bx, h1, (hg.block Bx (blk_lt h2) (fun e => ?_)).trans h2, h3⟩
      obtain ⟨_, o, ho, hc⟩ := hr Bx e.symm
      rw [h2] at ho; cases ho; cases hc)
    ?assign ?body ?done ?stop
  case assign =>
    rintro l pre x W K hI hK
    have h4 := blk_lt hI.1.2.2
    have h3 := blk_lt hI.1.2.1
    cases x with
    | mem m =>
      dsimp only [rdE, Mem.cells]
      gi_wp2
      exact hK _ _ ((KeepsOthers.alloc _ _).from _) ⟨by simp, Below.heap_alloc _ _ _ h3, Below.heap_alloc _ _ _ h4⟩ ((rdI_own n0 OB _ w (by omega)).alloc _ hI) ⟨W.heap.size, h4, heap_new W _, rfl⟩
    | bad e i =>
      dsimp only [rdE, zm, faultV]
      gi_wp2
      exact hK _ _ ((KeepsOthers.alloc _ _).from _) ⟨by simp, Below.heap_alloc _ _ _ h3, Below.heap_alloc _ _ _ h4⟩ ((rdI_own n0 OB _ w (by omega)).alloc _ hI) ⟨W.heap.size, h4, heap_new W _, rfl⟩
  case body =>
    rintro l pre x a' W hl ⟨r, hr⟩ hI ⟨Bx, hBx, bX, rfl⟩ hlt
    have HI := Lib.hid hI
    obtain ⟨⟨⟨⟨⟨v, hv, hrow, hnil⟩, hr1⟩, hr2⟩, hob, hoc⟩, hB, hall⟩ := hI
    have hc := hv.cell
    cases x with
    | mem m =>
      dsimp only [rdE] at bX
      have cX : ∀ i : Nat, W.cell? ⟨Bx, i, none⟩ = m.cells[i]? := fun i => cell_of_heapN bX
      have hlen := rdGo_len s.data.toList (s.data.toList.length + 1) 0
      have hpl := okMems_le pre
      have hsl : s.data.toList.length = s.size := rfl
      have HPL := Lib.hid (show (okMems pre).length ≤ 33554433 by omega)
      have HBz := Lib.hid hB.size
      clear hlen hpl hsl hlt
      dsimp only [rdE]
      gi_wp2_with (gi_at_builtin; refine wpListIn_append_own _ rfl _ _ 22 rfl n0 26 i0 (.agg zm) 13 144 Tryz.underlying22 hi hz0 hz1 hz2 rfl (by decide) _ _ _ rfl (hrow.alloc _) ⟨W.heap.size, 0, none⟩ 1 1 m.cells.toList rfl rfl (new13 W m _) (one13 m) (by have := HPL.out; unfold maxLen; omega) (by have := HPL.out; omega) (by have := HBz.out; rw [World.size_alloc]; omega) ?_; intro v' w1 hown' hgrow hnil'; obtain ⟨g', cap', rfl⟩ := ownsRow_succ hown'; obtain ⟨hv1, hv2, hr2', hk2, hb2⟩ := hv.appended (by decide) hrow (by have := HBz.out; omega) (by omega) hown' hgrow; have hc1 := hv1.cell; have hf1 := hv1.frozen)
      exact ⟨hk2.from _, rd_app HO.out ⟨_, _, rfl⟩ HI.out hrow hgrow hv2 hr2' (by simp) hb2⟩
    | bad e i =>
      have c1 := hr1.cell
      have f1 := hr1.frozen
      have c2 := hr2.cell
      have f2 := hr2.frozen
      dsimp only [rdE, faultV]
      gi_wp2
      exact ⟨((KeepsOthers.setCell _ _ _).trans (KeepsOthers.setCell _ _ _)).from _, e, i, ⟨rfl, pre, rfl⟩, ⟨(hr1.set _).other (by omega) _, (hr2.other (by omega) _).set _⟩, (hB.setCell (p := ⟨n0, 0, none⟩) (Nat.le_refl _) _).setCell (p := ⟨n0 + 1, 0, none⟩) (by simp) _⟩
  case done =>
    rintro D ys W hD hys hI hK
    have HI := Lib.hid hI
    obtain ⟨⟨⟨⟨⟨v, hv, hrow, hnil⟩, hr1⟩, hr2⟩, hob, hoc⟩, hB, hall⟩ := hI
    obtain ⟨pp, pk, pc, rfl⟩ := row_slice hrow
    have hc := hv.cell
    have c1 := hr1.cell
    have f1 := hr1.frozen
    have c2 := hr2.cell
    have f2 := hr2.frozen
    gi_wp2
    have b1 : Boxed ((W.setCell ⟨n0, 0, none⟩ (.slice pp pk pc)).setCell ⟨n0 + 1, 0, none⟩ .nilIface) n0 22 (.slice pp pk pc) := (hr1.set _).other (by omega) _
    have b2 : Boxed ((W.setCell ⟨n0, 0, none⟩ (.slice pp pk pc)).setCell ⟨n0 + 1, 0, none⟩ .nilIface) (n0 + 1) 32 .nilIface := (hr2.other (by omega) _).set _
    have hB2 : Below n0 w ((W.setCell ⟨n0, 0, none⟩ (.slice pp pk pc)).setCell ⟨n0 + 1, 0, none⟩ .nilIface) := (hB.setCell (p := ⟨n0, 0, none⟩) (Nat.le_refl _) _).setCell (p := ⟨n0 + 1, 0, none⟩) (by simp) _
    have hK2 := ((KeepsOthers.setCell W ⟨n0, 0, none⟩ (.slice pp pk pc)).trans (KeepsOthers.setCell _ ⟨n0 + 1, 0, none⟩ .nilIface)).same D _ hK rfl
    have ro : ((W.setCell ⟨n0, 0, none⟩ (.slice pp pk pc)).setCell ⟨n0 + 1, 0, none⟩ .nilIface).ownsRow n0 26 13 (.slice pp pk pc) (okMems ys).length (memCells (okMems ys)) :=
      (hrow.kept (grownBy_setCell' W n0 _) (.inr (hr1.not_row (by decide) hrow).symm)).kept (grownBy_setCell' _ (n0 + 1) _) (.inr (fun e => by
        have h1 := hr2.not_row (by decide) hrow
        exact h1 e.symm))
    generalize (W.setCell ⟨n0, 0, none⟩ (.slice pp pk pc)).setCell ⟨n0 + 1, 0, none⟩ .nilIface = W2 at b1 b2 hB2 hK2 ro ⊢
    refine ⟨by simp, .inl ⟨_, _, rfl, run_takeDeferred hK2, ?_⟩⟩
    have hc5 := cell_kept b1.cell (grownBy_putObj' _ D (.deferred none)) (fun r e => by cases e; exact ⟨_, hK2, rfl⟩)
    have hc6 := cell_kept b2.cell (grownBy_putObj' _ D (.deferred none)) (fun r e => by cases e; exact ⟨_, hK2, rfl⟩)
    refine ⟨.tuple #[.slice pp pk pc, .nilIface], by simp [results, Tryz.f16, go_sem, hc5, hc6], ?_, ?_⟩
    · subst hn0
      refine .inl ⟨okMems ys, _, by rw [← hys]; exact all_map hall, rfl, ownsRow_putObj ro _ hK2 rfl, hnil⟩
    · subst hn0
      exact hB2.trans (belowK_b (w := w) (Nat.le_refl _) W2 D _ _ (by omega) hK2 rfl rfl)
  case stop =>
    rintro D c pre W hD hpre ⟨e, i, ⟨rfl, p, rfl⟩, ⟨hr1, hr2⟩, hB⟩ hK
    unfold faultV at hr2
    gi_wp2
    refine ⟨by simp, .inl ⟨_, _, rfl, run_takeDeferred hK, ?_⟩⟩
    have hc5 := cell_kept hr1.cell (grownBy_putObj' _ D (.deferred none)) (fun r e => by cases e; exact ⟨_, hK, rfl⟩)
    have hc6 := cell_kept hr2.cell (grownBy_putObj' _ D (.deferred none)) (fun r e => by cases e; exact ⟨_, hK, rfl⟩)
    refine ⟨.tuple #[.slice none 0 0, faultV e 0 i], by unfold faultV; simp [results, Tryz.f16, go_sem, hc5, hc6], ?_, ?_⟩
    · right
      obtain ⟨q, hq⟩ := hpre
      rw [List.append_assoc, List.singleton_append] at hq
      rcases rdGo_shape s.data.toList (s.data.toList.length + 1) 0 with ⟨ms, h⟩ | ⟨ms, x, j, h⟩
      · exact absurd (hq.trans h) (no_bad p q ms e i)
      · obtain ⟨rfl, rfl⟩ := one_bad p q ms e x i j (hq.trans h)
        exact ⟨ms, e, i, h, rfl⟩
    · subst hn0
      exact hB.trans (belowK_b (w := w) (Nat.le_refl _) W D _ _ (by omega) hK rfl rfl)
end Go.Proofs.YthpmocfdnoehoaaGreatDoor
/- Contract of the reference's Read. -/
namespace Go.Proofs.YthpmocfdnoehoaaGreatDoor
open Go.RowKit
def RdPostR (l : Bs) (w : World) (e : Ending) (W' : World) : Prop :=
  ((∃ ms v, rdGo l (l.length + 1) 0 = ms.map .mem ∧ e = .returned (.tuple #[v, .int .i64 0, .int .i64 0]) ∧ OwnMs w.heap.size ms v W') ∨
   (∃ (ms : List Mem) (x : Int) (i : Nat), rdGo l (l.length + 1) 0 = ms.map .mem ++ [.bad x i] ∧ e = .returned (.tuple #[.slice none 0 0, .int .i64 x, .int .i64 i]))) ∧ Below w.heap.size w W'
theorem RdPostR.bad {l : Bs} {w W' : World} {ms : List Mem} {x : Int} {i : Nat} (h : rdGo l (l.length + 1) 0 = ms.map .mem ++ [.bad x i]) (hb : Below w.heap.size w W') :
    RdPostR l w (.returned (.tuple #[.slice none 0 0, .int .i64 x, .int .i64 i])) W' := ⟨.inr ⟨ms, x, i, h, rfl⟩, hb⟩
/-- What lies in memory when a member is put behind the others. -/
structure RdG (w0 : World) (ms : List Mem) (v : Value) (H : Hdr) (B : Nat) (w : World) : Prop where
  own : OwnMs w0.heap.size ms v w
  bel : Below w0.heap.size w0 w
  hh : w.heap[B]? = some (.cells H.cells 24 (0, 0))
theorem RdG.keep {w0 w w' : World} {ms : List Mem} {v : Value} {H : Hdr} {B : Nat} (h : RdG w0 ms v H B w) (hb : Below w.heap.size w w') : RdG w0 ms v H B w' :=
  ⟨h.own.keep hb, h.bel.trans (hb.mono h.bel.size), (hb.block _ (blk_lt h.hh)).trans h.hh⟩
theorem RdG.cell {w0 w : World} {ms : List Mem} {v : Value} {H : Hdr} {B : Nat} (h : RdG w0 ms v H B w) : ∀ i : Nat, w.cell? ⟨B, i, none⟩ = H.cells[i]? := fun _ => cell_of_heapN h.hh
def RdGB (w0 : World) (ms : List Mem) (v : Value) (m : Mem) (B b : Nat) (w : World) : Prop := RdG w0 ms v m.hdr B w ∧ w.heap[b]? = some (.cells m.cells 26 (0, 0))
theorem at13 {w : World} {b : Nat} {m : Mem} {t : TypeId} (h : w.heap[b]? = some (.cells m.cells t (0, 0))) : ∀ (j : Nat) (u : Value), (m.cells.toList)[j]? = some u → w.cell? ((⟨b, 0, none⟩ : Addr).add j) = some u := by
  intro j u hj
  rw [show ((⟨b, 0, none⟩ : Addr).add j) = ⟨b, j, none⟩ by simp [Addr.add]; intro e; exact e.symm, cell_of_heapN h, ← hj, Array.getElem?_toList]
theorem RdG.app {w0 w w1 : World} {ms : List Mem} {m : Mem} {v v' : Value} {B : Nat} (h : RdG w0 ms v m.hdr B w) (hown' : w1.ownsRow w0.heap.size 26 13 v' (ms.length + 1) (memCells ms ++ m.cells.toList)) (hg : w.grownBy w1 v.ownBlock) :
    RdG w0 (ms ++ [m]) v' m.hdr B w1 := by
  have hob : ∀ j, v.ownBlock = some j → w0.heap.size ≤ j ∧ j ≠ B := fun j ej => by
    rcases h.own.1.2 with ⟨rfl, _⟩ | ⟨g, cap, cur, rfl, hb', hg', _⟩
    · simp [Value.ownBlock] at ej
    · obtain rfl : g = j := by simpa [Value.ownBlock] using ej
      refine ⟨hb', fun e => ?_⟩
      rw [e, h.hh] at hg'
      exact absurd (Obj.cells.inj (Option.some.inj hg')).2.1 (by decide)
  refine ⟨⟨by rw [memCells_snoc, List.length_append]; exact hown', ⟨fun e => ?_, fun e => by simp at e⟩⟩, ?_, ?_⟩
  · subst e
    rcases hown'.2 with ⟨_, h2⟩ | ⟨g, cap, cur, h1, _⟩
    · omega
    · cases h1
  · exact h.bel.trans ((Below.refl w0.heap.size w).grown hg h.bel.size fun j ej => (hob j ej).1)
  · exact (hg.block B (blk_lt h.hh) (fun e => (hob B e.symm).2 rfl)).trans h.hh
set_option maxRecDepth 100000 in
theorem ReadR_big (s : ByteArray) (w : World) (hs : (33554432 : Int) < (s.size : Int)) :
    Calls Tryz.prog 34 #[.string s] w fun e w' => e = .returned (.tuple #[.slice none 0 0, .int .i64 5, .int .i64 33554432]) ∧ Below w.heap.size w w' := by
  go_enter Tryz.func34, Tryz.ntmps34
  go_wp2_with fail
  go_ret3
  exact ⟨rfl, Below.refl _ _⟩
set_option maxHeartbeats 6400000 in
set_option maxRecDepth 100000 in
theorem ReadR_any (s : ByteArray) (w : World) (hs : (s.size : Int) ≤ 33554432) :
    Calls Tryz.prog 34 #[.string s] w (RdPostR s.data.toList w) := by
  obtain ⟨i0, hi, hz0, hz1, hz2⟩ := info_parts info33
  have hsl : s.data.toList.length = s.size := rfl
  have HSL := Lib.hid hsl
  clear hsl
  go_enter Tryz.func34, Tryz.ntmps34
  go_wp2_with fail
  go_loopw [5, 6] (fun v iv wr => ∃ (i f : Nat) (ms : List Mem), (i : Int) ≤ (s.size : Int) ∧ iv = .int .i64 i ∧ Hid (s.size < f + i) ∧ Hid (ms.length ≤ i) ∧ Hid (ms.map RdX.mem ++ rdGo s.data.toList f i = rdGo s.data.toList (s.data.toList.length + 1) 0) ∧ Hid (OwnMs w.heap.size ms v wr) ∧ Hid (Below w.heap.size w wr)) (fun _ iv _ => s.size + 1 - (intOf iv).toNat)
  case atStart => exact ⟨0, s.size + 1, [], by omega, rfl, (show s.size < s.size + 1 + 0 by omega), Nat.le_refl _, rfl, ⟨World.ownsRow_nil _ _ _ _, by simp⟩, Below.refl _ _⟩
  case round =>
    obtain ⟨i, f, ms, hle, rfl, hf, hml, hpre, hown, hbel⟩ := hrel
    have hf0 := Lib.hid (show 0 < f by have := hf.out; omega)
    by_cases h1 : (s.size : Int) < (i : Int) + 512
    · have HG := Lib.hid (show rdGo s.data.toList (s.data.toList.length + 1) 0 = ms.map .mem ++ [.bad 2 i] by rw [← hpre.out, rdGo_short hf0.out (by rw [HSL.out]; omega)])
      go_wp2_with fail
      go_ret3
      exact RdPostR.bad HG.out hbel.out
    · have HNN := Lib.hid (fun w1 => noughts_any s i w1 (by omega) (by omega))
      have H1 := Lib.hid (show ¬ s.data.toList.length < i + 512 by rw [HSL.out]; omega)
      go_wp2_with fail
      refine (HNN.out _).mono ?_
      rintro e w1 ⟨rfl, hb1⟩
      have HO1 := Lib.hid (hown.out.keep hb1)
      have HB1 := Lib.hid (hbel.out.trans (hb1.mono hbel.out.size))
      clear hb1 hown hbel HNN
      cases hz : zeroAt s.data.toList i with
      | true =>
        have HZ := Lib.hid hz
        have hbe := fun w2 => behindR_any s (i + 512) w2 (by omega) (by omega)
        rw [← HSL.out] at hbe
        obtain ⟨E, hE⟩ : ∃ E, endGo s.data.toList (s.data.toList.length + 1) (i + 512) = E := ⟨_, rfl⟩
        rw [hE, Int.natCast_add] at hbe
        obtain ⟨x, j⟩ := E
        have HBE := Lib.hid hbe
        have HE := Lib.hid hE
        clear hz hbe hE
        go_wp2_with fail
        refine (HBE.out _).mono ?_
        rintro e w2 ⟨rfl, hb2⟩
        unfold endT
        have HO2 := Lib.hid (HO1.out.keep hb2)
        have HB2 := Lib.hid (HB1.out.trans (hb2.mono HB1.out.size))
        clear hb2 HO1 HB1 HBE
        by_cases hx : x = 0
        · subst hx
          have HG := Lib.hid (show rdGo s.data.toList (s.data.toList.length + 1) 0 = ms.map .mem by rw [← hpre.out, rdGo_end hf0.out H1.out HZ.out, HE.out]; simp)
          go_wp2_with fail
          go_ret3
          exact ⟨.inl ⟨ms, _, HG.out, rfl, HO2.out⟩, HB2.out⟩
        · have HG := Lib.hid (show rdGo s.data.toList (s.data.toList.length + 1) 0 = ms.map .mem ++ [.bad x j] by rw [← hpre.out, rdGo_end hf0.out H1.out HZ.out, HE.out, if_neg hx])
          have hne : (x != 0) = true := by rw [bne_iff_ne]; exact hx
          clear hx
          go_wp2_with fail
          go_ret3
          exact RdPostR.bad HG.out HB2.out
      | false =>
        have HZ := Lib.hid hz
        have hde := fun w2 => DecodeR_any (s.extract i (i + 512)) w2 (by simp; omega)
        have hbl : (s.extract i (i + 512)).data.toList = blkAt s.data.toList i := by
          rw [Lib.extract_data]; unfold blkAt; rw [show i + 512 - i = 512 by omega]
        rw [hbl] at hde
        unfold decV at hde
        have hsb := decSize_bd (blkAt s.data.toList i)
        obtain ⟨H, hH⟩ : ∃ H, decHdr (blkAt s.data.toList i) = H := ⟨_, rfl⟩
        obtain ⟨E, hE⟩ : ∃ E, decErrM (blkAt s.data.toList i) = E := ⟨_, rfl⟩
        rw [hH] at hsb hde
        rw [hE] at hde
        obtain ⟨P0, M0, U0, G0, S0, T0, Y0, L0, V0, R0, A0, I0⟩ := H
        dsimp only at hsb
        obtain ⟨z, rfl⟩ : ∃ z : Nat, S0 = (z : Int) := ⟨S0.toNat, by omega⟩
        have HH := Lib.hid hH
        have HE := Lib.hid hE
        clear hH hE hbl hz
        by_cases hE0 : E = 0
        · rw [if_pos hE0, hE0] at hde
          have HE0 := Lib.hid hE0
          have HDE := Lib.hid hde
          clear hde hE0
          have hzb : (z : Int) < 68719476736 := by omega
          have hbk := fun w2 => blocksR_any z w2 (by omega)
          have hwl := whole_le z
          have HWL := Lib.hid hwl
          obtain ⟨q, hq⟩ : ∃ q, Go.Proofs.YthpmocfdnoehoaaGreatDoor.whole z = q := ⟨_, rfl⟩
          have hq5 : q / 512 * 512 = q := by rw [← hq]; unfold whole; omega
          rw [hq] at hwl hbk
          have HQ := Lib.hid hq
          have hzq : (z : Int) ≤ (q : Int) := by omega
          have hqb : (q : Int) ≤ 68719477247 := by omega
          have hq6 : 512 * ((q : Int) / 512) = (q : Int) := by omega
          have hq7 : (0 : Int) ≤ (q : Int) / 512 := by omega
          have hq8 : (q : Int) / 512 ≤ 134217730 := by omega
          have HBK := Lib.hid hbk
          clear hq hwl hq5 hsb hbk
          go_wp2_with fail
          refine (HDE.out _).mono ?_
          rintro e w2 ⟨rfl, hb2⟩
          have HO2 := Lib.hid (HO1.out.keep hb2)
          have HB2 := Lib.hid (HB1.out.trans (hb2.mono HB1.out.size))
          have HZ2 := Lib.hid (Nat.le_trans HB1.out.size hb2.size)
          clear hb2 HO1 HB1 HDE
          go_wp2_with fail
          refine (HBK.out _).mono ?_
          rintro e w3 ⟨rfl, rfl⟩
          have HR := Lib.hid (show RdG w ms u5 ⟨P0, M0, U0, G0, (z : Int), T0, Y0, L0, V0, R0, A0, I0⟩ w2.heap.size (w2.alloc (.cells (Hdr.cells ⟨P0, M0, U0, G0, (z : Int), T0, Y0, L0, V0, R0, A0, I0⟩) 24)) from ⟨HO2.out.keep ((Below.refl _ _).alloc (Nat.le_refl _) _), HB2.out.alloc HZ2.out _, heap_new _ _⟩)
          obtain ⟨B, hB⟩ : ∃ B, w2.heap.size = B := ⟨_, rfl⟩
          rw [hB] at HR
          rw [hB]
          by_cases h2 : (s.size : Int) - ((i : Int) + 512) < (q : Int)
          · have HG := Lib.hid (show rdGo s.data.toList (s.data.toList.length + 1) 0 = ms.map .mem ++ [.bad 2 ((i + 512 : Nat))] by
              rw [← hpre.out, rdGo_bad hf0.out H1.out HZ.out (by rw [memAt, if_neg (by rw [HE.out, HE0.out]; simp), HH.out, if_pos (.inr (by show s.data.toList.length < i + 512 + Go.Proofs.YthpmocfdnoehoaaGreatDoor.whole z; rw [HQ.out, HSL.out]; omega))])])
            clear hB
            go_wp2_with fail
            go_ret3
            have := RdPostR.bad HG.out HR.out.bel
            rw [Int.natCast_add] at this
            exact this
          · obtain ⟨m, hm⟩ : ∃ m : Mem, m = ⟨⟨P0, M0, U0, G0, (z : Int), T0, Y0, L0, V0, R0, A0, I0⟩, s.extract (i + 512) (i + 512 + z)⟩ := ⟨_, rfl⟩
            have HMEM := Lib.hid (show memAt s.data.toList i = .good m (i + 512 + q) by
              rw [memAt, if_neg (by rw [HE.out, HE0.out]; simp), HH.out, if_neg (by
                show ¬ ((s.data.toList.length : Int) < (z : Int) ∨ s.data.toList.length < i + 512 + Go.Proofs.YthpmocfdnoehoaaGreatDoor.whole z)
                rw [HQ.out, HSL.out]; omega), hm]
              show MemR.good ⟨_, ⟨((s.data.toList.drop (i + 512)).take z).toArray⟩⟩ (i + 512 + Go.Proofs.YthpmocfdnoehoaaGreatDoor.whole z) = _
              rw [HQ.out]
              exact congrArg (fun d => MemR.good ⟨⟨P0, M0, U0, G0, (z : Int), T0, Y0, L0, V0, R0, A0, I0⟩, d⟩ (i + 512 + q)) (bytes_eq (by rw [Lib.extract_data, show i + 512 + z - (i + 512) = z by omega])).symm)
            have HG := Lib.hid (show (ms ++ [m]).map RdX.mem ++ rdGo s.data.toList (f - 1) (i + 512 + q) = rdGo s.data.toList (s.data.toList.length + 1) 0 by
              rw [← hpre.out, rdGo_mem hf0.out H1.out HZ.out HMEM.out, List.map_append, List.append_assoc]; rfl)
            have hmc : m.cells = #[.string P0, .int .i64 M0, .int .i64 U0, .int .i64 G0, .int .i64 (z : Int), .int .i64 T0, .int .u8 (Y0.toNat : Int), .string L0, .string V0, .string R0, .int .i64 A0, .int .i64 I0, .string (s.extract (i + 512) (i + 512 + z))] := by rw [hm]
            have hmh : m.hdr = ⟨P0, M0, U0, G0, (z : Int), T0, Y0, L0, V0, R0, A0, I0⟩ := by rw [hm]
            have HR := Lib.hid (show RdG w ms u5 m.hdr B (w2.alloc (.cells #[.string P0, .int .i64 M0, .int .i64 U0, .int .i64 G0, .int .i64 (z : Int), .int .i64 T0, .int .u8 (Y0.toNat : Int), .string L0, .string V0, .string R0, .int .i64 A0, .int .i64 I0] 24)) by rw [hmh]; exact HR.out)
            have HMC := Lib.hid hmc
            have HMH := Lib.hid hmh
            have hgI := Lib.hid (show RdG w ms u5 m.hdr B (w2.alloc (.cells #[.string P0, .int .i64 M0, .int .i64 U0, .int .i64 G0, .int .i64 (z : Int), .int .i64 T0, .int .u8 (Y0.toNat : Int), .string L0, .string V0, .string R0, .int .i64 A0, .int .i64 I0] 24)).drew from HR.out.keep ((Below.refl _ _).drew))
            have h2' : (i : Int) + 512 + (q : Int) ≤ (s.size : Int) := by omega
            have hd2 : decide ((s.size : Int) - ((i : Int) + 512) < (q : Int)) = false := decide_eq_false h2
            clear hB hmc hmh hm
            have hcell : ∀ W, RdG w ms u5 m.hdr B W → ∀ j : Nat, W.cell? ⟨B, j, none⟩ = (#[.string P0, .int .i64 M0, .int .i64 U0, .int .i64 G0, .int .i64 (z : Int), .int .i64 T0, .int .u8 (Y0.toNat : Int), .string L0, .string V0, .string R0, .int .i64 A0, .int .i64 I0] : Array Value)[j]? := fun W hI j => by
              have := hI.cell j
              rw [HMH.out] at this
              exact this
            have HCELL := Lib.hid hcell
            clear hcell h2
            go_wp2_with fail
            have hw1 : IntKind.i64.wrap ((i : Int) + 512 + (z : Int)) = (i : Int) + 512 + (z : Int) := wrapI (by omega) (by omega)
            have hw2 : (i : Int) + 512 + (z : Int) ≤ (s.size : Int) := by omega
            have hw3 : (0 : Int) ≤ (i : Int) + 512 + (z : Int) := by omega
            have hw4 : (0 : Int) ≤ (i : Int) + 512 := by omega
            have hw5 : (i : Int) + 512 ≤ (i : Int) + 512 + (z : Int) := by omega
            have hw6 : ((i : Int) + 512).toNat = i + 512 := by omega
            have hw7 : ((i : Int) + 512 + (z : Int)).toNat = i + 512 + z := by omega
            refine wp_region_make (RdG w ms u5 m.hdr B) (RdGB w ms u5 m B) 10 (fun b => .slice (some ⟨b, 0, none⟩) 1 1) 11 (fun _ _ hB => hB.1) (by kernel_rfl) (by kernel_rfl) hgI.out ?_
            clear hgI
            simp only [List.take_succ_cons, List.take_zero, List.drop_succ_cons, List.drop_zero]
            refine .inr ⟨by decide, _, yg_still rfl (fun W hI => by go_simp; rfl), ?_⟩
            refine .inr ⟨by decide, _, yg_still rfl (fun W hI => by have cm := HCELL.out W hI; go_simp; rfl), ?_⟩
            refine .inr ⟨by decide, _, yg_still rfl (fun W hI => by go_simp; rfl), ?_⟩
            refine .inr ⟨by decide, _, yg_still rfl (fun W hI => by go_simp; rfl), ?_⟩
            refine .inr ⟨by decide, _, yg_still rfl (fun W hI => by go_simp; rfl), ?_⟩
            refine .inr ⟨by decide, _, yg_still rfl (fun W hI => by go_simp; rfl), ?_⟩
            refine .inr ⟨by decide, _, yg_still rfl (fun W hI => by have cm := HCELL.out W hI; go_simp; rfl), ?_⟩
            refine .inr ⟨by decide, _, yg_still rfl (fun W hI => by go_simp; rfl), ?_⟩
            refine .inr ⟨by decide, _, yg_still rfl (fun W hI => by go_simp; rfl), ?_⟩
            refine .inr ⟨by decide, _, yg_still rfl (fun W hI => by go_simp; rfl), ?_⟩
            refine .inl ⟨rfl, ⟨rfl, fun W hI => ⟨W.heap.size, W.alloc (.cells m.cells 26), by rw [HMC.out]; go_simp, hI.keep ((Below.refl _ _).alloc (Nat.le_refl _) _), heap_new _ _⟩⟩, ?_⟩
            rintro b8 W8 hI8
            change wpList _ _ _ _ _ W8
            simp only [Act.put, List.setIfInBounds_toArray, List.set_cons_succ, List.set_cons_zero]
            have H8 := Lib.hid hI8
            have hown8 := hI8.1.own.1
            clear hI8 hw1 hw2 hw3 hw4 hw5 hw6 hw7
            have HML := Lib.hid (show (ms.length : Int) ≤ 33554432 by have := hml.out; omega)
            go_wp2_with (first
              | (at_builtin; refine wpList_append_own _ rfl _ _ 22 rfl w.heap.size 26 i0 (.agg zm) 13 144 Tryz.underlying22 hi hz0 hz1 hz2 rfl (by decide) _ _ _ rfl hown8 ⟨b8, 0, none⟩ 1 1 m.cells.toList rfl rfl (at13 H8.out.2) (one13 m) (by have := HML.out; unfold maxLen; omega) (by have := HML.out; omega) (by have := H8.out.1.bel.size; omega) ?_; intro v' w4 hown' hgrow _; have HR4 := Lib.hid (H8.out.1.app hown' hgrow); have cm := cell_of_heapN (i := 4) HR4.out.hh; rw [HMH.out] at cm)
              | (refine (HBK.out _).mono ?_; rintro e w5 ⟨rfl, rfl⟩))
            case roundEnd =>
              exact ⟨⟨i + 512 + q, f - 1, ms ++ [m], by omega, by rw [Int.natCast_add, Int.natCast_add]; rfl, (by have := hf.out; have := hf0.out; show _ < _; omega), (by have := hml.out; show _ ≤ _; rw [List.length_append, List.length_singleton]; omega), HG, HR4.out.own, HR4.out.bel⟩, by simp [intOf]; omega⟩
        · rw [if_neg hE0] at hde
          have HDE := Lib.hid hde
          have HG := Lib.hid (show rdGo s.data.toList (s.data.toList.length + 1) 0 = ms.map .mem ++ [.bad E i] by rw [← hpre.out, rdGo_bad hf0.out H1.out HZ.out (by rw [memAt, if_pos (by rw [HE.out]; exact hE0), HE.out])])
          have hne : (E != 0) = true := by rw [bne_iff_ne]; exact hE0
          clear hde hE0
          go_wp2_with fail
          refine (HDE.out _).mono ?_
          rintro e w2 ⟨rfl, hb2⟩
          have HB2 := Lib.hid ((HB1.out.trans (hb2.mono HB1.out.size)).alloc (Nat.le_trans HB1.out.size hb2.size) (.cells zh 24))
          clear hb2 HO1 HB1 HDE
          go_wp2_with fail
          go_ret3
          exact RdPostR.bad HG.out HB2.out
end Go.Proofs.YthpmocfdnoehoaaGreatDoor
/- archive.Read of too long a text. -/
namespace Go.Proofs.YthpmocfdnoehoaaGreatDoor
open Go.RowKit
set_option maxRecDepth 100000 in
theorem read_big (s : ByteArray) (w : World) (hs : (33554432 : Int) < (s.size : Int)) :
    Calls Tryz.prog 16 #[.string s] w fun e w' => e = .returned (.tuple #[.slice none 0 0, faultV 5 0 33554432]) ∧ Below w.heap.size w w' := by
  go_enter Tryz.func16, Tryz.ntmps16
  go_wp2_with fail
  have hz := World.size_alloc w (.cells #[.slice none 0 0] 22)
  have c1 := (Below.heap_alloc (w.alloc (.cells #[.slice none 0 0] 22)) (.cells #[.iface 61 (.agg #[.int .i64 5, .int .i64 0, .int .i64 33554432])] 32) w.heap.size (by rw [hz]; omega)).trans (heap_new w (.cells #[.slice none 0 0] 22))
  have c2 := heap_new (w.alloc (.cells #[.slice none 0 0] 22)) (.cells #[.iface 61 (.agg #[.int .i64 5, .int .i64 0, .int .i64 33554432])] 32)
  rw [hz] at c2
  have d1 := cell_of_heapN (i := 0) c1
  have d2 := cell_of_heapN (i := 0) c2
  refine bodyPost_ret (v := .tuple #[.slice none 0 0, faultV 5 0 33554432]) ?_ rfl ⟨rfl, ((Below.refl _ w).alloc (Nat.le_refl _) _).alloc (by rw [hz]; omega) _⟩
  unfold faultV
  simp [results, Tryz.f16, go_sem, d1, d2]
end Go.Proofs.YthpmocfdnoehoaaGreatDoor
/- Rows of elements that a call owns: reading, storing an element, appending one, several rows apart. -/
namespace Go.Proofs.YthpmocfdnoehoaaGreatDoor
open Go Go.RowKit
section
variable {P : Program} (w : World)
/-- append to a row of the call's own: it stays in its block, or moves into a new one and leaves the old as it was. -/
theorem run_app_to (base : Nat) (t ty e : TypeId) (i : TypeInfo) (z : Value) (size bytes : Nat) (ht : P.underlying t = some (.slice e)) (hi : P.info? e = some i) (hz : i.zero = some z)
    (hsize : i.size = size) (hby : i.bytes = bytes) (hzs : z.cells.size = size) (hsz : 0 < size)
    (v : Value) (n : Nat) (xs : List Value) (hown : w.ownsRow base e size v n xs)
    (a : Addr) (m c : Nat) (news : List Value) (hl : news.length = m * size) (hnews : ∀ j u, news[j]? = some u → w.cell? (a.add j) = some u) (h1 : ∀ u ∈ news, u.oneCell' = true)
    (hm : 0 < m) (h63 : n + m ≤ maxLen) (hbytes : (n + m) * bytes ≤ 140737488355328) (hbase : base ≤ w.heap.size) :
    ∃ v' w', (Builtin.append_ #[t, t] ty #[v, .slice (some a) m c]).run P w = .ok v' w' ∧ w'.ownsRow base e size v' (n + m) (xs ++ news) ∧
      ((v'.ownBlock = v.ownBlock ∧ w.grownBy w' v.ownBlock) ∨ (v'.ownBlock = some w.heap.size ∧ w.grownBy w' none)) := by
  obtain ⟨v', w', hr, ho, hg, -, hat⟩ := run_append_own_at (P := P) w base t ty e i z size bytes ht hi hz hsize hby hzs hsz v n xs hown a m c news hl hnews h1 h63 hbytes hbase
  refine ⟨v', w', hr, ho, ?_⟩
  rcases hat with hat | hat
  · exact .inl ⟨hat, hg⟩
  subst hsize
  subst hby
  have new : ∀ o : Obj, w.grownBy (w.drew.alloc o) none := fun o => ⟨rfl, rfl, rfl, by simp, fun k hk _ => Below.heap_alloc w.drew o k hk⟩
  have h63' : ((n + m : Nat) : Int) ≤ 9223372036854775807 := by unfold maxLen at h63; omega
  rcases hown.2 with ⟨rfl, rfl⟩ | ⟨g, cap, cur, rfl, hbg, hgg, hnc, hcm, hcs, htake⟩
  · have h2 := run_append_nil (P := P) w t ty e i z ht hi hz a m c news hl hnews hm (by omega) (by rw [Nat.zero_add] at hbytes; omega)
    rw [hr] at h2
    obtain ⟨-, rfl⟩ := Result.ok.inj h2
    exact .inr ⟨hat, new _⟩
  · by_cases hroom : n + m ≤ cap
    · have h2 := run_append_room (P := P) w t ty e i ht hi g n cap cur hgg a m c news hl hnews h1 hroom (by rw [hl, hcs, ← Nat.add_mul]; exact Nat.mul_le_mul_right _ hroom)
      rw [hr] at h2
      obtain ⟨rfl, -⟩ := Result.ok.inj h2
      exact .inl ⟨rfl, hg⟩
    · have h2 := run_append_grow (P := P) w t ty e i z ht hi hz ⟨g, 0, none⟩ n cap xs hown.1 (hown.cells (g := g) rfl) a m c news hl hnews (by omega) h63' (growslice_fits (by omega) hbytes)
      rw [hr] at h2
      obtain ⟨-, rfl⟩ := Result.ok.inj h2
      exact .inr ⟨hat, new _⟩
theorem wpList_app_to {w : World} {ops : Array Oper} {rest : List Oper} {o : Oper} {a : Act} {Q : Exit → Act → World → Prop} (hgd : o.guard = none) (s x : Operand) (t : TypeId)
    (ho : o.op = .call { callee := .builtin .append, args := #[s, x], argTypes := #[t, t] })
    (base : Nat) (e : TypeId) (i : TypeInfo) (z : Value) (size bytes : Nat) (ht : P.underlying t = some (.slice e)) (hi : P.info? e = some i) (hz : i.zero = some z)
    (hsize : i.size = size) (hby : i.bytes = bytes) (hzs : z.cells.size = size) (hsz : 0 < size)
    (v : Value) (n : Nat) (xs : List Value) (hs : a.eval s = v) (hown : w.ownsRow base e size v n xs)
    (ad : Addr) (m c : Nat) (news : List Value) (hx : a.eval x = .slice (some ad) m c) (hl : news.length = m * size) (hnews : ∀ j u, news[j]? = some u → w.cell? (ad.add j) = some u) (h1 : ∀ u ∈ news, u.oneCell' = true)
    (hm : 0 < m) (h63 : n + m ≤ maxLen) (hbytes : (n + m) * bytes ≤ 140737488355328) (hbase : base ≤ w.heap.size)
    (h : ∀ v' w', w'.ownsRow base e size v' (n + m) (xs ++ news) → ((v'.ownBlock = v.ownBlock ∧ w.grownBy w' v.ownBlock) ∨ (v'.ownBlock = some w.heap.size ∧ w.grownBy w' none)) → wpList P ops Q rest (a.put o.dst v') w') :
    wpList P ops Q (o :: rest) a w := by
  refine wpList_plain hgd fun K hK => ?_
  obtain ⟨v', w', hr, h2, h3⟩ := run_app_to (P := P) w base t o.type e i z size bytes ht hi hz hsize hby hzs hsz v n xs hown ad m c news hl hnews h1 hm h63 hbytes hbase
  unfold Oper.wp execOp
  simp only [ho, resolve, invoke, builtin, Sem.run_bind, Sem.run_pure, Result.andThen_ok, List.map_toArray, List.map_cons, List.map_nil, hs, hx, hr]
  exact hK _ _ (h v' w' h2 h3)
end
/-- An array with values written from a place on. -/
def curPut (cur : Array Value) (o : Nat) : List Value → Array Value
  | [] => cur
  | v :: r => curPut (cur.setIfInBounds o v) (o + 1) r
theorem curPut_size (cur : Array Value) (o : Nat) (vals : List Value) : (curPut cur o vals).size = cur.size := by
  induction vals generalizing cur o with
  | nil => rfl
  | cons v r ih => rw [curPut, ih, Array.size_setIfInBounds]
theorem curPut_at (cur : Array Value) (o : Nat) (vals : List Value) (h : o + vals.length ≤ cur.size) (j : Nat) : (curPut cur o vals)[j]? = if o ≤ j ∧ j < o + vals.length then vals[j - o]? else cur[j]? := by
  induction vals generalizing cur o with
  | nil => rw [curPut, if_neg (by rw [List.length_nil]; omega)]
  | cons v r ih =>
    rw [List.length_cons] at h
    rw [curPut, ih _ _ (by rw [Array.size_setIfInBounds]; omega), List.length_cons, Array.getElem?_setIfInBounds]
    by_cases h1 : o + 1 ≤ j ∧ j < o + 1 + r.length
    · rw [if_pos h1, if_pos (by omega), show j - o = j - (o + 1) + 1 by omega, List.getElem?_cons_succ]
    · rw [if_neg h1]
      by_cases h2 : o = j
      · subst h2
        rw [if_pos rfl, if_pos (show o < cur.size by omega), if_pos (show o ≤ o ∧ o < o + (r.length + 1) by omega), Nat.sub_self]
        rfl
      · rw [if_neg h2, if_neg (by omega)]
section
variable {α : Type} (T sz : Nat) (cl : α → Array Value)
def flatG (xs : List α) : List Value := xs.flatMap (fun x => (cl x).toList)
variable {T sz cl}
theorem flatG_snoc (xs : List α) (x : α) : flatG cl (xs ++ [x]) = flatG cl xs ++ (cl x).toList := by unfold flatG; simp
theorem flatG_len (hc : ∀ x, (cl x).size = sz) (xs : List α) : (flatG cl xs).length = xs.length * sz := by
  induction xs with
  | nil => simp [flatG]
  | cons x r ih =>
    unfold flatG at ih ⊢
    rw [List.flatMap_cons, List.length_append, ih, Array.length_toList, hc, List.length_cons, Nat.succ_mul]
    omega
theorem flatG_at (hc : ∀ x, (cl x).size = sz) : ∀ (xs : List α) (q r : Nat), r < sz → (flatG cl xs)[q * sz + r]? = (xs[q]?).bind (fun x => (cl x)[r]?)
  | [], q, r, _ => by simp [flatG]
  | x :: xs, 0, r, h => by
    unfold flatG
    rw [List.flatMap_cons, Nat.zero_mul, Nat.zero_add, List.getElem?_append_left (by rw [Array.length_toList, hc]; exact h), Array.getElem?_toList]
    rfl
  | x :: xs, q + 1, r, h => by
    have ih := flatG_at hc xs q r h
    unfold flatG at ih ⊢
    rw [List.flatMap_cons, List.getElem?_append_right (by rw [Array.length_toList, hc, Nat.succ_mul]; omega), Array.length_toList, hc, show (q + 1) * sz + r - sz = q * sz + r by rw [Nat.succ_mul]; omega, ih, List.getElem?_cons_succ]
variable (T sz cl)
/-- A row of the call's own that holds these elements. -/
def OwnG (base : Nat) (xs : List α) (v : Value) (w : World) : Prop := w.ownsRow base T sz v xs.length (flatG cl xs)
/-- A slice that reads as these elements. -/
def Reads (w : World) (v : Value) (xs : List α) : Prop :=
  (v = .slice none 0 0 ∧ xs = []) ∨ ∃ g cap cur, v = .slice (some ⟨g, 0, none⟩) xs.length cap ∧ xs.length ≤ cap ∧ cap ≤ maxLen ∧ w.heap[g]? = some (.cells cur T (0, 0)) ∧ ∀ i x, xs[i]? = some x → ∀ j, j < sz → cur[i * sz + j]? = (cl x)[j]?
variable {T sz cl}
theorem OwnG.keep {base : Nat} {xs : List α} {v : Value} {w w' : World} {row : Option Nat} (h : OwnG T sz cl base xs v w) (hg : w.grownBy w' row) (hne : ∀ b, v.ownBlock = some b → row ≠ some b) : OwnG T sz cl base xs v w' := by
  refine World.ownsRow.kept h hg ?_
  cases hv : v.ownBlock with
  | none => exact .inl rfl
  | some b => exact .inr (fun e => hne b hv e.symm)
theorem OwnG.reads (hc : ∀ x, (cl x).size = sz) {base : Nat} {xs : List α} {v : Value} {w : World} (h : OwnG T sz cl base xs v w) : Reads T sz cl w v xs := by
  rcases h.2 with ⟨h1, h2⟩ | ⟨g, cap, cur, h1, h2, h3, h4, h5, h6, h7⟩
  · exact .inl ⟨h1, List.eq_nil_of_length_eq_zero h2⟩
  · refine .inr ⟨g, cap, cur, h1, h4, h5, h3, fun i x hx j hj => ?_⟩
    have hi := (List.getElem?_eq_some_iff.1 hx).1
    have h8 := flatG_at hc xs i j hj
    rw [hx, ← h7, List.getElem?_take, if_pos ?_, Array.getElem?_toList] at h8
    · exact h8
    · have : (i + 1) * sz ≤ xs.length * sz := Nat.mul_le_mul_right _ hi
      rw [Nat.succ_mul] at this
      omega
theorem Reads.keep {xs : List α} {v : Value} {w w' : World} {row : Option Nat} (h : Reads T sz cl w v xs) (hg : w.grownBy w' row) (hne : ∀ b, v.ownBlock = some b → row ≠ some b) : Reads T sz cl w' v xs := by
  rcases h with h | ⟨g, cap, cur, rfl, h1, h2, h3, h4⟩
  · exact .inl h
  · exact .inr ⟨g, cap, cur, rfl, h1, h2, (hg.block g (blk_lt h3) (fun e => hne g rfl e.symm)).trans h3, h4⟩
/-- A beginning of a row that lies in the same block. -/
theorem Reads.prefix (hc : ∀ x, (cl x).size = sz) {base : Nat} {xs ys : List α} {v u : Value} {w w' : World} (h : Reads T sz cl w v ys) (ho : OwnG T sz cl base (ys ++ xs) u w') (hb : u.ownBlock = v.ownBlock) : Reads T sz cl w' v ys := by
  rcases h with h | ⟨g, cap, cur, rfl, h1, h2, h3, h4⟩
  · exact .inl h
  · rcases ho.reads hc with ⟨rfl, h5⟩ | ⟨g', cap', cur', rfl, h5, h6, h7, h8⟩
    · cases hb
    · obtain rfl : g' = g := by simpa [Value.ownBlock] using hb
      refine .inr ⟨g', cap, cur', rfl, h1, h2, h7, fun i x hx j hj => h8 i x ?_ j hj⟩
      rw [List.getElem?_append_left (List.getElem?_eq_some_iff.1 hx).1]
      exact hx
theorem OwnG.app {base : Nat} {xs : List α} {x : α} {v : Value} {w : World} (h : w.ownsRow base T sz v (xs.length + 1) (flatG cl xs ++ (cl x).toList)) : OwnG T sz cl base (xs ++ [x]) v w := by
  unfold OwnG
  rw [flatG_snoc, List.length_append]
  exact h
/-- An element stored. -/
theorem OwnG.store (hc : ∀ x, (cl x).size = sz) {base n cap g i : Nat} {xs : List α} {x : α} {w : World} (h : OwnG T sz cl base xs (.slice (some ⟨g, 0, none⟩) n cap) w) (hi : i < xs.length) :
    ∃ cur, w.heap[g]? = some (.cells cur T (0, 0)) ∧ i * sz + sz ≤ cur.size ∧ OwnG T sz cl base (xs.set i x) (.slice (some ⟨g, 0, none⟩) n cap) (setBlk w g (.cells (curPut cur (i * sz) (cl x).toList) T (0, 0))) := by
  rcases h.2 with ⟨h1, _⟩ | ⟨g', cap', cur, h1, h2, h3, h4, h5, h6, h7⟩
  · cases h1
  · cases h1
    have h8 : (i + 1) * sz ≤ xs.length * sz := Nat.mul_le_mul_right _ hi
    have h9 : xs.length * sz ≤ cap * sz := Nat.mul_le_mul_right _ h4
    rw [Nat.succ_mul] at h8
    have hl : (cl x).toList.length = sz := by rw [Array.length_toList, hc]
    refine ⟨cur, h3, by omega, ⟨by rw [flatG_len hc], .inr ⟨g, cap, _, by rw [List.length_set], h2, setBlk_heap (blk_lt h3), by rw [List.length_set]; exact h4, h5, by rw [curPut_size]; exact h6, ?_⟩⟩⟩
    refine List.ext_getElem? fun j => ?_
    rw [List.getElem?_take, List.length_set]
    by_cases hj : j < xs.length * sz
    · have hsz : 0 < sz := by
        cases sz with
        | zero => simp at hj
        | succ k => omega
      have hjd : j = j / sz * sz + j % sz := by rw [Nat.mul_comm]; exact (Nat.div_add_mod j sz).symm
      have hr := Nat.mod_lt j hsz
      have f1 := flatG_at hc (xs.set i x) (j / sz) (j % sz) hr
      have f2 := flatG_at hc xs (j / sz) (j % sz) hr
      rw [← hjd] at f1 f2
      rw [if_pos hj, Array.getElem?_toList, curPut_at _ _ _ (by rw [hl]; omega), f1, hl, List.getElem?_set]
      have f3 : cur[j]? = (xs[j / sz]?).bind (fun x => (cl x)[j % sz]?) := by
        rw [← f2, ← h7, List.getElem?_take, if_pos hj, Array.getElem?_toList]
      by_cases he : i = j / sz
      · have hj2 : j = i * sz + j % sz := by rw [he]; exact hjd
        rw [if_pos (show i * sz ≤ j ∧ j < i * sz + sz by omega), if_pos he, if_pos hi, Array.getElem?_toList, show j - i * sz = j % sz by omega]
        rfl
      · rw [if_neg (show ¬ (i * sz ≤ j ∧ j < i * sz + sz) from ?_), if_neg he, f3]
        intro ⟨h10, h11⟩
        apply he
        have a1 : i ≤ j / sz := (Nat.le_div_iff_mul_le hsz).2 h10
        have a2 : j / sz < i + 1 := (Nat.div_lt_iff_lt_mul hsz).2 (by rw [Nat.succ_mul]; omega)
        omega
    · rw [if_neg hj, List.getElem?_eq_none (by rw [flatG_len hc, List.length_set]; omega)]
end
end Go.Proofs.YthpmocfdnoehoaaGreatDoor
/- The states of the functions that ask whether lists that were handed out have memory of their own. -/
namespace Go.Proofs.YthpmocfdnoehoaaGreatDoor
open Go Go.RowKit
section
variable {α : Type} {T TL sz : Nat} {cl : α → Array Value}
theorem grown0 {w w' : World} (h : Below w.heap.size w w') : w.grownBy w' none := ⟨h.os, h.tape, h.output, h.size, fun k hk _ => h.block k hk⟩
theorem below_of_grown {base : Nat} {w w' : World} {row : Option Nat} (hg : w.grownBy w' row) (hb : base ≤ w.heap.size) (hr : ∀ b, row = some b → base ≤ b) : Below base w w' :=
  (Below.refl base w).grown hg hb hr
/-- No two of the slices lie in one block. -/
def Apart (vs : Array Value) : Prop := ∀ (j k : Nat) (v u : Value) (b : Nat), vs[j]? = some v → vs[k]? = some u → j ≠ k → v.ownBlock = some b → u.ownBlock ≠ some b
theorem OwnG.block {base : Nat} {xs : List α} {v : Value} {w : World} (h : OwnG T sz cl base xs v w) {b : Nat} (hb : v.ownBlock = some b) : base ≤ b ∧ b < w.heap.size ∧ ∃ cur, w.heap[b]? = some (.cells cur T (0, 0)) := by
  rcases h.2 with ⟨rfl, _⟩ | ⟨g, cap, cur, rfl, h2, h3, _⟩
  · cases hb
  · obtain rfl : g = b := by simpa [Value.ownBlock] using hb
    exact ⟨h2, blk_lt h3, cur, h3⟩
theorem Reads.block {xs : List α} {v : Value} {w : World} (h : Reads T sz cl w v xs) {b : Nat} (hb : v.ownBlock = some b) : b < w.heap.size ∧ ∃ cur, w.heap[b]? = some (.cells cur T (0, 0)) := by
  rcases h with ⟨rfl, _⟩ | ⟨g, cap, cur, rfl, h1, h2, h3, _⟩
  · cases hb
  · obtain rfl : g = b := by simpa [Value.ownBlock] using hb
    exact ⟨blk_lt h3, cur, h3⟩
theorem type_ne {w : World} {b c : Nat} {x y : Array Value} {S R : Nat} (h : w.heap[b]? = some (.cells x S (0, 0))) (k : w.heap[c]? = some (.cells y R (0, 0))) (hne : S ≠ R) : b ≠ c := by
  rintro rfl
  rw [h] at k
  exact hne (Obj.cells.inj (Option.some.inj k)).2.1
variable (T TL sz cl)
structure ApA (base LB : Nat) (vs : Array Value) (w0 : World) (f : Nat → List α) (w : World) : Prop where
  ls : w.heap[LB]? = some (.cells vs TL (0, 0))
  own : ∀ k v, vs[k]? = some v → OwnG T sz cl base (f k) v w
  bel : Below base w0 w
  hb0 : base ≤ w0.heap.size
/-- While a list is appended to. -/
structure ApC (base base2 LB : Nat) (vs : Array Value) (w0 : World) (a c : Nat → List α) (k : Nat) (G : List Value) (u : Value) (ys : List α) (g : Value) (w : World) : Prop where
  ls : w.heap[LB]? = some (.cells vs TL (0, 0))
  gs : w.ownsRow base2 TL 1 u G.length G
  rd : ∀ j v, vs[j]? = some v → Reads T sz cl w v (a j)
  own : ∀ j v, k < j → vs[j]? = some v → OwnG T sz cl base (a j) v w
  ownC : ∀ j v, G[j]? = some v → OwnG T sz cl base (c j) v w
  cur : OwnG T sz cl base ys g w
  ap1 : ∀ j v b, j ≠ k → vs[j]? = some v → g.ownBlock = some b → v.ownBlock ≠ some b
  ap2 : ∀ (j : Nat) v b, G[j]? = some v → g.ownBlock = some b → v.ownBlock ≠ some b
  ap3 : ∀ (i j : Nat) v x b, k < i → vs[i]? = some v → G[j]? = some x → v.ownBlock = some b → x.ownBlock ≠ some b
  bel : Below base w0 w
  hb0 : base ≤ w0.heap.size
/-- Between two lists. -/
structure ApO (base base2 LB : Nat) (vs : Array Value) (w0 : World) (a c : Nat → List α) (k : Nat) (G : List Value) (u : Value) (w : World) : Prop where
  ls : w.heap[LB]? = some (.cells vs TL (0, 0))
  gs : w.ownsRow base2 TL 1 u G.length G
  rd : ∀ j v, vs[j]? = some v → Reads T sz cl w v (a j)
  own : ∀ j v, k ≤ j → vs[j]? = some v → OwnG T sz cl base (a j) v w
  ownC : ∀ j v, G[j]? = some v → OwnG T sz cl base (c j) v w
  ap3 : ∀ (i j : Nat) v x b, k ≤ i → vs[i]? = some v → G[j]? = some x → v.ownBlock = some b → x.ownBlock ≠ some b
  bel : Below base w0 w
  hb0 : base ≤ w0.heap.size
/-- Behind the loops that write. -/
structure ApR (base base2 LB : Nat) (vs : Array Value) (w0 : World) (a c : Nat → List α) (G : List Value) (u : Value) (w : World) : Prop where
  ls : w.heap[LB]? = some (.cells vs TL (0, 0))
  gs : w.ownsRow base2 TL 1 u G.length G
  rd : ∀ j v, vs[j]? = some v → Reads T sz cl w v (a j)
  rdC : ∀ j v, G[j]? = some v → Reads T sz cl w v (c j)
  bel : Below base w0 w
  hb0 : base ≤ w0.heap.size
variable {T TL sz cl}
variable {base base2 LB : Nat} {vs : Array Value} {w0 : World} {a c f : Nat → List α} {G : List Value} {u : Value} {w w' : World}
theorem ownsRow_keep {B S s n : Nat} {v : Value} {xs : List Value} (h : w.ownsRow B S s v n xs) (hb : Below w.heap.size w w') : w'.ownsRow B S s v n xs :=
  h.kept (grown0 hb) (by cases hv : v.ownBlock <;> simp)
theorem OwnG.keepB {xs : List α} {v : Value} (h : OwnG T sz cl base xs v w) (hb : Below w.heap.size w w') : OwnG T sz cl base xs v w' := ownsRow_keep h hb
theorem Reads.keepB {xs : List α} {v : Value} (h : Reads T sz cl w v xs) (hb : Below w.heap.size w w') : Reads T sz cl w' v xs := h.keep (grown0 hb) (fun _ _ => by simp)
theorem ApA.keep (h : ApA T TL sz cl base LB vs w0 f w) (hb : Below w.heap.size w w') : ApA T TL sz cl base LB vs w0 f w' :=
  ⟨(hb.block _ (blk_lt h.ls)).trans h.ls, fun k v hv => (h.own k v hv).keepB hb, h.bel.trans (hb.mono (Nat.le_trans h.hb0 h.bel.size)), h.hb0⟩
theorem ApC.keep {k : Nat} {ys : List α} {g : Value} (h : ApC T TL sz cl base base2 LB vs w0 a c k G u ys g w) (hb : Below w.heap.size w w') : ApC T TL sz cl base base2 LB vs w0 a c k G u ys g w' :=
  ⟨(hb.block _ (blk_lt h.ls)).trans h.ls, ownsRow_keep h.gs hb, fun j v hv => (h.rd j v hv).keepB hb, fun j v hj hv => (h.own j v hj hv).keepB hb, fun j v hv => (h.ownC j v hv).keepB hb, h.cur.keepB hb, h.ap1, h.ap2, h.ap3, h.bel.trans (hb.mono (Nat.le_trans h.hb0 h.bel.size)), h.hb0⟩
theorem ApR.keep (h : ApR T TL sz cl base base2 LB vs w0 a c G u w) (hb : Below w.heap.size w w') : ApR T TL sz cl base base2 LB vs w0 a c G u w' :=
  ⟨(hb.block _ (blk_lt h.ls)).trans h.ls, ownsRow_keep h.gs hb, fun j v hv => (h.rd j v hv).keepB hb, fun j v hv => (h.rdC j v hv).keepB hb, h.bel.trans (hb.mono (Nat.le_trans h.hb0 h.bel.size)), h.hb0⟩
theorem ApA.store (hc : ∀ x, (cl x).size = sz) (hT : TL ≠ T) (hap : Apart vs) (h : ApA T TL sz cl base LB vs w0 f w) {k n cap g i : Nat} {x : α} (hv : vs[k]? = some (.slice (some ⟨g, 0, none⟩) n cap)) (hi : i < (f k).length) :
    ∃ cur, w.heap[g]? = some (.cells cur T (0, 0)) ∧ i * sz + sz ≤ cur.size ∧ ApA T TL sz cl base LB vs w0 (fun j => if j = k then (f k).set i x else f j) (setBlk w g (.cells (curPut cur (i * sz) (cl x).toList) T (0, 0))) := by
  obtain ⟨cur, h1, h2, h3⟩ := OwnG.store (x := x) hc (h.own k _ hv) hi
  have hg := (h.own k _ hv).block (b := g) rfl
  have hgr : ∀ o, w.grownBy (setBlk w g o) (some g) := fun o => ⟨rfl, rfl, rfl, by rw [setBlk_size]; exact Nat.le_refl _, fun j _ hj => setBlk_other (fun e => hj (by rw [e]))⟩
  refine ⟨cur, h1, h2, (setBlk_other (fun e => type_ne h.ls h1 hT e)).trans h.ls, fun j v hj => ?_, ?_, h.hb0⟩
  · by_cases e : j = k
    · subst e
      rw [hv] at hj
      cases hj
      rw [if_pos rfl]
      exact h3
    · rw [if_neg e]
      exact (h.own j v hj).keep (hgr _) (fun b hb e2 => by cases e2; exact hap j k v _ g hj hv e hb rfl)
  · exact h.bel.setBlk hg.1
theorem ApO.start (h : ApA T TL sz cl base LB vs w0 a w) (hc : ∀ x, (cl x).size = sz) : ApO T TL sz cl base base2 LB vs w0 a c 0 [] (.slice none 0 0) w :=
  ⟨h.ls, World.ownsRow_nil _ _ _ _, fun j v hv => (h.own j v hv).reads hc, fun j v _ hv => h.own j v hv, fun j v hv => (by simp at hv), fun i j v x b _ _ hx => (by simp at hx), h.bel, h.hb0⟩
theorem ApO.enter (hap : Apart vs) {k : Nat} {vk : Value} (h : ApO T TL sz cl base base2 LB vs w0 a c k G u w) (hk : vs[k]? = some vk) : ApC T TL sz cl base base2 LB vs w0 a c k G u (a k) vk w :=
  ⟨h.ls, h.gs, h.rd, fun j v hj hv => h.own j v (Nat.le_of_lt hj) hv, h.ownC, h.own k vk (Nat.le_refl _) hk, fun j v b hj hv hb => hap k j vk v b hk hv (fun e => hj e.symm) hb, fun j v b hv hb => h.ap3 k j vk v b (Nat.le_refl _) hk hv hb, fun i j v x b hi => h.ap3 i j v x b (Nat.le_of_lt hi), h.bel, h.hb0⟩
/-- One more element. -/
theorem ApC.app (hc : ∀ x, (cl x).size = sz) (hT : TL ≠ T) {k : Nat} {vk : Value} {ys zs : List α} {x : α} {g v' : Value} (h : ApC T TL sz cl base base2 LB vs w0 a c k G u ys g w) (hk : vs[k]? = some vk) (hys : ys = a k ++ zs)
    (ho : w'.ownsRow base T sz v' (ys.length + 1) (flatG cl ys ++ (cl x).toList)) (hg : (v'.ownBlock = g.ownBlock ∧ w.grownBy w' g.ownBlock) ∨ (v'.ownBlock = some w.heap.size ∧ w.grownBy w' none)) :
    ApC T TL sz cl base base2 LB vs w0 a c k G u (ys ++ [x]) v' w' := by
  have hcur := OwnG.app ho
  have hcb := fun b hb => h.cur.block (b := b) hb
  have hgr : w.grownBy w' g.ownBlock := by
    rcases hg with ⟨_, hg⟩ | ⟨_, hg⟩
    · exact hg
    · exact ⟨hg.os, hg.tape, hg.output, hg.size, fun k hk _ => hg.block k hk (by simp)⟩
  have hlt : ∀ b, b < w.heap.size → g.ownBlock ≠ some b → w'.heap[b]? = w.heap[b]? := fun b hb hne => hgr.block b hb (fun e => hne e.symm)
  have hLB : w'.heap[LB]? = w.heap[LB]? := hlt LB (blk_lt h.ls) (fun e => by
    obtain ⟨_, _, cur, h3⟩ := hcb LB e
    exact type_ne h.ls h3 hT rfl)
  have hgu : ∀ b, u.ownBlock = some b → g.ownBlock ≠ some b := fun b hb e => by
    obtain ⟨_, _, cur, h3⟩ := hcb b e
    rcases h.gs.2 with ⟨rfl, _⟩ | ⟨q, cap, cur2, rfl, _, h4, _⟩
    · cases hb
    · obtain rfl : q = b := by simpa [Value.ownBlock] using hb
      exact type_ne h4 h3 hT rfl
  have hnew : ∀ b, v'.ownBlock = some b → b < w.heap.size → g.ownBlock = some b := fun b hb hlt => by
    rcases hg with ⟨hg, _⟩ | ⟨hg, _⟩
    · rw [← hg]; exact hb
    · rw [hg] at hb; cases hb; omega
  refine ⟨hLB.trans h.ls, ?_, fun j v hv => ?_, fun j v hj hv => ?_, fun j v hv => ?_, hcur, fun j v b hj hv hb hvb => ?_, fun j v b hv hb hvb => ?_, h.ap3, ?_, h.hb0⟩
  · refine h.gs.kept hgr ?_
    cases hu : u.ownBlock with
    | none => exact .inl rfl
    | some b => exact .inr (fun e => hgu b hu e.symm)
  · by_cases e : j = k
    · subst e
      rw [hk] at hv
      cases hv
      rcases hg with ⟨h1, h2⟩ | ⟨h1, h2⟩
      · by_cases hbk : g.ownBlock = vk.ownBlock
        · have := hcur
          rw [hys, List.append_assoc] at this
          exact (h.rd j vk hk).prefix hc this (h1.trans hbk)
        · exact (h.rd j vk hk).keep h2 (fun b hb e => hbk (e.trans hb.symm))
      · exact (h.rd j vk hk).keep h2 (fun b hb e => by simp at e)
    · exact (h.rd j v hv).keep hgr (fun b hb e2 => h.ap1 j v b e hv e2 hb)
  · exact (h.own j v hj hv).keep hgr (fun b hb e2 => h.ap1 j v b (by omega) hv e2 hb)
  · exact (h.ownC j v hv).keep hgr (fun b hb e2 => h.ap2 j v b hv e2 hb)
  · exact h.ap1 j v b hj hv (hnew b hb ((h.rd j v hv).block hvb).1) hvb
  · exact h.ap2 j v b hv (hnew b hb ((h.ownC j v hv).block hvb).2.1) hvb
  · exact h.bel.trans (below_of_grown hgr (Nat.le_trans h.hb0 h.bel.size) (fun b hb => (hcb b hb).1))
/-- The list is put behind the others. -/
theorem ApC.leave (hT : TL ≠ T) (hLB2 : LB < base2) (hb2 : base ≤ base2) {k : Nat} {ys : List α} {g u' : Value} (h : ApC T TL sz cl base base2 LB vs w0 a c k G u ys g w) (hG : G.length = k) (hys : ys = c k) (ho : w'.ownsRow base2 TL 1 u' (G.length + 1) (G ++ [g])) (hg : w.grownBy w' u.ownBlock) :
    ApO T TL sz cl base base2 LB vs w0 a c (k + 1) (G ++ [g]) u' w' := by
  have hub : ∀ b, u.ownBlock = some b → base2 ≤ b ∧ ∃ cur, w.heap[b]? = some (.cells cur TL (0, 0)) := fun b hb => by
    rcases h.gs.2 with ⟨rfl, _⟩ | ⟨q, cap, cur, rfl, h2, h3, _⟩
    · cases hb
    · obtain rfl : q = b := by simpa [Value.ownBlock] using hb
      exact ⟨h2, cur, h3⟩
  have hT2 : ∀ b cur, w.heap[b]? = some (.cells cur T (0, 0)) → u.ownBlock ≠ some b := fun b cur hb e => by
    obtain ⟨_, cur2, h3⟩ := hub b e
    exact type_ne h3 hb hT rfl
  have hown : ∀ (xs : List α) v, OwnG T sz cl base xs v w → OwnG T sz cl base xs v w' := fun xs v ho => ho.keep hg (fun b hb e => by
    obtain ⟨_, _, cur, h3⟩ := ho.block hb
    exact hT2 b cur h3 e)
  refine ⟨(hg.block LB (blk_lt h.ls) (fun e => by have := (hub LB e.symm).1; omega)).trans h.ls, by rw [List.length_append]; exact ho, fun j v hv => ?_, fun j v hj hv => hown _ _ (h.own j v (by omega) hv), fun j v hv => ?_, fun i j v x b hi hv hx hb => ?_, ?_, h.hb0⟩
  · exact (h.rd j v hv).keep hg (fun b hb e => by
      obtain ⟨_, cur, h3⟩ := (h.rd j v hv).block hb
      exact hT2 b cur h3 e)
  · rw [List.getElem?_append] at hv
    split at hv
    · exact hown _ _ (h.ownC j v hv)
    · rename_i hj
      have : j - G.length = 0 := by
        have := (List.getElem?_eq_some_iff.1 hv).1
        simpa using this
      rw [this] at hv
      cases hv
      obtain rfl : j = k := by omega
      rw [← hys]
      exact hown _ _ h.cur
  · rw [List.getElem?_append] at hx
    split at hx
    · exact h.ap3 i j v x b (by omega) hv hx hb
    · rename_i hj
      have : j - G.length = 0 := by
        have := (List.getElem?_eq_some_iff.1 hx).1
        simpa using this
      rw [this] at hx
      cases hx
      exact fun e => h.ap1 i v b (by omega) hv e hb
  · exact h.bel.trans (below_of_grown hg (Nat.le_trans h.hb0 h.bel.size) (fun b hb => Nat.le_trans hb2 (hub b hb).1))
theorem ApO.done (hc : ∀ x, (cl x).size = sz) {k : Nat} (h : ApO T TL sz cl base base2 LB vs w0 a c k G u w) : ApR T TL sz cl base base2 LB vs w0 a c G u w :=
  ⟨h.ls, h.gs, h.rd, fun j v hv => (h.ownC j v hv).reads hc, h.bel, h.hb0⟩
/-- The cells of an element. -/
theorem Reads.at {xs : List α} {v : Value} {i : Nat} {x : α} (h : Reads T sz cl w v xs) (hx : xs[i]? = some x) : ∃ g cap, v = .slice (some ⟨g, 0, none⟩) xs.length cap ∧ xs.length ≤ cap ∧ cap ≤ maxLen ∧ g < w.heap.size ∧ ∀ j, j < sz → w.cell? ⟨g, i * sz + j, none⟩ = (cl x)[j]? := by
  rcases h with ⟨rfl, rfl⟩ | ⟨g, cap, cur, rfl, h1, h2, h3, h4⟩
  · simp at hx
  · exact ⟨g, cap, rfl, h1, h2, blk_lt h3, fun j hj => (cell_of_heapN h3).trans (h4 i x hx j hj)⟩
theorem Reads.slice {xs : List α} {v : Value} (h : Reads T sz cl w v xs) : ∃ p cap, v = .slice p xs.length cap ∧ xs.length ≤ cap ∧ cap ≤ maxLen := by
  rcases h with ⟨rfl, rfl⟩ | ⟨g, cap, cur, rfl, h1, h2, h3, h4⟩
  · exact ⟨none, 0, rfl, Nat.le_refl _, by unfold maxLen; omega⟩
  · exact ⟨_, cap, rfl, h1, h2⟩
end
end Go.Proofs.YthpmocfdnoehoaaGreatDoor
/- Two members compared. -/
namespace Go.Proofs.YthpmocfdnoehoaaGreatDoor
open Go.RowKit
theorem fieldsM : Tryz.prog.fieldsOf 26 = #[{ name := "Header", type := 24, offset := 0, embedded := false, tag := "", pkgPath := "", byteOffset := 0 }, { name := "Data", type := 9, offset := 12, embedded := false, tag := "", pkgPath := "", byteOffset := 128 }] := by
  unfold Program.fieldsOf; rw [Tryz.underlying26]
theorem structM : Tryz.prog.underlying 26 = some (.struct (Tryz.prog.fieldsOf 26)) := by rw [fieldsM, Tryz.underlying26]
theorem structH : Tryz.prog.underlying 24 = some (.struct (Tryz.prog.fieldsOf 24)) := by unfold Program.fieldsOf; rw [Tryz.underlying24]
theorem heldM : Tryz.prog.stoodInHeld 26 = false := by kernel_rfl
theorem heldH : Tryz.prog.stoodInHeld 24 = false := by kernel_rfl
theorem guardM : Tryz.prog.eqGuardType Tryz.prog.depth 26 = false := by kernel_rfl
theorem run_partH (m : Mem) (w : World) : (part 24 m.cells 0).run Tryz.prog w = .ok (.agg m.hdr.cells) w := by
  simp [part, go_sem, Tryz.isAgg24, Tryz.sizeOf24]
theorem run_eqH (h : Hdr) (d : Nat) (w : World) : (Op.equalIn (d + 2) 24 (.agg h.cells) (.agg h.cells)).run Tryz.prog w = .ok true w := by
  rw [run_equalIn_agg w (d + 1) _ _ _ structH heldH]
  unfold Program.fieldsOf
  rw [Tryz.underlying24]
  simp [go_sem, part]
theorem run_eqM (m : Mem) (d : Nat) (w : World) : (Op.equalIn (d + 3) 26 (.agg m.cells) (.agg m.cells)).run Tryz.prog w = .ok true w := by
  rw [run_equalIn_agg w (d + 2) _ _ _ structM heldM, fieldsM]
  show (Op.eqFields (d + 2) m.cells m.cells [_, _]).run Tryz.prog w = _
  have hd : (part 9 m.cells 12).run Tryz.prog w = .ok (.string m.data) w := by simp [part, go_sem, Tryz.isAgg9]
  have hs : (Op.equalIn (d + 2) 9 (.string m.data) (.string m.data)).run Tryz.prog w = .ok true w := by
    rw [run_equalIn_string w (d + 1) _ _ _ Tryz.underlying9]; simp
  simp only [Op.eqFields, Sem.run_bind, Sem.run_ite, run_partH, Result.andThen_ok, run_eqH, hd, hs, Bool.not_true, Bool.false_eq_true, if_false, ite_self, Sem.run_pure]
theorem run_neqM (m : Mem) (w : World) : (binOp .neq 26 (.agg m.cells) (.agg m.cells)).run Tryz.prog w = .ok (.bool false) w := by
  rw [run_neq_struct, show (10000 : Nat) = 9997 + 3 from rfl, run_eqM]
  rfl
theorem run_eqlM (m : Mem) (w : World) : (binOp .eql 26 (.agg m.cells) (.agg m.cells)).run Tryz.prog w = .ok (.bool true) w := by
  rw [run_eql_struct, show (10000 : Nat) = 9997 + 3 from rfl, run_eqM]
  rfl
theorem guard_neqM (x y : Operand) (xs ys : Array Value) (w : World) : (eqGuard .neq 26 x y (.agg xs) (.agg ys)).run Tryz.prog w = .ok () w := run_eqGuard_agg w .neq _ x y xs ys guardM
theorem guard_eqlM (x y : Operand) (xs ys : Array Value) (w : World) : (eqGuard .eql 26 x y (.agg xs) (.agg ys)).run Tryz.prog w = .ok () w := run_eqGuard_agg w .eql _ x y xs ys guardM
end Go.Proofs.YthpmocfdnoehoaaGreatDoor
/- Contract of SameMembers: two lists that are the same. -/
namespace Go.Proofs.YthpmocfdnoehoaaGreatDoor
open Go.RowKit
attribute [local go_sem] run_neqM guard_neqM
set_option maxHeartbeats 1600000 in
set_option maxRecDepth 100000 in
theorem same_any (l : List Mem) (p q : Option Addr) (c d : Nat) (w : World) (hP : MemsAt w p l) (hQ : MemsAt w q l) (hn : l.length ≤ 1152921504606846975) :
    Calls Tryz.prog 35 #[.slice p l.length c, .slice q l.length d] w fun e w' => e = .returned (.bool true) ∧ Below w.heap.size w w' := by
  go_enter Tryz.func35, Tryz.ntmps35
  obtain ⟨n, hnl⟩ : ∃ n, l.length = n := ⟨_, rfl⟩
  rw [hnl] at hn ⊢
  have HN := Lib.hid hnl
  have HP := Lib.hid hP
  have HQ := Lib.hid hQ
  clear hnl hP hQ
  go_wp2_with fail
  go_loopw [5] (fun iv wr => ∃ k : Nat, k ≤ n ∧ iv = .int .i64 k ∧ Hid (Below w.heap.size w wr)) (fun iv _ => n - (intOf iv).toNat)
  case atStart => exact ⟨0, Nat.zero_le _, rfl, Below.refl _ _⟩
  case round =>
    obtain ⟨k, hk, rfl, hbel⟩ := hrel
    by_cases hlt : k < n
    · obtain ⟨m, hm⟩ : ∃ m, l[k]? = some m := ⟨_, List.getElem?_eq_getElem (i := k) (by have := HN.out; omega)⟩
      obtain ⟨b, off, rfl, hb⟩ := HP.out.1 k (by have := HN.out; omega)
      obtain ⟨b2, off2, rfl, hb2⟩ := HQ.out.1 k (by have := HN.out; omega)
      have hrow : ∀ j, j < 13 → wr.cell? ⟨b, off + (k * 13 + j), none⟩ = m.cells[j]? := fun j hj => (hbel.out.cell (p := ⟨b, off + (k * 13 + j), none⟩) hb).trans (HP.out.2 b off rfl k m hm j hj)
      have hrow2 : ∀ j, j < 13 → wr.cell? ⟨b2, off2 + (k * 13 + j), none⟩ = m.cells[j]? := fun j hj => (hbel.out.cell (p := ⟨b2, off2 + (k * 13 + j), none⟩) hb2).trans (HQ.out.2 b2 off2 rfl k m hm j hj)
      have c0 : wr.cell? ⟨b, off + k * 13, none⟩ = some (.string m.hdr.path) := row_cell hrow (j := 0) (by decide) rfl
      have d0 : wr.cell? ⟨b2, off2 + k * 13, none⟩ = some (.string m.hdr.path) := row_cell hrow2 (j := 0) (by decide) rfl
      have c1 := row_cell hrow (j := 1) (by decide) rfl
      have d1 := row_cell hrow2 (j := 1) (by decide) rfl
      have c2 := row_cell hrow (j := 2) (by decide) rfl
      have d2 := row_cell hrow2 (j := 2) (by decide) rfl
      have c3 := row_cell hrow (j := 3) (by decide) rfl
      have d3 := row_cell hrow2 (j := 3) (by decide) rfl
      have c4 := row_cell hrow (j := 4) (by decide) rfl
      have d4 := row_cell hrow2 (j := 4) (by decide) rfl
      have c5 := row_cell hrow (j := 5) (by decide) rfl
      have d5 := row_cell hrow2 (j := 5) (by decide) rfl
      have c6 := row_cell hrow (j := 6) (by decide) rfl
      have d6 := row_cell hrow2 (j := 6) (by decide) rfl
      have c7 := row_cell hrow (j := 7) (by decide) rfl
      have d7 := row_cell hrow2 (j := 7) (by decide) rfl
      have c8 := row_cell hrow (j := 8) (by decide) rfl
      have d8 := row_cell hrow2 (j := 8) (by decide) rfl
      have c9 := row_cell hrow (j := 9) (by decide) rfl
      have d9 := row_cell hrow2 (j := 9) (by decide) rfl
      have c10 := row_cell hrow (j := 10) (by decide) rfl
      have d10 := row_cell hrow2 (j := 10) (by decide) rfl
      have c11 := row_cell hrow (j := 11) (by decide) rfl
      have d11 := row_cell hrow2 (j := 11) (by decide) rfl
      have c12 := row_cell hrow (j := 12) (by decide) rfl
      have d12 := row_cell hrow2 (j := 12) (by decide) rfl
      clear hm hrow hrow2
      go_wp2_with fail
      go_region
      clear c0 c1 c2 c3 c4 c5 c6 c7 c8 c9 c10 c11 c12 d0 d1 d2 d3 d4 d5 d6 d7 d8 d9 d10 d11 d12
      go_wp2_with fail
      go_roundw
      case rel => exact ⟨k + 1, by omega, by rw [Int.natCast_add]; rfl, hbel.out.drew⟩
      case measure => simp [intOf]; omega
    · go_wp2_with fail
      go_ret
      exact ⟨rfl, hbel.out⟩
end Go.Proofs.YthpmocfdnoehoaaGreatDoor
/- Contracts of the kit's marks: MarkText, markMembers, FullMembers, LentMembers, KeptFullMembers, KeptMembers. -/
namespace Go.Proofs.YthpmocfdnoehoaaGreatDoor
open Go.RowKit
/-- The text of a mark. -/
def byteI (x : Int) : UInt8 := (x % 256).toNat.toUInt8
def markT (k : Nat) (i : Int) : ByteArray := ⟨#[35, byteI k, byteI ((k : Int) / 256), byteI i, byteI (i / 256)]⟩
def markM (k : Nat) (i : Int) : Mem := ⟨{ path := ⟨#[]⟩, mode := -7, uid := 0, gid := 0, size := 0, time := 0, typ := 0, link := ⟨#[]⟩, user := ⟨#[]⟩, group := ⟨#[]⟩, major := 0, minor := 0 }, markT k i⟩
theorem conv_new (w : World) (l : Bs) : (convert 48 9 (.slice (some ⟨w.heap.size, 0, none⟩) l.length l.length)).run Tryz.prog (w.alloc (.cells (l.map byteV).toArray 5)) = .ok (.string ⟨l.toArray⟩) (w.alloc (.cells (l.map byteV).toArray 5)) := by
  exact run_convert_bytes_back (P := Tryz.prog) (w.alloc (.cells (l.map byteV).toArray 5)) 48 9 5 ⟨w.heap.size, 0, none⟩ l.length l Tryz.underlying48 Tryz.underlying5 Tryz.underlying9 (fun j hj => by
    rw [show ((⟨w.heap.size, 0, none⟩ : Addr).add j) = ⟨w.heap.size, j, none⟩ by simp [Addr.add]; intro e; exact e.symm, cell_new]
    simp [hj]
    rfl)
theorem byteV_int (x : Int) : byteV (byteI x) = .int .u8 (x % 256) := by
  unfold byteV byteI
  rw [Nat.toUInt8, UInt8.toNat_ofNat']
  congr 1
  omega
theorem mark_conv (k : Nat) (i : Int) (w : World) (hk : k ≤ 1000) : (convert 48 9 (.slice (some ⟨w.heap.size, 0, none⟩) 5 5)).run Tryz.prog (w.alloc (.cells #[.int .u8 35, .int .u8 ((k : Int) % 256), .int .u8 ((k : Int) / 256), .int .u8 (i % 256), .int .u8 (i / 256 % 256)] 5)) = .ok (.string (markT k i)) (w.alloc (.cells #[.int .u8 35, .int .u8 ((k : Int) % 256), .int .u8 ((k : Int) / 256), .int .u8 (i % 256), .int .u8 (i / 256 % 256)] 5)) := by
  have h := conv_new w [35, byteI k, byteI ((k : Int) / 256), byteI i, byteI (i / 256)]
  have e : (([35, byteI k, byteI ((k : Int) / 256), byteI i, byteI (i / 256)] : Bs).map byteV).toArray = #[.int .u8 35, .int .u8 ((k : Int) % 256), .int .u8 ((k : Int) / 256), .int .u8 (i % 256), .int .u8 (i / 256 % 256)] := by
    simp only [List.map_cons, List.map_nil, byteV_int]
    rw [show (k : Int) / 256 % 256 = (k : Int) / 256 by omega]
    rfl
  rw [e] at h
  exact h
set_option maxHeartbeats 1600000 in
set_option maxRecDepth 100000 in
theorem markText_any (k : Nat) (i : Int) (w : World) (hk : k ≤ 1000) (hi : i ≤ 33554432) (hi2 : -33554432 ≤ i) :
    Calls Tryz.prog 64 #[.int .i64 k, .int .i64 i] w fun e w' => e = .returned (.string (markT k i)) ∧ Below w.heap.size w w' := by
  have hc := mark_conv k i w hk
  go_enter Tryz.func64, Tryz.ntmps64
  go_wp2_with fail
  go_ret
  exact ⟨rfl, (Below.refl _ _).alloc (Nat.le_refl _) _⟩
set_option maxHeartbeats 1600000 in
set_option maxRecDepth 100000 in
theorem markM_any (k : Nat) (i : Int) (w : World) (hk : k ≤ 1000) (hi : i ≤ 33554432) (hi2 : -33554432 ≤ i) :
    Calls Tryz.prog 44 #[.int .i64 k, .int .i64 i] w fun e w' => e = .returned (.agg (markM k i).cells) ∧ Below w.heap.size w w' := by
  go_enter Tryz.func44, Tryz.ntmps44
  go_wp2_with fail
  refine (markText_any k i _ hk hi hi2).mono ?_
  rintro e w1 ⟨rfl, hb⟩
  have hz : w.heap.size < (w.alloc (.cells zm 26)).heap.size := by rw [World.size_alloc]; omega
  have hr : w1.heap[w.heap.size]? = some (.cells zm 26 (0, 0)) := (hb.block w.heap.size hz).trans (heap_new w (.cells zm 26))
  have HB := Lib.hid (((Below.refl _ w).alloc (Nat.le_refl _) (.cells zm 26)).trans (hb.mono (Nat.le_of_lt hz)))
  have HR := Lib.hid hr
  have cr : ∀ i : Nat, w1.cell? ⟨w.heap.size, i, none⟩ = zm[i]? := fun i => cell_of_heapN hr
  have fr : ∀ i : Nat, w1.frozen? ⟨w.heap.size, i, none⟩ = false := fun i => frozen_blk hr
  clear hb hr hz
  go_wp2_with fail
  rw [set13 HR.out _ _ _ _ _ _ _ _ _ _ _ _ _]
  have hh : (setBlk w1 w.heap.size (.cells (markM k i).cells 26 (0, 0))).heap[w.heap.size]? = some (.cells (markM k i).cells 26 (0, 0)) := setBlk_heap (blk_lt HR.out)
  have hc : ∀ j : Nat, (setBlk w1 w.heap.size (.cells (markM k i).cells 26 (0, 0))).cell? ⟨w.heap.size, j, none⟩ = (markM k i).cells[j]? := fun j => cell_of_heapN hh
  have hB : Below w.heap.size w (setBlk w1 w.heap.size (.cells (markM k i).cells 26 (0, 0))) := HB.out.setBlk (Nat.le_refl _)
  change bodyPost _ _ _ _ _ (setBlk w1 w.heap.size (.cells (markM k i).cells 26 (0, 0)))
  generalize setBlk w1 w.heap.size (.cells (markM k i).cells 26 (0, 0)) = w2 at hc hB
  exact bodyPost_ret (v := .agg (markM k i).cells) (by simp [results, Tryz.f44, go_sem, hc]) rfl ⟨rfl, hB⟩
end Go.Proofs.YthpmocfdnoehoaaGreatDoor
