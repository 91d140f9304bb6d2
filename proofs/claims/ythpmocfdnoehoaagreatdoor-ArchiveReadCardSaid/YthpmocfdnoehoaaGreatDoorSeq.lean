/- archive.members: what it hands out. -/
import Derived.Test.YthpmocfdnoehoaaGreatDoorMember
import Derived.RangeFuncNested
import Derived.RangeFuncBound
import Derived.RangeFuncCalls
import Derived.RangeFuncLeaves
import Derived.Shelf.Abstract
import Derived.Shelf.RegionOpen
import Derived.OwnWalkIn
import Derived.TacticsInMore
import Derived.LoopNIn
import Derived.LoopIn
namespace Go.Proofs.YthpmocfdnoehoaaGreatDoor
open Go.RowKit Go.Shelf
attribute [local go_sem] Oper.semAt_some
/-- What is handed out: a member, or the error. -/
inductive RdX where
  | mem (m : Mem)
  | bad (e : Int) (i : Nat)
def rdE : RdX → Array Value
  | .mem m => #[.agg m.cells, .nilIface]
  | .bad e i => #[.agg zm, faultV e 0 i]
/-- What is handed out from a byte on. -/
def rdGo (l : Bs) : Nat → Nat → List RdX
  | 0, _ => []
  | f + 1, i =>
    if l.length < i + 512 then [.bad 2 i] else
    if zeroAt l i = true then (if (endGo l (l.length + 1) (i + 512)).1 = 0 then [] else [.bad (endGo l (l.length + 1) (i + 512)).1 (endGo l (l.length + 1) (i + 512)).2]) else
    match memAt l i with
    | .bad e j => [.bad e j]
    | .good m n => .mem m :: rdGo l f n
theorem rdGo_short {l : Bs} {f i : Nat} (hf : 0 < f) (h : l.length < i + 512) : rdGo l f i = [.bad 2 i] := by
  obtain ⟨g, rfl⟩ : ∃ g, f = g + 1 := ⟨f - 1, by omega⟩
  rw [rdGo, if_pos h]
theorem rdGo_end {l : Bs} {f i : Nat} (hf : 0 < f) (h : ¬ l.length < i + 512) (hz : zeroAt l i = true) : rdGo l f i = (if (endGo l (l.length + 1) (i + 512)).1 = 0 then [] else [.bad (endGo l (l.length + 1) (i + 512)).1 (endGo l (l.length + 1) (i + 512)).2]) := by
  obtain ⟨g, rfl⟩ : ∃ g, f = g + 1 := ⟨f - 1, by omega⟩
  rw [rdGo, if_neg h, if_pos hz]
theorem rdGo_bad {l : Bs} {f i j : Nat} {e : Int} (hf : 0 < f) (h : ¬ l.length < i + 512) (hz : zeroAt l i = false) (hm : memAt l i = .bad e j) : rdGo l f i = [.bad e j] := by
  obtain ⟨g, rfl⟩ : ∃ g, f = g + 1 := ⟨f - 1, by omega⟩
  rw [rdGo, if_neg h, if_neg (by simp [hz])]
  simp only [hm]
theorem rdGo_mem {l : Bs} {f i n : Nat} {m : Mem} (hf : 0 < f) (h : ¬ l.length < i + 512) (hz : zeroAt l i = false) (hm : memAt l i = .good m n) : rdGo l f i = .mem m :: rdGo l (f - 1) n := by
  obtain ⟨g, rfl⟩ : ∃ g, f = g + 1 := ⟨f - 1, by omega⟩
  rw [rdGo, if_neg h, if_neg (by simp [hz])]
  simp only [hm, Nat.add_sub_cancel]
theorem snoc_len {α : Type} {p q r : List α} {x : α} (h : p ++ x :: q = r) : p.length < r.length := by rw [← h]; simp
theorem snoc_pre {α : Type} {p q r : List α} {x : α} (h : p ++ x :: q = r) : p ++ [x] <+: r := ⟨q, by rw [← h]; simp⟩
theorem memAt_next {l : Bs} {i k : Nat} {m : Mem} (h : memAt l i = .good m k) : i + 512 ≤ k ∧ k ≤ l.length := by
  unfold memAt at h
  split at h
  · cases h
  · split at h
    · cases h
    · rename_i hc
      obtain ⟨-, rfl⟩ := MemR.good.inj h
      exact ⟨by omega, by omega⟩
theorem grown_none {w w' : World} (h : Below w.heap.size w w') : w.grownBy w' none := ⟨h.os, h.tape, h.output, h.size, fun k hk _ => h.block k hk⟩
/-- Two blocks lie as they lay. -/
def Kp2 (b c : Nat) (A B : World) : Prop := A.heap.size ≤ B.heap.size ∧ B.heap[b]? = A.heap[b]? ∧ B.heap[c]? = A.heap[c]?
theorem Kp2.trans {b c : Nat} {A B C : World} (h : Kp2 b c A B) (k : Kp2 b c B C) : Kp2 b c A C :=
  ⟨Nat.le_trans h.1 k.1, k.2.1.trans h.2.1, k.2.2.trans h.2.2⟩
theorem Kp2.put {b c : Nat} {w : World} (hb : b < w.heap.size) (hc : c < w.heap.size) (W : World) (l : Nat) (o o' : Obj) (hl : w.heap.size ≤ l) (hW : W.heap[l]? = some o) (_ : o.isCells = false) (_ : o.isWalk = false) : Kp2 b c W (W.putObj l o') := by
  have h := grownBy_putObj' W l o'
  have hlt := (Array.getElem?_eq_some_iff.1 hW).1
  exact ⟨h.size, h.block b (by omega) (by intro e; cases e; omega), h.block c (by omega) (by intro e; cases e; omega)⟩
theorem ByAt.kp2 {b c : Nat} {A B : World} {l : Bs} (h : Kp2 b c A B) (hb : ByAt A b l) : ByAt B b l :=
  ⟨Nat.lt_of_lt_of_le hb.1 h.1, fun i x hx => by rw [← hb.2 i x hx]; exact World.cell?_of_block (w := A) h.2.1⟩
/-- members makes the closure: its argument lies in a block. -/
theorem members_any (p : Option Addr) (n cap : Nat) (w : World) :
    Calls Tryz.prog 40 #[.slice p n cap] w fun e w' => e = .returned (.func (.func 59) #[] #[.pointer (some ⟨w.heap.size, 0, none⟩)]) ∧ w' = w.alloc (.cells #[.slice p n cap] 48) := by
  go_enter Tryz.func40, Tryz.ntmps40
  go_wp2_with fail
  go_ret
  exact ⟨rfl, rfl⟩
set_option maxHeartbeats 1600000 in
set_option maxRecDepth 100000 in
theorem mems_stops (b c cap : Nat) (l : Bs) (w : World) (hb : ByAt w b l) (hl : l.length ≤ 1152921504606846) (hc : l.length ≤ cap) (hc2 : cap ≤ 9223372036854775807) (hcc : w.heap[c]? = some (.cells #[.slice (some ⟨b, 0, none⟩) l.length cap] 48 (0, 0))) (n : Nat) (hn : 1 ≤ n) :
    SeqStopsK Fence.wide n Tryz.prog 59 #[.pointer (some ⟨c, 0, none⟩)] rdE (Kp2 b c) (fun ys => ys = rdGo l (l.length + 1) 0) (fun ys => ys <+: rdGo l (l.length + 1) 0) (rdGo l (l.length + 1) 0).length w := by
  intro y J Jx W hW hJ hJx hY h0
  refine callsIn_of_wp Tryz.func59 rfl trivial ?_ rfl
  simp only [Tryz.ntmps59, List.size_toArray, List.length_cons, List.length_nil, Nat.reduceAdd, Nat.reduceSub, Array.replicate_succ, Array.replicate_zero, List.push_toArray, List.append_toArray, List.nil_append, List.cons_append]
  have hbW := hb.keep hW hb.1
  have hcW : W.heap[c]? = some (.cells #[.slice (some ⟨b, 0, none⟩) l.length cap] 48 (0, 0)) := (hW.block c (blk_lt hcc)).trans hcc
  obtain ⟨N, hN⟩ : ∃ N, l.length = N := ⟨_, rfl⟩
  have HY := Lib.hid hY
  have HBW := Lib.hid hbW
  have HCW := Lib.hid hcW
  have HJ := Lib.hid hJ
  have HJX := Lib.hid hJx
  have H0 := Lib.hid h0
  clear hY hbW hcW hJ hJx h0 hb hcc
  rw [hN] at hl hc HCW
  have HN := Lib.hid hN
  clear hN
  gi_wp2
  gi_loopw [3] (fun iv wr => ∃ (i f : Nat) (pre : List RdX), i ≤ N ∧ iv = .int .i64 i ∧ Hid (N < f + i) ∧ Hid (pre ++ rdGo l f i = rdGo l (l.length + 1) 0) ∧ Hid (Kp2 b c W wr) ∧ Hid (J pre wr)) (fun iv _ => N + 1 - (intOf iv).toNat)
  case atStart =>
    exact ⟨0, l.length + 1, [], by omega, rfl, (show N < l.length + 1 + 0 by have := HN.out; omega), rfl, ⟨Nat.le_refl _, rfl, rfl⟩, H0.out⟩
  case round =>
    obtain ⟨i, f, pre, hi, rfl, hf, hpre, hkp, hj⟩ := hrel
    have hcr : wr.heap[c]? = some (.cells #[.slice (some ⟨b, 0, none⟩) N cap] 48 (0, 0)) := hkp.out.2.2.trans HCW.out
    have cc : wr.cell? ⟨c, 0, none⟩ = some (.slice (some ⟨b, 0, none⟩) N cap) := cell_of_heapN hcr
    have HCR := Lib.hid hcr
    have hby := HBW.out.kp2 hkp.out
    have HBY := Lib.hid hby
    clear hcr hby
    by_cases h1 : N < i + 512
    · have hg : pre ++ [.bad 2 i] = rdGo l (l.length + 1) 0 := by rw [← hpre.out, rdGo_short (by have := hf.out; omega) (by rw [HN.out]; exact h1)]
      obtain ⟨fn, tmps, assign, body, hy, hR⟩ := HY.out pre (.bad 2 i) wr hj.out (snoc_len hg)
      dsimp only [rdE, zm, faultV] at hy
      gi_wp2_with (refine ⟨trivial, ?_⟩; gi_at_call 60; refine (callsIn_wide.2 (piece_no b N cap i _ (by omega) (by omega) (by omega) (by omega))).mono ?_; rintro e w1 ⟨rfl, rfl⟩)
      refine hR.mono ?_
      rintro e W' (⟨rfl, hJ', hk⟩ | ⟨rfl, hJx'⟩)
      · gi_wp2
        exact bodyPost_ret (results_none rfl _ _ _) rfl ⟨⟨_, rfl⟩, .inl ⟨_, hg, hJ'⟩⟩
      · gi_wp2
        exact bodyPost_ret (results_none rfl _ _ _) rfl ⟨⟨_, rfl⟩, .inr ⟨_, ⟨[], by rw [List.append_nil]; exact hg⟩, hJx'⟩⟩
    · have hby := HBY.out
      cases hz : zeroAt l i with
      | true =>
        have HZ := Lib.hid hz
        have hem := empty_any b i l wr hby (by rw [HN.out]; omega)
        rw [hz] at hem
        have hen := end_any b (i + 512) cap l wr hby (by rw [HN.out]; omega) (by rw [HN.out]; exact hc) hc2 (by rw [HN.out]; omega)
        obtain ⟨x, hx⟩ : ∃ x, endGo l (l.length + 1) (i + 512) = x := ⟨_, rfl⟩
        rw [hx, HN.out] at hen
        have HX := Lib.hid hx
        clear hz hx hby
        by_cases hx0 : x.1 = 0
        · unfold endV at hen
          rw [if_pos hx0] at hen
          have HX0 := Lib.hid hx0
          clear hx0
          gi_wp2_with (first
            | (refine ⟨trivial, ?_⟩; gi_at_call 60; refine (callsIn_wide.2 (piece_yes b N cap i _ (by omega) hc hc2 (by omega))).mono ?_; rintro e w1 ⟨rfl, rfl⟩)
            | (refine ⟨trivial, ?_⟩; gi_at_call 61; refine (callsIn_wide.2 hem).mono ?_; rintro e w1 ⟨rfl, rfl⟩)
            | (refine ⟨trivial, ?_⟩; gi_at_call 62; refine (callsIn_wide.2 hen).mono ?_; rintro e w1 ⟨rfl, rfl⟩))
          exact bodyPost_ret (results_none rfl _ _ _) rfl ⟨⟨_, rfl⟩, .inl ⟨pre, (by rw [← hpre.out, rdGo_end (by have := hf.out; omega) (by rw [HN.out]; exact h1) HZ.out, HX.out, if_pos HX0.out, List.append_nil]), hj.out⟩⟩
        · have hg : pre ++ [.bad x.1 x.2] = rdGo l (l.length + 1) 0 := by rw [← hpre.out, rdGo_end (by have := hf.out; omega) (by rw [HN.out]; exact h1) HZ.out, HX.out, if_neg hx0]
          obtain ⟨fn, tmps, assign, body, hy, hR⟩ := HY.out pre (.bad x.1 x.2) wr hj.out (snoc_len hg)
          dsimp only [rdE, zm, faultV] at hy
          unfold endV at hen
          rw [if_neg hx0] at hen
          unfold faultV at hen
          have HX0 := Lib.hid hx0
          clear hx0
          gi_wp2_with (first
            | (refine ⟨trivial, ?_⟩; gi_at_call 60; refine (callsIn_wide.2 (piece_yes b N cap i _ (by omega) hc hc2 (by omega))).mono ?_; rintro e w1 ⟨rfl, rfl⟩)
            | (refine ⟨trivial, ?_⟩; gi_at_call 61; refine (callsIn_wide.2 hem).mono ?_; rintro e w1 ⟨rfl, rfl⟩)
            | (refine ⟨trivial, ?_⟩; gi_at_call 62; refine (callsIn_wide.2 hen).mono ?_; rintro e w1 ⟨rfl, rfl⟩))
          refine hR.mono ?_
          rintro e W' (⟨rfl, hJ', hk⟩ | ⟨rfl, hJx'⟩)
          · gi_wp2
            exact bodyPost_ret (results_none rfl _ _ _) rfl ⟨⟨_, rfl⟩, .inl ⟨_, hg, hJ'⟩⟩
          · gi_wp2
            exact bodyPost_ret (results_none rfl _ _ _) rfl ⟨⟨_, rfl⟩, .inr ⟨_, ⟨[], by rw [List.append_nil]; exact hg⟩, hJx'⟩⟩
      | false =>
        have HZ := Lib.hid hz
        have hem := empty_any b i l wr hby (by rw [HN.out]; omega)
        rw [hz] at hem
        have hme := member_any b i cap l wr hby (by rw [HN.out]; exact hl) (by rw [HN.out]; exact hc) hc2 (by rw [HN.out]; omega)
        rw [HN.out] at hme
        cases hR : memAt l i with
        | bad e j =>
          rw [hR] at hme
          unfold memV faultV at hme
          have HR := Lib.hid hR
          clear hR hz hby
          have hg : pre ++ [.bad e j] = rdGo l (l.length + 1) 0 := by rw [← hpre.out, rdGo_bad (by have := hf.out; omega) (by rw [HN.out]; exact h1) HZ.out HR.out]
          gi_wp2_with (first
            | (refine ⟨trivial, ?_⟩; gi_at_call 60; refine (callsIn_wide.2 (piece_yes b N cap i _ (by omega) hc hc2 (by omega))).mono ?_; rintro e w1 ⟨rfl, rfl⟩)
            | (refine ⟨trivial, ?_⟩; gi_at_call 61; refine (callsIn_wide.2 hem).mono ?_; rintro e w1 ⟨rfl, rfl⟩))
          refine ⟨trivial, ?_⟩
          refine (callsIn_wide.2 hme).mono ?_
          rintro _ w2 ⟨rfl, hb2⟩
          have hb3 := hb2.alloc hb2.size (.cells zm 26)
          have hj2 := HJ.out pre wr _ none hj.out (grown_none hb3) (by intro r h; cases h)
          obtain ⟨fn, tmps, assign, body, hy, hR⟩ := HY.out pre (.bad e j) _ hj2 (snoc_len hg)
          dsimp only [rdE, zm, faultV] at hy hR
          clear hb2 hb3 hj2
          gi_wp2
          refine hR.mono ?_
          rintro e' W' (⟨rfl, hJ', hk⟩ | ⟨rfl, hJx'⟩)
          · gi_wp2
            exact bodyPost_ret (results_none rfl _ _ _) rfl ⟨⟨_, rfl⟩, .inl ⟨_, hg, hJ'⟩⟩
          · gi_wp2
            exact bodyPost_ret (results_none rfl _ _ _) rfl ⟨⟨_, rfl⟩, .inr ⟨_, ⟨[], by rw [List.append_nil]; exact hg⟩, hJx'⟩⟩
        | good m k =>
          rw [hR] at hme
          unfold memV at hme
          have HR := Lib.hid hR
          clear hR hz hby
          have hg : pre ++ .mem m :: rdGo l (f - 1) k = rdGo l (l.length + 1) 0 := by rw [← hpre.out, rdGo_mem (by have := hf.out; omega) (by rw [HN.out]; exact h1) HZ.out HR.out]
          gi_wp2_with (first
            | (refine ⟨trivial, ?_⟩; gi_at_call 60; refine (callsIn_wide.2 (piece_yes b N cap i _ (by omega) hc hc2 (by omega))).mono ?_; rintro e w1 ⟨rfl, rfl⟩)
            | (refine ⟨trivial, ?_⟩; gi_at_call 61; refine (callsIn_wide.2 hem).mono ?_; rintro e w1 ⟨rfl, rfl⟩))
          refine ⟨trivial, ?_⟩
          refine (callsIn_wide.2 hme).mono ?_
          rintro _ w2 ⟨rfl, hb2⟩
          have hb3 := hb2.alloc hb2.size (.cells m.cells 26)
          have hj2 := HJ.out pre wr _ none hj.out (grown_none hb3) (by intro r h; cases h)
          obtain ⟨fn, tmps, assign, body, hy, hR⟩ := HY.out pre (.mem m) _ hj2 (snoc_len hg)
          dsimp only [rdE, Mem.cells] at hy hR
          have HB2 := Lib.hid hb3
          clear hb2 hb3 hj2
          gi_wp2
          refine hR.mono ?_
          rintro e' W' (⟨rfl, hJ', hk⟩ | ⟨rfl, hJx'⟩)
          · have HK := Lib.hid hk
            have HJ' := Lib.hid hJ'
            have HNX := Lib.hid (memAt_next HR.out)
            clear hk hJ'
            gi_wp2
            go_roundw
            case rel =>
              refine ⟨k, f - 1, pre ++ [.mem m], (by have := HNX.out.2; have := HN.out; omega), rfl, (by have := HNX.out; have := hf.out; show N < f - 1 + k; omega), (by show _ = _; rw [List.append_assoc]; exact hg), ?_, HJ'⟩
              exact hkp.out.trans (Kp2.trans ⟨HB2.out.size, HB2.out.block b HBY.out.1, HB2.out.block c (blk_lt HCR.out)⟩ HK.out)
            case measure => have := HNX.out; simp [intOf]; omega
          · gi_wp2
            exact bodyPost_ret (results_none rfl _ _ _) rfl ⟨⟨_, rfl⟩, .inr ⟨_, snoc_pre hg, hJx'⟩⟩
end Go.Proofs.YthpmocfdnoehoaaGreatDoor
