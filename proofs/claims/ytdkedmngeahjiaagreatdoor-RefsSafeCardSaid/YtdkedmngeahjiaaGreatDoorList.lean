/- The contract of List. -/
import Derived.Test.YtdkedmngeahjiaaGreatDoorDiskA
import Derived.Test.YtdkedmngeahjiaaGreatDoorNames
import Derived.Test.YtdkedmngeahjiaaGreatDoorFailP
namespace Go.Proofs.YtdkedmngeahjiaaGreatDoor
open Go Go.RowKit Go.Maps Go.Shelf Go.Sort
def nameB (p : Bs × Nat) : ByteArray := ⟨p.1.toArray⟩
def hasHead (h : ByteArray) (p : Bs × Nat) : Bool := Lib.hasPrefix p.1 h.data.toList
/-- What is listed. -/
def DM.lists (m : DM) (h : ByteArray) : List ByteArray := if m.off then [] else (m.now.filter (hasHead h)).map nameB
def strV (s : ByteArray) : Value := .string s
/-- A list of texts of the call's own. -/
def OwnTexts (B : Nat) (w : World) (v : Value) (l : List ByteArray) : Prop := w.ownsRow B 9 1 v l.length (l.map strV)
theorem infoS : (Tryz.prog.info? 9).map (fun i => (i.zero, i.size, i.bytes)) = some (some (.string ⟨#[]⟩), 1, 16) := by kernel_rfl
/-- The loop. -/
structure ListR (w wr : World) (t : Tab) (h : ByteArray) (np : Option Addr) (v : Value) (j : Nat) : Prop where
  own : OwnTexts w.heap.size wr v (((t.take j).filter (hasHead h)).map nameB)
  bel : Below w.heap.size w wr
  row : ∀ (i : Nat) (p : Bs × Nat), t[i]? = some p → ∃ g cs, np = some ⟨g, 0, none⟩ ∧ wr.heap[g]? = some (.cells cs 9 (0, 0)) ∧ cs[i]? = some (.string (nameB p)) ∧ v.ownBlock ≠ some g
theorem listR_start {w w2 : World} {t : Tab} {loc : Nat → Nat} {h : ByteArray} {np : Option Addr} {b : Nat} (h2 : Below (w.heap.size + 1) (w.alloc (.cells #[.map (some b)] 85)) w2)
    (hnp : ∀ (i : Nat) (u : Value), ((locT loc t).map nameV)[i]? = some u → ∃ g cs, np = some ⟨g, 0, none⟩ ∧ w2.heap[g]? = some (.cells cs 9 (0, 0)) ∧ cs[i]? = some u) : ListR w w2 t h np (.slice none 0 0) 0 := by
  refine ⟨⟨rfl, .inl ⟨rfl, rfl⟩⟩, ((Below.refl _ w).alloc (Nat.le_refl _) _).trans (h2.mono (by omega)), fun i p hp => ?_⟩
  obtain ⟨g, cs, h3, h4, h5⟩ := hnp i (nameV p) (by unfold locT; rw [List.map_map, List.getElem?_map, hp]; rfl)
  exact ⟨g, cs, h3, h4, h5, fun e => by cases e⟩
theorem take_filter_yes {t : Tab} {f : Bs × Nat → Bool} {j : Nat} {p : Bs × Nat} (hp : t[j]? = some p) (h : f p = true) : (t.take (j + 1)).filter f = (t.take j).filter f ++ [p] := by
  rw [List.take_add_one, hp, List.filter_append]
  simp [h]
theorem take_filter_no {t : Tab} {f : Bs × Nat → Bool} {j : Nat} {p : Bs × Nat} (hp : t[j]? = some p) (h : f p = false) : (t.take (j + 1)).filter f = (t.take j).filter f := by
  rw [List.take_add_one, hp, List.filter_append]
  simp [h]
theorem listR_no {w wr : World} {t : Tab} {h : ByteArray} {np : Option Addr} {v : Value} {j : Nat} {p : Bs × Nat} (hL : ListR w wr t h np v j) (hp : t[j]? = some p) (hh : hasHead h p = false) : ListR w wr t h np v (j + 1) :=
  ⟨by rw [take_filter_no hp hh]; exact hL.own, hL.bel, hL.row⟩
theorem listR_yes {w wr wA w2 : World} {t : Tab} {h : ByteArray} {np : Option Addr} {v v' : Value} {j k : Nat} {p : Bs × Nat} {o : Obj} (hL : ListR w wr t h np v j) (hp : t[j]? = some p) (hh : hasHead h p = true) (hA : wA = wr.alloc o) (hk : k = (((t.take j).filter (hasHead h)).map nameB).length)
    (hrow : w2.ownsRow w.heap.size 9 1 v' (k + 1) ((((t.take j).filter (hasHead h)).map nameB).map strV ++ [.string (nameB p)]))
    (hloc : (v'.ownBlock = v.ownBlock ∧ wA.grownBy w2 v.ownBlock) ∨ (v'.ownBlock = some wA.heap.size ∧ wA.grownBy w2 none)) : ListR w w2 t h np v' (j + 1) := by
  subst hA hk
  have hz := hL.bel.size
  have hvb : ∀ b, v.ownBlock = some b → w.heap.size ≤ b := fun b hb => by
    rcases hL.own.2 with ⟨rfl, _⟩ | ⟨g, cap, cur, rfl, h1, _⟩
    · cases hb
    · cases hb; exact h1
  refine ⟨?_, ?_, fun i q hq => ?_⟩
  · rw [take_filter_yes hp hh, List.map_append]
    unfold OwnTexts
    rw [List.length_append, List.map_append]
    exact hrow
  · have h1 : Below w.heap.size w (wr.alloc o) := hL.bel.alloc hz o
    have hzA : (wr.alloc o).heap.size = wr.heap.size + 1 := World.size_alloc _ _
    rcases hloc with ⟨_, hq⟩ | ⟨_, hq⟩
    · exact h1.trans ⟨hq.os, hq.tape, hq.output, hq.size, fun b hb => hq.block b (by omega) (fun e => by have := hvb b e.symm; omega)⟩
    · exact h1.trans ⟨hq.os, hq.tape, hq.output, hq.size, fun b hb => hq.block b (by omega) (fun e => by cases e)⟩
  · obtain ⟨g, cs, h1, h2, h3, h4⟩ := hL.row i q hq
    have hg := blk_lt h2
    have h5 : (wr.alloc o).heap[g]? = _ := (Below.heap_alloc wr o g hg).trans h2
    rcases hloc with ⟨e, hq⟩ | ⟨e, hq⟩
    · exact ⟨g, cs, h1, (hq.block g (blk_lt h5) (fun e2 => h4 e2.symm)).trans h5, h3, by rw [e]; exact h4⟩
    · refine ⟨g, cs, h1, (hq.block g (blk_lt h5) (fun e2 => by cases e2)).trans h5, h3, fun e2 => ?_⟩
      rw [e] at e2
      cases e2
      rw [World.size_alloc] at hg
      omega
set_option maxHeartbeats 3200000 in
set_option maxRecDepth 100000 in
theorem list_any {w : World} {a n : Nat} {m : DM} {S : Nat → Prop} (h : DiskAt w a n m S) (hd : ByteArray) (hn : n ≤ 8000000000000) :
    Calls Tryz.prog 17 #[.pointer (some ⟨a, 0, none⟩), .string hd] w fun e w' => ∃ v, e = .returned (.tuple #[v, errE (if m.off then 27 else 0)]) ∧ OwnTexts w.heap.size w' v (m.lists hd) ∧ Below w.heap.size w w' := by
  obtain ⟨bn, bs, pv, fv, loc, h⟩ := h
  obtain ⟨c0, -, c2, -⟩ := h.cells
  have H := Lib.hid h
  cases ho : m.off with
  | true =>
    have e : m.lists hd = [] := by unfold DM.lists; rw [ho]; rfl
    rw [ho] at c0
    clear h
    go_enter Tryz.func17, Tryz.ntmps17
    go_wp2_with fail
    go_ret2
    exact ⟨.slice none 0 0, rfl, ⟨rfl, .inl ⟨rfl, rfl⟩⟩, Below.refl _ _⟩
  | false =>
    have e : m.lists hd = (m.now.filter (hasHead hd)).map nameB := by unfold DM.lists; rw [ho]; rfl
    rw [ho] at c0
    have hT := h.now
    have hnow := h.ok.nowN
    have hkc := keys_call bn w
    have hsc := sorted_call hT (by rw [locT_len]; omega)
    have hi := info_parts infoS
    obtain ⟨i0, hi, hz0, hz1, hz2⟩ := hi
    clear h
    go_enter Tryz.func17, Tryz.ntmps17
    go_wp2_with (first
      | (go_at_call 53; refine hkc.mono ?_; rintro e w1 ⟨rfl, rfl⟩)
      | (go_at_call 52; refine hsc.mono ?_; rintro e w2 ⟨v, rfl, hrow, hb2⟩; obtain ⟨np, ncap, rfl, hnp⟩ := row_at hrow; rw [locT_len]; have HL0 := Lib.hid (listR_start (h := hd) hb2 hnp); clear hrow hnp hb2))
    have hni : (m.now.length : Int) ≤ 8000000000000 := by omega
    have hTr := hT
    clear hkc hsc hT hnow
    go_loopw [6, 21] (fun lv iv wr => ∃ j : Nat, j ≤ m.now.length ∧ iv = .int .i64 j ∧ Hid (ListR w wr m.now hd np lv j)) (fun _ iv _ => (m.now.length - intOf iv).toNat)
    case atStart => exact ⟨0, Nat.zero_le _, rfl, HL0⟩
    case round =>
      obtain ⟨j, hj, rfl, HL⟩ := hrel
      by_cases hlt : (j : Int) < (m.now.length : Int)
      · obtain ⟨p, hp⟩ : ∃ p, m.now[j]? = some p := ⟨_, List.getElem?_eq_getElem (by omega)⟩
        obtain ⟨g, cs, rfl, hg, hcs, hnb⟩ := HL.out.row j p hp
        have cn : wr.cell? ⟨g, j, none⟩ = some (.string (nameB p)) := (cell_of_heapN hg).trans hcs
        have HP := Lib.hid hp
        have hpre : ∀ W, Calls Tryz.prog 54 #[.string (nameB p), .string hd] W fun e w' => e = .returned (.bool (hasHead hd p)) ∧ w' = W := fun W => Tryz.strings_HasPrefix (nameB p) hd W
        cases hh : hasHead hd p with
        | false =>
          rw [hh] at hpre
          have HN := Lib.hid (listR_no HL.out hp hh)
          clear hp hg hcs hnb hh
          go_wp2_with (go_at_call 54; refine (hpre _).mono ?_; rintro e w1 ⟨rfl, rfl⟩)
          go_roundw
          case rel => exact ⟨j + 1, by omega, rfl, HN⟩
          case measure => simp [intOf]; omega
        | true =>
          rw [hh] at hpre
          have HH := Lib.hid hh
          have hbw := HL.out.bel.size
          have hown := HL.out.own
          obtain ⟨K, hK⟩ : ∃ K, K = (((m.now.take j).filter (hasHead hd)).map nameB).length := ⟨_, rfl⟩
          have hKj : K ≤ j := by
            rw [hK, List.length_map]
            refine Nat.le_trans (List.length_filter_le _ _) ?_
            rw [List.length_take]
            exact Nat.min_le_left _ _
          unfold OwnTexts at hown
          rw [← hK] at hown
          have HK := Lib.hid hK
          have HO := Lib.hid hown
          clear hp hg hcs hnb hh hK hown
          go_wp2_with (first
            | (go_at_call 54; refine (hpre _).mono ?_; rintro e w1 ⟨rfl, rfl⟩)
            | (at_builtin; refine wpList_app_to rfl _ _ 31 rfl w.heap.size 9 i0 (.string ⟨#[]⟩) 1 16 Tryz.underlying31 hi hz0 hz1 hz2 rfl (by decide) _ K _ rfl (HO.out.alloc _) ⟨w1.heap.size, 0, none⟩ 1 1 [.string (nameB p)] rfl rfl (fun i u h => one_new i u h) (by simp [Value.oneCell']) (by decide) (by unfold maxLen; omega) (by omega) (by rw [World.size_alloc]; omega) ?_; intro v' w2 hrow hloc; have HN := Lib.hid (listR_yes HL.out HP.out HH.out rfl HK.out hrow hloc); clear hrow hloc))
          go_roundw
          case rel => exact ⟨j + 1, by omega, rfl, HN⟩
          case measure => simp [intOf]; omega
      · obtain rfl : j = m.now.length := by omega
        have ho2 := HL.out.own
        rw [List.take_length] at ho2
        have HO2 := Lib.hid ho2
        clear ho2
        go_wp2_with fail
        go_ret2
        exact ⟨_, rfl, HO2.out, HL.out.bel⟩
end Go.Proofs.YtdkedmngeahjiaaGreatDoor
