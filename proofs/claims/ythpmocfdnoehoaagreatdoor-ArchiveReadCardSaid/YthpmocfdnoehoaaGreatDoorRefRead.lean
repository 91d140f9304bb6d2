/- Contract of the reference's Read. -/
import Derived.Test.YthpmocfdnoehoaaGreatDoorRefDec
import Derived.Test.YthpmocfdnoehoaaGreatDoorRead
namespace Go.Proofs.YthpmocfdnoehoaaGreatDoor
open Go.RowKit
def RdPostR (l : Bs) (w : World) (e : Ending) (W' : World) : Prop :=
  ((∃ ms v, rdGo l (l.length + 1) 0 = ms.map .mem ∧ e = .returned (.tuple #[v, .int .i64 0, .int .i64 0]) ∧ OwnMs w.heap.size ms v W') ∨
   (∃ (ms : List Mem) (x : Int) (i : Nat), rdGo l (l.length + 1) 0 = ms.map .mem ++ [.bad x i] ∧ e = .returned (.tuple #[.slice none 0 0, .int .i64 x, .int .i64 i]))) ∧ Below w.heap.size w W'
theorem RdPostR.bad {l : Bs} {w W' : World} {ms : List Mem} {x : Int} {i : Nat} (h : rdGo l (l.length + 1) 0 = ms.map .mem ++ [.bad x i]) (hb : Below w.heap.size w W') :
    RdPostR l w (.returned (.tuple #[.slice none 0 0, .int .i64 x, .int .i64 i])) W' := ⟨.inr ⟨ms, x, i, h, rfl⟩, hb⟩
/-- What lies in memory when a member is put behind the others. -/
structure RdG (w0 : World) (ms : List Mem) (v : Value) (H : Hdr) (B : Nat) (w : World) : Prop where
  own : OwnMs w0.heap.size ms v w
  bel : Below w0.heap.size w0 w
  hh : w.heap[B]? = some (.cells H.cells 24 (0, 0))
theorem RdG.keep {w0 w w' : World} {ms : List Mem} {v : Value} {H : Hdr} {B : Nat} (h : RdG w0 ms v H B w) (hb : Below w.heap.size w w') : RdG w0 ms v H B w' :=
  ⟨h.own.keep hb, h.bel.trans (hb.mono h.bel.size), (hb.block _ (blk_lt h.hh)).trans h.hh⟩
theorem RdG.cell {w0 w : World} {ms : List Mem} {v : Value} {H : Hdr} {B : Nat} (h : RdG w0 ms v H B w) : ∀ i : Nat, w.cell? ⟨B, i, none⟩ = H.cells[i]? := fun _ => cell_of_heapN h.hh
def RdGB (w0 : World) (ms : List Mem) (v : Value) (m : Mem) (B b : Nat) (w : World) : Prop := RdG w0 ms v m.hdr B w ∧ w.heap[b]? = some (.cells m.cells 26 (0, 0))
theorem at13 {w : World} {b : Nat} {m : Mem} {t : TypeId} (h : w.heap[b]? = some (.cells m.cells t (0, 0))) : ∀ (j : Nat) (u : Value), (m.cells.toList)[j]? = some u → w.cell? ((⟨b, 0, none⟩ : Addr).add j) = some u := by
  intro j u hj
  rw [show ((⟨b, 0, none⟩ : Addr).add j) = ⟨b, j, none⟩ by simp [Addr.add]; intro e; exact e.symm, cell_of_heapN h, ← hj, Array.getElem?_toList]
theorem RdG.app {w0 w w1 : World} {ms : List Mem} {m : Mem} {v v' : Value} {B : Nat} (h : RdG w0 ms v m.hdr B w) (hown' : w1.ownsRow w0.heap.size 26 13 v' (ms.length + 1) (memCells ms ++ m.cells.toList)) (hg : w.grownBy w1 v.ownBlock) :
    RdG w0 (ms ++ [m]) v' m.hdr B w1 := by
  have hob : ∀ j, v.ownBlock = some j → w0.heap.size ≤ j ∧ j ≠ B := fun j ej => by
    rcases h.own.1.2 with ⟨rfl, _⟩ | ⟨g, cap, cur, rfl, hb', hg', _⟩
    · simp [Value.ownBlock] at ej
    · obtain rfl : g = j := by simpa [Value.ownBlock] using ej
      refine ⟨hb', fun e => ?_⟩
      rw [e, h.hh] at hg'
      exact absurd (Obj.cells.inj (Option.some.inj hg')).2.1 (by decide)
  refine ⟨⟨by rw [memCells_snoc, List.length_append]; exact hown', ⟨fun e => ?_, fun e => by simp at e⟩⟩, ?_, ?_⟩
  · subst e
    rcases hown'.2 with ⟨_, h2⟩ | ⟨g, cap, cur, h1, _⟩
    · omega
    · cases h1
  · exact h.bel.trans ((Below.refl w0.heap.size w).grown hg h.bel.size fun j ej => (hob j ej).1)
  · exact (hg.block B (blk_lt h.hh) (fun e => (hob B e.symm).2 rfl)).trans h.hh
set_option maxRecDepth 100000 in
theorem ReadR_big (s : ByteArray) (w : World) (hs : (33554432 : Int) < (s.size : Int)) :
    Calls Tryz.prog 34 #[.string s] w fun e w' => e = .returned (.tuple #[.slice none 0 0, .int .i64 5, .int .i64 33554432]) ∧ Below w.heap.size w w' := by
  go_enter Tryz.func34, Tryz.ntmps34
  go_wp2_with fail
  go_ret3
  exact ⟨rfl, Below.refl _ _⟩
set_option maxHeartbeats 6400000 in
set_option maxRecDepth 100000 in
theorem ReadR_any (s : ByteArray) (w : World) (hs : (s.size : Int) ≤ 33554432) :
    Calls Tryz.prog 34 #[.string s] w (RdPostR s.data.toList w) := by
  obtain ⟨i0, hi, hz0, hz1, hz2⟩ := info_parts info33
  have hsl : s.data.toList.length = s.size := rfl
  have HSL := Lib.hid hsl
  clear hsl
  go_enter Tryz.func34, Tryz.ntmps34
  go_wp2_with fail
  go_loopw [5, 6] (fun v iv wr => ∃ (i f : Nat) (ms : List Mem), (i : Int) ≤ (s.size : Int) ∧ iv = .int .i64 i ∧ Hid (s.size < f + i) ∧ Hid (ms.length ≤ i) ∧ Hid (ms.map RdX.mem ++ rdGo s.data.toList f i = rdGo s.data.toList (s.data.toList.length + 1) 0) ∧ Hid (OwnMs w.heap.size ms v wr) ∧ Hid (Below w.heap.size w wr)) (fun _ iv _ => s.size + 1 - (intOf iv).toNat)
  case atStart => exact ⟨0, s.size + 1, [], by omega, rfl, (show s.size < s.size + 1 + 0 by omega), Nat.le_refl _, rfl, ⟨World.ownsRow_nil _ _ _ _, by simp⟩, Below.refl _ _⟩
  case round =>
    obtain ⟨i, f, ms, hle, rfl, hf, hml, hpre, hown, hbel⟩ := hrel
    have hf0 := Lib.hid (show 0 < f by have := hf.out; omega)
    by_cases h1 : (s.size : Int) < (i : Int) + 512
    · have HG := Lib.hid (show rdGo s.data.toList (s.data.toList.length + 1) 0 = ms.map .mem ++ [.bad 2 i] by rw [← hpre.out, rdGo_short hf0.out (by rw [HSL.out]; omega)])
      go_wp2_with fail
      go_ret3
      exact RdPostR.bad HG.out hbel.out
    · have HNN := Lib.hid (fun w1 => noughts_any s i w1 (by omega) (by omega))
      have H1 := Lib.hid (show ¬ s.data.toList.length < i + 512 by rw [HSL.out]; omega)
      go_wp2_with fail
      refine (HNN.out _).mono ?_
      rintro e w1 ⟨rfl, hb1⟩
      have HO1 := Lib.hid (hown.out.keep hb1)
      have HB1 := Lib.hid (hbel.out.trans (hb1.mono hbel.out.size))
      clear hb1 hown hbel HNN
      cases hz : zeroAt s.data.toList i with
      | true =>
        have HZ := Lib.hid hz
        have hbe := fun w2 => behindR_any s (i + 512) w2 (by omega) (by omega)
        rw [← HSL.out] at hbe
        obtain ⟨E, hE⟩ : ∃ E, endGo s.data.toList (s.data.toList.length + 1) (i + 512) = E := ⟨_, rfl⟩
        rw [hE, Int.natCast_add] at hbe
        obtain ⟨x, j⟩ := E
        have HBE := Lib.hid hbe
        have HE := Lib.hid hE
        clear hz hbe hE
        go_wp2_with fail
        refine (HBE.out _).mono ?_
        rintro e w2 ⟨rfl, hb2⟩
        unfold endT
        have HO2 := Lib.hid (HO1.out.keep hb2)
        have HB2 := Lib.hid (HB1.out.trans (hb2.mono HB1.out.size))
        clear hb2 HO1 HB1 HBE
        by_cases hx : x = 0
        · subst hx
          have HG := Lib.hid (show rdGo s.data.toList (s.data.toList.length + 1) 0 = ms.map .mem by rw [← hpre.out, rdGo_end hf0.out H1.out HZ.out, HE.out]; simp)
          go_wp2_with fail
          go_ret3
          exact ⟨.inl ⟨ms, _, HG.out, rfl, HO2.out⟩, HB2.out⟩
        · have HG := Lib.hid (show rdGo s.data.toList (s.data.toList.length + 1) 0 = ms.map .mem ++ [.bad x j] by rw [← hpre.out, rdGo_end hf0.out H1.out HZ.out, HE.out, if_neg hx])
          have hne : (x != 0) = true := by rw [bne_iff_ne]; exact hx
          clear hx
          go_wp2_with fail
          go_ret3
          exact RdPostR.bad HG.out HB2.out
      | false =>
        have HZ := Lib.hid hz
        have hde := fun w2 => DecodeR_any (s.extract i (i + 512)) w2 (by simp; omega)
        have hbl : (s.extract i (i + 512)).data.toList = blkAt s.data.toList i := by
          rw [Lib.extract_data]; unfold blkAt; rw [show i + 512 - i = 512 by omega]
        rw [hbl] at hde
        unfold decV at hde
        have hsb := decSize_bd (blkAt s.data.toList i)
        obtain ⟨H, hH⟩ : ∃ H, decHdr (blkAt s.data.toList i) = H := ⟨_, rfl⟩
        obtain ⟨E, hE⟩ : ∃ E, decErrM (blkAt s.data.toList i) = E := ⟨_, rfl⟩
        rw [hH] at hsb hde
        rw [hE] at hde
        obtain ⟨P0, M0, U0, G0, S0, T0, Y0, L0, V0, R0, A0, I0⟩ := H
        dsimp only at hsb
        obtain ⟨z, rfl⟩ : ∃ z : Nat, S0 = (z : Int) := ⟨S0.toNat, by omega⟩
        have HH := Lib.hid hH
        have HE := Lib.hid hE
        clear hH hE hbl hz
        by_cases hE0 : E = 0
        · rw [if_pos hE0, hE0] at hde
          have HE0 := Lib.hid hE0
          have HDE := Lib.hid hde
          clear hde hE0
          have hzb : (z : Int) < 68719476736 := by omega
          have hbk := fun w2 => blocksR_any z w2 (by omega)
          have hwl := whole_le z
          have HWL := Lib.hid hwl
          obtain ⟨q, hq⟩ : ∃ q, Go.Proofs.YthpmocfdnoehoaaGreatDoor.whole z = q := ⟨_, rfl⟩
          have hq5 : q / 512 * 512 = q := by rw [← hq]; unfold whole; omega
          rw [hq] at hwl hbk
          have HQ := Lib.hid hq
          have hzq : (z : Int) ≤ (q : Int) := by omega
          have hqb : (q : Int) ≤ 68719477247 := by omega
          have hq6 : 512 * ((q : Int) / 512) = (q : Int) := by omega
          have hq7 : (0 : Int) ≤ (q : Int) / 512 := by omega
          have hq8 : (q : Int) / 512 ≤ 134217730 := by omega
          have HBK := Lib.hid hbk
          clear hq hwl hq5 hsb hbk
          go_wp2_with fail
          refine (HDE.out _).mono ?_
          rintro e w2 ⟨rfl, hb2⟩
          have HO2 := Lib.hid (HO1.out.keep hb2)
          have HB2 := Lib.hid (HB1.out.trans (hb2.mono HB1.out.size))
          have HZ2 := Lib.hid (Nat.le_trans HB1.out.size hb2.size)
          clear hb2 HO1 HB1 HDE
          go_wp2_with fail
          refine (HBK.out _).mono ?_
          rintro e w3 ⟨rfl, rfl⟩
          have HR := Lib.hid (show RdG w ms u5 ⟨P0, M0, U0, G0, (z : Int), T0, Y0, L0, V0, R0, A0, I0⟩ w2.heap.size (w2.alloc (.cells (Hdr.cells ⟨P0, M0, U0, G0, (z : Int), T0, Y0, L0, V0, R0, A0, I0⟩) 24)) from ⟨HO2.out.keep ((Below.refl _ _).alloc (Nat.le_refl _) _), HB2.out.alloc HZ2.out _, heap_new _ _⟩)
          obtain ⟨B, hB⟩ : ∃ B, w2.heap.size = B := ⟨_, rfl⟩
          rw [hB] at HR
          rw [hB]
          by_cases h2 : (s.size : Int) - ((i : Int) + 512) < (q : Int)
          · have HG := Lib.hid (show rdGo s.data.toList (s.data.toList.length + 1) 0 = ms.map .mem ++ [.bad 2 ((i + 512 : Nat))] by
              rw [← hpre.out, rdGo_bad hf0.out H1.out HZ.out (by rw [memAt, if_neg (by rw [HE.out, HE0.out]; simp), HH.out, if_pos (.inr (by show s.data.toList.length < i + 512 + Go.Proofs.YthpmocfdnoehoaaGreatDoor.whole z; rw [HQ.out, HSL.out]; omega))])])
            clear hB
            go_wp2_with fail
            go_ret3
            have := RdPostR.bad HG.out HR.out.bel
            rw [Int.natCast_add] at this
            exact this
          · obtain ⟨m, hm⟩ : ∃ m : Mem, m = ⟨⟨P0, M0, U0, G0, (z : Int), T0, Y0, L0, V0, R0, A0, I0⟩, s.extract (i + 512) (i + 512 + z)⟩ := ⟨_, rfl⟩
            have HMEM := Lib.hid (show memAt s.data.toList i = .good m (i + 512 + q) by
              rw [memAt, if_neg (by rw [HE.out, HE0.out]; simp), HH.out, if_neg (by
                show ¬ ((s.data.toList.length : Int) < (z : Int) ∨ s.data.toList.length < i + 512 + Go.Proofs.YthpmocfdnoehoaaGreatDoor.whole z)
                rw [HQ.out, HSL.out]; omega), hm]
              show MemR.good ⟨_, ⟨((s.data.toList.drop (i + 512)).take z).toArray⟩⟩ (i + 512 + Go.Proofs.YthpmocfdnoehoaaGreatDoor.whole z) = _
              rw [HQ.out]
              exact congrArg (fun d => MemR.good ⟨⟨P0, M0, U0, G0, (z : Int), T0, Y0, L0, V0, R0, A0, I0⟩, d⟩ (i + 512 + q)) (bytes_eq (by rw [Lib.extract_data, show i + 512 + z - (i + 512) = z by omega])).symm)
            have HG := Lib.hid (show (ms ++ [m]).map RdX.mem ++ rdGo s.data.toList (f - 1) (i + 512 + q) = rdGo s.data.toList (s.data.toList.length + 1) 0 by
              rw [← hpre.out, rdGo_mem hf0.out H1.out HZ.out HMEM.out, List.map_append, List.append_assoc]; rfl)
            have hmc : m.cells = #[.string P0, .int .i64 M0, .int .i64 U0, .int .i64 G0, .int .i64 (z : Int), .int .i64 T0, .int .u8 (Y0.toNat : Int), .string L0, .string V0, .string R0, .int .i64 A0, .int .i64 I0, .string (s.extract (i + 512) (i + 512 + z))] := by rw [hm]
            have hmh : m.hdr = ⟨P0, M0, U0, G0, (z : Int), T0, Y0, L0, V0, R0, A0, I0⟩ := by rw [hm]
            have HR := Lib.hid (show RdG w ms u5 m.hdr B (w2.alloc (.cells #[.string P0, .int .i64 M0, .int .i64 U0, .int .i64 G0, .int .i64 (z : Int), .int .i64 T0, .int .u8 (Y0.toNat : Int), .string L0, .string V0, .string R0, .int .i64 A0, .int .i64 I0] 24)) by rw [hmh]; exact HR.out)
            have HMC := Lib.hid hmc
            have HMH := Lib.hid hmh
            have hgI := Lib.hid (show RdG w ms u5 m.hdr B (w2.alloc (.cells #[.string P0, .int .i64 M0, .int .i64 U0, .int .i64 G0, .int .i64 (z : Int), .int .i64 T0, .int .u8 (Y0.toNat : Int), .string L0, .string V0, .string R0, .int .i64 A0, .int .i64 I0] 24)).drew from HR.out.keep ((Below.refl _ _).drew))
            have h2' : (i : Int) + 512 + (q : Int) ≤ (s.size : Int) := by omega
            have hd2 : decide ((s.size : Int) - ((i : Int) + 512) < (q : Int)) = false := decide_eq_false h2
            clear hB hmc hmh hm
            have hcell : ∀ W, RdG w ms u5 m.hdr B W → ∀ j : Nat, W.cell? ⟨B, j, none⟩ = (#[.string P0, .int .i64 M0, .int .i64 U0, .int .i64 G0, .int .i64 (z : Int), .int .i64 T0, .int .u8 (Y0.toNat : Int), .string L0, .string V0, .string R0, .int .i64 A0, .int .i64 I0] : Array Value)[j]? := fun W hI j => by
              have := hI.cell j
              rw [HMH.out] at this
              exact this
            have HCELL := Lib.hid hcell
            clear hcell h2
            go_wp2_with fail
            have hw1 : IntKind.i64.wrap ((i : Int) + 512 + (z : Int)) = (i : Int) + 512 + (z : Int) := wrapI (by omega) (by omega)
            have hw2 : (i : Int) + 512 + (z : Int) ≤ (s.size : Int) := by omega
            have hw3 : (0 : Int) ≤ (i : Int) + 512 + (z : Int) := by omega
            have hw4 : (0 : Int) ≤ (i : Int) + 512 := by omega
            have hw5 : (i : Int) + 512 ≤ (i : Int) + 512 + (z : Int) := by omega
            have hw6 : ((i : Int) + 512).toNat = i + 512 := by omega
            have hw7 : ((i : Int) + 512 + (z : Int)).toNat = i + 512 + z := by omega
            refine wp_region_make (RdG w ms u5 m.hdr B) (RdGB w ms u5 m B) 10 (fun b => .slice (some ⟨b, 0, none⟩) 1 1) 11 (fun _ _ hB => hB.1) (by kernel_rfl) (by kernel_rfl) hgI.out ?_
            clear hgI
            simp only [List.take_succ_cons, List.take_zero, List.drop_succ_cons, List.drop_zero]
            refine .inr ⟨by decide, _, yg_still rfl (fun W hI => by go_simp; rfl), ?_⟩
            refine .inr ⟨by decide, _, yg_still rfl (fun W hI => by have cm := HCELL.out W hI; go_simp; rfl), ?_⟩
            refine .inr ⟨by decide, _, yg_still rfl (fun W hI => by go_simp; rfl), ?_⟩
            refine .inr ⟨by decide, _, yg_still rfl (fun W hI => by go_simp; rfl), ?_⟩
            refine .inr ⟨by decide, _, yg_still rfl (fun W hI => by go_simp; rfl), ?_⟩
            refine .inr ⟨by decide, _, yg_still rfl (fun W hI => by go_simp; rfl), ?_⟩
            refine .inr ⟨by decide, _, yg_still rfl (fun W hI => by have cm := HCELL.out W hI; go_simp; rfl), ?_⟩
            refine .inr ⟨by decide, _, yg_still rfl (fun W hI => by go_simp; rfl), ?_⟩
            refine .inr ⟨by decide, _, yg_still rfl (fun W hI => by go_simp; rfl), ?_⟩
            refine .inr ⟨by decide, _, yg_still rfl (fun W hI => by go_simp; rfl), ?_⟩
            refine .inl ⟨rfl, ⟨rfl, fun W hI => ⟨W.heap.size, W.alloc (.cells m.cells 26), by rw [HMC.out]; go_simp, hI.keep ((Below.refl _ _).alloc (Nat.le_refl _) _), heap_new _ _⟩⟩, ?_⟩
            rintro b8 W8 hI8
            change wpList _ _ _ _ _ W8
            simp only [Act.put, List.setIfInBounds_toArray, List.set_cons_succ, List.set_cons_zero]
            have H8 := Lib.hid hI8
            have hown8 := hI8.1.own.1
            clear hI8 hw1 hw2 hw3 hw4 hw5 hw6 hw7
            have HML := Lib.hid (show (ms.length : Int) ≤ 33554432 by have := hml.out; omega)
            go_wp2_with (first
              | (at_builtin; refine wpList_append_own _ rfl _ _ 22 rfl w.heap.size 26 i0 (.agg zm) 13 144 Tryz.underlying22 hi hz0 hz1 hz2 rfl (by decide) _ _ _ rfl hown8 ⟨b8, 0, none⟩ 1 1 m.cells.toList rfl rfl (at13 H8.out.2) (one13 m) (by have := HML.out; unfold maxLen; omega) (by have := HML.out; omega) (by have := H8.out.1.bel.size; omega) ?_; intro v' w4 hown' hgrow _; have HR4 := Lib.hid (H8.out.1.app hown' hgrow); have cm := cell_of_heapN (i := 4) HR4.out.hh; rw [HMH.out] at cm)
              | (refine (HBK.out _).mono ?_; rintro e w5 ⟨rfl, rfl⟩))
            case roundEnd =>
              exact ⟨⟨i + 512 + q, f - 1, ms ++ [m], by omega, by rw [Int.natCast_add, Int.natCast_add]; rfl, (by have := hf.out; have := hf0.out; show _ < _; omega), (by have := hml.out; show _ ≤ _; rw [List.length_append, List.length_singleton]; omega), HG, HR4.out.own, HR4.out.bel⟩, by simp [intOf]; omega⟩
        · rw [if_neg hE0] at hde
          have HDE := Lib.hid hde
          have HG := Lib.hid (show rdGo s.data.toList (s.data.toList.length + 1) 0 = ms.map .mem ++ [.bad E i] by rw [← hpre.out, rdGo_bad hf0.out H1.out HZ.out (by rw [memAt, if_pos (by rw [HE.out]; exact hE0), HE.out])])
          have hne : (E != 0) = true := by rw [bne_iff_ne]; exact hE0
          clear hde hE0
          go_wp2_with fail
          refine (HDE.out _).mono ?_
          rintro e w2 ⟨rfl, hb2⟩
          have HB2 := Lib.hid ((HB1.out.trans (hb2.mono HB1.out.size)).alloc (Nat.le_trans HB1.out.size hb2.size) (.cells zh 24))
          clear hb2 HO1 HB1 HDE
          go_wp2_with fail
          go_ret3
          exact RdPostR.bad HG.out HB2.out
end Go.Proofs.YthpmocfdnoehoaaGreatDoor
