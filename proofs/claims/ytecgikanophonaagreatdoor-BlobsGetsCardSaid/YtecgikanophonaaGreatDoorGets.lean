/- BlobsGets, walked. -/
import Derived.Test.YtecgikanophonaaGreatDoorM44
import Derived.Test.YtecgikanophonaaGreatDoorSmall
import Derived.Great.FillDense
namespace Go.Proofs.YtecgikanophonaaGreatDoor
open Go Go.RowKit
theorem tell_len {x : Int} {l : Told} (h : ∀ p ∈ l, shaU x p.2 = p.1) : ∀ p ∈ l, p.1.length = 32 := fun p hp => by rw [← h p hp]; exact shaU_len _ _
theorem flatD_at : ∀ (l : Told), (∀ p ∈ l, p.1.length = 32) → ∀ (i : Nat) (p : List UInt8 × ByteArray), l[i]? = some p → ∀ (j : Nat) (v : Value), (p.1.map byteV)[j]? = some v → (flatD l)[i * 32 + j]? = some v
  | [], _, i, p, hp, _, _, _ => by cases hp
  | q :: l, h, 0, p, hp, j, v, hv => by
    cases hp
    have hj : j < (q.1.map byteV).length := (List.getElem?_eq_some_iff.1 hv).1
    show (q.1.map byteV ++ flatD l)[0 * 32 + j]? = some v
    rw [Nat.zero_mul, Nat.zero_add, List.getElem?_append_left hj]
    exact hv
  | q :: l, h, i + 1, p, hp, j, v, hv => by
    have hq : (q.1.map byteV).length = 32 := by rw [List.length_map]; exact h q List.mem_cons_self
    show (q.1.map byteV ++ flatD l)[(i + 1) * 32 + j]? = some v
    rw [List.getElem?_append_right (by rw [hq]; omega), hq, show (i + 1) * 32 + j - 32 = i * 32 + j by omega]
    exact flatD_at l (fun p hp => h p (List.mem_cons_of_mem _ hp)) i p hp j v hv
theorem row_at32 {W : World} {base : Nat} {e : TypeId} {v : Value} {l : Told} (h : W.ownsRow base e 32 v l.length (flatD l)) (hl : ∀ p ∈ l, p.1.length = 32) {i : Nat} {p : List UInt8 × ByteArray} (hp : l[i]? = some p) :
    ∃ g cap, v = .slice (some ⟨g, 0, none⟩) l.length cap ∧ g < W.heap.size ∧ W.rangeAt g (i * 32) (p.1.map byteV) := by
  rcases h.2 with ⟨-, h0⟩ | ⟨g, cap, cur, h1, h2, h3, h4, h5, h6, h7⟩
  · have := (List.getElem?_eq_some_iff.1 hp).1
    omega
  · refine ⟨g, cap, h1, blk_lt h3, fun j u hj => ?_⟩
    have h8 := flatD_at l hl i p hp j u hj
    rw [cell_of_heapN h3, ← Array.getElem?_toList]
    rw [← h7, List.getElem?_take] at h8
    split at h8
    · exact h8
    · cases h8
theorem row_at1 {W : World} {base : Nat} {e : TypeId} {u : Value} {l : Told} (h : W.ownsRow base e 1 u l.length (textsT l)) {i : Nat} {p : List UInt8 × ByteArray} (hp : l[i]? = some p) :
    ∃ g cap, u = .slice (some ⟨g, 0, none⟩) l.length cap ∧ g < W.heap.size ∧ W.cell? ⟨g, i, none⟩ = some (.string p.2) := by
  rcases h.2 with ⟨-, h0⟩ | ⟨g, cap, cur, h1, h2, h3, h4, h5, h6, h7⟩
  · have := (List.getElem?_eq_some_iff.1 hp).1
    omega
  · refine ⟨g, cap, h1, blk_lt h3, ?_⟩
    rw [cell_of_heapN h3, ← Array.getElem?_toList]
    have h8 : (textsT l)[i]? = some (.string p.2) := by unfold textsT; rw [List.getElem?_map, hp]; rfl
    rw [← h7, List.getElem?_take] at h8
    split at h8
    · exact h8
    · cases h8
theorem row_slice {W : World} {base : Nat} {e : TypeId} {size n : Nat} {v : Value} {xs : List Value} (h : W.ownsRow base e size v n xs) : ∃ p c, v = .slice p n c := by
  rcases h.2 with ⟨rfl, h0⟩ | ⟨g, cap, cur, h1, -⟩
  · exact ⟨none, 0, by rw [h0]⟩
  · exact ⟨_, cap, h1⟩
theorem infoD : (Tryz.prog.info? 33).map (fun i => (i.size, i.bytes)) = some (32, 32) := by kernel_rfl
theorem zeroDg : (Tryz.prog.info? 33).bind (·.zero) = some (.agg z32) := by kernel_rfl
theorem dig_parts : ∃ i, Tryz.prog.info? 33 = some i ∧ i.zero = some (.agg z32) ∧ i.size = 32 ∧ i.bytes = 32 := by
  have h1 := infoD
  have h2 := zeroDg
  cases hi : Tryz.prog.info? 33 with
  | none => rw [hi] at h1; cases h1
  | some i =>
    rw [hi] at h1 h2
    have h3 := Option.some.inj h1
    exact ⟨i, rfl, h2, (Prod.mk.inj h3).1, (Prod.mk.inj h3).2⟩
theorem newDg (w : World) (d : List UInt8) : ∀ (j : Nat) (u : Value), (d.map byteV)[j]? = some u → (w.alloc (.cells (d.map byteV).toArray 33)).cell? ((⟨w.heap.size, 0, none⟩ : Addr).add j) = some u := fun j u h => by
  rw [show ((⟨w.heap.size, 0, none⟩ : Addr).add j) = ⟨w.heap.size, j, none⟩ by simp [Addr.add]; intro e; exact e.symm, cell_of_heapN (heap_new w _), List.getElem?_toArray]
  exact h
theorem fold_dig {D : List UInt8} (h : D.length = 32) (z : Array Value) (hz : z.size = 32) : List.foldl (fun cs x => cs.setIfInBounds x.snd x.fst) z (List.map byteV D).zipIdx = (List.map byteV D).toArray := by
  have hl : (List.map byteV D).length = 32 := by rw [List.length_map, h]
  have hf := Go.Great.foldl_set 0 (List.map byteV D) 0 z
  simp only [Nat.zero_add] at hf
  have h4 : ∀ k, (List.foldl (fun cs x => cs.setIfInBounds x.snd x.fst) z (List.map byteV D).zipIdx)[k]? = (List.map byteV D)[k]? := fun k => by
    have h3 := hf.2 k
    rw [hl, hz] at h3
    rw [h3]
    by_cases hk : k < 32
    · rw [if_pos ⟨Nat.zero_le _, hk, hk⟩, Nat.sub_zero]
    · rw [if_neg (fun h => hk h.2.1), List.getElem?_eq_none (by rw [hl]; omega), Array.getElem?_eq_none (by rw [hz]; omega)]
  refine Array.ext_getElem? fun k => ?_
  exact (h4 k).trans (List.getElem?_toArray ..).symm
theorem dig_load {W8 W : World} {g o : Nat} {D : List UInt8} (h : W8.rangeAt g o (D.map byteV)) (hW : Below W8.heap.size W8 W) (hg : g < W8.heap.size) (_ : Tryz.prog.underlying 33 = some (.array 32 5)) (hD : D.length = 32) :
    (loadVar 33 ⟨g, o, none⟩).run Tryz.prog W = .ok (.agg (D.map byteV).toArray) W :=
  run_loadVar_mid W g o _ (D.map byteV) _ (fun j u hj => (hW.cell (p := ⟨g, o + j, none⟩) hg).trans (h j u hj)) dig_und rfl (dig_info hD)
set_option maxHeartbeats 12800000 in
set_option maxRecDepth 100000 in
theorem gets_any (w : World) (hG : ErrT w) (hT : RoundsT w) (hR : RoundsR w) (hB : BeginR w) (wd gone : Int) (hw1 : -9223372036854775808 ≤ wd) (hw2 : wd ≤ 9223372036854775807) (hg1 : -9223372036854775808 ≤ gone) (hg2 : gone ≤ 9223372036854775807)
    (p : Option Addr) (cap : Nat) (l : List ByteArray) (hv : TextsRd w (.slice p l.length cap) l) (hl : l.length ≤ 8800000000000) (hs : ∀ s ∈ l, s.size ≤ 140737488351232) :
    Calls Tryz.prog 3 #[.int .i64 wd, .slice p l.length cap, .int .i64 gone] w fun e w' => e = .returned (.bool true) ∧ Below w.heap.size w w' := by
  obtain ⟨i0, hi, hz0, hz1, hz2⟩ := dig_parts
  obtain ⟨j0, hj, hy0, hy1, hy2⟩ := info_parts infoS
  have HG := Lib.hid hG
  have HTT := Lib.hid hT
  have HRR := Lib.hid hR
  have HBR := Lib.hid hB
  have HV := Lib.hid hv
  have HSZ := Lib.hid hs
  obtain ⟨L, hL⟩ : ∃ L, l.length = L := ⟨_, rfl⟩
  rw [hL] at HV hl ⊢
  have HL := Lib.hid hL
  have hli : (L : Int) ≤ 8800000000000 := by omega
  obtain ⟨q0, q1⟩ := pick_bd wd 32 (by decide)
  obtain ⟨x, hx⟩ : ∃ x, 1 + pick wd 32 = x := ⟨_, rfl⟩
  have hx1 : 1 ≤ x := by omega
  have hx2 : x ≤ 32 := by omega
  have hpk := fun W => pick_any wd 32 W (by decide) (by decide) hw1 hw2
  obtain ⟨pk, hpk2⟩ : ∃ k, pick wd 32 = k := ⟨_, rfl⟩
  rw [hpk2] at q0 q1 hx hpk
  subst hx
  clear hG hT hR hB hv hs hL hpk2 hw1 hw2
  go_enter Tryz.func3, Tryz.ntmps3
  go_wp2_with fail
  refine (hpk _).mono ?_
  rintro e w0 ⟨rfl, rfl⟩
  clear hpk
  go_wp2_with fail
  refine (st_new w w (Below.refl _ _) 268435456 (by decide) (by decide)).mono ?_
  rintro e w1 ⟨a, rfl, hst, hb1⟩
  have HST := Lib.hid hst
  clear hst
  go_wp2_with fail
  refine (open_any (x := 1 + pk) HST.out (HTT.out.belowR hb1) HTT.out.2 ⟨hx1, hx2⟩ (by decide) (fun s hs => by cases hs)).mono ?_
  rintro e w2 ⟨v, rfl, h, hk⟩
  rw [(open_new 268435456 (1 + pk)).1, (open_new 268435456 (1 + pk)).2] at h
  rcases h with ⟨-, sb, rfl, hsb, hsto⟩ | ⟨hne, -⟩
  case inr => exact absurd rfl hne
  have HS2 : Hid (GetsR w sb a (1 + pk) (.slice none 0 0) (.slice none 0 0) [] w2 1 (DM.new 268435456)) := Lib.hid
    ⟨⟨hsto.st.sub _ (fun b hb => by rcases hb with hb | hb | hb | hb; exact .inl hb; exact .inr hb; cases hb; cases hb), hsto.box, .inr (.inl rfl), hsto.rnd, .inl HTT.out.2⟩, ⟨rfl, .inl ⟨rfl, rfl⟩⟩, ⟨rfl, .inl ⟨rfl, rfl⟩⟩, (calm_new _).calm, (calm_new _).hand, fun p hp => by cases hp⟩
  clear hsto hk hb1 HST hsb
  go_wp2_with fail
  go_loopw [9, 10, 11, 12] (fun zv v u iv wr => ∃ (i : Nat) (z : Int) (K : Nat) (n : Nat), (i : Int) ≤ 300 ∧ (i : Int) ≤ L ∧ 0 ≤ z ∧ z ≤ 140738562097152 ∧ zv = .int .i64 z ∧ iv = .int .i64 i ∧ (K : Int) ≤ 300 ∧ (n : Int) ≤ 1 + 9 * i ∧ (∃ vp vc, v = .slice vp K vc) ∧ (∃ up uc, u = .slice up K uc) ∧ (K : Int) ≤ i ∧ Hid (∃ (lt : Told) (m : DM), lt.length = K ∧ GetsR w sb a (1 + pk) v u lt wr n m)) (fun _ _ _ iv _ => 300 - (intOf iv).toNat)
  case atStart => exact ⟨0, 0, 0, 1, by decide, by omega, by decide, by decide, rfl, rfl, by decide, by decide, ⟨_, _, rfl⟩, ⟨_, _, rfl⟩, by decide, Lib.hid ⟨[], _, rfl, HS2.out⟩⟩
  case round =>
    obtain ⟨i, z, K, n, hi3, hiL, hz3, hz4, rfl, rfl, hK3, hn9, ⟨vp, vc, rfl⟩, ⟨up, uc, rfl⟩, hKi, HGR⟩ := hrel
    by_cases hlt : (i : Int) < L ∧ (i : Int) < 300 ∧ z < 1048576
    · obtain ⟨h1, h2, h3⟩ := hlt
      have hil : i < l.length := by rw [HL.out]; omega
      obtain ⟨s, hs⟩ : ∃ s, l[i]? = some s := ⟨_, List.getElem?_eq_getElem hil⟩
      obtain ⟨p', c', he, hvv⟩ := HV.out
      obtain ⟨vb, vo, hvp, hvl, hvc⟩ := hvv i s hs
      have hpe : p = some ⟨vb, vo, none⟩ := by cases he; exact hvp
      subst hpe
      have hss := HSZ.out s (List.mem_of_getElem? hs)
      obtain ⟨lt, m, hlt, hgr⟩ := HGR.out
      have HW := Lib.hid hgr
      have HLT := Lib.hid hlt
      have hsc : wr.cell? ⟨vb, vo + i, none⟩ = some (.string s) := (hgr.sto.st.toB.cell (p := ⟨vb, vo + i, none⟩) hvl).trans hvc
      have HVL := Lib.hid hvl
      have HVC := Lib.hid hvc
      have hss2 : (s.size : Int) ≤ 140737488351232 := by omega
      have HSS := Lib.hid hss
      have hnn : n ≤ 4000 := by omega
      clear hs he hvv hvp hvl hvc hlt hgr HGR hil hss
      go_wp2_with fail
      refine (put_any HW.out.sto (by omega) s (by have := HSS.out; omega)).mono ?_
      rintro e w4 ⟨rfl, hst, hk⟩
      obtain ⟨hc, hh, hcase⟩ := told_put HW.out s
      obtain ⟨M, hM⟩ : ∃ M, (putM m (1 + pk) s).1 = M := ⟨_, rfl⟩
      rw [hM] at hc hh hcase hst
      clear hM
      have hsc4 : w4.cell? ⟨vb, vo + i, none⟩ = some (.string s) := (hst.toB.cell (p := ⟨vb, vo + i, none⟩) HVL.out).trans HVC.out
      rcases hcase with ⟨hpr, htold⟩ | ⟨hpr, htold⟩
      · rw [hpr]
        obtain ⟨D, hD⟩ : ∃ D, shaU (1 + pk) s = D := ⟨_, rfl⟩
        have HDL : Hid (D.length = 32) := Lib.hid (by rw [← hD]; exact shaU_len _ _)
        rw [hD] at htold ⊢
        have HT5 := Lib.hid htold
        have HW4 := Lib.hid (HW.out.disk hst hk hc hh (fun p hp => htold p (List.mem_append_left _ hp)))
        rw [show errE 0 = .nilIface from rfl]
        unfold digV
        have hdl32 : D.length = 32 := HDL.out
        have hfd := fold_dig HDL.out
        have hI := dig_info HDL.out
        have hI2 := dig_info2 HDL.out
        have hd1 := dig_one D
        have hdz := dig_size HDL.out
        have hU := dig_und
        have hDo : ∀ u ∈ D.map byteV, u.oneCell' = true := fun u hu => by obtain ⟨x, _, rfl⟩ := List.mem_map.1 hu; rfl
        clear htold hD hst hk hc hh hpr hsc HW
        go_wp2_with (first | (refine wpList_store_new rfl _ _ _ rfl _ (D.map byteV).toArray _ rfl rfl rfl hI2 hdz hd1 ?_; (obtain ⟨W5, hW5⟩ : ∃ W, w4.alloc (.cells (D.map byteV).toArray 33) = W := ⟨_, rfl⟩; have hb5 : Below w4.heap.size w4 W5 := (by rw [← hW5]; exact (Below.refl _ _).alloc (Nat.le_refl _) _); have hx5 : W5.heap[w4.heap.size]? = some (.cells (D.map byteV).toArray 33 (0, 0)) := (by rw [← hW5]; exact heap_new _ _); have HX5 := Lib.hid hx5; have HW5 := Lib.hid (HW4.out.bel hb5); have HRG5 := Lib.hid (dig_range hx5); rw [hW5]; clear hW5 hb5 hx5 hsc4 HW4)) | refine wpList_load_mid rfl _ _ rfl w4.heap.size 0 rfl (D.map byteV) _ HRG5.out hU rfl hI ?_ | (at_builtin; first | (at_builtin; refine wpList_app_to rfl _ _ 31 rfl w.heap.size 33 i0 (.agg z32) 32 32 Tryz.underlying31 hi hz0 hz1 hz2 rfl (by decide) (.slice vp K vc) K _ rfl (row_same (HLT.out ▸ HW5.out.rv) (fun b hb => Below.heap_alloc _ _ _ (row_blk HW5.out.rv hb).2.1)) ⟨W5.heap.size, 0, none⟩ 1 1 (D.map byteV) rfl (by rw [List.length_map, hdl32]) (newDg W5 D) hDo (by decide) (by unfold maxLen; omega) (by omega) (Nat.le_trans HW5.out.sto.st.size (by rw [World.size_alloc]; omega)) ?_; intro v6 W6 ho6 hl6; (obtain ⟨hs6, hu6, hv6⟩ := (HW5.out.bel ((Below.refl W5.heap.size W5).alloc (Nat.le_refl _) (.cells (D.map byteV).toArray 33))).app1 (p := (D, s)) (by rw [HLT.out]; exact ho6) hl6 HTT.out.2); (obtain ⟨p6, c6, rfl⟩ := row_slice ho6); have HS6 := Lib.hid hs6; have HU6 := Lib.hid hu6; have HV6 := Lib.hid hv6; have hsc6 : W6.cell? ⟨vb, vo + i, none⟩ = some (.string s) := (hs6.st.toB.cell (p := ⟨vb, vo + i, none⟩) HVL.out).trans HVC.out; clear ho6 hl6 hs6 hu6 hv6) | (at_builtin; refine wpList_app_to rfl _ _ 22 rfl w.heap.size 9 j0 (.string ⟨#[]⟩) 1 16 Tryz.underlying22 hj hy0 hy1 hy2 rfl (by decide) (.slice up K uc) K _ rfl (row_same (HLT.out ▸ HU6.out) (fun b hb => Below.heap_alloc _ _ _ (row_blk HU6.out hb).2.1)) ⟨W6.heap.size, 0, none⟩ 1 1 [.string s] rfl rfl (fun j u hj => by match j, hj with | 0, hj => cases hj; exact newV _ _ _) (fun u hu => by rw [List.mem_singleton.1 hu]; rfl) (by decide) (by unfold maxLen; omega) (by omega) (Nat.le_trans HS6.out.st.size (by rw [World.size_alloc]; omega)) ?_; intro v7 W7 ho7 hl7; (obtain ⟨hs7, hv7, hu7⟩ := app2 (p := (D, s)) (HS6.out.bel ((Below.refl W6.heap.size W6).alloc (Nat.le_refl _) (.cells #[.string s] 9))) (row_same HV6.out (fun b hb => Below.heap_alloc _ _ _ (row_blk HV6.out hb).2.1)) (row_same HU6.out (fun b hb => Below.heap_alloc _ _ _ (row_blk HU6.out hb).2.1)) (by rw [HLT.out]; exact ho7) hl7 HTT.out.2); (obtain ⟨p7, c7, rfl⟩ := row_slice ho7); have HS7 := Lib.hid hs7; have HU7 := Lib.hid hu7; have HV7 := Lib.hid hv7; clear ho7 hl7 hs7 hu7 hv7)))
        case roundEnd =>
          refine ⟨⟨i + 1, z + s.size, K + 1, n + 9, by omega, by omega, by omega, by omega, rfl, by rw [Int.natCast_add]; rfl, by omega, by omega, ⟨_, _, rfl⟩, ⟨_, _, rfl⟩, by omega, Lib.hid ⟨lt ++ [(D, s)], M, by rw [List.length_append, HLT.out]; rfl, HS7.out, HV7.out, HU7.out, HW5.out.calm, HW5.out.hand, HT5.out⟩⟩, by simp [intOf]; omega⟩
      · have HW4 := Lib.hid (HW.out.disk hst hk hc hh htold)
        have hG4 := HG.out.below HW4.out.sto.st.toB HG.out.2
        have hI2 := dig_info2 (d := zeroD) rfl
        have hd1 := dig_one zeroD
        have hdz := dig_size (d := zeroD) rfl
        unfold digV
        rcases hpr with hpr | hpr
        · rw [hpr]
          have HPL : ∀ W, Below w4.heap.size w4 W → Calls Tryz.prog 11 #[.iface 76 (.int .i64 29), .int .i64 29] W fun e w' => e = .returned (.bool true) ∧ Below W.heap.size W w' := fun W hb => plain_E 29 (.inr ⟨by decide, by decide⟩) 29 W (hG4.below hb hG4.2)
          have hP := HPL _ ((Below.refl w4.heap.size w4).alloc (Nat.le_refl _) (.cells (zeroD.map byteV).toArray 33))
          rw [show errE 29 = .iface 76 (.int .i64 29) from rfl]
          clear htold hst hk hc hh hpr hsc hsc4 HW HPL hG4
          go_wp2_with (first | refine wpList_store_new rfl _ _ _ rfl _ (zeroD.map byteV).toArray _ rfl rfl rfl hI2 hdz hd1 ?_ | (go_at_call 11; refine hP.mono ?_; rintro e w5 ⟨rfl, hb5⟩; have HW5 := Lib.hid ((HW4.out.bel ((Below.refl w4.heap.size w4).alloc (Nat.le_refl _) (.cells (zeroD.map byteV).toArray 33))).bel hb5); clear hb5))
          refine ⟨⟨i + 1, z + s.size, K, n + 9, by omega, by omega, by omega, by omega, rfl, by rw [Int.natCast_add]; rfl, by omega, by omega, ⟨_, _, rfl⟩, ⟨_, _, rfl⟩, by omega, Lib.hid ⟨lt, M, HLT.out, HW5.out⟩⟩, by simp [intOf]; omega⟩
        · rw [hpr]
          have HPL : ∀ (k : Int) W, Below w4.heap.size w4 W → Calls Tryz.prog 11 #[.iface 76 (.int .i64 28), .int .i64 k] W fun e w' => e = .returned (.bool (28 == k)) ∧ Below W.heap.size W w' := fun k W hb => plain_E 28 (.inr ⟨by decide, by decide⟩) k W (hG4.below hb hG4.2)
          have HB0 := Lib.hid ((Below.refl w4.heap.size w4).alloc (Nat.le_refl _) (.cells (zeroD.map byteV).toArray 33))
          have hP : Calls Tryz.prog 11 #[.iface 76 (.int .i64 28), .int .i64 29] (w4.alloc (.cells (zeroD.map byteV).toArray 33)) fun e w' => e = .returned (.bool false) ∧ Below (w4.alloc (.cells (zeroD.map byteV).toArray 33)).heap.size (w4.alloc (.cells (zeroD.map byteV).toArray 33)) w' := HPL 29 _ HB0.out
          have hP2 : ∀ W, Below w4.heap.size w4 W → Calls Tryz.prog 11 #[.iface 76 (.int .i64 28), .int .i64 28] W fun e w' => e = .returned (.bool true) ∧ Below W.heap.size W w' := HPL 28
          rw [show errE 28 = .iface 76 (.int .i64 28) from rfl]
          clear htold hst hk hc hh hpr hsc hsc4 HW HPL hG4
          go_wp2_with (first | refine wpList_store_new rfl _ _ _ rfl _ (zeroD.map byteV).toArray _ rfl rfl rfl hI2 hdz hd1 ?_ | (go_at_call_of 11 (Value.int .i64 (29 : Int)); refine hP.mono ?_; rintro e w5 ⟨rfl, hb5⟩; have HB5 := Lib.hid (HB0.out.trans (hb5.mono HB0.out.size)); clear hb5) | (go_at_call_of 11 (Value.int .i64 (28 : Int)); refine (hP2 _ HB5.out).mono ?_; rintro e w6 ⟨rfl, hb6⟩; have HW6 := Lib.hid ((HW4.out.bel HB5.out).bel hb6); clear hb6))
          refine ⟨⟨i + 1, z + s.size, K, n + 9, by omega, by omega, by omega, by omega, rfl, by rw [Int.natCast_add]; rfl, by omega, by omega, ⟨_, _, rfl⟩, ⟨_, _, rfl⟩, by omega, Lib.hid ⟨lt, M, HLT.out, HW6.out⟩⟩, by simp [intOf]; omega⟩
    · have h3 : (¬ (i : Int) < L) ∨ ((i : Int) < L ∧ ¬ (i : Int) < 300) ∨ ((i : Int) < L ∧ (i : Int) < 300 ∧ ¬ z < 1048576) := by omega
      clear hlt
      rcases h3 with h3 | ⟨h3, h4⟩ | ⟨h3, h4, h5⟩
      all_goals
        obtain ⟨lt, m, hlt, hgr⟩ := HGR.out
        have HW := Lib.hid hgr
        have HLT := Lib.hid hlt
        have HSE : Hid (∀ p ∈ lt, shaU (1 + pk) p.2 = p.1) := Lib.hid (fun p hp => (hgr.told p hp).2)
        have hnn : n ≤ 4000 := by omega
        obtain ⟨W3, hW3⟩ : ∃ W, W = wr := ⟨_, rfl⟩
        rw [← hW3] at HW ⊢
        clear hlt hgr HGR hW3
        go_wp2_with fail
        go_loopw [15] (fun iv wx => ∃ i : Nat, (i : Int) ≤ K ∧ iv = .int .i64 i ∧ Hid (Below W3.heap.size W3 wx)) (fun iv _ => K - (intOf iv).toNat)
        case atStart => exact ⟨0, by omega, rfl, Lib.hid (Below.refl _ _)⟩
        case round =>
          obtain ⟨i, hiK, rfl, HB⟩ := hrel
          by_cases hlt : (i : Int) < K
          · have hil : i < lt.length := by rw [HLT.out]; omega
            obtain ⟨q, hq⟩ : ∃ q, lt[i]? = some q := ⟨_, List.getElem?_eq_getElem hil⟩
            obtain ⟨D, t⟩ := q
            have hmem := List.mem_of_getElem? hq
            have hsd := HSE.out _ hmem
            have htl := (HW.out.told _ hmem).1
            simp only at hsd htl
            have HDL : Hid (D.length = 32) := Lib.hid (by rw [← hsd]; exact shaU_len _ _)
            have hg5 := HW.out.bel HB.out
            obtain ⟨gv, cv, hve, hgv, hrg⟩ := row_at32 hg5.rv (tell_len HSE.out) hq
            obtain ⟨gu, cu, hue, hgu, hcu⟩ := row_at1 hg5.ru hq
            have hvp : vp = some ⟨gv, 0, none⟩ := by cases hve; rfl
            have hup : up = some ⟨gu, 0, none⟩ := by cases hue; rfl
            subst hvp hup
            have hrd := htl
            have HGM := Lib.hid (getM_of (x := 1 + pk) hrd hsd)
            have HTS : Hid (t.size ≤ 140000000000000) := Lib.hid (by have := reads_size HW.out.sto.st.ok (fileN D); rw [hrd] at this; have h2 : t.size ≤ 268435456 := this; omega)
            have HDV : Hid (Value.agg (D.map byteV).toArray = .agg (shaL (1 + pk) t).toArray) := Lib.hid (by rw [← hsd, shaL_shaU])
            have HG5 := Lib.hid hg5
            have HRG5 := Lib.hid hrg
            have HGV5 := Lib.hid hgv
            have HGU5 := Lib.hid hgu
            have HCU5 := Lib.hid hcu
            have hI := dig_info HDL.out
            have hU := dig_und
            clear hil hq hmem hsd htl hg5 hve hue hgv hgu hrg hcu hrd
            go_wp2_with (refine wpList_load_mid rfl _ _ rfl gv (i * 32) rfl (D.map byteV) _ HRG5.out hU rfl hI ?_)
            refine (st_get HG5.out.sto D HDL.out).mono ?_
            rintro e W8 ⟨rfl, hb8⟩
            rw [HGM.out]
            rw [show errE 0 = .nilIface from rfl]
            have HBW : Hid (Below w.heap.size w W8) := Lib.hid (HG5.out.bel hb8).sto.st.toB
            have HB8 : Hid (Below W3.heap.size W3 W8) := Lib.hid (HB.out.trans (hb8.mono HB.out.size))
            have HRG : Hid (W8.rangeAt gv (i * 32) (D.map byteV)) := Lib.hid (fun j u hj => (hb8.cell (p := ⟨gv, i * 32 + j, none⟩) HGV5.out).trans (HRG5.out j u hj))
            have HGV : Hid (gv < W8.heap.size) := Lib.hid (Nat.lt_of_lt_of_le HGV5.out hb8.size)
            have HGU : Hid (gu < W8.heap.size) := Lib.hid (Nat.lt_of_lt_of_le HGU5.out hb8.size)
            have HCU : Hid (W8.cell? ⟨gu, i, none⟩ = some (.string t)) := Lib.hid ((hb8.cell (p := ⟨gu, i, none⟩) HGU5.out).trans HCU5.out)
            clear hb8 HG5 HRG5 HGV5 HGU5 HCU5 HGM
            go_wp2_with fail
            have hI0 : Below W8.heap.size W8 W8.drew := ⟨rfl, rfl, rfl, Nat.le_refl _, fun _ _ => rfl⟩
            refine wp_region_flowG (fun _ : Unit => [.nilIface, .bool false, .bool false, .string t, .slice (some ⟨gu, 0, none⟩) K uc, .int .i64 i, .pointer (some ⟨gu, i, none⟩), .string t, .bool false, .bool false, .bool false, .int .i64 (1 + pk), .string t, .agg (D.map byteV).toArray, .slice (some ⟨gv, 0, none⟩) K vc, .int .i64 i, .pointer (some ⟨gv, i * 32, none⟩), .agg (D.map byteV).toArray, .bool false, .bool false]) (fun _ _ W => Below W8.heap.size W8 W)
              [[], [0], [1], [2], [2], [2], [4, 5, 2], [6, 2], [3, 7, 2], [2, 8], [9, 2], [10], [10], [11, 12, 10, 10], [10], [10], [14, 15, 10], [16, 10], [13, 17, 10], [10, 18]] 167 () mixedD rfl (by kernel_rfl) (fun _ => rfl) hI0 ?_ ?_
            · refine ⟨?_, ?_, ?_, ?_, ?_, ?_, ?_, ?_, ?_, ?_, ?_, ?_, ?_, ?_, ?_, ?_, ?_, ?_, ?_, ?_, rfl⟩
              all_goals intro L γ W ev hL hd hW hc hf hg he h0
              · have e17 : ev (.tmp 17) = .nilIface := h0 17 rfl
                clear he h0 hc hf hg
                exact .inl ⟨rfl, .inl ⟨_, W, (by go_simp <;> rfl), .still (hW) rfl⟩⟩
              · have e104 : ev (.tmp 104) = .nilIface := he 0 (by decide) _ 104 rfl rfl
                have hcc := hc
                clear he h0 hc hf hg
                exact .inl ⟨rfl, .inl ⟨_, W, (by go_simp <;> rfl), .still (hW) rfl⟩⟩
              · have e105 : ev (.tmp 105) = .bool false := he 1 (by decide) _ 105 rfl rfl
                clear he h0 hc hf hg
                exact .inl ⟨rfl, .inl ⟨_, W, (by go_simp <;> rfl), .still (hW) rfl⟩⟩
              · have e16 : ev (.tmp 16) = .string t := h0 16 rfl
                clear he h0 hc hf hg
                exact .inl ⟨rfl, .inl ⟨_, W, (by go_simp <;> rfl), .still (hW) rfl⟩⟩
              · have e11 : ev (.tmp 11) = .slice (some ⟨gu, 0, none⟩) K uc := h0 11 rfl
                clear he h0 hc hf hg
                exact .inl ⟨rfl, .inl ⟨_, W, (by go_simp <;> rfl), .still (hW) rfl⟩⟩
              · have e15 : ev (.tmp 15) = .int .i64 i := h0 15 rfl
                clear he h0 hc hf hg
                exact .inl ⟨rfl, .inl ⟨_, W, (by go_simp <;> rfl), .still (hW) rfl⟩⟩
              · have e108 : ev (.tmp 108) = .slice (some ⟨gu, 0, none⟩) K uc := he 4 (by decide) _ 108 rfl rfl
                have e109 : ev (.tmp 109) = .int .i64 i := he 5 (by decide) _ 109 rfl rfl
                clear he h0 hc hf hg
                exact .inl ⟨rfl, .inl ⟨_, W, (by go_simp <;> rfl), .still (hW) rfl⟩⟩
              · have e110 : ev (.tmp 110) = .pointer (some ⟨gu, i, none⟩) := he 6 (by decide) _ 110 rfl rfl
                have c1 : W.cell? ⟨gu, i, none⟩ = some (.string t) := (hW.cell (p := ⟨gu, i, none⟩) HGU.out).trans HCU.out
                clear he h0 hc hf hg
                exact .inl ⟨rfl, .inl ⟨_, W, (by go_simp <;> rfl), .still (hW) rfl⟩⟩
              · have e107 : ev (.tmp 107) = .string t := he 3 (by decide) _ 107 rfl rfl
                have e111 : ev (.tmp 111) = .string t := he 7 (by decide) _ 111 rfl rfl
                clear he h0 hc hf hg
                exact .inl ⟨rfl, .inl ⟨_, W, (by go_simp <;> rfl), .still (hW) rfl⟩⟩
              · have e106 : ev (.tmp 106) = .bool false := he 2 (by decide) _ 106 rfl rfl
                have e112 : ev (.tmp 112) = .bool false := he 8 (by decide) _ 112 rfl rfl
                have hcc := hc
                clear he h0 hc hf hg
                exact .inl ⟨rfl, .inl ⟨_, W, (by go_simp <;> rfl), .still (hW) rfl⟩⟩
              · have e113 : ev (.tmp 113) = .bool false := he 9 (by decide) _ 113 rfl rfl
                clear he h0 hc hf hg
                exact .inl ⟨rfl, .inl ⟨_, W, (by go_simp <;> rfl), .still (hW) rfl⟩⟩
              · have e0 : ev (.tmp 0) = .int .i64 (1 + pk) := h0 0 rfl
                clear he h0 hc hf hg
                exact .inl ⟨rfl, .inl ⟨_, W, (by go_simp <;> rfl), .still (hW) rfl⟩⟩
              · have e16 : ev (.tmp 16) = .string t := h0 16 rfl
                clear he h0 hc hf hg
                exact .inl ⟨rfl, .inl ⟨_, W, (by go_simp <;> rfl), .still (hW) rfl⟩⟩
              · have e115 : ev (.tmp 115) = .int .i64 (1 + pk) := he 11 (by decide) _ 115 rfl rfl
                have e116 : ev (.tmp 116) = .string t := he 12 (by decide) _ 116 rfl rfl
                clear he h0 hc hg
                refine .inl ⟨rfl, .inr (.inr ⟨13, #[.int .i64 (1 + pk), .string t], W, (by have hff := hf 13; clear hf; go_simp <;> rfl), ?_⟩)⟩
                refine (refSum_any (1 + pk) t W (HRR.out.belowR2 (HBW.out.trans (hW.mono HBW.out.size))) (HBR.out.belowB (HBW.out.trans (hW.mono HBW.out.size))) HTS.out).mono ?_
                rintro e w' ⟨rfl, hb⟩
                exact ⟨_, rfl, .still (hW.trans (hb.mono hW.size)) HDV.out⟩
              · have e10 : ev (.tmp 10) = .slice (some ⟨gv, 0, none⟩) K vc := h0 10 rfl
                clear he h0 hc hf hg
                exact .inl ⟨rfl, .inl ⟨_, W, (by go_simp <;> rfl), .still (hW) rfl⟩⟩
              · have e15 : ev (.tmp 15) = .int .i64 i := h0 15 rfl
                clear he h0 hc hf hg
                exact .inl ⟨rfl, .inl ⟨_, W, (by go_simp <;> rfl), .still (hW) rfl⟩⟩
              · have e118 : ev (.tmp 118) = .slice (some ⟨gv, 0, none⟩) K vc := he 14 (by decide) _ 118 rfl rfl
                have e119 : ev (.tmp 119) = .int .i64 i := he 15 (by decide) _ 119 rfl rfl
                clear he h0 hc hf hg
                exact .inl ⟨rfl, .inl ⟨_, W, (by go_simp <;> rfl), .still (hW) rfl⟩⟩
              · have e120 : ev (.tmp 120) = .pointer (some ⟨gv, i * 32, none⟩) := he 16 (by decide) _ 120 rfl rfl
                clear he h0 hc hg
                have hlv := dig_load HRG.out hW HGV.out dig_und HDL.out
                refine .inl ⟨rfl, .inl ⟨_, W, ?_, .still (hW) rfl⟩⟩
                unfold execOp
                simp only [e120, Instr.loadAt, Instr.sureAddr, Sem.run_bind, Sem.run_pure, Result.andThen_ok, hlv]
                try rfl
              · have e117 : ev (.tmp 117) = .agg (D.map byteV).toArray := he 13 (by decide) _ 117 rfl rfl
                have e121 : ev (.tmp 121) = .agg (D.map byteV).toArray := he 17 (by decide) _ 121 rfl rfl
                clear he h0 hc hg
                have hq := dig_in W HDL.out HDL.out
                rw [show (D == D) = true from by simp] at hq
                refine .inl ⟨rfl, .inl ⟨_, W, (by go_simp <;> rfl), .still (hW) rfl⟩⟩
              · have e114 : ev (.tmp 114) = .bool false := he 10 (by decide) _ 114 rfl rfl
                have e122 : ev (.tmp 122) = .bool false := he 18 (by decide) _ 122 rfl rfl
                have hcc := hc
                clear he h0 hc hf hg
                exact .inl ⟨rfl, .inl ⟨_, W, (by go_simp <;> rfl), .still (hW) rfl⟩⟩
            intro γ L9 W9 hL9 hW9
            have HB9 := Lib.hid hW9
            clear hL9 hW9
            simp only [putAll, Act.put, List.setIfInBounds_toArray, List.set_cons_succ, List.set_cons_zero]
            go_wp2_with fail
            refine ⟨⟨i + 1, by omega, by rw [Int.natCast_add]; rfl, Lib.hid (HB8.out.trans (HB9.out.mono HB8.out.size))⟩, by simp [intOf]; omega⟩
          · obtain rfl : i = K := by omega
            have HWE := Lib.hid (HW.out.bel HB.out)
            by_cases hK0 : i = 0
            · subst hK0
              have hbw := HWE.out.sto.st.toB
              have hwk := works23 wr (HG.out.below hbw HG.out.2) (HTT.out.belowR hbw) (HRR.out.belowR2 hbw) (HBR.out.belowB hbw)
              have HBW := Lib.hid hbw
              clear hbw
              go_wp2_with fail
              refine hwk.mono ?_
              rintro e w8 ⟨rfl, hb8⟩
              have HB8 := Lib.hid (HBW.out.trans (hb8.mono HBW.out.size))
              clear hb8 hwk
              go_wp2_with fail
              go_ret
              exact ⟨rfl, HB8.out⟩
            · obtain ⟨r0, r1⟩ := pick_bd gone i (by omega)
              have hpk2 := fun W => pick_any gone i W (by omega) (by omega) hg1 hg2
              obtain ⟨kk, hkk⟩ : ∃ kk : Nat, pick gone i = kk := ⟨(pick gone i).toNat, by omega⟩
              rw [hkk] at r1 hpk2
              clear r0 hkk
              have hkl : kk < lt.length := by rw [HLT.out]; omega
              obtain ⟨q, hq⟩ : ∃ q, lt[kk]? = some q := ⟨_, List.getElem?_eq_getElem hkl⟩
              obtain ⟨D, t⟩ := q
              have hmem := List.mem_of_getElem? hq
              have hsd := HSE.out _ hmem
              have htl := (HW.out.told _ hmem).1
              simp only at hsd htl
              have HDL : Hid (D.length = 32) := Lib.hid (by rw [← hsd]; exact shaU_len _ _)
              obtain ⟨gv, cv, hve, hgv, hrg⟩ := row_at32 HWE.out.rv (tell_len HSE.out) hq
              have hvp : vp = some ⟨gv, 0, none⟩ := by cases hve; rfl
              subst hvp
              obtain ⟨hk1, hk2⟩ := take_calm HW.out.calmly D htl
              have HK1 := Lib.hid hk1
              have HK2 := Lib.hid hk2
              have HRG := Lib.hid hrg
              have hI := dig_info HDL.out
              have hI2 := dig_info2 HDL.out
              have hd1 := dig_one D
              have hdz := dig_size HDL.out
              have hU := dig_und
              have hne0 : ¬ (i : Int) = 0 := by omega
              clear hkl hq hmem hsd htl hve hgv hrg hk1 hk2 hK0
              go_wp2_with fail
              refine (hpk2 _).mono ?_
              rintro e w8 ⟨rfl, rfl⟩
              clear hpk2
              go_wp2_with (first | refine wpList_load_mid rfl _ _ rfl gv (kk * 32) rfl (D.map byteV) _ HRG.out hU rfl hI ?_ | (refine wpList_store_new rfl _ _ _ rfl _ (D.map byteV).toArray _ rfl rfl rfl hI2 hdz hd1 ?_; (obtain ⟨W5, hW5⟩ : ∃ W, wr.alloc (.cells (D.map byteV).toArray 33) = W := ⟨_, rfl⟩; have hb5 : Below wr.heap.size wr W5 := (by rw [← hW5]; exact (Below.refl _ _).alloc (Nat.le_refl _) _); have hx5 : W5.heap[wr.heap.size]? = some (.cells (D.map byteV).toArray 33 (0, 0)) := (by rw [← hW5]; exact heap_new _ _); have HX5 := Lib.hid hx5; have HS5 : Hid (Sto w (fun _ => False) (fun b => b < w.heap.size ∨ b = sb ∨ b = wr.heap.size) sb a (1 + pk) W5 n m) := Lib.hid (⟨HWE.out.sto.st.bel hb5 _ (fun b hb => by rcases hb with hb | hb | hb; exact .inl (.inl hb); exact .inl (.inr (.inl hb)); exact .inr ⟨by omega, by have := blk_lt hx5; omega⟩), (HWE.out.bel hb5).sto.box, .inr (.inl rfl), (HWE.out.bel hb5).sto.rnd, .inl HTT.out.2⟩); have HRG5 := Lib.hid (dig_range hx5); rw [hW5]; clear hW5 hb5 hx5)) | refine wpList_load_mid rfl _ _ rfl wr.heap.size 0 rfl (D.map byteV) _ HRG5.out hU rfl hI ?_)
              refine (take_any HS5.out (by omega) D HDL.out).mono ?_
              rintro e w6 ⟨rfl, hst6, hsm6⟩
              have HS6 := Lib.hid (HS5.out.step hst6 hsm6)
              have HX6 : Hid (w6.heap[wr.heap.size]? = some (.cells (D.map byteV).toArray 33 (0, 0))) := Lib.hid ((hsm6 _ (.inr (.inr rfl))).trans HX5.out)
              have HRG6 := Lib.hid (dig_range HX6.out)
              rw [HK1.out, show errE 0 = .nilIface from rfl]
              have HGM := Lib.hid (getM_none (x := 1 + pk) HK2.out)
              have HHM := Lib.hid (hasM_none (x := 1 + pk) HK2.out)
              clear hst6 hsm6 HS5 HX5 HRG5
              go_wp2_with (refine wpList_load_mid rfl _ _ rfl wr.heap.size 0 rfl (D.map byteV) _ HRG6.out hU rfl hI ?_)
              refine (st_get HS6.out D HDL.out).mono ?_
              rintro e w7 ⟨rfl, hb7⟩
              have HS7 := Lib.hid (HS6.out.bel hb7)
              have HX7 : Hid (w7.heap[wr.heap.size]? = some (.cells (D.map byteV).toArray 33 (0, 0))) := Lib.hid ((hb7.block _ (blk_lt HX6.out)).trans HX6.out)
              have HRG7 := Lib.hid (dig_range HX7.out)
              rw [HGM.out]
              rw [show errE 10 = .iface 76 (.int .i64 10) from rfl]
              clear hb7 HS6 HX6 HRG6
              go_wp2_with (refine wpList_load_mid rfl _ _ rfl wr.heap.size 0 rfl (D.map byteV) _ HRG7.out hU rfl hI ?_)
              refine (st_has HS7.out D HDL.out).mono ?_
              rintro e w8 ⟨rfl, hb8⟩
              have HS8 := Lib.hid (HS7.out.bel hb8)
              rw [HHM.out]
              rw [show errE 0 = .nilIface from rfl]
              have hbw := HS8.out.st.toB
              have hG8 := HG.out.below hbw HG.out.2
              have hPL : Calls Tryz.prog 11 #[.iface 76 (.int .i64 10), .int .i64 10] w8 fun e w' => e = .returned (.bool true) ∧ Below w8.heap.size w8 w' := plain_E 10 (.inr ⟨by decide, by decide⟩) 10 w8 hG8
              have HBW := Lib.hid hbw
              clear hb8 HS7 HX7 HRG7 HGM HHM hbw hG8
              go_wp2_with (go_at_call 11; refine hPL.mono ?_; rintro e w9 ⟨rfl, hb9⟩; have HB9 := Lib.hid (HBW.out.trans (hb9.mono HBW.out.size)); clear hb9)
              refine (works23 w9 (HG.out.below HB9.out HG.out.2) (HTT.out.belowR HB9.out) (HRR.out.belowR2 HB9.out) (HBR.out.belowB HB9.out)).mono ?_
              rintro e w10 ⟨rfl, hb10⟩
              have HB10 := Lib.hid (HB9.out.trans (hb10.mono HB9.out.size))
              clear hb10
              go_wp2_with fail
              go_ret
              exact ⟨rfl, HB10.out⟩
end Go.Proofs.YtecgikanophonaaGreatDoor
