/- Texts of the seat, one behind the other: RfList, RfHolds, RfAl, RfOpen, RfWorks, RfAlone. -/
import Derived.Test.YtdkedmngeahjiaaGreatDoorRfG
import Derived.Test.YtdkedmngeahjiaaGreatDoorRfRow
import Derived.Test.YtdkedmngeahjiaaGreatDoorRowC
import Derived.Test.YtdkedmngeahjiaaGreatDoorM26
import Derived.Test.YtdkedmngeahjiaaGreatDoorM44
import Derived.Test.YtdkedmngeahjiaaGreatDoorM4
import Derived.Test.YtdkedmngeahjiaaGreatDoorDigT
import Derived.Test.YtdkedmngeahjiaaGreatDoorRfCut
/- Contract of refs' List. -/
namespace Go.Proofs.YtdkedmngeahjiaaGreatDoor
open Go Go.RowKit
/-- A pair's cells: a name's full form, the text behind it. -/
def clP (p : List UInt8 × ByteArray) : Array Value := #[lV p.1, .string p.2]
abbrev OwnP (base : Nat) (l : List (List UInt8 × ByteArray)) (v : Value) (w : World) : Prop := OwnG 83 2 clP base l v w
theorem OwnP.below {base : Nat} {l : List (List UInt8 × ByteArray)} {v : Value} {w w' : World} (h : OwnP base l v w) (hb : Below w.heap.size w w') : OwnP base l v w' := row_same h (fun b hv => hb.block b (row_blk h hv).2.1)
theorem OwnP.row {base K : Nat} {l : List (List UInt8 × ByteArray)} {v : Value} {w : World} (h : OwnP base l v w) (hl : l.length = K) : w.ownsRow base 83 2 v K (flatG clP l) := hl ▸ h
theorem OwnP.base {base b : Nat} {l : List (List UInt8 × ByteArray)} {v : Value} {w : World} (h : OwnP base l v w) (hb : b ≤ base) : OwnP b l v w := by
  refine ⟨h.1, ?_⟩
  rcases h.2 with h2 | ⟨g, cap, cur, h1, h2, h3⟩
  · exact .inl h2
  · exact .inr ⟨g, cap, cur, h1, Nat.le_trans hb h2, h3⟩
theorem infoP : (Tryz.prog.info? 83).map (fun i => (i.zero, i.size, i.bytes)) = some (some (.agg #[.string ⟨#[]⟩, .string ⟨#[]⟩]), 2, 32) := by kernel_rfl
theorem newP (w : World) (x y : Value) (t : TypeId) : ∀ (j : Nat) (u : Value), [x, y][j]? = some u → (w.alloc (.cells #[x, y] t)).cell? ((⟨w.heap.size, 0, none⟩ : Addr).add j) = some u := fun j u h => by
  rw [show ((⟨w.heap.size, 0, none⟩ : Addr).add j) = ⟨w.heap.size, j, none⟩ by simp [Addr.add]; intro e; exact e.symm, cell_of_heapN (heap_new w _)]
  rw [← h, ← List.getElem?_toArray]
theorem onesP (x y : ByteArray) : ∀ u ∈ [Value.string x, Value.string y], u.oneCell' = true := fun u hu => by
  rcases List.mem_cons.1 hu with rfl | hu
  · rfl
  · rw [List.mem_singleton.1 hu]; rfl
/-- A file that is listed is read. -/
theorem reads_listed {m : DM} (hr : Rising m.now) (hoff : m.off = false) {hd s : ByteArray} (h : s ∈ m.lists hd) : (m.reads s).2 = 0 := by
  unfold DM.lists at h
  rw [if_neg (by rw [hoff]; decide)] at h
  obtain ⟨p, hp, rfl⟩ := List.mem_map.1 h
  have h1 : tget m.now (nameB p).data.toList = some p.2 := tget_of_mem hr (List.mem_filter.1 hp).1
  unfold DM.reads DM.get
  rw [if_neg (by rw [hoff]; decide), h1]
theorem namesM_len {m : DM} : ∀ {L : List ByteArray} {l : List (List UInt8 × ByteArray)}, namesM m L = some l → l.length ≤ L.length
  | [], l, h => by cases h; exact Nat.le_refl _
  | n :: r, l, h => by
    unfold namesM at h
    split at h
    · split at h
      · rename_i l' h1
        cases h
        have := namesM_len h1
        rw [List.length_cons, List.length_cons]
        omega
      · cases h
    · have := namesM_len h
      rw [List.length_cons]
      omega
/-- How List ends. -/
def RListPost (w1 : World) (r : List (List UInt8 × ByteArray) × Int) (e : Ending) (w' : World) : Prop :=
  ∃ v t, e = .returned (.tuple #[v, wrapE t r.2]) ∧ OwnP w1.heap.size r.1 v w' ∧ Below w1.heap.size w1 w'
set_option maxHeartbeats 12800000 in
set_option maxRecDepth 100000 in
theorem rlist_any {w w1 : World} {S P : Nat → Prop} {rb a n : Nat} {m : DM} (h : Rf w S P rb a w1 n m) (hn : n ≤ 1000000000) (hsh : ∀ s ∈ m.lists ⟨refHead.toArray⟩, s.size ≤ 200) :
    Calls Tryz.prog 39 #[.pointer (some ⟨rb, 0, none⟩)] w1 (RListPost w1 (listR m)) := by
  obtain ⟨i0, hi, hz0, hz1, hz2⟩ := info_parts infoP
  have HS1 := Lib.hid h
  have hlN : (m.lists ⟨refHead.toArray⟩).length ≤ n := by
    unfold DM.lists
    split
    · exact Nat.zero_le _
    · rw [List.length_map]
      exact Nat.le_trans (List.length_filter_le _ _) h.st.ok.nowN
  have hls := st_list h.st ⟨#[114, 101, 102, 115, 47]⟩ (by omega)
  have hlq : m.lists ⟨refHead.toArray⟩ = m.lists ⟨#[114, 101, 102, 115, 47]⟩ := rfl
  rw [← hlq] at hls
  have hLM : listR m = if m.off then ([], (27 : Int)) else match namesM m (m.lists ⟨refHead.toArray⟩) with
    | some l => (l, (0 : Int))
    | none => ([], (30 : Int)) := rfl
  have hrl : m.off = false → ∀ s ∈ m.lists ⟨refHead.toArray⟩, (m.reads s).2 = 0 := fun ho s hs => reads_listed h.st.ok.now ho hs
  have hbox := h.cell
  obtain ⟨L, hL⟩ : ∃ L, m.lists ⟨refHead.toArray⟩ = L := ⟨_, rfl⟩
  rw [hL] at hls hlN hsh hLM hrl
  obtain ⟨R, hR⟩ : ∃ R, listR m = R := ⟨_, rfl⟩
  rw [hR] at hLM ⊢
  have HLM := Lib.hid hLM
  have HSH := Lib.hid hsh
  have HRL := Lib.hid hrl
  obtain ⟨N, hN⟩ : ∃ N, L.length = N := ⟨_, rfl⟩
  have HN := Lib.hid hN
  rw [hN] at hlN
  have HNN : Hid (N ≤ n ∧ n ≤ 1000000000) := Lib.hid ⟨hlN, hn⟩
  clear h hsh hlN hL hN hn hlq hLM hR hrl
  cases hoff : m.off with
  | true =>
    rw [hoff] at hls
    have HOFF := Lib.hid hoff
    clear hoff
    have hlsw : Calls Tryz.prog 17 #[.pointer (some ⟨a, 0, none⟩), .string ⟨#[114, 101, 102, 115, 47]⟩] w1 fun e w' => ∃ v, e = .returned (.tuple #[v, .iface 71 (.int .i64 27)]) ∧ OwnTexts w1.heap.size w' v L ∧ Below w1.heap.size w1 w' := hls
    have htl := fun W : World => told_any whatL 27 W
    rw [show errE 27 = .iface 71 (.int .i64 27) from rfl] at htl
    unfold whatL at htl
    clear hls
    go_enter Tryz.func39, Tryz.ntmps39
    go_wp2_with fail
    refine hlsw.mono ?_
    rintro e w2 ⟨v, rfl, -, hb2⟩
    have HB2 := Lib.hid hb2
    clear hb2 hlsw hbox
    go_wp2_with (go_at_call 34; refine (htl _).mono ?_; rintro e w3 ⟨rfl, rfl⟩)
    go_ret2
    have hO : R = ([], 27) := by rw [HLM.out, HOFF.out]; rfl
    rw [hO]
    exact ⟨_, whatL, rfl, ⟨rfl, .inl ⟨rfl, rfl⟩⟩, HB2.out⟩
  | false =>
    rw [hoff] at hls
    have HOFF := Lib.hid hoff
    clear hoff
    have hlsw : Calls Tryz.prog 17 #[.pointer (some ⟨a, 0, none⟩), .string ⟨#[114, 101, 102, 115, 47]⟩] w1 fun e w' => ∃ v, e = .returned (.tuple #[v, .nilIface]) ∧ OwnTexts w1.heap.size w' v L ∧ Below w1.heap.size w1 w' := hls
    clear hls
    have HLM2 : Hid (R = match namesM m L with
      | some l => (l, (0 : Int))
      | none => ([], (30 : Int))) := Lib.hid (by rw [HLM.out, HOFF.out]; rfl)
    have htl := fun W : World => told_any whatL 30 W
    rw [show errE 30 = .iface 71 (.int .i64 30) from rfl] at htl
    unfold whatL at htl
    have HTL := Lib.hid htl
    have hI32 := dig_info2 (d := zeroD) rfl
    have hsz := dig_size (d := zeroD) rfl
    have h1z := dig_one zeroD
    clear htl HLM
    go_enter Tryz.func39, Tryz.ntmps39
    go_wp2_with fail
    refine hlsw.mono ?_
    rintro e w2 ⟨v, rfl, hv, hb2⟩
    obtain ⟨vp, vc, rfl⟩ := hv.rd.len
    rw [HN.out] at hv ⊢
    have HV2 := Lib.hid hv.rd
    have HB2 := Lib.hid hb2
    have HS2 := Lib.hid (HS1.out.bel hb2)
    have hNi : (N : Int) ≤ 1000000000 := by have := HNN.out; omega
    clear hb2 hlsw hv HS1 hbox
    go_wp2_with fail
    go_loopw [6, 29] (fun v iv wr => ∃ (k K : Nat) (l : List (List UInt8 × ByteArray)), (k : Int) ≤ N ∧ (K : Int) ≤ k ∧ iv = .int .i64 k ∧ (∃ vp vc, v = .slice vp K vc) ∧ Hid (l.length = K) ∧ Hid (namesM m L = (namesM m (L.drop k)).map (l ++ ·)) ∧ Hid (OwnP w2.heap.size l v wr) ∧ Hid (Below w2.heap.size w2 wr)) (fun _ iv _ => N - (intOf iv).toNat)
    case atStart => exact ⟨0, 0, [], by omega, by omega, rfl, ⟨_, _, rfl⟩, Lib.hid rfl, Lib.hid (by rw [List.drop_zero]; cases namesM m L <;> rfl), Lib.hid ⟨rfl, .inl ⟨rfl, rfl⟩⟩, Lib.hid (Below.refl _ _)⟩
    case round =>
      obtain ⟨k, K, l, hk, hKk, rfl, ⟨up, uc, rfl⟩, HK, HNM, HR, HB⟩ := hrel
      by_cases hlt : (k : Int) < N
      · have hkl : k < L.length := by rw [HN.out]; omega
        obtain ⟨s, hs⟩ : ∃ s, L[k]? = some s := ⟨_, List.getElem?_eq_getElem hkl⟩
        obtain ⟨vp', vc', he, hv⟩ := HV2.out.below HB.out
        obtain ⟨vb, vo, hvp, hvl, hvc⟩ := hv k s hs
        have hpe : vp = some ⟨vb, vo, none⟩ := by cases he; exact hvp
        subst hpe
        have hss := HSH.out s (List.mem_of_getElem? hs)
        have hy := HRL.out HOFF.out s (List.mem_of_getElem? hs)
        have hdr : L.drop k = s :: L.drop (k + 1) := by
          rw [List.drop_eq_getElem_cons hkl]
          rw [List.getElem?_eq_getElem hkl] at hs
          rw [Option.some.inj hs]
        have HDR := Lib.hid hdr
        have hre := fun W : World => rest_any s (show ((s.size : Nat) : Int) ≤ 140737488355328 by omega) W
        unfold lV at hre
        clear hs he hv hvp hvl hkl hdr
        have HS4 := Lib.hid (HS2.out.bel HB.out)
        have c4 := HS4.out.cell
        cases hrs : restM s with
        | false =>
          have hnx : namesM m (L.drop k) = namesM m (L.drop (k + 1)) := by rw [HDR.out, namesM, if_neg (by rw [hrs]; decide)]
          have HNX := Lib.hid hnx
          rw [hrs] at hre
          clear hrs hnx hy
          go_wp2_with (go_at_call 43; refine (hre _).mono ?_; rintro e w5 ⟨rfl, hb5⟩; have HB5 : Hid (Below w2.heap.size w2 w5) := Lib.hid (HB.out.trans (hb5.mono HB.out.size)); have HR5 := Lib.hid (HR.out.below hb5); clear hb5)
          exact ⟨⟨k + 1, K, l, by omega, by omega, by rw [Int.natCast_add]; rfl, ⟨_, _, rfl⟩, HK, Lib.hid (by rw [HNM.out, HNX.out]), HR5, HB5⟩, by simp [intOf]; omega⟩
        | true =>
          have hrd := fun W (hst : St w S P a W n m) => st_read hst s (show s.size ≤ maxLen by unfold maxLen; omega)
          obtain ⟨T, hT⟩ : ∃ T, (m.reads s).1 = T := ⟨_, rfl⟩
          rw [hT, hy, show errE 0 = .nilIface from rfl] at hrd
          have HRD := Lib.hid hrd
          have hpa := fun W : World => parse_dig T W
          have hnx : namesM m (L.drop k) = match parseD T, namesM m (L.drop (k + 1)) with
            | some _, some l => some ((tailM s, T) :: l)
            | _, _ => none := by rw [HDR.out, namesM, if_pos hrs, hT]; cases parseD T <;> cases namesM m (L.drop (k + 1)) <;> rfl
          rw [hrs] at hre
          clear hrd hT hy hrs
          cases hp : parseD T with
          | none =>
            rw [hp] at hpa hnx
            have HNX : Hid (namesM m (L.drop k) = none) := Lib.hid hnx
            have hpa2 : ∀ W : World, Calls Tryz.prog 42 #[.string T] W fun e w' => e = .returned (.tuple #[.agg (zeroD.map byteV).toArray, .iface 71 (.int .i64 4)]) ∧ Below W.heap.size W w' := hpa
            clear hpa hp hnx
            go_wp2_with (go_at_call 43; refine (hre _).mono ?_; rintro e w5 ⟨rfl, hb5⟩; have HB5 : Hid (Below w2.heap.size w2 w5) := Lib.hid (HB.out.trans (hb5.mono HB.out.size)); have HS5 := Lib.hid (HS4.out.bel hb5); have c5 := HS5.out.cell; clear hb5)
            refine (HRD.out _ HS5.out.st).mono ?_
            rintro e w6 ⟨rfl, rfl⟩
            go_wp2_with (first | (go_at_call 42; refine (hpa2 _).mono ?_; rintro e w7 ⟨rfl, hb7⟩; have HB7 : Hid (Below w2.heap.size w2 w7) := Lib.hid (HB5.out.trans (hb7.mono HB5.out.size)); clear hb7) | (refine wpList_store_new rfl _ _ _ rfl _ (zeroD.map byteV).toArray _ rfl rfl rfl hI32 hsz h1z ?_; (obtain ⟨W5, hW5⟩ : ∃ W, w7.alloc (.cells (zeroD.map byteV).toArray 33) = W := ⟨_, rfl⟩; have HB8 : Hid (Below w2.heap.size w2 W5) := Lib.hid (by rw [← hW5]; exact HB7.out.alloc HB7.out.size _); rw [hW5]; clear hW5)) | (go_at_call 34; refine (HTL.out _).mono ?_; rintro e w9 ⟨rfl, rfl⟩))
            go_ret2
            have hO : R = ([], 30) := by rw [HLM2.out, HNM.out, HNX.out]; rfl
            rw [hO]
            exact ⟨_, whatL, rfl, ⟨rfl, .inl ⟨rfl, rfl⟩⟩, HB2.out.trans (HB8.out.mono HB2.out.size)⟩
          | some D =>
            have hDl := (parseD_inv hp).2
            rw [hp] at hpa hnx
            have HNX : Hid (namesM m (L.drop k) = (namesM m (L.drop (k + 1))).map ((tailM s, T) :: ·)) := Lib.hid (by rw [hnx]; cases namesM m (L.drop (k + 1)) <;> rfl)
            have hpa2 : ∀ W : World, Calls Tryz.prog 42 #[.string T] W fun e w' => e = .returned (.tuple #[.agg (D.map byteV).toArray, .nilIface]) ∧ Below W.heap.size W w' := hpa
            have hI2 := dig_info2 hDl
            have hd1 := dig_one D
            have hdz := dig_size hDl
            clear hpa hp hnx hDl
            go_wp2_with (go_at_call 43; refine (hre _).mono ?_; rintro e w5 ⟨rfl, hb5⟩; have HB5 : Hid (Below w2.heap.size w2 w5) := Lib.hid (HB.out.trans (hb5.mono HB.out.size)); have HS5 := Lib.hid (HS4.out.bel hb5); have HR5 := Lib.hid (HR.out.below hb5); have c5 := HS5.out.cell; clear hb5)
            refine (HRD.out _ HS5.out.st).mono ?_
            rintro e w6 ⟨rfl, rfl⟩
            go_wp2_with (first | (go_at_call 42; refine (hpa2 _).mono ?_; rintro e w7 ⟨rfl, hb7⟩; have HB7 : Hid (Below w2.heap.size w2 w7) := Lib.hid (HB5.out.trans (hb7.mono HB5.out.size)); have HR7 := Lib.hid (HR5.out.below hb7); clear hb7) | (refine wpList_store_new rfl _ _ _ rfl _ (D.map byteV).toArray _ rfl rfl rfl hI2 hdz hd1 ?_; (obtain ⟨W5, hW5⟩ : ∃ W, w7.alloc (.cells (D.map byteV).toArray 33) = W := ⟨_, rfl⟩; have hb8 : Below w7.heap.size w7 W5 := (by rw [← hW5]; exact (Below.refl _ _).alloc (Nat.le_refl _) _); have HB8 : Hid (Below w2.heap.size w2 W5) := Lib.hid (HB7.out.trans (hb8.mono HB7.out.size)); have HR8 := Lib.hid (HR7.out.below hb8); rw [hW5]; clear hW5 hb8)) | (at_builtin; go_must (refine wpList_app_to rfl _ _ 79 rfl w2.heap.size 83 i0 (.agg #[.string ⟨#[]⟩, .string ⟨#[]⟩]) 2 32 Tryz.underlying79 hi hz0 hz1 hz2 rfl (by decide) (.slice up K uc) K _ rfl ((HR8.out.below ((Below.refl W5.heap.size W5).alloc (Nat.le_refl _) (.cells #[.string ⟨(tailM s).toArray⟩, .string T] 83))).row HK.out) ⟨W5.heap.size, 0, none⟩ 1 1 [.string ⟨(tailM s).toArray⟩, .string T] rfl rfl (newP W5 _ _ _) (onesP _ _) (by decide) (by unfold maxLen; omega) (by omega) (Nat.le_trans HB8.out.size (by rw [World.size_alloc]; omega)) ?_); intro v6 W6 ho6 hl6; have HO6 := Lib.hid ho6; have HL6 := Lib.hid hl6; (obtain ⟨p6, c6, rfl⟩ := row_slice ho6); clear ho6 hl6))
            have hb9 : Below w2.heap.size w2 W6 := (HB8.out.alloc (by have := HB8.out.size; omega) _).trans (app_below ((HR8.out.below ((Below.refl W5.heap.size W5).alloc (Nat.le_refl _) (.cells #[.string ⟨(tailM s).toArray⟩, .string T] 83))).row HK.out) HL6.out (Nat.le_trans HB8.out.size (by rw [World.size_alloc]; omega)))
            refine ⟨⟨k + 1, K + 1, l ++ [(tailM s, T)], by omega, by omega, by rw [Int.natCast_add]; rfl, ⟨_, _, rfl⟩, Lib.hid ?_, Lib.hid ?_, Lib.hid ?_, Lib.hid hb9⟩, by simp [intOf]; omega⟩
            · rw [List.length_append, HK.out]; rfl
            · rw [HNM.out, HNX.out]
              cases namesM m (L.drop (k + 1)) with
              | none => rfl
              | some r => exact congrArg some (List.append_assoc l [(tailM s, T)] r).symm
            · exact OwnG.app (by rw [HK.out]; exact HO6.out)
      · obtain rfl : k = N := by omega
        have hall : namesM m L = some l := by rw [HNM.out, List.drop_of_length_le (by rw [HN.out]; exact Nat.le_refl _)]; exact congrArg some (List.append_nil l)
        have hO : R = (l, 0) := by rw [HLM2.out, hall]
        have HO := Lib.hid hO
        clear hall hO
        go_wp2_with fail
        go_ret2
        rw [HO.out]
        exact ⟨_, whatL, rfl, HR.out.base HB2.out.size, HB2.out.trans (HB.out.mono HB2.out.size)⟩
end Go.Proofs.YtdkedmngeahjiaaGreatDoor
/- Contract of stratalaw24.holds. -/
namespace Go.Proofs.YtdkedmngeahjiaaGreatDoor
open Go Go.Maps Go.RowKit
theorem bless_bb : ∀ a b : List UInt8, Op.bytesLess a b = bytesBefore a b
  | [], [] => rfl
  | [], _ :: _ => rfl
  | _ :: _, [] => rfl
  | x :: r, y :: s => by simp [Op.bytesLess, bytesBefore, bless_bb r s]
theorem rising_sub : ∀ (m l : Tab), Rising l → Rising m → (∀ p ∈ l, p ∈ m) → l.Sublist m
  | [], l, _, _, h => by
    cases l with
    | nil => exact List.Sublist.slnil
    | cons x s => exact absurd (h x List.mem_cons_self) List.not_mem_nil
  | y :: r, [], _, _, _ => List.nil_sublist _
  | y :: r, x :: s, hl, hm, h => by
    have hl' := List.pairwise_cons.1 hl
    have hm' := List.pairwise_cons.1 hm
    by_cases e : x = y
    · subst e
      refine List.Sublist.cons_cons x (rising_sub r s hl'.2 hm'.2 (fun p hp => ?_))
      rcases List.mem_cons.1 (h p (List.mem_cons_of_mem _ hp)) with h1 | h1
      · exact absurd (congrArg Prod.fst h1).symm (bb_ne (hl'.1 p hp))
      · exact h1
    · have hx : x ∈ r := (List.mem_cons.1 (h x List.mem_cons_self)).resolve_left e
      refine List.Sublist.cons y (rising_sub r (x :: s) hl hm'.2 (fun p hp => ?_))
      rcases List.mem_cons.1 (h p hp) with h1 | h1
      · rcases List.mem_cons.1 hp with h2 | h2
        · exact absurd (h2.symm.trans h1) e
        · have a1 := hl'.1 p h2
          have a2 := hm'.1 x hx
          rw [h1] at a1
          have a3 := WideShapes.bytes_trans _ _ _ a1 a2
          rw [WideAt.bytes_irrefl] at a3
          cases a3
      · exact h1
theorem rising_eq {l m : Tab} (hl : Rising l) (hm : Rising m) (h : ∀ p ∈ l, tget m p.1 = some p.2) (hn : l.length = m.length) : l = m :=
  (rising_sub m l hl hm (fun p hp => tget_mem (h p hp))).eq_of_length hn
/-- What a name leads to, as List says it. -/
def entR (p : Bs × Nat) : List UInt8 × ByteArray := (p.1, textD (decD p.2))
/-- The names of a disk are these. -/
structure NamesT (m : DM) (l : Tab) : Prop where
  rise : Rising l
  list : listR m = (l.map entR, 0)
  get : ∀ p ∈ l, getF m p.1 = (decD p.2, 0)
  code : ∀ p ∈ l, p.2 = codeD (decD p.2)
  key : ∀ p ∈ l, p.1.length ≤ 96
section
variable {w : World} {ops : Array Oper} {rest : List Oper} {o : Oper} {a : Act} {Q : Exit → Act → World → Prop}
theorem wpList_len_ledG (hw : Region.wanted o (yielded ops a.tmps) = true) (m : Operand) (hop : o.op = Op.call { callee := Callee.builtin Builtin.len, args := #[m], argTypes := #[40] })
    (b : Nat) (l : Tab) (hm : a.eval m = .map (some b)) (hown : LedAt w b l) (hK : wpList Tryz.prog ops Q rest (a.put o.dst (.int .i64 (l.length : Int))) w) :
    wpList Tryz.prog ops Q (o :: rest) a w := by
  refine wpList_step fun K' hK' => ?_
  rw [if_pos hw]
  have hlen := World.ownsMap.len hown und_led o.type
  have e : Maps.size (tabD l) = l.length := List.length_map ..
  rw [e] at hlen
  unfold Oper.wp
  simp [execOp, hop, resolve, invoke, builtin, hm, hlen, Result.andThen]
  exact hK' _ _ hK
end
/-- A pair's cells, by its place in a row of the call's own. -/
theorem OwnP.at {base : Nat} {l : List (List UInt8 × ByteArray)} {w : World} {p : Option Addr} {n c : Nat} (h : OwnP base l (.slice p n c) w) {i : Nat} {x : List UInt8 × ByteArray} (hx : l[i]? = some x) :
    ∃ g, p = some ⟨g, 0, none⟩ ∧ g < w.heap.size ∧ w.cell? ⟨g, i * 2, none⟩ = some (lV x.1) ∧ w.cell? ⟨g, i * 2 + 1, none⟩ = some (.string x.2) := by
  rcases OwnG.reads (T := 83) (sz := 2) (cl := clP) (fun _ => rfl) h with ⟨h1, h2⟩ | ⟨g, cap, cur, h1, -, -, h4, h5⟩
  · rw [h2] at hx
    cases hx
  · cases h1
    have e0 := h5 i x hx 0 (by decide)
    have e1 := h5 i x hx 1 (by decide)
    exact ⟨g, rfl, blk_lt h4, by rw [cell_of_heapN h4]; exact e0, by rw [cell_of_heapN h4]; exact e1⟩
set_option maxHeartbeats 12800000 in
set_option maxRecDepth 100000 in
theorem holds_any {w w1 : World} {S P : Nat → Prop} {rb a n : Nat} {m : DM} (h : Rf w S P rb a w1 n m) (hn : n ≤ 1000000000) (hsh : ∀ s ∈ m.lists ⟨refHead.toArray⟩, s.size ≤ 200) {LT W : Tab} (hN : NamesT m LT) (hNl : LT.length ≤ 1000000000) (q : Nat) (hW : LedAt w1 q W) (hWl : W.length ≤ 1000000000) (hWc : ∀ x ∈ W, x.2 = codeD (decD x.2)) :
    Calls Tryz.prog 18 #[.pointer (some ⟨rb, 0, none⟩), .map (some q)] w1 fun e w' => e = .returned (.bool (decide (LT = W))) ∧ Below w1.heap.size w1 w' := by
  have HS1 := Lib.hid h
  have HN := Lib.hid hN
  have HW := Lib.hid hW
  have HWR := Lib.hid hW.rising
  have hU := dig_und
  have HWC : Hid (∀ (c2 : Nat) (k : Bs), tget W k = some c2 → codeD (decD c2) = c2) := Lib.hid (fun c2 k hk => (hWc _ (tget_mem hk)).symm)
  obtain ⟨N, hNN⟩ : ∃ N, LT.length = N := ⟨_, rfl⟩
  have HNN := Lib.hid hNN
  obtain ⟨M, hMM⟩ : ∃ M, W.length = M := ⟨_, rfl⟩
  have HMM := Lib.hid hMM
  rw [hNN] at hNl
  rw [hMM] at hWl
  have hls := rlist_any h hn hsh
  obtain ⟨RB, hRB⟩ : ∃ b, decide (LT = W) = b := ⟨_, rfl⟩
  have HRB := Lib.hid hRB
  rw [hRB]
  clear h hn hsh hN hW hNN hMM hRB hWc
  go_enter Tryz.func18, Tryz.ntmps18
  go_wp2_with fail
  refine hls.mono ?_
  rintro e w2 ⟨v, t, rfl, hown, hb2⟩
  rw [HN.out.list] at hown
  rw [show wrapE t (listR m).2 = .nilIface from by rw [HN.out.list]; rfl]
  obtain ⟨p, cp, rfl⟩ := row_slice hown
  rw [show (LT.map entR).length = N from by rw [List.length_map]; exact HNN.out] at hown ⊢
  have HO2 := Lib.hid hown
  have HS2 := Lib.hid (HS1.out.bel hb2)
  have HB2 := Lib.hid hb2
  have HW2 := Lib.hid (HW.out.below hb2)
  clear hls hown hb2
  by_cases hnm : N = M
  · subst hnm
    have hNi : (N : Int) ≤ 1000000000 := by omega
    go_wp2_with (at_len; refine wpList_len_ledG rfl _ rfl q W rfl HW2.out ?_; rw [HMM.out])
    go_loopw [7] (fun iv wr => ∃ i : Nat, (i : Int) ≤ N ∧ iv = .int .i64 i ∧ Hid (∀ x ∈ LT.take i, tget W x.1 = some x.2) ∧ Hid (Below w2.heap.size w2 wr)) (fun iv _ => N - (intOf iv).toNat)
    case atStart => exact ⟨0, by omega, rfl, Lib.hid (fun x hx => by rw [List.take_zero] at hx; cases hx), Lib.hid (Below.refl _ _)⟩
    case round =>
      obtain ⟨i, hi, rfl, HJ, HB⟩ := hrel
      by_cases hlt : (i : Int) < N
      · have hil : i < LT.length := by rw [HNN.out]; omega
        obtain ⟨x, hx⟩ : ∃ x, LT[i]? = some x := ⟨_, List.getElem?_eq_getElem hil⟩
        obtain ⟨k, c⟩ := x
        have hmem := List.mem_of_getElem? hx
        obtain ⟨g, rfl, hg, hk0, ht0⟩ := HO2.out.at (i := i) (x := entR (k, c)) (by rw [List.getElem?_map, hx]; rfl)
        have hgk := HN.out.get _ hmem
        have hkl := HN.out.key _ hmem
        have hcc := HN.out.code _ hmem
        simp only at hgk hkl hcc
        have HX := Lib.hid hx
        have HG := Lib.hid hg
        have htk : LT.take (i + 1) = LT.take i ++ [(k, c)] := by rw [List.take_add_one, hx]; rfl
        have HTK := Lib.hid htk
        obtain ⟨D, hD⟩ : ∃ D, decD c = D := ⟨_, rfl⟩
        have hDl : D.length = 32 := by rw [← hD]; exact decD_len c
        have HDC : Hid (decD c = D) := Lib.hid hD
        obtain ⟨T, hT⟩ : ∃ T, textD D = T := ⟨_, rfl⟩
        have hTX := fun WW : World => text_dig D hDl WW
        rw [hT] at hTX
        obtain ⟨kB, hkB⟩ : ∃ b : ByteArray, (⟨k.toArray⟩ : ByteArray) = b := ⟨_, rfl⟩
        have hkd : kB.data.toList = k := by rw [← hkB]
        have hks : (kB.size : Int) ≤ 96 := by rw [← hkB]; show ((k.length : Nat) : Int) ≤ 96; omega
        have hc0 : wr.cell? ⟨g, i * 2, none⟩ = some (.string kB) := (HB.out.cell (p := ⟨g, i * 2, none⟩) hg).trans (hk0.trans (by rw [← hkB]; rfl))
        have hc1 : w2.cell? ⟨g, i * 2 + 1, none⟩ = some (.string T) := ht0.trans (by rw [← hT, ← hD]; rfl)
        have hc00 : w2.cell? ⟨g, i * 2, none⟩ = some (.string kB) := hk0.trans (by rw [← hkB]; rfl)
        rw [hD] at hgk hcc
        have HC1 := Lib.hid hc1
        have HC0 := Lib.hid hc00
        have HDL := Lib.hid hDl
        have HCC := Lib.hid hcc
        have HKD := Lib.hid hkd
        have HWr := Lib.hid (HW2.out.below HB.out)
        have HSr := Lib.hid (HS2.out.bel HB.out)
        have hget := fun (WW : World) (hr : Rf w S P rb a WW n m) => rget_any hr kB (by omega)
        rw [hkd, hgk] at hget
        have HGET := Lib.hid hget
        unfold digV at hTX
        have HTX := Lib.hid hTX
        obtain ⟨O, hO⟩ : ∃ O, tget W k = O := ⟨_, rfl⟩
        have HO := Lib.hid hO
        obtain ⟨isb, his⟩ : ∃ b, O.isSome = b := ⟨_, rfl⟩
        have HIS := Lib.hid his
        have hcs : (isb = false ∧ O = none) ∨ (isb = true ∧ ∃ c2, O = some c2) := by
          rw [← his]
          cases O with
          | none => exact .inl ⟨rfl, rfl⟩
          | some c2 => exact .inr ⟨rfl, c2, rfl⟩
        have HCS := Lib.hid hcs
        clear his hcs
        obtain ⟨E, hE⟩ : ∃ E, ledV O = E := ⟨_, rfl⟩
        have hEl : E.length = 32 := by rw [← hE]; exact ledV_len O
        have HE := Lib.hid hE
        have HEL := Lib.hid hEl
        have hI := dig_info hDl
        have hI2 := dig_info2 hDl
        have h1 := dig_one D
        have hz := dig_size hDl
        have hIE := dig_info hEl
        have hIE2 := dig_info2 hEl
        have h1E := dig_one E
        have hzE := dig_size hEl
        have HPREV : Hid (∀ j, i = j + 1 → ∃ pB : ByteArray, w2.cell? ⟨g, j * 2, none⟩ = some (.string pB) ∧ (!(Op.bytesLess pB.toList kB.toList)) = false) := Lib.hid (fun j hj => by
          subst hj
          obtain ⟨y, hy⟩ : ∃ y, LT[j]? = some y := ⟨_, List.getElem?_eq_getElem (by omega)⟩
          obtain ⟨g', hg', -, hy0, -⟩ := HO2.out.at (i := j) (x := entR y) (by rw [List.getElem?_map, hy]; rfl)
          cases hg'
          refine ⟨⟨y.1.toArray⟩, hy0, ?_⟩
          rw [← hkB, Lib.toList_data, Lib.toList_data, bless_bb]
          have hr := List.pairwise_iff_getElem.1 HN.out.rise j (j + 1) (by omega) hil (by omega)
          rw [List.getElem?_eq_getElem (by omega)] at hy
          rw [List.getElem?_eq_getElem hil] at hx
          rw [Option.some.inj hy, Option.some.inj hx] at hr
          show (!(bytesBefore y.1 k)) = false
          rw [hr]
          rfl)
        clear hx hil hmem hk0 ht0 hgk hkl hcc hg htk hD hDl hT hTX hkB hkd hc1 hc00 hget hO hE hEl
        go_wp2_with (first | (at_lookup; refine wpList_look_led rfl _ _ rfl q W rfl HWr.out kB (by unfold maxLen; omega) rfl ?_; rw [HKD.out, HO.out, HE.out, HIS.out]) | (refine wpList_store_new rfl _ _ _ rfl _ (E.map byteV).toArray _ rfl rfl rfl hIE2 hzE h1E ?_; (obtain ⟨W5, hW5⟩ : ∃ W, wr.alloc (.cells (E.map byteV).toArray 33) = W := ⟨_, rfl⟩; have hx5 : W5.heap[wr.heap.size]? = some (.cells (E.map byteV).toArray 33 (0, 0)) := (by rw [← hW5]; exact heap_new _ _); have hb5 : Below wr.heap.size wr W5 := (by rw [← hW5]; exact (Below.refl _ _).alloc (Nat.le_refl _) _); have HX5 := Lib.hid hx5; have HB5 : Hid (Below w2.heap.size w2 W5) := Lib.hid (HB.out.trans (hb5.mono HB.out.size)); have HS5 := Lib.hid (HSr.out.bel hb5); have c5 : W5.cell? ⟨g, i * 2, none⟩ = some (.string kB) := (HB5.out.cell (p := ⟨g, i * 2, none⟩) HG.out).trans HC0.out; rw [hW5]; clear hW5 hx5 hb5)))
        refine (HGET.out _ HS5.out).mono ?_
        rintro e w6 ⟨⟨t6, rfl⟩, hb6⟩
        rw [show wrapE t6 (D, (0 : Int)).2 = .nilIface from rfl]
        have HB6 : Hid (Below w2.heap.size w2 w6) := Lib.hid (HB5.out.trans (hb6.mono HB5.out.size))
        have HX6 : Hid (w6.heap[wr.heap.size]? = some (.cells (E.map byteV).toArray 33 (0, 0))) := Lib.hid ((hb6.block _ (blk_lt HX5.out)).trans HX5.out)
        unfold digV
        clear hb6 c5
        go_wp2_with (refine wpList_store_new rfl _ _ _ rfl _ (D.map byteV).toArray _ rfl rfl rfl hI2 hz h1 ?_; (obtain ⟨W7, hW7⟩ : ∃ W, w6.alloc (.cells (D.map byteV).toArray 33) = W := ⟨_, rfl⟩; have hx7 : W7.heap[w6.heap.size]? = some (.cells (D.map byteV).toArray 33 (0, 0)) := (by rw [← hW7]; exact heap_new _ _); have hb7 : Below w6.heap.size w6 W7 := (by rw [← hW7]; exact (Below.refl _ _).alloc (Nat.le_refl _) _); have HX7 := Lib.hid hx7; have HY7 : Hid (W7.heap[wr.heap.size]? = some (.cells (E.map byteV).toArray 33 (0, 0))) := Lib.hid ((hb7.block _ (blk_lt HX6.out)).trans HX6.out); have HB7 : Hid (Below w2.heap.size w2 W7) := Lib.hid (HB6.out.trans (hb7.mono HB6.out.size)); rw [hW7]; clear hW7 hx7 hb7))
        have hI0 : Below W7.heap.size W7 W7.drew := ⟨rfl, rfl, rfl, Nat.le_refl _, fun _ _ => rfl⟩
        have HCT : Hid (∀ WW, Below W7.heap.size W7 WW → WW.cell? ⟨g, i * 2, none⟩ = some (.string kB) ∧ WW.cell? ⟨g, i * 2 + 1, none⟩ = some (.string T)) := Lib.hid (fun WW hb => by
          have hb9 := HB7.out.trans (hb.mono HB7.out.size)
          exact ⟨(hb9.cell (p := ⟨g, i * 2, none⟩) HG.out).trans HC0.out, (hb9.cell (p := ⟨g, i * 2 + 1, none⟩) HG.out).trans HC1.out⟩)
        obtain ⟨gb, hgb⟩ : ∃ b, w6.heap.size = b := ⟨_, rfl⟩
        obtain ⟨wb, hwb⟩ : ∃ b, wr.heap.size = b := ⟨_, rfl⟩
        rw [hgb] at HX7
        rw [hwb] at HY7
        rw [hgb, hwb]
        clear hgb hwb
        rcases HCS.out with ⟨rfl, hOn⟩ | ⟨rfl, c2, hOs⟩
        · have HON := Lib.hid hOn
          clear hOn
          refine wp_region_flowG (fun _ : Unit => [.bool false, .bool true, .bool true, undef, undef, .bool true, .bool true, undef, undef, undef, .bool true, .bool true, undef, undef, undef, undef, undef, undef, undef, undef, .bool true, .bool true, undef, undef, undef, undef, undef, undef, undef, undef, undef, undef, undef, undef, undef, undef, undef, undef, .bool true]) (fun _ _ W => Below W7.heap.size W7 W)
            [[], [0], [1], [2], [3, 2], [2, 4], [5, 2], [6], [6], [7, 8, 6], [6, 9], [10, 6], [11], [11], [12, 13, 11], [14, 11], [15, 11], [11], [17, 11, 11], [16, 18, 11], [11, 19], [20, 18], [21], [22, 21], [23, 21, 21], [24], [24], [26, 24], [25, 27, 24], [28, 24], [29, 24], [24], [24], [31, 32, 24], [33, 24], [34, 24], [30, 35, 24], [24, 36, 21], [21, 37]] 91 () mixedD rfl (by kernel_rfl) (fun _ => rfl) hI0 ?_ ?_
          · refine ⟨?_, ?_, ?_, ?_, ?_, ?_, ?_, ?_, ?_, ?_, ?_, ?_, ?_, ?_, ?_, ?_, ?_, ?_, ?_, ?_, ?_, ?_, ?_, ?_, ?_, ?_, ?_, ?_, ?_, ?_, ?_, ?_, ?_, ?_, ?_, ?_, ?_, ?_, ?_, rfl⟩
            all_goals intro L γ W ev hL hd hW hc hf hg he h0
            · have e9 : ev (.tmp 9) = .bool false := h0 9 rfl
              clear he h0 hc hf hg
              exact .inl ⟨rfl, .inl ⟨_, W, (by go_simp <;> rfl), .still (hW) rfl⟩⟩
            · have e52 : ev (.tmp 52) = .bool false := he 0 (by decide) _ 52 rfl rfl
              clear he h0 hc hf hg
              exact .inl ⟨rfl, .inl ⟨_, W, (by go_simp <;> rfl), .still (hW) rfl⟩⟩
            · have e53 : ev (.tmp 53) = .bool true := he 1 (by decide) _ 53 rfl rfl
              clear he h0 hc hf hg
              exact .inl ⟨rfl, .inl ⟨_, W, (by go_simp <;> rfl), .still (hW) rfl⟩⟩
            · exact .inr ⟨rfl, .still (hW) rfl⟩
            · exact .inr ⟨rfl, .still (hW) rfl⟩
            · have e54 : ev (.tmp 54) = .bool true := he 2 (by decide) _ 54 rfl rfl
              have e56 : ev (.tmp 56) = undef := he 4 (by decide) _ 56 rfl rfl
              have hcc := hc
              clear he h0 hc hf hg
              exact .inl ⟨rfl, .inl ⟨_, W, (by go_simp <;> rfl), .still (hW) rfl⟩⟩
            · have e57 : ev (.tmp 57) = .bool true := he 5 (by decide) _ 57 rfl rfl
              clear he h0 hc hf hg
              exact .inl ⟨rfl, .inl ⟨_, W, (by go_simp <;> rfl), .still (hW) rfl⟩⟩
            · exact .inr ⟨rfl, .still (hW) rfl⟩
            · exact .inr ⟨rfl, .still (hW) rfl⟩
            · exact .inr ⟨rfl, .still (hW) rfl⟩
            · have e58 : ev (.tmp 58) = .bool true := he 6 (by decide) _ 58 rfl rfl
              have e61 : ev (.tmp 61) = undef := he 9 (by decide) _ 61 rfl rfl
              have hcc := hc
              clear he h0 hc hf hg
              exact .inl ⟨rfl, .inl ⟨_, W, (by go_simp <;> rfl), .still (hW) rfl⟩⟩
            · have e62 : ev (.tmp 62) = .bool true := he 10 (by decide) _ 62 rfl rfl
              clear he h0 hc hf hg
              exact .inl ⟨rfl, .inl ⟨_, W, (by go_simp <;> rfl), .still (hW) rfl⟩⟩
            · exact .inr ⟨rfl, .still (hW) rfl⟩
            · exact .inr ⟨rfl, .still (hW) rfl⟩
            · exact .inr ⟨rfl, .still (hW) rfl⟩
            · exact .inr ⟨rfl, .still (hW) rfl⟩
            · exact .inr ⟨rfl, .still (hW) rfl⟩
            · exact .inr ⟨rfl, .still (hW) rfl⟩
            · exact .inr ⟨rfl, .still (hW) rfl⟩
            · exact .inr ⟨rfl, .still (hW) rfl⟩
            · have e63 : ev (.tmp 63) = .bool true := he 11 (by decide) _ 63 rfl rfl
              have e71 : ev (.tmp 71) = undef := he 19 (by decide) _ 71 rfl rfl
              have hcc := hc
              clear he h0 hc hf hg
              exact .inl ⟨rfl, .inl ⟨_, W, (by go_simp <;> rfl), .still (hW) rfl⟩⟩
            · have e72 : ev (.tmp 72) = .bool true := he 20 (by decide) _ 72 rfl rfl
              clear he h0 hc hf hg
              exact .inl ⟨rfl, .inl ⟨_, W, (by go_simp <;> rfl), .still (hW) rfl⟩⟩
            · exact .inr ⟨rfl, .still (hW) rfl⟩
            · exact .inr ⟨rfl, .still (hW) rfl⟩
            · exact .inr ⟨rfl, .still (hW) rfl⟩
            · exact .inr ⟨rfl, .still (hW) rfl⟩
            · exact .inr ⟨rfl, .still (hW) rfl⟩
            · exact .inr ⟨rfl, .still (hW) rfl⟩
            · exact .inr ⟨rfl, .still (hW) rfl⟩
            · exact .inr ⟨rfl, .still (hW) rfl⟩
            · exact .inr ⟨rfl, .still (hW) rfl⟩
            · exact .inr ⟨rfl, .still (hW) rfl⟩
            · exact .inr ⟨rfl, .still (hW) rfl⟩
            · exact .inr ⟨rfl, .still (hW) rfl⟩
            · exact .inr ⟨rfl, .still (hW) rfl⟩
            · exact .inr ⟨rfl, .still (hW) rfl⟩
            · exact .inr ⟨rfl, .still (hW) rfl⟩
            · exact .inr ⟨rfl, .still (hW) rfl⟩
            · have e73 : ev (.tmp 73) = .bool true := he 21 (by decide) _ 73 rfl rfl
              have e89 : ev (.tmp 89) = undef := he 37 (by decide) _ 89 rfl rfl
              have hcc := hc
              clear he h0 hc hf hg
              exact .inl ⟨rfl, .inl ⟨_, W, (by go_simp <;> rfl), .still (hW) rfl⟩⟩
          intro γ L w8 hL hW
          have HB8 : Hid (Below w2.heap.size w2 w8) := Lib.hid (HB7.out.trans (hW.mono HB7.out.size))
          clear hL hW hI0
          simp only [putAll, Act.put, List.setIfInBounds_toArray, List.set_cons_succ, List.set_cons_zero]
          have hRf : RB = false := by
            rw [← HRB.out]
            refine decide_eq_false fun hh => ?_
            have h2 := tget_of_mem HN.out.rise (List.mem_of_getElem? HX.out)
            rw [hh, HO.out, HON.out] at h2
            cases h2
          subst hRf
          go_wp2_with fail
          go_ret
          exact ⟨rfl, HB2.out.trans (HB8.out.mono HB2.out.size)⟩
        · have HOS := Lib.hid hOs
          have hEd : E = decD c2 := by rw [← HE.out, hOs]; rfl
          have HED := Lib.hid hEd
          clear hOs hEd
          by_cases hde : D = E
          · have hee : (D == E) = true := beq_iff_eq.2 hde
            have hEQ := Lib.hid hde
            have hTT : (T.toList == T.toList) = true := beq_self_eq_true _
            have HNX : Hid (∀ x ∈ LT.take (i + 1), tget W x.1 = some x.2) := Lib.hid (fun x hx => by
              rw [HTK.out] at hx
              rcases List.mem_append.1 hx with hx | hx
              · exact HJ.out x hx
              · rw [List.mem_singleton.1 hx]
                show tget W k = some c
                rw [HO.out, HOS.out, HCC.out, hEQ.out, HED.out]
                exact congrArg some (HWC.out c2 k (HO.out.trans HOS.out)).symm)
            clear hde
            rcases Nat.eq_zero_or_pos i with hi0 | hi0
            · subst hi0
              have HTE : Hid (∀ WW : World, Calls Tryz.prog 49 #[.agg (E.map byteV).toArray] WW fun e w' => e = .returned (.string T) ∧ Below WW.heap.size WW w') := Lib.hid (fun WW => by rw [← hEQ.out]; exact HTX.out WW)
              refine wp_region_flowG (fun _ : Unit => [.bool true, .bool false, .bool false, .nilIface, .bool false, .bool false, .bool false, .agg (D.map byteV).toArray, .agg (E.map byteV).toArray, .bool false, .bool false, .bool false, .slice (some ⟨g, 0, none⟩) N cp, .int .i64 0, .pointer (some ⟨g, 0, none⟩), .pointer (some ⟨g, 1, none⟩), .string T, .agg (E.map byteV).toArray, .string T, .bool false, .bool false, .bool false, .int .i64 0, .bool false, .bool false, undef, undef, undef, undef, undef, undef, undef, undef, undef, undef, undef, undef, .bool false, .bool false]) (fun _ _ W => Below W7.heap.size W7 W)
                [[], [0], [1], [2], [3, 2], [2, 4], [5, 2], [6], [6], [7, 8, 6], [6, 9], [10, 6], [11], [11], [12, 13, 11], [14, 11], [15, 11], [11], [17, 11, 11], [16, 18, 11], [11, 19], [20, 18], [21], [22, 21], [23, 21, 21], [24], [24], [26, 24], [25, 27, 24], [28, 24], [29, 24], [24], [24], [31, 32, 24], [33, 24], [34, 24], [30, 35, 24], [24, 36, 21], [21, 37]] 91 () mixedD rfl (by kernel_rfl) (fun _ => rfl) hI0 ?_ ?_
              · refine ⟨?_, ?_, ?_, ?_, ?_, ?_, ?_, ?_, ?_, ?_, ?_, ?_, ?_, ?_, ?_, ?_, ?_, ?_, ?_, ?_, ?_, ?_, ?_, ?_, ?_, ?_, ?_, ?_, ?_, ?_, ?_, ?_, ?_, ?_, ?_, ?_, ?_, ?_, ?_, rfl⟩
                all_goals intro L γ W ev hL hd hW hc hf hg he h0
                · have e9 : ev (.tmp 9) = .bool true := h0 9 rfl
                  clear he h0 hc hf hg
                  exact .inl ⟨rfl, .inl ⟨_, W, (by go_simp <;> rfl), .still (hW) rfl⟩⟩
                · have e52 : ev (.tmp 52) = .bool true := he 0 (by decide) _ 52 rfl rfl
                  clear he h0 hc hf hg
                  exact .inl ⟨rfl, .inl ⟨_, W, (by go_simp <;> rfl), .still (hW) rfl⟩⟩
                · have e53 : ev (.tmp 53) = .bool false := he 1 (by decide) _ 53 rfl rfl
                  clear he h0 hc hf hg
                  exact .inl ⟨rfl, .inl ⟨_, W, (by go_simp <;> rfl), .still (hW) rfl⟩⟩
                · have e11 : ev (.tmp 11) = .nilIface := h0 11 rfl
                  clear he h0 hc hf hg
                  exact .inl ⟨rfl, .inl ⟨_, W, (by go_simp <;> rfl), .still (hW) rfl⟩⟩
                · have e55 : ev (.tmp 55) = .nilIface := he 3 (by decide) _ 55 rfl rfl
                  have hcc := hc
                  clear he h0 hc hf hg
                  exact .inl ⟨rfl, .inl ⟨_, W, (by go_simp <;> rfl), .still (hW) rfl⟩⟩
                · have e54 : ev (.tmp 54) = .bool false := he 2 (by decide) _ 54 rfl rfl
                  have e56 : ev (.tmp 56) = .bool false := he 4 (by decide) _ 56 rfl rfl
                  have hcc := hc
                  clear he h0 hc hf hg
                  exact .inl ⟨rfl, .inl ⟨_, W, (by go_simp <;> rfl), .still (hW) rfl⟩⟩
                · have e57 : ev (.tmp 57) = .bool false := he 5 (by decide) _ 57 rfl rfl
                  clear he h0 hc hf hg
                  exact .inl ⟨rfl, .inl ⟨_, W, (by go_simp <;> rfl), .still (hW) rfl⟩⟩
                · have e10 : ev (.tmp 10) = .pointer (some ⟨gb, 0, none⟩) := h0 10 rfl
                  clear he h0 hc hg
                  have hlv := run_loadVar_row (P := Tryz.prog) W gb 33 33 (D.map byteV).toArray (0, 0) _ ((hW.block _ (blk_lt HX7.out)).trans HX7.out) dig_und rfl (dig_info2 HDL.out)
                  refine .inl ⟨rfl, .inl ⟨_, W, ?_, .still (hW) rfl⟩⟩
                  unfold execOp
                  simp only [e10, Instr.loadAt, Instr.sureAddr, Sem.run_bind, Sem.run_pure, Result.andThen_ok, hlv]
                  try rfl
                · have e8 : ev (.tmp 8) = .pointer (some ⟨wb, 0, none⟩) := h0 8 rfl
                  clear he h0 hc hg
                  have hlv := run_loadVar_row (P := Tryz.prog) W wb 33 33 (E.map byteV).toArray (0, 0) _ ((hW.block _ (blk_lt HY7.out)).trans HY7.out) dig_und rfl (dig_info2 HEL.out)
                  refine .inl ⟨rfl, .inl ⟨_, W, ?_, .still (hW) rfl⟩⟩
                  unfold execOp
                  simp only [e8, Instr.loadAt, Instr.sureAddr, Sem.run_bind, Sem.run_pure, Result.andThen_ok, hlv]
                  try rfl
                · have e59 : ev (.tmp 59) = .agg (D.map byteV).toArray := he 7 (by decide) _ 59 rfl rfl
                  have e60 : ev (.tmp 60) = .agg (E.map byteV).toArray := he 8 (by decide) _ 60 rfl rfl
                  clear he h0 hc hg
                  have hq := dig_in W HDL.out HEL.out
                  rw [hee] at hq
                  refine .inl ⟨rfl, .inl ⟨_, W, (by go_simp <;> rfl), .still (hW) rfl⟩⟩
                · have e58 : ev (.tmp 58) = .bool false := he 6 (by decide) _ 58 rfl rfl
                  have e61 : ev (.tmp 61) = .bool false := he 9 (by decide) _ 61 rfl rfl
                  have hcc := hc
                  clear he h0 hc hf hg
                  exact .inl ⟨rfl, .inl ⟨_, W, (by go_simp <;> rfl), .still (hW) rfl⟩⟩
                · have e62 : ev (.tmp 62) = .bool false := he 10 (by decide) _ 62 rfl rfl
                  clear he h0 hc hf hg
                  exact .inl ⟨rfl, .inl ⟨_, W, (by go_simp <;> rfl), .still (hW) rfl⟩⟩
                · have e5 : ev (.tmp 5) = .slice (some ⟨g, 0, none⟩) N cp := h0 5 rfl
                  clear he h0 hc hf hg
                  exact .inl ⟨rfl, .inl ⟨_, W, (by go_simp <;> rfl), .still (hW) rfl⟩⟩
                · have e7 : ev (.tmp 7) = .int .i64 0 := h0 7 rfl
                  clear he h0 hc hf hg
                  exact .inl ⟨rfl, .inl ⟨_, W, (by go_simp <;> rfl), .still (hW) rfl⟩⟩
                · have e64 : ev (.tmp 64) = .slice (some ⟨g, 0, none⟩) N cp := he 12 (by decide) _ 64 rfl rfl
                  have e65 : ev (.tmp 65) = .int .i64 0 := he 13 (by decide) _ 65 rfl rfl
                  have hb0 : ¬ N = 0 := by have := hlt; omega
                  clear he h0 hc hf hg
                  exact .inl ⟨rfl, .inl ⟨_, W, (by go_simp <;> rfl), .still (hW) rfl⟩⟩
                · have e66 : ev (.tmp 66) = .pointer (some ⟨g, 0, none⟩) := he 14 (by decide) _ 66 rfl rfl
                  clear he h0 hc hf hg
                  exact .inl ⟨rfl, .inl ⟨_, W, (by go_simp <;> rfl), .still (hW) rfl⟩⟩
                · have e67 : ev (.tmp 67) = .pointer (some ⟨g, 1, none⟩) := he 15 (by decide) _ 67 rfl rfl
                  have cc : W.cell? ⟨g, 1, none⟩ = some (.string T) := (HCT.out W hW).2
                  clear he h0 hc hf hg
                  exact .inl ⟨rfl, .inl ⟨_, W, (by go_simp <;> rfl), .still (hW) rfl⟩⟩
                · have e8 : ev (.tmp 8) = .pointer (some ⟨wb, 0, none⟩) := h0 8 rfl
                  clear he h0 hc hg
                  have hlv := run_loadVar_row (P := Tryz.prog) W wb 33 33 (E.map byteV).toArray (0, 0) _ ((hW.block _ (blk_lt HY7.out)).trans HY7.out) dig_und rfl (dig_info2 HEL.out)
                  refine .inl ⟨rfl, .inl ⟨_, W, ?_, .still (hW) rfl⟩⟩
                  unfold execOp
                  simp only [e8, Instr.loadAt, Instr.sureAddr, Sem.run_bind, Sem.run_pure, Result.andThen_ok, hlv]
                  try rfl
                · have e69 : ev (.tmp 69) = .agg (E.map byteV).toArray := he 17 (by decide) _ 69 rfl rfl
                  clear he h0 hc hg
                  refine .inl ⟨rfl, .inr (.inr ⟨49, #[.agg (E.map byteV).toArray], W, (by have hff := hf 49; clear hf; go_simp <;> rfl), ?_⟩)⟩
                  refine (HTE.out W).mono ?_
                  rintro e w' ⟨rfl, hb⟩
                  exact ⟨_, rfl, .still (hW.trans (hb.mono hW.size)) rfl⟩
                · have e68 : ev (.tmp 68) = .string T := he 16 (by decide) _ 68 rfl rfl
                  have e70 : ev (.tmp 70) = .string T := he 18 (by decide) _ 70 rfl rfl
                  clear he h0 hc hf hg
                  exact .inl ⟨rfl, .inl ⟨_, W, (by go_simp <;> rfl), .still (hW) rfl⟩⟩
                · have e63 : ev (.tmp 63) = .bool false := he 11 (by decide) _ 63 rfl rfl
                  have e71 : ev (.tmp 71) = .bool false := he 19 (by decide) _ 71 rfl rfl
                  have hcc := hc
                  clear he h0 hc hf hg
                  exact .inl ⟨rfl, .inl ⟨_, W, (by go_simp <;> rfl), .still (hW) rfl⟩⟩
                · have e72 : ev (.tmp 72) = .bool false := he 20 (by decide) _ 72 rfl rfl
                  clear he h0 hc hf hg
                  exact .inl ⟨rfl, .inl ⟨_, W, (by go_simp <;> rfl), .still (hW) rfl⟩⟩
                · have e7 : ev (.tmp 7) = .int .i64 0 := h0 7 rfl
                  clear he h0 hc hf hg
                  exact .inl ⟨rfl, .inl ⟨_, W, (by go_simp <;> rfl), .still (hW) rfl⟩⟩
                · have e74 : ev (.tmp 74) = .int .i64 0 := he 22 (by decide) _ 74 rfl rfl
                  have hcc := hc
                  clear he h0 hc hf hg
                  exact .inl ⟨rfl, .inl ⟨_, W, (by go_simp <;> rfl), .still (hW) rfl⟩⟩
                · have e75 : ev (.tmp 75) = .bool false := he 23 (by decide) _ 75 rfl rfl
                  clear he h0 hc hf hg
                  exact .inl ⟨rfl, .inl ⟨_, W, (by go_simp <;> rfl), .still (hW) rfl⟩⟩
                · exact .inr ⟨rfl, .still (hW) rfl⟩
                · exact .inr ⟨rfl, .still (hW) rfl⟩
                · exact .inr ⟨rfl, .still (hW) rfl⟩
                · exact .inr ⟨rfl, .still (hW) rfl⟩
                · exact .inr ⟨rfl, .still (hW) rfl⟩
                · exact .inr ⟨rfl, .still (hW) rfl⟩
                · exact .inr ⟨rfl, .still (hW) rfl⟩
                · exact .inr ⟨rfl, .still (hW) rfl⟩
                · exact .inr ⟨rfl, .still (hW) rfl⟩
                · exact .inr ⟨rfl, .still (hW) rfl⟩
                · exact .inr ⟨rfl, .still (hW) rfl⟩
                · exact .inr ⟨rfl, .still (hW) rfl⟩
                · have e76 : ev (.tmp 76) = .bool false := he 24 (by decide) _ 76 rfl rfl
                  have e88 : ev (.tmp 88) = undef := he 36 (by decide) _ 88 rfl rfl
                  have hcc := hc
                  clear he h0 hc hf hg
                  exact .inl ⟨rfl, .inl ⟨_, W, (by go_simp <;> rfl), .still (hW) rfl⟩⟩
                · have e73 : ev (.tmp 73) = .bool false := he 21 (by decide) _ 73 rfl rfl
                  have e89 : ev (.tmp 89) = .bool false := he 37 (by decide) _ 89 rfl rfl
                  have hcc := hc
                  clear he h0 hc hf hg
                  exact .inl ⟨rfl, .inl ⟨_, W, (by go_simp <;> rfl), .still (hW) rfl⟩⟩
              intro γ L w8 hL hW
              have HB8 : Hid (Below w2.heap.size w2 w8) := Lib.hid (HB7.out.trans (hW.mono HB7.out.size))
              clear hL hW hI0
              simp only [putAll, Act.put, List.setIfInBounds_toArray, List.set_cons_succ, List.set_cons_zero]
              go_wp2_with fail
              refine ⟨⟨1, by omega, by first | rfl | (rw [Int.natCast_add, Int.natCast_add]; rfl), HNX, HB8⟩, by simp [intOf]; omega⟩
            · obtain ⟨j, rfl⟩ : ∃ j, i = j + 1 := ⟨i - 1, by omega⟩
              obtain ⟨pB, hpB, hps⟩ := HPREV.out j rfl
              have HPB := Lib.hid hpB
              clear hpB
              have HTE : Hid (∀ WW : World, Calls Tryz.prog 49 #[.agg (E.map byteV).toArray] WW fun e w' => e = .returned (.string T) ∧ Below WW.heap.size WW w') := Lib.hid (fun WW => by rw [← hEQ.out]; exact HTX.out WW)
              refine wp_region_flowG (fun _ : Unit => [.bool true, .bool false, .bool false, .nilIface, .bool false, .bool false, .bool false, .agg (D.map byteV).toArray, .agg (E.map byteV).toArray, .bool false, .bool false, .bool false, .slice (some ⟨g, 0, none⟩) N cp, .int .i64 ((j : Int) + 1), .pointer (some ⟨g, (j + 1) * 2, none⟩), .pointer (some ⟨g, (j + 1) * 2 + 1, none⟩), .string T, .agg (E.map byteV).toArray, .string T, .bool false, .bool false, .bool false, .int .i64 ((j : Int) + 1), .bool true, .bool true, .slice (some ⟨g, 0, none⟩) N cp, .int .i64 ((j : Int) + 1), .int .i64 j, .pointer (some ⟨g, j * 2, none⟩), .pointer (some ⟨g, j * 2, none⟩), .string pB, .slice (some ⟨g, 0, none⟩) N cp, .int .i64 ((j : Int) + 1), .pointer (some ⟨g, (j + 1) * 2, none⟩), .pointer (some ⟨g, (j + 1) * 2, none⟩), .string kB, .bool false, .bool false, .bool false]) (fun _ _ W => Below W7.heap.size W7 W)
                [[], [0], [1], [2], [3, 2], [2, 4], [5, 2], [6], [6], [7, 8, 6], [6, 9], [10, 6], [11], [11], [12, 13, 11], [14, 11], [15, 11], [11], [17, 11, 11], [16, 18, 11], [11, 19], [20, 18], [21], [22, 21], [23, 21, 21], [24], [24], [26, 24], [25, 27, 24], [28, 24], [29, 24], [24], [24], [31, 32, 24], [33, 24], [34, 24], [30, 35, 24], [24, 36, 21], [21, 37]] 91 () mixedD rfl (by kernel_rfl) (fun _ => rfl) hI0 ?_ ?_
              · refine ⟨?_, ?_, ?_, ?_, ?_, ?_, ?_, ?_, ?_, ?_, ?_, ?_, ?_, ?_, ?_, ?_, ?_, ?_, ?_, ?_, ?_, ?_, ?_, ?_, ?_, ?_, ?_, ?_, ?_, ?_, ?_, ?_, ?_, ?_, ?_, ?_, ?_, ?_, ?_, rfl⟩
                all_goals intro L γ W ev hL hd hW hc hf hg he h0
                · have e9 : ev (.tmp 9) = .bool true := h0 9 rfl
                  clear he h0 hc hf hg
                  exact .inl ⟨rfl, .inl ⟨_, W, (by go_simp <;> rfl), .still (hW) rfl⟩⟩
                · have e52 : ev (.tmp 52) = .bool true := he 0 (by decide) _ 52 rfl rfl
                  clear he h0 hc hf hg
                  exact .inl ⟨rfl, .inl ⟨_, W, (by go_simp <;> rfl), .still (hW) rfl⟩⟩
                · have e53 : ev (.tmp 53) = .bool false := he 1 (by decide) _ 53 rfl rfl
                  clear he h0 hc hf hg
                  exact .inl ⟨rfl, .inl ⟨_, W, (by go_simp <;> rfl), .still (hW) rfl⟩⟩
                · have e11 : ev (.tmp 11) = .nilIface := h0 11 rfl
                  clear he h0 hc hf hg
                  exact .inl ⟨rfl, .inl ⟨_, W, (by go_simp <;> rfl), .still (hW) rfl⟩⟩
                · have e55 : ev (.tmp 55) = .nilIface := he 3 (by decide) _ 55 rfl rfl
                  have hcc := hc
                  clear he h0 hc hf hg
                  exact .inl ⟨rfl, .inl ⟨_, W, (by go_simp <;> rfl), .still (hW) rfl⟩⟩
                · have e54 : ev (.tmp 54) = .bool false := he 2 (by decide) _ 54 rfl rfl
                  have e56 : ev (.tmp 56) = .bool false := he 4 (by decide) _ 56 rfl rfl
                  have hcc := hc
                  clear he h0 hc hf hg
                  exact .inl ⟨rfl, .inl ⟨_, W, (by go_simp <;> rfl), .still (hW) rfl⟩⟩
                · have e57 : ev (.tmp 57) = .bool false := he 5 (by decide) _ 57 rfl rfl
                  clear he h0 hc hf hg
                  exact .inl ⟨rfl, .inl ⟨_, W, (by go_simp <;> rfl), .still (hW) rfl⟩⟩
                · have e10 : ev (.tmp 10) = .pointer (some ⟨gb, 0, none⟩) := h0 10 rfl
                  clear he h0 hc hg
                  have hlv := run_loadVar_row (P := Tryz.prog) W gb 33 33 (D.map byteV).toArray (0, 0) _ ((hW.block _ (blk_lt HX7.out)).trans HX7.out) dig_und rfl (dig_info2 HDL.out)
                  refine .inl ⟨rfl, .inl ⟨_, W, ?_, .still (hW) rfl⟩⟩
                  unfold execOp
                  simp only [e10, Instr.loadAt, Instr.sureAddr, Sem.run_bind, Sem.run_pure, Result.andThen_ok, hlv]
                  try rfl
                · have e8 : ev (.tmp 8) = .pointer (some ⟨wb, 0, none⟩) := h0 8 rfl
                  clear he h0 hc hg
                  have hlv := run_loadVar_row (P := Tryz.prog) W wb 33 33 (E.map byteV).toArray (0, 0) _ ((hW.block _ (blk_lt HY7.out)).trans HY7.out) dig_und rfl (dig_info2 HEL.out)
                  refine .inl ⟨rfl, .inl ⟨_, W, ?_, .still (hW) rfl⟩⟩
                  unfold execOp
                  simp only [e8, Instr.loadAt, Instr.sureAddr, Sem.run_bind, Sem.run_pure, Result.andThen_ok, hlv]
                  try rfl
                · have e59 : ev (.tmp 59) = .agg (D.map byteV).toArray := he 7 (by decide) _ 59 rfl rfl
                  have e60 : ev (.tmp 60) = .agg (E.map byteV).toArray := he 8 (by decide) _ 60 rfl rfl
                  clear he h0 hc hg
                  have hq := dig_in W HDL.out HEL.out
                  rw [hee] at hq
                  refine .inl ⟨rfl, .inl ⟨_, W, (by go_simp <;> rfl), .still (hW) rfl⟩⟩
                · have e58 : ev (.tmp 58) = .bool false := he 6 (by decide) _ 58 rfl rfl
                  have e61 : ev (.tmp 61) = .bool false := he 9 (by decide) _ 61 rfl rfl
                  have hcc := hc
                  clear he h0 hc hf hg
                  exact .inl ⟨rfl, .inl ⟨_, W, (by go_simp <;> rfl), .still (hW) rfl⟩⟩
                · have e62 : ev (.tmp 62) = .bool false := he 10 (by decide) _ 62 rfl rfl
                  clear he h0 hc hf hg
                  exact .inl ⟨rfl, .inl ⟨_, W, (by go_simp <;> rfl), .still (hW) rfl⟩⟩
                · have e5 : ev (.tmp 5) = .slice (some ⟨g, 0, none⟩) N cp := h0 5 rfl
                  clear he h0 hc hf hg
                  exact .inl ⟨rfl, .inl ⟨_, W, (by go_simp <;> rfl), .still (hW) rfl⟩⟩
                · have e7 : ev (.tmp 7) = .int .i64 ((j : Int) + 1) := h0 7 rfl
                  clear he h0 hc hf hg
                  exact .inl ⟨rfl, .inl ⟨_, W, (by go_simp <;> rfl), .still (hW) rfl⟩⟩
                · have e64 : ev (.tmp 64) = .slice (some ⟨g, 0, none⟩) N cp := he 12 (by decide) _ 64 rfl rfl
                  have e65 : ev (.tmp 65) = .int .i64 ((j : Int) + 1) := he 13 (by decide) _ 65 rfl rfl
                  have hb1 : (j : Int) + 1 < (N : Int) := by have := hlt; omega
                  have hb2 : (j : Int) < (N : Int) := by have := hlt; omega
                  have hb3 : ¬ (j : Int) + 1 < 0 := by omega
                  have hb4 : ¬ (j : Int) < 0 := by omega
                  clear he h0 hc hf hg
                  exact .inl ⟨rfl, .inl ⟨_, W, (by go_simp <;> rfl), .still (hW) rfl⟩⟩
                · have e66 : ev (.tmp 66) = .pointer (some ⟨g, (j + 1) * 2, none⟩) := he 14 (by decide) _ 66 rfl rfl
                  clear he h0 hc hf hg
                  exact .inl ⟨rfl, .inl ⟨_, W, (by go_simp <;> rfl), .still (hW) rfl⟩⟩
                · have e67 : ev (.tmp 67) = .pointer (some ⟨g, (j + 1) * 2 + 1, none⟩) := he 15 (by decide) _ 67 rfl rfl
                  have cc : W.cell? ⟨g, (j + 1) * 2 + 1, none⟩ = some (.string T) := (HCT.out W hW).2
                  clear he h0 hc hf hg
                  exact .inl ⟨rfl, .inl ⟨_, W, (by go_simp <;> rfl), .still (hW) rfl⟩⟩
                · have e8 : ev (.tmp 8) = .pointer (some ⟨wb, 0, none⟩) := h0 8 rfl
                  clear he h0 hc hg
                  have hlv := run_loadVar_row (P := Tryz.prog) W wb 33 33 (E.map byteV).toArray (0, 0) _ ((hW.block _ (blk_lt HY7.out)).trans HY7.out) dig_und rfl (dig_info2 HEL.out)
                  refine .inl ⟨rfl, .inl ⟨_, W, ?_, .still (hW) rfl⟩⟩
                  unfold execOp
                  simp only [e8, Instr.loadAt, Instr.sureAddr, Sem.run_bind, Sem.run_pure, Result.andThen_ok, hlv]
                  try rfl
                · have e69 : ev (.tmp 69) = .agg (E.map byteV).toArray := he 17 (by decide) _ 69 rfl rfl
                  clear he h0 hc hg
                  refine .inl ⟨rfl, .inr (.inr ⟨49, #[.agg (E.map byteV).toArray], W, (by have hff := hf 49; clear hf; go_simp <;> rfl), ?_⟩)⟩
                  refine (HTE.out W).mono ?_
                  rintro e w' ⟨rfl, hb⟩
                  exact ⟨_, rfl, .still (hW.trans (hb.mono hW.size)) rfl⟩
                · have e68 : ev (.tmp 68) = .string T := he 16 (by decide) _ 68 rfl rfl
                  have e70 : ev (.tmp 70) = .string T := he 18 (by decide) _ 70 rfl rfl
                  clear he h0 hc hf hg
                  exact .inl ⟨rfl, .inl ⟨_, W, (by go_simp <;> rfl), .still (hW) rfl⟩⟩
                · have e63 : ev (.tmp 63) = .bool false := he 11 (by decide) _ 63 rfl rfl
                  have e71 : ev (.tmp 71) = .bool false := he 19 (by decide) _ 71 rfl rfl
                  have hcc := hc
                  clear he h0 hc hf hg
                  exact .inl ⟨rfl, .inl ⟨_, W, (by go_simp <;> rfl), .still (hW) rfl⟩⟩
                · have e72 : ev (.tmp 72) = .bool false := he 20 (by decide) _ 72 rfl rfl
                  clear he h0 hc hf hg
                  exact .inl ⟨rfl, .inl ⟨_, W, (by go_simp <;> rfl), .still (hW) rfl⟩⟩
                · have e7 : ev (.tmp 7) = .int .i64 ((j : Int) + 1) := h0 7 rfl
                  clear he h0 hc hf hg
                  exact .inl ⟨rfl, .inl ⟨_, W, (by go_simp <;> rfl), .still (hW) rfl⟩⟩
                · have e74 : ev (.tmp 74) = .int .i64 ((j : Int) + 1) := he 22 (by decide) _ 74 rfl rfl
                  have hcc := hc
                  clear he h0 hc hf hg
                  exact .inl ⟨rfl, .inl ⟨_, W, (by go_simp <;> rfl), .still (hW) rfl⟩⟩
                · have e75 : ev (.tmp 75) = .bool true := he 23 (by decide) _ 75 rfl rfl
                  clear he h0 hc hf hg
                  exact .inl ⟨rfl, .inl ⟨_, W, (by go_simp <;> rfl), .still (hW) rfl⟩⟩
                · have e5 : ev (.tmp 5) = .slice (some ⟨g, 0, none⟩) N cp := h0 5 rfl
                  clear he h0 hc hf hg
                  exact .inl ⟨rfl, .inl ⟨_, W, (by go_simp <;> rfl), .still (hW) rfl⟩⟩
                · have e7 : ev (.tmp 7) = .int .i64 ((j : Int) + 1) := h0 7 rfl
                  clear he h0 hc hf hg
                  exact .inl ⟨rfl, .inl ⟨_, W, (by go_simp <;> rfl), .still (hW) rfl⟩⟩
                · have e78 : ev (.tmp 78) = .int .i64 ((j : Int) + 1) := he 26 (by decide) _ 78 rfl rfl
                  have hcc := hc
                  have hwj : IntKind.i64.wrap (j : Int) = (j : Int) := by rw [IntKind.wrap_i64]; omega
                  clear he h0 hc hf hg
                  exact .inl ⟨rfl, .inl ⟨_, W, (by go_simp <;> rfl), .still (hW) rfl⟩⟩
                · have e77 : ev (.tmp 77) = .slice (some ⟨g, 0, none⟩) N cp := he 25 (by decide) _ 77 rfl rfl
                  have e79 : ev (.tmp 79) = .int .i64 j := he 27 (by decide) _ 79 rfl rfl
                  have hb1 : (j : Int) + 1 < (N : Int) := by have := hlt; omega
                  have hb2 : (j : Int) < (N : Int) := by have := hlt; omega
                  have hb3 : ¬ (j : Int) + 1 < 0 := by omega
                  have hb4 : ¬ (j : Int) < 0 := by omega
                  clear he h0 hc hf hg
                  exact .inl ⟨rfl, .inl ⟨_, W, (by go_simp <;> rfl), .still (hW) rfl⟩⟩
                · have e80 : ev (.tmp 80) = .pointer (some ⟨g, j * 2, none⟩) := he 28 (by decide) _ 80 rfl rfl
                  clear he h0 hc hf hg
                  exact .inl ⟨rfl, .inl ⟨_, W, (by go_simp <;> rfl), .still (hW) rfl⟩⟩
                · have e81 : ev (.tmp 81) = .pointer (some ⟨g, j * 2, none⟩) := he 29 (by decide) _ 81 rfl rfl
                  have cc : W.cell? ⟨g, j * 2, none⟩ = some (.string pB) := ((HB7.out.trans (hW.mono HB7.out.size)).cell (p := ⟨g, j * 2, none⟩) HG.out).trans HPB.out
                  clear he h0 hc hf hg
                  exact .inl ⟨rfl, .inl ⟨_, W, (by go_simp <;> rfl), .still (hW) rfl⟩⟩
                · have e5 : ev (.tmp 5) = .slice (some ⟨g, 0, none⟩) N cp := h0 5 rfl
                  clear he h0 hc hf hg
                  exact .inl ⟨rfl, .inl ⟨_, W, (by go_simp <;> rfl), .still (hW) rfl⟩⟩
                · have e7 : ev (.tmp 7) = .int .i64 ((j : Int) + 1) := h0 7 rfl
                  clear he h0 hc hf hg
                  exact .inl ⟨rfl, .inl ⟨_, W, (by go_simp <;> rfl), .still (hW) rfl⟩⟩
                · have e83 : ev (.tmp 83) = .slice (some ⟨g, 0, none⟩) N cp := he 31 (by decide) _ 83 rfl rfl
                  have e84 : ev (.tmp 84) = .int .i64 ((j : Int) + 1) := he 32 (by decide) _ 84 rfl rfl
                  have hb1 : (j : Int) + 1 < (N : Int) := by have := hlt; omega
                  have hb2 : (j : Int) < (N : Int) := by have := hlt; omega
                  have hb3 : ¬ (j : Int) + 1 < 0 := by omega
                  have hb4 : ¬ (j : Int) < 0 := by omega
                  clear he h0 hc hf hg
                  exact .inl ⟨rfl, .inl ⟨_, W, (by go_simp <;> rfl), .still (hW) rfl⟩⟩
                · have e85 : ev (.tmp 85) = .pointer (some ⟨g, (j + 1) * 2, none⟩) := he 33 (by decide) _ 85 rfl rfl
                  clear he h0 hc hf hg
                  exact .inl ⟨rfl, .inl ⟨_, W, (by go_simp <;> rfl), .still (hW) rfl⟩⟩
                · have e86 : ev (.tmp 86) = .pointer (some ⟨g, (j + 1) * 2, none⟩) := he 34 (by decide) _ 86 rfl rfl
                  have cc : W.cell? ⟨g, (j + 1) * 2, none⟩ = some (.string kB) := (HCT.out W hW).1
                  clear he h0 hc hf hg
                  exact .inl ⟨rfl, .inl ⟨_, W, (by go_simp <;> rfl), .still (hW) rfl⟩⟩
                · have e82 : ev (.tmp 82) = .string pB := he 30 (by decide) _ 82 rfl rfl
                  have e87 : ev (.tmp 87) = .string kB := he 35 (by decide) _ 87 rfl rfl
                  clear he h0 hc hf hg
                  exact .inl ⟨rfl, .inl ⟨_, W, (by go_simp <;> rfl), .still (hW) rfl⟩⟩
                · have e76 : ev (.tmp 76) = .bool true := he 24 (by decide) _ 76 rfl rfl
                  have e88 : ev (.tmp 88) = .bool false := he 36 (by decide) _ 88 rfl rfl
                  have hcc := hc
                  clear he h0 hc hf hg
                  exact .inl ⟨rfl, .inl ⟨_, W, (by go_simp <;> rfl), .still (hW) rfl⟩⟩
                · have e73 : ev (.tmp 73) = .bool false := he 21 (by decide) _ 73 rfl rfl
                  have e89 : ev (.tmp 89) = .bool false := he 37 (by decide) _ 89 rfl rfl
                  have hcc := hc
                  clear he h0 hc hf hg
                  exact .inl ⟨rfl, .inl ⟨_, W, (by go_simp <;> rfl), .still (hW) rfl⟩⟩
              intro γ L w8 hL hW
              have HB8 : Hid (Below w2.heap.size w2 w8) := Lib.hid (HB7.out.trans (hW.mono HB7.out.size))
              clear hL hW hI0
              simp only [putAll, Act.put, List.setIfInBounds_toArray, List.set_cons_succ, List.set_cons_zero]
              go_wp2_with fail
              refine ⟨⟨j + 1 + 1, by omega, by first | rfl | (rw [Int.natCast_add, Int.natCast_add]; rfl), HNX, HB8⟩, by simp [intOf]; omega⟩
          · have hee : (D == E) = false := beq_eq_false_iff_ne.2 hde
            have HDE := Lib.hid hde
            clear hde
            refine wp_region_flowG (fun _ : Unit => [.bool true, .bool false, .bool false, .nilIface, .bool false, .bool false, .bool false, .agg (D.map byteV).toArray, .agg (E.map byteV).toArray, .bool true, .bool true, .bool true, undef, undef, undef, undef, undef, undef, undef, undef, .bool true, .bool true, undef, undef, undef, undef, undef, undef, undef, undef, undef, undef, undef, undef, undef, undef, undef, undef, .bool true]) (fun _ _ W => Below W7.heap.size W7 W)
              [[], [0], [1], [2], [3, 2], [2, 4], [5, 2], [6], [6], [7, 8, 6], [6, 9], [10, 6], [11], [11], [12, 13, 11], [14, 11], [15, 11], [11], [17, 11, 11], [16, 18, 11], [11, 19], [20, 18], [21], [22, 21], [23, 21, 21], [24], [24], [26, 24], [25, 27, 24], [28, 24], [29, 24], [24], [24], [31, 32, 24], [33, 24], [34, 24], [30, 35, 24], [24, 36, 21], [21, 37]] 91 () mixedD rfl (by kernel_rfl) (fun _ => rfl) hI0 ?_ ?_
            · refine ⟨?_, ?_, ?_, ?_, ?_, ?_, ?_, ?_, ?_, ?_, ?_, ?_, ?_, ?_, ?_, ?_, ?_, ?_, ?_, ?_, ?_, ?_, ?_, ?_, ?_, ?_, ?_, ?_, ?_, ?_, ?_, ?_, ?_, ?_, ?_, ?_, ?_, ?_, ?_, rfl⟩
              all_goals intro L γ W ev hL hd hW hc hf hg he h0
              · have e9 : ev (.tmp 9) = .bool true := h0 9 rfl
                clear he h0 hc hf hg
                exact .inl ⟨rfl, .inl ⟨_, W, (by go_simp <;> rfl), .still (hW) rfl⟩⟩
              · have e52 : ev (.tmp 52) = .bool true := he 0 (by decide) _ 52 rfl rfl
                clear he h0 hc hf hg
                exact .inl ⟨rfl, .inl ⟨_, W, (by go_simp <;> rfl), .still (hW) rfl⟩⟩
              · have e53 : ev (.tmp 53) = .bool false := he 1 (by decide) _ 53 rfl rfl
                clear he h0 hc hf hg
                exact .inl ⟨rfl, .inl ⟨_, W, (by go_simp <;> rfl), .still (hW) rfl⟩⟩
              · have e11 : ev (.tmp 11) = .nilIface := h0 11 rfl
                clear he h0 hc hf hg
                exact .inl ⟨rfl, .inl ⟨_, W, (by go_simp <;> rfl), .still (hW) rfl⟩⟩
              · have e55 : ev (.tmp 55) = .nilIface := he 3 (by decide) _ 55 rfl rfl
                have hcc := hc
                clear he h0 hc hf hg
                exact .inl ⟨rfl, .inl ⟨_, W, (by go_simp <;> rfl), .still (hW) rfl⟩⟩
              · have e54 : ev (.tmp 54) = .bool false := he 2 (by decide) _ 54 rfl rfl
                have e56 : ev (.tmp 56) = .bool false := he 4 (by decide) _ 56 rfl rfl
                have hcc := hc
                clear he h0 hc hf hg
                exact .inl ⟨rfl, .inl ⟨_, W, (by go_simp <;> rfl), .still (hW) rfl⟩⟩
              · have e57 : ev (.tmp 57) = .bool false := he 5 (by decide) _ 57 rfl rfl
                clear he h0 hc hf hg
                exact .inl ⟨rfl, .inl ⟨_, W, (by go_simp <;> rfl), .still (hW) rfl⟩⟩
              · have e10 : ev (.tmp 10) = .pointer (some ⟨gb, 0, none⟩) := h0 10 rfl
                clear he h0 hc hg
                have hlv := run_loadVar_row (P := Tryz.prog) W gb 33 33 (D.map byteV).toArray (0, 0) _ ((hW.block _ (blk_lt HX7.out)).trans HX7.out) dig_und rfl (dig_info2 HDL.out)
                refine .inl ⟨rfl, .inl ⟨_, W, ?_, .still (hW) rfl⟩⟩
                unfold execOp
                simp only [e10, Instr.loadAt, Instr.sureAddr, Sem.run_bind, Sem.run_pure, Result.andThen_ok, hlv]
                try rfl
              · have e8 : ev (.tmp 8) = .pointer (some ⟨wb, 0, none⟩) := h0 8 rfl
                clear he h0 hc hg
                have hlv := run_loadVar_row (P := Tryz.prog) W wb 33 33 (E.map byteV).toArray (0, 0) _ ((hW.block _ (blk_lt HY7.out)).trans HY7.out) dig_und rfl (dig_info2 HEL.out)
                refine .inl ⟨rfl, .inl ⟨_, W, ?_, .still (hW) rfl⟩⟩
                unfold execOp
                simp only [e8, Instr.loadAt, Instr.sureAddr, Sem.run_bind, Sem.run_pure, Result.andThen_ok, hlv]
                try rfl
              · have e59 : ev (.tmp 59) = .agg (D.map byteV).toArray := he 7 (by decide) _ 59 rfl rfl
                have e60 : ev (.tmp 60) = .agg (E.map byteV).toArray := he 8 (by decide) _ 60 rfl rfl
                clear he h0 hc hg
                have hq := dig_in W HDL.out HEL.out
                rw [hee] at hq
                refine .inl ⟨rfl, .inl ⟨_, W, (by go_simp <;> rfl), .still (hW) rfl⟩⟩
              · have e58 : ev (.tmp 58) = .bool false := he 6 (by decide) _ 58 rfl rfl
                have e61 : ev (.tmp 61) = .bool true := he 9 (by decide) _ 61 rfl rfl
                have hcc := hc
                clear he h0 hc hf hg
                exact .inl ⟨rfl, .inl ⟨_, W, (by go_simp <;> rfl), .still (hW) rfl⟩⟩
              · have e62 : ev (.tmp 62) = .bool true := he 10 (by decide) _ 62 rfl rfl
                clear he h0 hc hf hg
                exact .inl ⟨rfl, .inl ⟨_, W, (by go_simp <;> rfl), .still (hW) rfl⟩⟩
              · exact .inr ⟨rfl, .still (hW) rfl⟩
              · exact .inr ⟨rfl, .still (hW) rfl⟩
              · exact .inr ⟨rfl, .still (hW) rfl⟩
              · exact .inr ⟨rfl, .still (hW) rfl⟩
              · exact .inr ⟨rfl, .still (hW) rfl⟩
              · exact .inr ⟨rfl, .still (hW) rfl⟩
              · exact .inr ⟨rfl, .still (hW) rfl⟩
              · exact .inr ⟨rfl, .still (hW) rfl⟩
              · have e63 : ev (.tmp 63) = .bool true := he 11 (by decide) _ 63 rfl rfl
                have e71 : ev (.tmp 71) = undef := he 19 (by decide) _ 71 rfl rfl
                have hcc := hc
                clear he h0 hc hf hg
                exact .inl ⟨rfl, .inl ⟨_, W, (by go_simp <;> rfl), .still (hW) rfl⟩⟩
              · have e72 : ev (.tmp 72) = .bool true := he 20 (by decide) _ 72 rfl rfl
                clear he h0 hc hf hg
                exact .inl ⟨rfl, .inl ⟨_, W, (by go_simp <;> rfl), .still (hW) rfl⟩⟩
              · exact .inr ⟨rfl, .still (hW) rfl⟩
              · exact .inr ⟨rfl, .still (hW) rfl⟩
              · exact .inr ⟨rfl, .still (hW) rfl⟩
              · exact .inr ⟨rfl, .still (hW) rfl⟩
              · exact .inr ⟨rfl, .still (hW) rfl⟩
              · exact .inr ⟨rfl, .still (hW) rfl⟩
              · exact .inr ⟨rfl, .still (hW) rfl⟩
              · exact .inr ⟨rfl, .still (hW) rfl⟩
              · exact .inr ⟨rfl, .still (hW) rfl⟩
              · exact .inr ⟨rfl, .still (hW) rfl⟩
              · exact .inr ⟨rfl, .still (hW) rfl⟩
              · exact .inr ⟨rfl, .still (hW) rfl⟩
              · exact .inr ⟨rfl, .still (hW) rfl⟩
              · exact .inr ⟨rfl, .still (hW) rfl⟩
              · exact .inr ⟨rfl, .still (hW) rfl⟩
              · exact .inr ⟨rfl, .still (hW) rfl⟩
              · have e73 : ev (.tmp 73) = .bool true := he 21 (by decide) _ 73 rfl rfl
                have e89 : ev (.tmp 89) = undef := he 37 (by decide) _ 89 rfl rfl
                have hcc := hc
                clear he h0 hc hf hg
                exact .inl ⟨rfl, .inl ⟨_, W, (by go_simp <;> rfl), .still (hW) rfl⟩⟩
            intro γ L w8 hL hW
            have HB8 : Hid (Below w2.heap.size w2 w8) := Lib.hid (HB7.out.trans (hW.mono HB7.out.size))
            clear hL hW hI0
            simp only [putAll, Act.put, List.setIfInBounds_toArray, List.set_cons_succ, List.set_cons_zero]
            have hRf : RB = false := by
              rw [← HRB.out]
              refine decide_eq_false fun hh => ?_
              have h2 := tget_of_mem HN.out.rise (List.mem_of_getElem? HX.out)
              rw [hh, HO.out, HOS.out] at h2
              refine HDE.out ?_
              rw [HED.out, Option.some.inj h2, HDC.out]
            subst hRf
            go_wp2_with fail
            go_ret
            exact ⟨rfl, HB2.out.trans (HB8.out.mono HB2.out.size)⟩
      · obtain rfl : i = N := by omega
        have he : LT = W := rising_eq HN.out.rise HWR.out (fun x hx => HJ.out x (by rw [List.take_of_length_le (by rw [HNN.out]; exact Nat.le_refl _)]; exact hx)) (HNN.out.trans HMM.out.symm)
        have hRt : RB = true := by rw [← HRB.out]; exact decide_eq_true he
        subst hRt
        clear he
        go_wp2_with fail
        go_ret
        exact ⟨rfl, HB2.out.trans (HB.out.mono HB2.out.size)⟩
  · have hne : (N : Int) ≠ M := by omega
    have hRf : RB = false := by
      rw [← HRB.out]
      refine decide_eq_false fun e => hnm ?_
      rw [← HNN.out, ← HMM.out, e]
    subst hRf
    go_wp2_with (at_len; refine wpList_len_ledG rfl _ rfl q W rfl HW2.out ?_; rw [HMM.out])
    go_ret
    exact ⟨rfl, HB2.out⟩
end Go.Proofs.YtdkedmngeahjiaaGreatDoor
/- Plain: a Set on a disk on which nothing fails; names on a disk of little room. -/
namespace Go.Proofs.YtdkedmngeahjiaaGreatDoor
open Go Go.Maps Go.RowKit
theorem bytes_ne {a b : ByteArray} (h : a ≠ b) : a.data.toList ≠ b.data.toList := fun e => h (by
  cases a; cases b
  exact congrArg ByteArray.mk (Array.toList_inj.1 e))
theorem set_app_last {fs : List Fil} (f g : Fil) : (fs ++ [f]).set fs.length g = fs ++ [g] := by
  rw [List.set_append_right _ _ (Nat.le_refl _), Nat.sub_self]
  rfl
theorem get_app_last {fs : List Fil} (f : Fil) : (fs ++ [f])[fs.length]! = f := by
  rw [getElem!_pos (fs ++ [f]) fs.length (by rw [List.length_append, List.length_singleton]; omega), List.getElem_append_right (Nat.le_refl _)]
  simp
theorem get_app_old {fs : List Fil} (f : Fil) {i : Nat} (h : i < fs.length) : (fs ++ [f])[i]! = fs[i]! := by
  rw [getElem!_pos (fs ++ [f]) i (by rw [List.length_append]; omega), getElem!_pos fs i h, List.getElem_append_left h]
theorem refused_create (m : DM) (n : ByteArray) : m.refused (.create n) = if rightB n then if (m.get n).isSome then 11 else 0 else 8 := rfl
theorem refused_write (m : DM) (n s : ByteArray) : m.refused (.write n s) = if (m.get n).isSome then if m.used + s.size > m.room then 28 else 0 else 10 := rfl
theorem refused_sync (m : DM) (n : ByteArray) : m.refused (.sync n) = if (m.get n).isSome then 0 else 10 := rfl
theorem refused_rename (m : DM) (o n : ByteArray) : m.refused (.rename o n) = if (m.get o).isSome then if rightB n then 0 else 8 else 10 := rfl
theorem refused_remove (m : DM) (n : ByteArray) : m.refused (.remove n) = if (m.get n).isSome then 0 else 10 := rfl
theorem dact_write (m : DM) (n s : ByteArray) : m.act (.write n s) = match m.get n with | some i => { m with files := m.files.set i ⟨m.files[i]!.data ++ s, m.files[i]!.safe⟩ } | none => m := rfl
theorem dact_sync (m : DM) (n : ByteArray) : m.act (.sync n) = match m.get n with | some i => { m with files := m.files.set i ⟨m.files[i]!.data, m.files[i]!.data.size⟩ } | none => m := rfl
theorem dact_rename (m : DM) (o n : ByteArray) : m.act (.rename o n) = m.names (.rename o n) := rfl
theorem handR_right : rightB handR = true := by decide
theorem tdel_none {l : Tab} {k : Bs} (h : tget l k = none) : tdel l k = l := by
  unfold tdel
  rw [List.filter_eq_self]
  intro p hp
  have := tget_none.1 h p hp
  simp [this]
theorem tdel_tput {l : Tab} {k : Bs} {b : Nat} (hr : Rising l) (h : tget l k = none) : tdel (tput l k b) k = l := by
  refine tab_ext (tdel_rising (tput_rising hr)) hr fun j => ?_
  rw [tget_del (tput_rising hr), tget_put hr]
  by_cases e : j = k
  · rw [if_pos e, e, h]
  · rw [if_neg e, if_neg e]
theorem sizeT_ins (fs : List Fil) (x : Bs × Nat) : ∀ l : Tab, sizeOfTab fs (tins x l) = fs[x.2]!.data.size + sizeOfTab fs l
  | [] => rfl
  | y :: r => by
    unfold tins
    split
    · rfl
    · rw [sizeOfTab, sizeT_ins fs x r, sizeOfTab]
      omega
theorem sizeT_old {fs : List Fil} (f : Fil) : ∀ {l : Tab}, (∀ p ∈ l, p.2 < fs.length) → sizeOfTab (fs ++ [f]) l = sizeOfTab fs l
  | [], _ => rfl
  | p :: r, h => by
    rw [sizeOfTab, sizeOfTab, sizeT_old f (fun q hq => h q (List.mem_cons_of_mem _ hq)), get_app_old f (h p List.mem_cons_self)]
/-- A Set while the power stays on. -/
theorem set_calm {m : DM} (hc : m.Calm) (hr : Rising m.now) (hi : ∀ p ∈ m.now, p.2 < m.files.length) (hh : tget m.now handR.data.toList = none) (name t : ByteArray) (hn : rightB name = true) (hne : name ≠ handR) :
    ∃ m', m'.Calm ∧ m'.room = m.room ∧ ((m.room < m.used + t.size ∧ setM m name t = (m', 28) ∧ m'.now = m.now ∧ m'.files = m.files ++ [⟨⟨#[]⟩, 0⟩]) ∨
      (m.used + t.size ≤ m.room ∧ setM m name t = (m', 0) ∧ m'.now = tput m.now name.data.toList m.files.length ∧ ∃ k, m'.files = m.files ++ [⟨t, k⟩])) := by
  obtain ⟨off, room, files, now, safe, pend, armed, keep⟩ := m
  obtain ⟨h1, h2⟩ := hc
  simp only at h1 h2 hr hi hh
  subst h1 h2
  have hnone : (⟨false, room, files, now, safe, pend, 0, keep⟩ : DM).get handR = none := hh
  have e0 : clearR ⟨false, room, files, now, safe, pend, 0, keep⟩ = (⟨false, room, files, now, safe, pend, 0, keep⟩, 0) := by
    have hrd : (⟨false, room, files, now, safe, pend, 0, keep⟩ : DM).reads handR = (⟨#[]⟩, 10) := by
      unfold DM.reads
      rw [if_neg (fun h => by cases h), hnone]
    unfold clearR
    rw [hrd]
    rfl
  obtain ⟨m1, hm1⟩ : ∃ x : DM, x = ⟨false, room, files ++ [⟨⟨#[]⟩, 0⟩], tput now handR.data.toList files.length, safe, pend ++ [.create handR files.length], 0, keep⟩ := ⟨_, rfl⟩
  have e1 : (⟨false, room, files, now, safe, pend, 0, keep⟩ : DM).op (.create handR) = (m1, 0) := by
    rw [DM.Calm.op_eq ⟨rfl, rfl⟩]
    have hf : (⟨false, room, files, now, safe, pend, 0, keep⟩ : DM).refused (.create handR) = 0 := by
      rw [refused_create, if_pos handR_right, hnone]
      rfl
    rw [hf, if_neg (by decide), hm1]
    rfl
  have hr1 : Rising (tput now handR.data.toList files.length) := tput_rising hr
  have hg1 : tget (tput now handR.data.toList files.length) handR.data.toList = some files.length := by rw [tget_put hr, if_pos rfl]
  have c1 : m1.Calm := by rw [hm1]; exact ⟨rfl, rfl⟩
  have g1 : m1.get handR = some files.length := by rw [hm1]; exact hg1
  have u1 : m1.used = sizeOfTab files now := by
    rw [hm1]
    show sizeOfTab (files ++ [⟨⟨#[]⟩, 0⟩]) (tins (handR.data.toList, files.length) (tdel now handR.data.toList)) = _
    rw [sizeT_ins, tdel_none hh, sizeT_old _ hi, get_app_last]
    show 0 + _ = _
    omega
  have ur : m1.room = room := by rw [hm1]
  have hdt := tdel_tput (b := files.length) hr hh
  unfold setM
  rw [seqM_ok _ e0, seqM_ok _ e1]
  by_cases hfull : m1.used + t.size > m1.room
  · have e2 : m1.op (.write handR t) = (m1, 28) := by
      rw [c1.op_eq]
      have hf : m1.refused (.write handR t) = 28 := by
        rw [refused_write, g1]
        exact (if_pos rfl).trans (if_pos hfull)
      rw [hf]
      rfl
    obtain ⟨m2, hm2⟩ : ∃ x : DM, x = ⟨false, room, files ++ [⟨⟨#[]⟩, 0⟩], now, safe, pend ++ [.create handR files.length] ++ [.remove handR], 0, keep⟩ := ⟨_, rfl⟩
    have e3 : m1.op (.remove handR) = (m2, 0) := by
      rw [c1.op_eq]
      have hf : m1.refused (.remove handR) = 0 := by
        rw [refused_remove, g1]
        rfl
      rw [hf, if_neg (by decide), hm1, hm2]
      show ((⟨false, room, files ++ [⟨⟨#[]⟩, 0⟩], tdel (tput now handR.data.toList files.length) handR.data.toList, safe, pend ++ [.create handR files.length] ++ [.remove handR], 0, keep⟩ : DM), (0 : Int)) = _
      rw [hdt]
    have c2 : m2.Calm := by rw [hm2]; exact ⟨rfl, rfl⟩
    have e4 : m2.op .flush = (m2.act .flush, 0) := by rw [c2.op_eq]; rfl
    refine ⟨m2.act .flush, c2.act .flush, by rw [hm2]; rfl, .inl ⟨?_, ?_, by rw [hm2]; rfl, by rw [hm2]; rfl⟩⟩
    · rw [u1, ur] at hfull
      exact hfull
    · rw [wrote_full e2]
      unfold goneM
      rw [seqM_ok _ e3, e4]
  · obtain ⟨m2, hm2⟩ : ∃ x : DM, x = ⟨false, room, files ++ [⟨⟨#[]⟩ ++ t, 0⟩], tput now handR.data.toList files.length, safe, pend ++ [.create handR files.length], 0, keep⟩ := ⟨_, rfl⟩
    have e2 : m1.op (.write handR t) = (m2, 0) := by
      rw [c1.op_eq]
      have hf : m1.refused (.write handR t) = 0 := by
        rw [refused_write, g1]
        exact (if_pos rfl).trans (if_neg hfull)
      rw [hf, if_neg (by decide)]
      rw [dact_write, g1]
      show ((_ : DM), (0 : Int)) = _
      rw [hm1, hm2]
      refine congrArg (fun fs => ((⟨false, room, fs, tput now handR.data.toList files.length, safe, pend ++ [.create handR files.length], 0, keep⟩ : DM), (0 : Int))) ?_
      rw [set_app_last, get_app_last]
    have g2 : m2.get handR = some files.length := by rw [hm2]; exact hg1
    have c2 : m2.Calm := by rw [hm2]; exact ⟨rfl, rfl⟩
    obtain ⟨m3, hm3⟩ : ∃ x : DM, x = ⟨false, room, files ++ [⟨⟨#[]⟩ ++ t, (⟨#[]⟩ ++ t : ByteArray).size⟩], tput now handR.data.toList files.length, safe, pend ++ [.create handR files.length], 0, keep⟩ := ⟨_, rfl⟩
    have e3 : m2.op (.sync handR) = (m3, 0) := by
      rw [c2.op_eq]
      have hf : m2.refused (.sync handR) = 0 := by
        rw [refused_sync, g2]
        rfl
      rw [hf, if_neg (by decide)]
      rw [dact_sync, g2]
      show ((_ : DM), (0 : Int)) = _
      rw [hm2, hm3]
      refine congrArg (fun fs => ((⟨false, room, fs, tput now handR.data.toList files.length, safe, pend ++ [.create handR files.length], 0, keep⟩ : DM), (0 : Int))) ?_
      rw [set_app_last, get_app_last]
    have g3 : m3.get handR = some files.length := by rw [hm3]; exact hg1
    have c3 : m3.Calm := by rw [hm3]; exact ⟨rfl, rfl⟩
    obtain ⟨m4, hm4⟩ : ∃ x : DM, x = ⟨false, room, files ++ [⟨⟨#[]⟩ ++ t, (⟨#[]⟩ ++ t : ByteArray).size⟩], tput now name.data.toList files.length, safe, pend ++ [.create handR files.length] ++ [.rename handR name], 0, keep⟩ := ⟨_, rfl⟩
    have e4 : m3.op (.rename handR name) = (m4, 0) := by
      rw [c3.op_eq]
      have hf : m3.refused (.rename handR name) = 0 := by
        rw [refused_rename, g3]
        exact (if_pos rfl).trans (if_pos hn)
      rw [hf, if_neg (by decide), hm3, hm4]
      rw [dact_rename]
      unfold DM.names DOp.act
      show ((_ : DM), (0 : Int)) = _
      simp only [hg1, hdt]
    have c4 : m4.Calm := by rw [hm4]; exact ⟨rfl, rfl⟩
    have e5 : m4.op .flush = (m4.act .flush, 0) := by rw [c4.op_eq]; rfl
    refine ⟨m4.act .flush, c4.act .flush, by rw [hm4]; rfl, .inr ⟨?_, ?_, by rw [hm4]; rfl, (⟨#[]⟩ ++ t : ByteArray).size, ?_⟩⟩
    · rw [u1, ur] at hfull
      show sizeOfTab files now + _ ≤ room
      omega
    · rw [wrote_ok e2, seqM_ok _ e3, seqM_ok _ e4, e5]
    · rw [hm4]
      show files ++ [⟨⟨#[]⟩ ++ t, _⟩] = _
      rw [show (⟨#[]⟩ ++ t : ByteArray) = t from ByteArray.empty_append]
/-! ## Names on a disk -/
theorem bb_app (h a b : Bs) : bytesBefore (h ++ a) (h ++ b) = bytesBefore a b := by
  induction h with
  | nil => rfl
  | cons x r ih =>
    rw [List.cons_append, List.cons_append, bytesBefore, ih]
    simp
theorem keys_ins (h u : Bs) (i c : Nat) : ∀ (t l : Tab), t.map (·.1) = l.map (fun p => h ++ p.1) → (tins (h ++ u, i) t).map (·.1) = (tins (u, c) l).map (fun p => h ++ p.1)
  | [], [], _ => rfl
  | [], _ :: _, e => by cases e
  | _ :: _, [], e => by cases e
  | x :: r, y :: s, e => by
    have e1 : x.1 = h ++ y.1 := (List.cons.inj e).1
    have e2 := (List.cons.inj e).2
    unfold tins
    have hb : bytesBefore (h ++ u, i).1 x.1 = bytesBefore (u, c).1 y.1 := by
      rw [e1]
      exact bb_app h u y.1
    rw [hb]
    split
    · rw [List.map_cons, List.map_cons, List.map_cons, List.map_cons, e1]
      exact congrArg _ (congrArg _ e2)
    · rw [List.map_cons, List.map_cons, keys_ins h u i c r s e2, e1]
theorem keys_del (h u : Bs) : ∀ (t l : Tab), t.map (·.1) = l.map (fun p => h ++ p.1) → (tdel t (h ++ u)).map (·.1) = (tdel l u).map (fun p => h ++ p.1)
  | [], [], _ => rfl
  | [], _ :: _, e => by cases e
  | _ :: _, [], e => by cases e
  | x :: r, y :: s, e => by
    have e1 : x.1 = h ++ y.1 := (List.cons.inj e).1
    have e2 := keys_del h u r s (List.cons.inj e).2
    unfold tdel at e2 ⊢
    have hb : (x.1 == h ++ u) = (y.1 == u) := by
      rw [e1, Bool.eq_iff_iff, beq_iff_eq, beq_iff_eq]
      exact ⟨fun e => List.append_cancel_left e, fun e => by rw [e]⟩
    rw [List.filter_cons, List.filter_cons, hb]
    split
    · rw [List.map_cons, List.map_cons, e1]
      exact congrArg _ e2
    · exact e2
theorem keys_put (h u : Bs) (i c : Nat) {t l : Tab} (e : t.map (·.1) = l.map (fun p => h ++ p.1)) : (tput t (h ++ u) i).map (·.1) = (tput l u c).map (fun p => h ++ p.1) := keys_ins h u i c _ _ (keys_del h u t l e)
/-- A disk that holds these names and no other file. -/
structure Only (m : DM) (l : Tab) : Prop where
  calm : m.Calm
  now : Rising m.now
  ids : ∀ p ∈ m.now, p.2 < m.files.length
  rise : Rising l
  keys : m.now.map (·.1) = l.map (fun p => refHead ++ p.1)
  data : ∀ p ∈ l, ∀ i, tget m.now (refHead ++ p.1) = some i → m.files[i]!.data = textD (decD p.2)
  full : ∀ p ∈ l, fullM p.1 = some p.1
  code : ∀ p ∈ l, p.2 = codeD (decD p.2)
section
variable {m : DM} {l : Tab}
theorem Only.len (h : Only m l) : m.now.length = l.length := by
  have := congrArg List.length h.keys
  rw [List.length_map, List.length_map] at this
  exact this
theorem Only.head (h : Only m l) {p : Bs × Nat} (hp : p ∈ m.now) : ∃ x ∈ l, p.1 = refHead ++ x.1 := by
  have h1 : p.1 ∈ l.map (fun p => refHead ++ p.1) := by rw [← h.keys]; exact List.mem_map_of_mem hp
  obtain ⟨x, hx, e⟩ := List.mem_map.1 h1
  exact ⟨x, hx, e.symm⟩
theorem Only.look (h : Only m l) {x : Bs × Nat} (hx : x ∈ l) : ∃ i, tget m.now (refHead ++ x.1) = some i ∧ m.files[i]!.data = textD (decD x.2) := by
  have h1 : refHead ++ x.1 ∈ m.now.map (·.1) := by rw [h.keys]; exact List.mem_map.2 ⟨x, hx, rfl⟩
  obtain ⟨p, hp, e⟩ := List.mem_map.1 h1
  have h2 : tget m.now (refHead ++ x.1) = some p.2 := tget_of_mem h.now (by rw [← e]; exact hp)
  exact ⟨p.2, h2, h.data x hx _ h2⟩
theorem Only.reads (h : Only m l) {x : Bs × Nat} (hx : x ∈ l) : m.reads (refN x.1) = (textD (decD x.2), 0) := by
  obtain ⟨i, h1, h2⟩ := h.look hx
  have hg : m.get (refN x.1) = some i := h1
  unfold DM.reads
  rw [if_neg (by rw [h.calm.1]; decide), hg]
  show (m.files[i]!.data, (0 : Int)) = _
  rw [h2]
theorem Only.lists (h : Only m l) : m.lists ⟨refHead.toArray⟩ = l.map (fun p => refN p.1) := by
  unfold DM.lists
  rw [if_neg (by rw [h.calm.1]; decide)]
  have hf : m.now.filter (hasHead ⟨refHead.toArray⟩) = m.now := by
    rw [List.filter_eq_self]
    intro p hp
    obtain ⟨x, -, e⟩ := h.head hp
    unfold hasHead
    rw [e]
    show List.isPrefixOf refHead (refHead ++ x.1) = true
    rw [List.isPrefixOf_iff_prefix]
    exact List.prefix_append _ _
  rw [hf]
  have h1 : m.now.map nameB = (m.now.map (·.1)).map (fun k => (⟨k.toArray⟩ : ByteArray)) := by rw [List.map_map]; rfl
  rw [h1, h.keys, List.map_map]
  rfl
theorem tail_refN (u : Bs) : tailM (refN u) = u := by
  unfold tailM
  have h1 : (refN u).data.toList = refHead ++ u := rfl
  rw [h1, if_pos (by rw [List.take_append_of_le_length (by decide)]; rfl), List.drop_append_of_le_length (by decide)]
  rfl
theorem Only.names (h : Only m l) : ∀ r : Tab, (∀ p ∈ r, p ∈ l) → namesM m (r.map (fun p => refN p.1)) = some (r.map entR)
  | [], _ => rfl
  | p :: r, hr => by
    have hp := hr p List.mem_cons_self
    rw [List.map_cons, namesM]
    have h1 : restM (refN p.1) = true := by
      unfold restM
      rw [tail_refN, h.full p hp]
      exact beq_self_eq_true _
    rw [if_pos h1, h.reads hp, parseD_textD _ (decD_len _), Only.names h r (fun q hq => hr q (List.mem_cons_of_mem _ hq)), tail_refN]
    rfl
theorem Only.named (h : Only m l) : NamesT m l := by
  refine ⟨h.rise, ?_, fun p hp => ?_, h.code, fun p hp => (full_full (h.full p hp)).2.1⟩
  · unfold listR
    rw [if_neg (by rw [h.calm.1]; decide), h.lists, h.names l (fun _ hp => hp)]
  · unfold getF
    rw [h.full p hp]
    show getR m p.1 = _
    unfold getR
    rw [h.reads hp, if_neg (fun e => e rfl), parseD_textD _ (decD_len _)]
theorem sizeT_71 (fs : List Fil) : ∀ t : Tab, (∀ p ∈ t, fs[p.2]!.data.size = 71) → sizeOfTab fs t = 71 * t.length
  | [], _ => rfl
  | p :: r, h => by
    rw [sizeOfTab, h p List.mem_cons_self, sizeT_71 fs r (fun q hq => h q (List.mem_cons_of_mem _ hq)), List.length_cons]
    omega
theorem textD_71 {d : List UInt8} (h : d.length = 32) : (textD d).size = 71 := by
  show (shaHead ++ hexB d).length = 71
  rw [List.length_append, hexB_len, h]
  rfl
theorem Only.used (h : Only m l) : m.used = 71 * l.length := by
  unfold DM.used
  rw [if_neg (by rw [h.calm.1]; decide), sizeT_71 _ _ (fun p hp => ?_), h.len]
  obtain ⟨x, hx, e⟩ := h.head hp
  rw [h.data x hx p.2 (by rw [← e]; exact tget_of_mem h.now hp)]
  exact textD_71 (decD_len _)
theorem Only.hand (h : Only m l) : tget m.now handR.data.toList = none := by
  rw [tget_none]
  intro p hp e
  obtain ⟨x, -, e2⟩ := h.head hp
  rw [e] at e2
  have := congrArg List.head? e2
  cases this
theorem Only.tmp (h : Only m l) : m.lists ⟨#[116, 109, 112, 47]⟩ = [] := by
  unfold DM.lists
  split
  · rfl
  · have hf : m.now.filter (hasHead ⟨#[116, 109, 112, 47]⟩) = [] := by
      rw [List.filter_eq_nil_iff]
      intro p hp
      obtain ⟨x, -, e⟩ := h.head hp
      unfold hasHead
      rw [e]
      show ¬ List.isPrefixOf [116, 109, 112, 47] (refHead ++ x.1) = true
      simp [refHead, List.isPrefixOf]
    rw [hf]
    rfl
theorem refN_right {u : Bs} (h : u.length ≤ 96) : rightB (refN u) = true := by
  unfold rightB
  rw [refN_size]
  simp only [Bool.and_eq_true, decide_eq_true_eq]
  omega
theorem refN_hand (u : Bs) : refN u ≠ handR := by
  intro h
  have h1 : (refHead ++ u).head? = some 116 := by
    have := congrArg (fun b : ByteArray => b.data.toList.head?) h
    exact this
  cases h1
/-- A Set of a name, while nothing fails. -/
theorem Only.set (h : Only m l) {u : Bs} (hu : fullM u = some u) {D : List UInt8} (hD : D.length = 32) :
    (m.room < 71 * l.length + 71 ∧ ∃ m', setM m (refN u) (textD D) = (m', 28) ∧ m'.room = m.room ∧ Only m' l) ∨
      (71 * l.length + 71 ≤ m.room ∧ ∃ m', setM m (refN u) (textD D) = (m', 0) ∧ m'.room = m.room ∧ Only m' (tput l u (codeD D))) := by
  have hul := (full_full hu).2.1
  obtain ⟨m', c', hroom, hs⟩ := set_calm h.calm h.now h.ids h.hand (refN u) (textD D) (refN_right hul) (refN_hand u)
  rw [h.used, textD_71 hD] at hs
  rcases hs with ⟨h1, h2, h3, h4⟩ | ⟨h1, h2, h3, k, h4⟩
  · refine .inl ⟨h1, m', h2, hroom, ⟨c', by rw [h3]; exact h.now, fun p hp => ?_, h.rise, by rw [h3]; exact h.keys, fun p hp i hi => ?_, h.full, h.code⟩⟩
    · rw [h3] at hp
      rw [h4, List.length_append]
      have := h.ids p hp
      omega
    · rw [h3] at hi
      rw [h4, get_app_old _ (h.ids _ (tget_mem hi))]
      exact h.data p hp i hi
  · have hkd : (refN u).data.toList = refHead ++ u := rfl
    rw [hkd] at h3
    refine .inr ⟨h1, m', h2, hroom, ⟨c', by rw [h3]; exact tput_rising h.now, fun p hp => ?_, tput_rising h.rise, by rw [h3]; exact keys_put _ _ _ _ h.keys, fun p hp i hi => ?_, fun p hp => ?_, fun p hp => ?_⟩⟩
    · rw [h3] at hp
      rw [h4, List.length_append, List.length_singleton]
      rcases tput_mem.1 hp with rfl | ⟨hp, -⟩
      · show m.files.length < _
        omega
      · have := h.ids p hp
        omega
    · rw [h3, tget_put h.now] at hi
      rcases tput_mem.1 hp with rfl | ⟨hp, hne⟩
      · rw [if_pos rfl] at hi
        cases hi
        rw [h4, get_app_last, dec_code hD]
      · rw [if_neg (fun e => hne (List.append_cancel_left e))] at hi
        rw [h4, get_app_old _ (h.ids _ (tget_mem hi))]
        exact h.data p hp i hi
    · rcases tput_mem.1 hp with rfl | ⟨hp, -⟩
      · exact hu
      · exact h.full p hp
    · rcases tput_mem.1 hp with rfl | ⟨hp, -⟩
      · show codeD D = codeD (decD (codeD D))
        rw [dec_code hD]
      · exact h.code p hp
end
theorem only_new (r : Int) : Only (DM.new r) [] := ⟨⟨rfl, rfl⟩, List.Pairwise.nil, fun _ h => (by cases h), List.Pairwise.nil, rfl, fun _ h => (by cases h), fun _ h => (by cases h), fun _ h => (by cases h)⟩
end Go.Proofs.YtdkedmngeahjiaaGreatDoor
/- Contract of refs.Open. -/
namespace Go.Proofs.YtdkedmngeahjiaaGreatDoor
open Go Go.RowKit
theorem openR_on {m : DM} (h : m.off = false) : openR m = seqM (takesM (badR m) m) fun m' => if badR m = [] then (m', 0) else m'.op .flush := if_neg (by rw [h]; decide)
theorem RowC.own {base : Nat} {l : List Value} {v : Value} {w : World} (h : RowC base l v w) (b : Nat) (hb : v.ownBlock = some b) : base ≤ b ∧ b < w.heap.size := by
  rcases h with ⟨rfl, -⟩ | ⟨g, cap, rfl, h2, h3, -⟩
  · cases hb
  · cases hb
    exact ⟨h2, h3⟩
theorem reads_two {m : DM} (h : m.off = false) (n : ByteArray) : (m.reads n).2 = 0 ∨ (m.reads n).2 = 10 := by
  unfold DM.reads
  rw [if_neg (by rw [h]; decide)]
  split
  · exact .inl rfl
  · exact .inr rfl
/-- How Open ends: names, or an error. -/
def ROpenPost (w : World) (S P : Nat → Prop) (a n N : Nat) (w1 : World) (r : DM × Int) (e : Ending) (w' : World) : Prop :=
  ∃ v, e = .returned v ∧ ((r.2 = 0 ∧ ∃ rb, v = .tuple #[.pointer (some ⟨rb, 0, none⟩), .nilIface] ∧ w1.heap.size ≤ rb ∧ Rf w S (fun b => P b ∨ b = rb) rb a w' (n + N + 1) r.1) ∨
    (r.2 ≠ 0 ∧ ∃ u t, v = .tuple #[.pointer none, u] ∧ u = wrapE t r.2 ∧ St w S P a w' (n + N + 1) r.1)) ∧ SameP P w1 w'
theorem refO_box {w w1 : World} {S P : Nat → Prop} {a n n' : Nat} {m : DM} (h : St w S P a w1 n m) (hn : n ≤ n') : Rf w S (fun b => P b ∨ b = w1.heap.size) w1.heap.size a (w1.alloc (refsO a)) n' m :=
  ⟨(h.bel ((Below.refl _ _).alloc (Nat.le_refl _) _) _ (fun b hb => by
    rcases hb with hb | rfl
    · exact .inl hb
    · exact .inr ⟨Nat.le_refl _, by rw [World.size_alloc]; omega⟩)).more hn, heap_new _ _, .inr rfl⟩
set_option maxHeartbeats 1600000 in
set_option maxRecDepth 100000 in
theorem ropen_nil (w : World) : Calls Tryz.prog 13 #[.pointer none] w fun e w' => e = .returned (.tuple #[.pointer none, wrapE whatO 1]) ∧ w = w' := by
  have htl := fun W : World => told_any whatO 1 W
  rw [show errE 1 = .iface 71 (.int .i64 1) from rfl] at htl
  unfold whatO at htl
  go_enter Tryz.func13, Tryz.ntmps13
  go_wp2_with (go_at_call 34; refine (htl _).mono ?_; rintro e w3 ⟨rfl, rfl⟩)
  go_ret2
  exact ⟨rfl, rfl⟩
set_option maxHeartbeats 12800000 in
set_option maxRecDepth 100000 in
theorem ropen0 {w1 : World} {S P : Nat → Prop} {a n : Nat} {m : DM} (h : St w1 S P a w1 n m) (hn : n ≤ 1000000000) (hsh : ∀ s ∈ m.lists ⟨refHead.toArray⟩, s.size ≤ 200) :
    Calls Tryz.prog 13 #[.pointer (some ⟨a, 0, none⟩)] w1 (ROpenPost w1 S P a n (badR m).length w1 (openR m)) := by
  obtain ⟨i0, hi, hz0, hz1, hz2⟩ := info_parts infoS
  have HS1 := Lib.hid h
  have hlN : (m.lists ⟨refHead.toArray⟩).length ≤ n := by
    unfold DM.lists
    split
    · exact Nat.zero_le _
    · rw [List.length_map]
      exact Nat.le_trans (List.length_filter_le _ _) h.ok.nowN
  have hrl : m.off = false → ∀ s ∈ m.lists ⟨refHead.toArray⟩, (m.reads s).2 = 0 := fun ho s hs => reads_listed h.ok.now ho hs
  have hls := st_list h ⟨#[114, 101, 102, 115, 47]⟩ (by omega)
  have hlq : m.lists ⟨refHead.toArray⟩ = m.lists ⟨#[114, 101, 102, 115, 47]⟩ := rfl
  rw [← hlq] at hls
  obtain ⟨L, hL⟩ : ∃ L, m.lists ⟨refHead.toArray⟩ = L := ⟨_, rfl⟩
  rw [hL] at hls hlN hsh hrl
  have HL := Lib.hid hL
  have HSH := Lib.hid hsh
  have HRL := Lib.hid hrl
  obtain ⟨N, hN⟩ : ∃ N, L.length = N := ⟨_, rfl⟩
  have HN := Lib.hid hN
  rw [hN] at hlN
  have HNN : Hid (N ≤ n ∧ n ≤ 1000000000) := Lib.hid ⟨hlN, hn⟩
  have HTL := Lib.hid (fun (y : Int) (W : World) => told_any whatO y W)
  unfold whatO at HTL
  clear h hsh hlN hL hN hn hlq hrl
  cases hoff : m.off with
  | true =>
    rw [hoff] at hls
    have HOFF := Lib.hid hoff
    clear hoff
    have hlsw : Calls Tryz.prog 17 #[.pointer (some ⟨a, 0, none⟩), .string ⟨#[114, 101, 102, 115, 47]⟩] w1 fun e w' => ∃ v, e = .returned (.tuple #[v, .iface 71 (.int .i64 27)]) ∧ OwnTexts w1.heap.size w' v L ∧ Below w1.heap.size w1 w' := hls
    have htl := HTL.out 27
    rw [show errE 27 = .iface 71 (.int .i64 27) from rfl] at htl
    clear hls
    go_enter Tryz.func13, Tryz.ntmps13
    go_wp2_with fail
    refine hlsw.mono ?_
    rintro e w2 ⟨v, rfl, -, hb2⟩
    have HS2 := Lib.hid (HS1.out.bel hb2 P (fun b hb => .inl hb))
    have HM2 : Hid (SameP P w1 w2) := Lib.hid (HS1.out.same hb2)
    clear hb2 hlsw
    go_wp2_with (go_at_call 34; refine (htl _).mono ?_; rintro e w3 ⟨rfl, rfl⟩)
    go_ret2
    have hO : openR m = (m, 27) := if_pos HOFF.out
    refine ⟨_, rfl, ?_, HM2.out⟩
    rw [hO]
    exact .inr ⟨(show (27 : Int) ≠ 0 by decide), _, whatO, rfl, rfl, HS2.out.more (by omega)⟩
  | false =>
    rw [hoff] at hls
    have HOFF := Lib.hid hoff
    clear hoff
    have hlsw : Calls Tryz.prog 17 #[.pointer (some ⟨a, 0, none⟩), .string ⟨#[114, 101, 102, 115, 47]⟩] w1 fun e w' => ∃ v, e = .returned (.tuple #[v, .nilIface]) ∧ OwnTexts w1.heap.size w' v L ∧ Below w1.heap.size w1 w' := hls
    clear hls
    obtain ⟨r, hr⟩ : ∃ r, (m.reads handR).1 = r := ⟨_, rfl⟩
    have hrd := fun W (hs : St w1 S P a W n m) => st_read hs handR (by decide)
    rcases reads_two HOFF.out handR with hy0 | hy0
    · rw [hy0, hr, show errE 0 = .nilIface from rfl] at hrd
      have HY0 := Lib.hid hy0
      unfold handR at hrd
      clear hr hy0
      go_enter Tryz.func13, Tryz.ntmps13
      go_wp2_with fail
      refine hlsw.mono ?_
      rintro e w2 ⟨v, rfl, hv, hb2⟩
      obtain ⟨vp, vc, rfl⟩ := hv.rd.len
      rw [HN.out] at hv ⊢
      have HV2 := Lib.hid hv.rd
      have HS2 := Lib.hid (HS1.out.bel hb2 P (fun b hb => .inl hb))
      have HM2 : Hid (SameP P w1 w2) := Lib.hid (HS1.out.same hb2)
      clear hb2 hlsw hv HS1
      go_wp2_with fail
      refine (hrd _ HS2.out).mono ?_
      rintro e w3 ⟨rfl, rfl⟩
      clear hrd
      have hbn : (0 : Nat) + 1 ≤ 140737488355328 := by decide
      go_wp2_with (at_builtin; refine wpList_appC rfl _ _ 31 rfl w2.heap.size 9 i0 (.string ⟨#[]⟩) 16 Tryz.underlying31 hi hz0 hz1 hz2 rfl [] _ rfl (RowC.nil _ _) (.string handR) ⟨w2.heap.size, 0, none⟩ rfl (new1V w2 _ _) rfl (by decide) (by decide) (by rw [World.size_alloc]; have := (Below.refl w2.heap.size w2).size; omega) ?_; intro v1 w7 hr7 hb7; have HR7 := Lib.hid hr7; have HB7 : Hid (Below w2.heap.size w2 w7) := Lib.hid (((Below.refl w2.heap.size w2).alloc (by have := (Below.refl w2.heap.size w2).size; omega) _).trans hb7); clear hr7 hb7)
      have HR9 : Hid (RowC w2.heap.size (([handR] : List ByteArray).map strV) v1 w7) := HR7
      have HB9 := HB7
      clear hbn HR7 HB7
      have hNi : (N : Int) ≤ 1000000000 := by have := HNN.out; omega
      go_wp2_with fail
      go_loopw [6, 52] (fun v iv wr => ∃ k : Nat, (k : Int) ≤ N ∧ iv = .int .i64 k ∧ Hid (RowC w2.heap.size (([handR] ++ (L.take k).filter fun s => !rightR m s).map strV) v wr) ∧ Hid (Below w2.heap.size w2 wr)) (fun _ iv _ => N - (intOf iv).toNat)
      case atStart => exact ⟨0, by omega, rfl, Lib.hid (by rw [List.take_zero, List.filter_nil, List.append_nil]; exact HR9.out), HB9⟩
      case round =>
        obtain ⟨k, hk, rfl, HR, HB⟩ := hrel
        by_cases hlt : (k : Int) < N
        · have hkl : k < L.length := by rw [HN.out]; omega
          obtain ⟨s, hs⟩ : ∃ s, L[k]? = some s := ⟨_, List.getElem?_eq_getElem hkl⟩
          obtain ⟨vp', vc', he, hv⟩ := HV2.out.below HB.out
          obtain ⟨vb, vo, hvp, hvl, hvc⟩ := hv k s hs
          have hpe : vp = some ⟨vb, vo, none⟩ := by cases he; exact hvp
          subst hpe
          have hss := HSH.out s (List.mem_of_getElem? hs)
          have hy := HRL.out HOFF.out s (List.mem_of_getElem? hs)
          have htk : L.take (k + 1) = L.take k ++ [s] := by rw [List.take_add_one, hs]; rfl
          have HTK := Lib.hid htk
          obtain ⟨q, cap, rfl, -⟩ := HR.out.slice
          have hql : (([handR] ++ (L.take k).filter fun s => !rightR m s).map strV).length ≤ 1 + k := by
            rw [List.length_map, List.length_append]
            have h1 := List.length_filter_le (fun s => !rightR m s) (L.take k)
            rw [List.length_take] at h1
            have : ([handR] : List ByteArray).length = 1 := rfl
            omega
          obtain ⟨K, hK⟩ : ∃ K, (([handR] ++ (L.take k).filter fun s => !rightR m s).map strV).length = K := ⟨_, rfl⟩
          rw [hK] at hql HR ⊢
          have HQL := Lib.hid hql
          have HK := Lib.hid hK
          have hre := fun W : World => rest_any s (show ((s.size : Nat) : Int) ≤ 140737488355328 by omega) W
          unfold lV at hre
          have hrd := fun W (hst : St w1 S P a W n m) => st_read hst s (show s.size ≤ maxLen by unfold maxLen; omega)
          obtain ⟨T, hT⟩ : ∃ T, (m.reads s).1 = T := ⟨_, rfl⟩
          rw [hT, hy, show errE 0 = .nilIface from rfl] at hrd
          have HRD := Lib.hid hrd
          have hpa := fun W : World => parse_dig T W
          have hrr : rightR m s = (restM s && (parseD T).isSome) := by unfold rightR; rw [hT]
          obtain ⟨RS, hRS⟩ : ∃ b, restM s = b := ⟨_, rfl⟩
          rw [hRS] at hre hrr
          obtain ⟨T1, hT1⟩ : ∃ T : ByteArray, (⟨(tailM s).toArray⟩ : ByteArray) = T := ⟨_, rfl⟩
          rw [hT1] at hre
          clear hs he hv hvp hvl htk hkl hql hK hrd hT hy hT1 hRS
          have HS4 := Lib.hid (HS2.out.bel HB.out P (fun b hb => .inl hb))
          have hpp : ∃ (D : List UInt8) (e : Value), parseV (parseD T) = .tuple #[.agg (D.map byteV).toArray, e] ∧ D.length = 32 ∧ (((parseD T).isSome = true ∧ e = .nilIface) ∨ ((parseD T).isSome = false ∧ e = .iface 71 (.int .i64 4))) := by
            cases hp : parseD T with
            | none => exact ⟨zeroD, _, rfl, rfl, .inr ⟨rfl, rfl⟩⟩
            | some D => exact ⟨D, _, rfl, (parseD_inv hp).2, .inl ⟨rfl, rfl⟩⟩
          obtain ⟨D, ev, hpv, -, hev⟩ := hpp
          rw [hpv] at hpa
          generalize (parseD T).isSome = PS at hev hrr
          have HRR := Lib.hid hrr
          clear hrr hpv
          rcases hev with ⟨rfl, rfl⟩ | ⟨rfl, rfl⟩ <;> cases RS
          all_goals
            have hvv : True := trivial
            go_wp2_with fail
            refine (HRD.out _ HS4.out).mono ?_
            rintro e w5 ⟨rfl, rfl⟩
            go_wp2_with (first | (go_at_call 42; refine (hpa _).mono ?_; rintro e w6 ⟨rfl, hb6⟩; have HB6 : Hid (Below w2.heap.size w2 w6) := Lib.hid (HB.out.trans (hb6.mono HB.out.size)); have HR6 := Lib.hid (HR.out.keep hb6); clear hb6) | (go_at_call 43; refine (hre _).mono ?_; rintro e w7 ⟨rfl, hb7⟩; have HB7 : Hid (Below w2.heap.size w2 w7) := Lib.hid (HB6.out.trans (hb7.mono HB6.out.size)); have HR7 := Lib.hid (HR6.out.keep hb7); clear hb7) | (at_builtin; refine wpList_appC rfl _ _ 31 rfl w2.heap.size 9 i0 (.string ⟨#[]⟩) 16 Tryz.underlying31 hi hz0 hz1 hz2 rfl _ _ rfl (HR7.out.keep ((Below.refl _ _).alloc (Nat.le_refl _) _)) (.string s) ⟨w7.heap.size, 0, none⟩ rfl (new1V w7 _ _) rfl (by rw [HK.out]; have := HQL.out; have := HNN.out; unfold maxLen; omega) (by rw [HK.out]; have := HQL.out; have := HNN.out; omega) (by rw [World.size_alloc]; have := HB7.out.size; omega) ?_; intro v1 w8 hr8 hb8; have HR8 := Lib.hid hr8; have HB8 : Hid (Below w2.heap.size w2 w8) := Lib.hid ((HB7.out.alloc (by have := HB7.out.size; omega) _).trans hb8); clear hr8 hb8))
            first
              | (have hf : [s].filter (fun s => !rightR m s) = [s] := by rw [List.filter_cons, HRR.out]; rfl
                 refine ⟨⟨k + 1, by omega, by rw [Int.natCast_add]; rfl, Lib.hid ?_, HB8⟩, by simp [intOf]; omega⟩
                 rw [HTK.out, List.filter_append, hf, ← List.append_assoc, List.map_append]
                 exact HR8.out)
              | (have hf : [s].filter (fun s => !rightR m s) = [] := by rw [List.filter_cons, HRR.out]; rfl
                 refine ⟨⟨k + 1, by omega, by rw [Int.natCast_add]; rfl, Lib.hid ?_, HB7⟩, by simp [intOf]; omega⟩
                 rw [HTK.out, List.filter_append, hf, List.append_nil]
                 exact HR7.out)
        · have hbad : ([handR] ++ (L.take k).filter fun s => !rightR m s) = badR m := by
            rw [List.take_of_length_le (by rw [HN.out]; omega)]
            exact (show [handR] ++ L.filter _ = badR m by unfold badR; rw [if_pos HY0.out, HL.out])
          rw [hbad] at HR
          have hbl : (badR m).length ≤ 1 + N := by
            rw [← hbad, List.length_append]
            have h1 := List.length_filter_le (fun s => !rightR m s) (L.take k)
            rw [List.length_take] at h1
            have : ([handR] : List ByteArray).length = 1 := rfl
            have := HN.out
            omega
          have hsz : ∀ s ∈ badR m, s.size ≤ 200 := by
            rw [← hbad]
            intro s hs
            rcases List.mem_append.1 hs with hs | hs
            · rw [List.mem_singleton.1 hs]; decide
            · exact HSH.out s (List.mem_of_mem_take (List.mem_filter.1 hs).1)
          obtain ⟨BD, hBD⟩ : ∃ l, badR m = l := ⟨_, rfl⟩
          rw [hBD] at HR hbl hsz
          have HBD := Lib.hid hBD
          have HBL := Lib.hid hbl
          have HSZ := Lib.hid hsz
          have HQ : Hid (St w1 S (fun b => P b ∨ u6.ownBlock = some b) a wr n m) := Lib.hid (HS2.out.bel HB.out _ (fun b hb => hb.elim .inl (fun e => .inr (HR.out.own b e))))
          have HMQ : Hid (SameP P w1 wr) := Lib.hid (fun b hb => (HS2.out.same HB.out b hb).trans (HM2.out b hb))
          obtain ⟨q, cap, hu9, hcl⟩ := HR.out.slice
          rw [List.length_map] at hu9
          obtain ⟨M, hM⟩ : ∃ M, BD.length = M := ⟨_, rfl⟩
          rw [hM] at hu9 HBL
          have HMM := Lib.hid hM
          have HCL : Hid (∀ j s, BD[j]? = some s → ∃ g, q = some ⟨g, 0, none⟩ ∧ wr.cell? ⟨g, j, none⟩ = some (.string s)) := Lib.hid (fun j s hj => by
            obtain ⟨g, h1, -, h3⟩ := hcl j (strV s) (by rw [List.getElem?_map, hj]; rfl)
            exact ⟨g, h1, h3⟩)
          subst hu9
          clear hbad hbl hsz hBD hcl hM HR
          obtain ⟨W9, hW9⟩ : ∃ W, W = wr := ⟨_, rfl⟩
          rw [← hW9] at HQ HMQ HCL ⊢
          clear hW9
          have hMi : (M : Int) ≤ 1000000001 := by have := HNN.out; have := HBL.out; omega
          go_wp2_with fail
          go_loopw [89] (fun iv wx => ∃ (k : Nat) (mk : DM), (k : Int) ≤ M ∧ iv = .int .i64 k ∧ Hid (takesM BD m = takesM (BD.drop k) mk) ∧ Hid (St w1 S (fun b => P b ∨ (Value.slice q M cap).ownBlock = some b) a wx (n + k) mk) ∧ Hid (SameP (fun b => P b ∨ (Value.slice q M cap).ownBlock = some b) W9 wx)) (fun iv _ => M - (intOf iv).toNat)
          case atStart => exact ⟨0, m, by omega, rfl, Lib.hid rfl, HQ, Lib.hid (fun _ _ => rfl)⟩
          case round =>
            obtain ⟨k, mk, hk, rfl, HTM, HS, HX⟩ := hrel
            by_cases hlt : (k : Int) < M
            · have hkl : k < BD.length := by rw [HMM.out]; omega
              obtain ⟨s, hs⟩ : ∃ s, BD[k]? = some s := ⟨_, List.getElem?_eq_getElem hkl⟩
              obtain ⟨g, hqg, hgc⟩ := HCL.out k s hs
              have hss := HSZ.out s (List.mem_of_getElem? hs)
              have hdr : BD.drop k = s :: BD.drop (k + 1) := by
                rw [List.drop_eq_getElem_cons hkl]
                rw [List.getElem?_eq_getElem hkl] at hs
                rw [Option.some.inj hs]
              have htm : takesM BD m = seqM (mk.op (.remove s)) (takesM (BD.drop (k + 1))) := by rw [HTM.out, hdr]; rfl
              have HTM2 := Lib.hid htm
              subst hqg
              have hc9 : wr.cell? ⟨g, k, none⟩ = some (.string s) := (cell_of_heap (HX.out g (.inr rfl))).trans hgc
              have hMn : M ≤ 1 + N := by have := HBL.out; omega
              have hnn := HNN.out
              clear hs hgc hdr htm hkl
              go_wp2_with fail
              refine (st_remove HS.out s (Nat.le_trans hss (by decide)) (by omega)).mono ?_
              intro e w8 hp
              by_cases hy : (mk.op (.remove s)).2 = 0
              · obtain ⟨mj, h1⟩ : ∃ mj, mk.op (.remove s) = (mj, 0) := ⟨_, by rw [← hy]⟩
                obtain ⟨rfl, hs8, hk8⟩ := hp.eq h1 (show errE 0 = .nilIface from rfl)
                have HS8 := Lib.hid hs8
                have HX8 : Hid (SameP (fun b => P b ∨ (Value.slice (some ⟨g, 0, none⟩) M cap).ownBlock = some b) W9 w8) := Lib.hid (fun b hb => (hk8 b hb).trans (HX.out b hb))
                have HOP := Lib.hid h1
                clear hp hy hs8 hk8 h1 hc9
                go_wp2_with fail
                refine ⟨⟨k + 1, mj, by omega, by rw [Int.natCast_add]; rfl, Lib.hid ?_, HS8, HX8⟩, by simp [intOf]; omega⟩
                rw [HTM2.out, seqM_ok _ HOP.out]
              · obtain ⟨y, hyy⟩ : ∃ y, (mk.op (.remove s)).2 = y := ⟨_, rfl⟩
                rw [hyy] at hy
                obtain ⟨mj, h1⟩ : ∃ mj, mk.op (.remove s) = (mj, y) := ⟨_, by rw [← hyy]⟩
                obtain ⟨rfl, hs8, hk8⟩ := hp.eq h1 (errE_no hy)
                have HS8 := Lib.hid hs8
                have HX8 : Hid (SameP P w1 w8) := Lib.hid (fun b hb => (hk8 b (.inl hb)).trans ((HX.out b (.inl hb)).trans (HMQ.out b hb)))
                have HOP := Lib.hid h1
                have HY := Lib.hid hy
                have htl := HTL.out y
                rw [errE_no hy] at htl
                clear hp hy hs8 hk8 h1 hc9 hyy
                go_wp2_with (go_at_call 34; refine (htl _).mono ?_; rintro e w9 ⟨rfl, rfl⟩)
                go_ret2
                have hO : openR m = (mj, y) := by
                  rw [openR_on HOFF.out, HBD.out]
                  exact seqM_no _ (show takesM BD m = (mj, y) by rw [HTM2.out, seqM_no _ HOP.out HY.out]) HY.out
                refine ⟨_, rfl, ?_, HX8.out⟩
                rw [hO, HBD.out]
                refine .inr ⟨HY.out, _, whatO, rfl, rfl, (HS8.out.sub P (fun b hb => .inl hb)).more ?_⟩
                rw [HMM.out]
                omega
            · obtain rfl : k = M := by omega
              have htm : takesM BD m = (mk, 0) := by rw [HTM.out, List.drop_of_length_le (by rw [HMM.out]; exact Nat.le_refl _)]; rfl
              have HTM2 := Lib.hid htm
              have hMn : k ≤ 1 + N := by have := HBL.out; omega
              have hnn := HNN.out
              have HX9 : Hid (SameP P w1 wr) := Lib.hid (fun b hb => (HX.out b (.inl hb)).trans (HMQ.out b hb))
              clear htm
              by_cases hk0 : (0 : Int) < k
              · have hne : BD ≠ [] := fun e => by have h0 : ([] : List ByteArray).length = k := e ▸ HMM.out; have h1 : (0 : Nat) = k := h0; omega
                have HNE := Lib.hid hne
                clear hne
                go_wp2_with fail
                refine (st_flush HS.out (by omega)).mono ?_
                intro e w8 hp
                by_cases hy : (mk.op .flush).2 = 0
                · obtain ⟨mj, h1⟩ : ∃ mj, mk.op .flush = (mj, 0) := ⟨_, by rw [← hy]⟩
                  obtain ⟨rfl, hs8, hk8⟩ := hp.eq h1 (show errE 0 = .nilIface from rfl)
                  have HS8 := Lib.hid (hs8.sub P (fun b hb => .inl hb))
                  have HX8 : Hid (SameP P w1 w8) := Lib.hid (fun b hb => (hk8 b (.inl hb)).trans (HX9.out b hb))
                  have HOP := Lib.hid h1
                  clear hp hy hs8 hk8 h1
                  go_wp2_with fail
                  go_ret2
                  have hO : openR m = (mj, 0) := by
                    rw [openR_on HOFF.out, HBD.out, seqM_ok _ HTM2.out, if_neg HNE.out]
                    exact HOP.out
                  refine ⟨_, rfl, ?_, fun b hb => (HS8.out.same ((Below.refl _ _).alloc (Nat.le_refl _) _) b hb).trans (HX8.out b hb)⟩
                  rw [hO, HBD.out]
                  exact .inl ⟨rfl, _, rfl, HS8.out.size, refO_box HS8.out (by rw [HMM.out]; omega)⟩
                · obtain ⟨y, hyy⟩ : ∃ y, (mk.op .flush).2 = y := ⟨_, rfl⟩
                  rw [hyy] at hy
                  obtain ⟨mj, h1⟩ : ∃ mj, mk.op .flush = (mj, y) := ⟨_, by rw [← hyy]⟩
                  obtain ⟨rfl, hs8, hk8⟩ := hp.eq h1 (errE_no hy)
                  have HS8 := Lib.hid hs8
                  have HX8 : Hid (SameP P w1 w8) := Lib.hid (fun b hb => (hk8 b (.inl hb)).trans (HX9.out b hb))
                  have HOP := Lib.hid h1
                  have HY := Lib.hid hy
                  have htl := HTL.out y
                  rw [errE_no hy] at htl
                  clear hp hy hs8 hk8 h1 hyy
                  go_wp2_with (go_at_call 34; refine (htl _).mono ?_; rintro e w9 ⟨rfl, rfl⟩)
                  go_ret2
                  have hO : openR m = (mj, y) := by
                    rw [openR_on HOFF.out, HBD.out, seqM_ok _ HTM2.out, if_neg HNE.out]
                    exact HOP.out
                  refine ⟨_, rfl, ?_, HX8.out⟩
                  rw [hO, HBD.out]
                  refine .inr ⟨HY.out, _, whatO, rfl, rfl, (HS8.out.sub P (fun b hb => .inl hb)).more ?_⟩
                  rw [HMM.out]
                  omega
              · have he : BD = [] := List.eq_nil_of_length_eq_zero (by rw [HMM.out]; omega)
                have HE := Lib.hid he
                have HS8 := Lib.hid (HS.out.sub P (fun b hb => .inl hb))
                clear he
                go_wp2_with fail
                go_ret2
                have hO : openR m = (mk, 0) := by
                  rw [openR_on HOFF.out, HBD.out, seqM_ok _ HTM2.out, if_pos HE.out]
                refine ⟨_, rfl, ?_, fun b hb => (HS8.out.same ((Below.refl _ _).alloc (Nat.le_refl _) _) b hb).trans (HX9.out b hb)⟩
                rw [hO, HBD.out]
                exact .inl ⟨rfl, _, rfl, HS8.out.size, refO_box HS8.out (by rw [HMM.out]; omega)⟩
    · rw [hy0, hr, show errE 10 = .iface 71 (.int .i64 10) from rfl] at hrd
      have HY0 := Lib.hid hy0
      have hie := fun W : World => is_E 10 10 (by decide) W
      rw [show errE 10 = .iface 71 (.int .i64 10) from rfl, show errV 10 = .iface 71 (.int .i64 10) from rfl, show ((10 : Int) == 10) = true from rfl] at hie
      unfold handR at hrd
      clear hr hy0
      go_enter Tryz.func13, Tryz.ntmps13
      go_wp2_with fail
      refine hlsw.mono ?_
      rintro e w2 ⟨v, rfl, hv, hb2⟩
      obtain ⟨vp, vc, rfl⟩ := hv.rd.len
      rw [HN.out] at hv ⊢
      have HV2 := Lib.hid hv.rd
      have HS2 := Lib.hid (HS1.out.bel hb2 P (fun b hb => .inl hb))
      have HM2 : Hid (SameP P w1 w2) := Lib.hid (HS1.out.same hb2)
      clear hb2 hlsw hv HS1
      go_wp2_with fail
      refine (hrd _ HS2.out).mono ?_
      rintro e w3 ⟨rfl, rfl⟩
      clear hrd
      go_wp2_with (go_at_call 41; refine (hie _).mono ?_; rintro e w4 ⟨rfl, rfl⟩)
      have HR9 : Hid (RowC w2.heap.size (([] : List ByteArray).map strV) (.slice none 0 0) w2) := Lib.hid (RowC.nil _ _)
      have HB9 : Hid (Below w2.heap.size w2 w2) := Lib.hid (Below.refl _ _)
      have hNi : (N : Int) ≤ 1000000000 := by have := HNN.out; omega
      go_wp2_with fail
      go_loopw [6, 52] (fun v iv wr => ∃ k : Nat, (k : Int) ≤ N ∧ iv = .int .i64 k ∧ Hid (RowC w2.heap.size (([] ++ (L.take k).filter fun s => !rightR m s).map strV) v wr) ∧ Hid (Below w2.heap.size w2 wr)) (fun _ iv _ => N - (intOf iv).toNat)
      case atStart => exact ⟨0, by omega, rfl, Lib.hid (by rw [List.take_zero, List.filter_nil, List.append_nil]; exact HR9.out), HB9⟩
      case round =>
        obtain ⟨k, hk, rfl, HR, HB⟩ := hrel
        by_cases hlt : (k : Int) < N
        · have hkl : k < L.length := by rw [HN.out]; omega
          obtain ⟨s, hs⟩ : ∃ s, L[k]? = some s := ⟨_, List.getElem?_eq_getElem hkl⟩
          obtain ⟨vp', vc', he, hv⟩ := HV2.out.below HB.out
          obtain ⟨vb, vo, hvp, hvl, hvc⟩ := hv k s hs
          have hpe : vp = some ⟨vb, vo, none⟩ := by cases he; exact hvp
          subst hpe
          have hss := HSH.out s (List.mem_of_getElem? hs)
          have hy := HRL.out HOFF.out s (List.mem_of_getElem? hs)
          have htk : L.take (k + 1) = L.take k ++ [s] := by rw [List.take_add_one, hs]; rfl
          have HTK := Lib.hid htk
          obtain ⟨q, cap, rfl, -⟩ := HR.out.slice
          have hql : (([] ++ (L.take k).filter fun s => !rightR m s).map strV).length ≤ 0 + k := by
            rw [List.length_map, List.length_append]
            have h1 := List.length_filter_le (fun s => !rightR m s) (L.take k)
            rw [List.length_take] at h1
            have : ([] : List ByteArray).length = 0 := rfl
            omega
          obtain ⟨K, hK⟩ : ∃ K, (([] ++ (L.take k).filter fun s => !rightR m s).map strV).length = K := ⟨_, rfl⟩
          rw [hK] at hql HR ⊢
          have HQL := Lib.hid hql
          have HK := Lib.hid hK
          have hre := fun W : World => rest_any s (show ((s.size : Nat) : Int) ≤ 140737488355328 by omega) W
          unfold lV at hre
          have hrd := fun W (hst : St w1 S P a W n m) => st_read hst s (show s.size ≤ maxLen by unfold maxLen; omega)
          obtain ⟨T, hT⟩ : ∃ T, (m.reads s).1 = T := ⟨_, rfl⟩
          rw [hT, hy, show errE 0 = .nilIface from rfl] at hrd
          have HRD := Lib.hid hrd
          have hpa := fun W : World => parse_dig T W
          have hrr : rightR m s = (restM s && (parseD T).isSome) := by unfold rightR; rw [hT]
          obtain ⟨RS, hRS⟩ : ∃ b, restM s = b := ⟨_, rfl⟩
          rw [hRS] at hre hrr
          obtain ⟨T1, hT1⟩ : ∃ T : ByteArray, (⟨(tailM s).toArray⟩ : ByteArray) = T := ⟨_, rfl⟩
          rw [hT1] at hre
          clear hs he hv hvp hvl htk hkl hql hK hrd hT hy hT1 hRS
          have HS4 := Lib.hid (HS2.out.bel HB.out P (fun b hb => .inl hb))
          have hpp : ∃ (D : List UInt8) (e : Value), parseV (parseD T) = .tuple #[.agg (D.map byteV).toArray, e] ∧ D.length = 32 ∧ (((parseD T).isSome = true ∧ e = .nilIface) ∨ ((parseD T).isSome = false ∧ e = .iface 71 (.int .i64 4))) := by
            cases hp : parseD T with
            | none => exact ⟨zeroD, _, rfl, rfl, .inr ⟨rfl, rfl⟩⟩
            | some D => exact ⟨D, _, rfl, (parseD_inv hp).2, .inl ⟨rfl, rfl⟩⟩
          obtain ⟨D, ev, hpv, -, hev⟩ := hpp
          rw [hpv] at hpa
          generalize (parseD T).isSome = PS at hev hrr
          have HRR := Lib.hid hrr
          clear hrr hpv
          rcases hev with ⟨rfl, rfl⟩ | ⟨rfl, rfl⟩ <;> cases RS
          all_goals
            have hvv : True := trivial
            go_wp2_with fail
            refine (HRD.out _ HS4.out).mono ?_
            rintro e w5 ⟨rfl, rfl⟩
            go_wp2_with (first | (go_at_call 42; refine (hpa _).mono ?_; rintro e w6 ⟨rfl, hb6⟩; have HB6 : Hid (Below w2.heap.size w2 w6) := Lib.hid (HB.out.trans (hb6.mono HB.out.size)); have HR6 := Lib.hid (HR.out.keep hb6); clear hb6) | (go_at_call 43; refine (hre _).mono ?_; rintro e w7 ⟨rfl, hb7⟩; have HB7 : Hid (Below w2.heap.size w2 w7) := Lib.hid (HB6.out.trans (hb7.mono HB6.out.size)); have HR7 := Lib.hid (HR6.out.keep hb7); clear hb7) | (at_builtin; refine wpList_appC rfl _ _ 31 rfl w2.heap.size 9 i0 (.string ⟨#[]⟩) 16 Tryz.underlying31 hi hz0 hz1 hz2 rfl _ _ rfl (HR7.out.keep ((Below.refl _ _).alloc (Nat.le_refl _) _)) (.string s) ⟨w7.heap.size, 0, none⟩ rfl (new1V w7 _ _) rfl (by rw [HK.out]; have := HQL.out; have := HNN.out; unfold maxLen; omega) (by rw [HK.out]; have := HQL.out; have := HNN.out; omega) (by rw [World.size_alloc]; have := HB7.out.size; omega) ?_; intro v1 w8 hr8 hb8; have HR8 := Lib.hid hr8; have HB8 : Hid (Below w2.heap.size w2 w8) := Lib.hid ((HB7.out.alloc (by have := HB7.out.size; omega) _).trans hb8); clear hr8 hb8))
            first
              | (have hf : [s].filter (fun s => !rightR m s) = [s] := by rw [List.filter_cons, HRR.out]; rfl
                 refine ⟨⟨k + 1, by omega, by rw [Int.natCast_add]; rfl, Lib.hid ?_, HB8⟩, by simp [intOf]; omega⟩
                 rw [HTK.out, List.filter_append, hf, ← List.append_assoc, List.map_append]
                 exact HR8.out)
              | (have hf : [s].filter (fun s => !rightR m s) = [] := by rw [List.filter_cons, HRR.out]; rfl
                 refine ⟨⟨k + 1, by omega, by rw [Int.natCast_add]; rfl, Lib.hid ?_, HB7⟩, by simp [intOf]; omega⟩
                 rw [HTK.out, List.filter_append, hf, List.append_nil]
                 exact HR7.out)
        · have hbad : ([] ++ (L.take k).filter fun s => !rightR m s) = badR m := by
            rw [List.take_of_length_le (by rw [HN.out]; omega)]
            exact (show [] ++ L.filter _ = badR m by unfold badR; rw [if_neg (by rw [HY0.out]; decide), HL.out])
          rw [hbad] at HR
          have hbl : (badR m).length ≤ 0 + N := by
            rw [← hbad, List.length_append]
            have h1 := List.length_filter_le (fun s => !rightR m s) (L.take k)
            rw [List.length_take] at h1
            have : ([] : List ByteArray).length = 0 := rfl
            have := HN.out
            omega
          have hsz : ∀ s ∈ badR m, s.size ≤ 200 := by
            rw [← hbad]
            intro s hs
            rcases List.mem_append.1 hs with hs | hs
            · cases hs
            · exact HSH.out s (List.mem_of_mem_take (List.mem_filter.1 hs).1)
          obtain ⟨BD, hBD⟩ : ∃ l, badR m = l := ⟨_, rfl⟩
          rw [hBD] at HR hbl hsz
          have HBD := Lib.hid hBD
          have HBL := Lib.hid hbl
          have HSZ := Lib.hid hsz
          have HQ : Hid (St w1 S (fun b => P b ∨ u6.ownBlock = some b) a wr n m) := Lib.hid (HS2.out.bel HB.out _ (fun b hb => hb.elim .inl (fun e => .inr (HR.out.own b e))))
          have HMQ : Hid (SameP P w1 wr) := Lib.hid (fun b hb => (HS2.out.same HB.out b hb).trans (HM2.out b hb))
          obtain ⟨q, cap, hu9, hcl⟩ := HR.out.slice
          rw [List.length_map] at hu9
          obtain ⟨M, hM⟩ : ∃ M, BD.length = M := ⟨_, rfl⟩
          rw [hM] at hu9 HBL
          have HMM := Lib.hid hM
          have HCL : Hid (∀ j s, BD[j]? = some s → ∃ g, q = some ⟨g, 0, none⟩ ∧ wr.cell? ⟨g, j, none⟩ = some (.string s)) := Lib.hid (fun j s hj => by
            obtain ⟨g, h1, -, h3⟩ := hcl j (strV s) (by rw [List.getElem?_map, hj]; rfl)
            exact ⟨g, h1, h3⟩)
          subst hu9
          clear hbad hbl hsz hBD hcl hM HR
          obtain ⟨W9, hW9⟩ : ∃ W, W = wr := ⟨_, rfl⟩
          rw [← hW9] at HQ HMQ HCL ⊢
          clear hW9
          have hMi : (M : Int) ≤ 1000000001 := by have := HNN.out; have := HBL.out; omega
          go_wp2_with fail
          go_loopw [89] (fun iv wx => ∃ (k : Nat) (mk : DM), (k : Int) ≤ M ∧ iv = .int .i64 k ∧ Hid (takesM BD m = takesM (BD.drop k) mk) ∧ Hid (St w1 S (fun b => P b ∨ (Value.slice q M cap).ownBlock = some b) a wx (n + k) mk) ∧ Hid (SameP (fun b => P b ∨ (Value.slice q M cap).ownBlock = some b) W9 wx)) (fun iv _ => M - (intOf iv).toNat)
          case atStart => exact ⟨0, m, by omega, rfl, Lib.hid rfl, HQ, Lib.hid (fun _ _ => rfl)⟩
          case round =>
            obtain ⟨k, mk, hk, rfl, HTM, HS, HX⟩ := hrel
            by_cases hlt : (k : Int) < M
            · have hkl : k < BD.length := by rw [HMM.out]; omega
              obtain ⟨s, hs⟩ : ∃ s, BD[k]? = some s := ⟨_, List.getElem?_eq_getElem hkl⟩
              obtain ⟨g, hqg, hgc⟩ := HCL.out k s hs
              have hss := HSZ.out s (List.mem_of_getElem? hs)
              have hdr : BD.drop k = s :: BD.drop (k + 1) := by
                rw [List.drop_eq_getElem_cons hkl]
                rw [List.getElem?_eq_getElem hkl] at hs
                rw [Option.some.inj hs]
              have htm : takesM BD m = seqM (mk.op (.remove s)) (takesM (BD.drop (k + 1))) := by rw [HTM.out, hdr]; rfl
              have HTM2 := Lib.hid htm
              subst hqg
              have hc9 : wr.cell? ⟨g, k, none⟩ = some (.string s) := (cell_of_heap (HX.out g (.inr rfl))).trans hgc
              have hMn : M ≤ 1 + N := by have := HBL.out; omega
              have hnn := HNN.out
              clear hs hgc hdr htm hkl
              go_wp2_with fail
              refine (st_remove HS.out s (Nat.le_trans hss (by decide)) (by omega)).mono ?_
              intro e w8 hp
              by_cases hy : (mk.op (.remove s)).2 = 0
              · obtain ⟨mj, h1⟩ : ∃ mj, mk.op (.remove s) = (mj, 0) := ⟨_, by rw [← hy]⟩
                obtain ⟨rfl, hs8, hk8⟩ := hp.eq h1 (show errE 0 = .nilIface from rfl)
                have HS8 := Lib.hid hs8
                have HX8 : Hid (SameP (fun b => P b ∨ (Value.slice (some ⟨g, 0, none⟩) M cap).ownBlock = some b) W9 w8) := Lib.hid (fun b hb => (hk8 b hb).trans (HX.out b hb))
                have HOP := Lib.hid h1
                clear hp hy hs8 hk8 h1 hc9
                go_wp2_with fail
                refine ⟨⟨k + 1, mj, by omega, by rw [Int.natCast_add]; rfl, Lib.hid ?_, HS8, HX8⟩, by simp [intOf]; omega⟩
                rw [HTM2.out, seqM_ok _ HOP.out]
              · obtain ⟨y, hyy⟩ : ∃ y, (mk.op (.remove s)).2 = y := ⟨_, rfl⟩
                rw [hyy] at hy
                obtain ⟨mj, h1⟩ : ∃ mj, mk.op (.remove s) = (mj, y) := ⟨_, by rw [← hyy]⟩
                obtain ⟨rfl, hs8, hk8⟩ := hp.eq h1 (errE_no hy)
                have HS8 := Lib.hid hs8
                have HX8 : Hid (SameP P w1 w8) := Lib.hid (fun b hb => (hk8 b (.inl hb)).trans ((HX.out b (.inl hb)).trans (HMQ.out b hb)))
                have HOP := Lib.hid h1
                have HY := Lib.hid hy
                have htl := HTL.out y
                rw [errE_no hy] at htl
                clear hp hy hs8 hk8 h1 hc9 hyy
                go_wp2_with (go_at_call 34; refine (htl _).mono ?_; rintro e w9 ⟨rfl, rfl⟩)
                go_ret2
                have hO : openR m = (mj, y) := by
                  rw [openR_on HOFF.out, HBD.out]
                  exact seqM_no _ (show takesM BD m = (mj, y) by rw [HTM2.out, seqM_no _ HOP.out HY.out]) HY.out
                refine ⟨_, rfl, ?_, HX8.out⟩
                rw [hO, HBD.out]
                refine .inr ⟨HY.out, _, whatO, rfl, rfl, (HS8.out.sub P (fun b hb => .inl hb)).more ?_⟩
                rw [HMM.out]
                omega
            · obtain rfl : k = M := by omega
              have htm : takesM BD m = (mk, 0) := by rw [HTM.out, List.drop_of_length_le (by rw [HMM.out]; exact Nat.le_refl _)]; rfl
              have HTM2 := Lib.hid htm
              have hMn : k ≤ 1 + N := by have := HBL.out; omega
              have hnn := HNN.out
              have HX9 : Hid (SameP P w1 wr) := Lib.hid (fun b hb => (HX.out b (.inl hb)).trans (HMQ.out b hb))
              clear htm
              by_cases hk0 : (0 : Int) < k
              · have hne : BD ≠ [] := fun e => by have h0 : ([] : List ByteArray).length = k := e ▸ HMM.out; have h1 : (0 : Nat) = k := h0; omega
                have HNE := Lib.hid hne
                clear hne
                go_wp2_with fail
                refine (st_flush HS.out (by omega)).mono ?_
                intro e w8 hp
                by_cases hy : (mk.op .flush).2 = 0
                · obtain ⟨mj, h1⟩ : ∃ mj, mk.op .flush = (mj, 0) := ⟨_, by rw [← hy]⟩
                  obtain ⟨rfl, hs8, hk8⟩ := hp.eq h1 (show errE 0 = .nilIface from rfl)
                  have HS8 := Lib.hid (hs8.sub P (fun b hb => .inl hb))
                  have HX8 : Hid (SameP P w1 w8) := Lib.hid (fun b hb => (hk8 b (.inl hb)).trans (HX9.out b hb))
                  have HOP := Lib.hid h1
                  clear hp hy hs8 hk8 h1
                  go_wp2_with fail
                  go_ret2
                  have hO : openR m = (mj, 0) := by
                    rw [openR_on HOFF.out, HBD.out, seqM_ok _ HTM2.out, if_neg HNE.out]
                    exact HOP.out
                  refine ⟨_, rfl, ?_, fun b hb => (HS8.out.same ((Below.refl _ _).alloc (Nat.le_refl _) _) b hb).trans (HX8.out b hb)⟩
                  rw [hO, HBD.out]
                  exact .inl ⟨rfl, _, rfl, HS8.out.size, refO_box HS8.out (by rw [HMM.out]; omega)⟩
                · obtain ⟨y, hyy⟩ : ∃ y, (mk.op .flush).2 = y := ⟨_, rfl⟩
                  rw [hyy] at hy
                  obtain ⟨mj, h1⟩ : ∃ mj, mk.op .flush = (mj, y) := ⟨_, by rw [← hyy]⟩
                  obtain ⟨rfl, hs8, hk8⟩ := hp.eq h1 (errE_no hy)
                  have HS8 := Lib.hid hs8
                  have HX8 : Hid (SameP P w1 w8) := Lib.hid (fun b hb => (hk8 b (.inl hb)).trans (HX9.out b hb))
                  have HOP := Lib.hid h1
                  have HY := Lib.hid hy
                  have htl := HTL.out y
                  rw [errE_no hy] at htl
                  clear hp hy hs8 hk8 h1 hyy
                  go_wp2_with (go_at_call 34; refine (htl _).mono ?_; rintro e w9 ⟨rfl, rfl⟩)
                  go_ret2
                  have hO : openR m = (mj, y) := by
                    rw [openR_on HOFF.out, HBD.out, seqM_ok _ HTM2.out, if_neg HNE.out]
                    exact HOP.out
                  refine ⟨_, rfl, ?_, HX8.out⟩
                  rw [hO, HBD.out]
                  refine .inr ⟨HY.out, _, whatO, rfl, rfl, (HS8.out.sub P (fun b hb => .inl hb)).more ?_⟩
                  rw [HMM.out]
                  omega
              · have he : BD = [] := List.eq_nil_of_length_eq_zero (by rw [HMM.out]; omega)
                have HE := Lib.hid he
                have HS8 := Lib.hid (HS.out.sub P (fun b hb => .inl hb))
                clear he
                go_wp2_with fail
                go_ret2
                have hO : openR m = (mk, 0) := by
                  rw [openR_on HOFF.out, HBD.out, seqM_ok _ HTM2.out, if_pos HE.out]
                refine ⟨_, rfl, ?_, fun b hb => (HS8.out.same ((Below.refl _ _).alloc (Nat.le_refl _) _) b hb).trans (HX9.out b hb)⟩
                rw [hO, HBD.out]
                exact .inl ⟨rfl, _, rfl, HS8.out.size, refO_box HS8.out (by rw [HMM.out]; omega)⟩
theorem St.under {w w1 w' : World} {S S1 Q : Nat → Prop} {a n' : Nat} {m' : DM} (h2 : ∀ b, S1 b → (S b ∨ w.heap.size ≤ b)) (h4 : Off S w w1) (h5 : ∀ b, S b → b < w.heap.size) (h : St w1 S1 Q a w' n' m') : St w S Q a w' n' m' := by
  obtain ⟨⟨S2, hd, g2⟩, g3, g4, g5⟩ := h
  have hz := h4.size
  refine ⟨⟨S2, hd, fun b hb => ⟨?_, (g2 b hb).2⟩⟩, g3, h4.trans g4 (fun i hi hs => ?_), h5⟩
  · rcases (g2 b hb).1 with h | h
    · exact h2 b h
    · exact .inr (by omega)
  · rcases h2 i hs with h | h
    · exact h
    · omega
theorem ropen_any {w w1 : World} {S P : Nat → Prop} {a n : Nat} {m : DM} (h : St w S P a w1 n m) (hn : n ≤ 1000000000) (hsh : ∀ s ∈ m.lists ⟨refHead.toArray⟩, s.size ≤ 200) :
    Calls Tryz.prog 13 #[.pointer (some ⟨a, 0, none⟩)] w1 (ROpenPost w S P a n (badR m).length w1 (openR m)) := by
  obtain ⟨⟨S1, hd, h2⟩, h3, h4, h5⟩ := h
  have hs : St w1 S1 P a w1 n m := St.start hd (fun b hb => ⟨h3 b hb, fun hs => (h2 b hs).2 hb⟩)
  refine (ropen0 hs hn hsh).mono ?_
  rintro e w' ⟨v, rfl, hr, hk⟩
  refine ⟨v, rfl, ?_, hk⟩
  rcases hr with ⟨h0, rb, h6, h7, h8⟩ | ⟨h0, u, t, h6, h7, h8⟩
  · exact .inl ⟨h0, rb, h6, h7, ⟨h8.st.under (fun b hb => (h2 b hb).1) h4 h5, h8.box, h8.pb⟩⟩
  · exact .inr ⟨h0, u, t, h6, h7, h8.under (fun b hb => (h2 b hb).1) h4 h5⟩
end Go.Proofs.YtdkedmngeahjiaaGreatDoor
/- Contract of stratalaw24.works. -/
namespace Go.Proofs.YtdkedmngeahjiaaGreatDoor
open Go Go.RowKit
/-- What was there when the law began stays. -/
theorem St.toB {w w1 : World} {P : Nat → Prop} {a n : Nat} {m : DM} (h : St w (fun _ => False) P a w1 n m) : Below w.heap.size w w1 := h.off.toBelow (fun _ hf => hf.elim) (Nat.le_refl _)
/-- A disk that was just made. -/
theorem st_new (w w1 : World) (hb : Below w.heap.size w w1) (r : Int) (h1 : -9223372036854775808 ≤ r) (h2 : r ≤ 9223372036854775807) :
    Calls Tryz.prog 12 #[.int .i64 r] w1 fun e w' => ∃ a, e = .returned (.pointer (some ⟨a, 0, none⟩)) ∧ St w (fun _ => False) (fun b => b < w1.heap.size) a w' 0 (DM.new r) ∧ Below w1.heap.size w1 w' := by
  refine (new_any w1 r h1 h2).mono ?_
  rintro e w' ⟨a, rfl, hd, hb2⟩
  have hz := hb.size
  exact ⟨a, rfl, ⟨⟨_, hd, fun b hb3 => ⟨.inr (Nat.le_trans hz hb3.1), fun h => by have := hb3.1; omega⟩⟩, fun b hb3 => Nat.lt_of_lt_of_le hb3 hb2.size, (Off.refl _ w).below (hb.trans (hb2.mono hz)) (Nat.le_refl _), fun _ hf => hf.elim⟩, hb2⟩
def x12 : List UInt8 := 1 :: 2 :: List.replicate 30 0
def aL : List UInt8 := [97, 58, 108, 97, 116, 101, 115, 116]
def wM0 : DM := DM.new 1000
def wM1 : DM := (setF wM0 [97] x12).1
def wM2 : DM := (delF wM1 [97]).1
theorem wf1 : (setF wM0 [97] x12).2 = 0 := by decide +kernel
theorem wf2 : getF wM1 aL = (x12, 0) := by decide +kernel
theorem wf3 : listR wM1 = ([(aL, textD x12)], 0) := by decide +kernel
theorem wf4 : (delF wM1 [97]).2 = 0 := by decide +kernel
theorem wf5 : getF wM2 [97] = (zeroD, 10) := by decide +kernel
theorem wf6 : ∀ s ∈ wM1.lists ⟨refHead.toArray⟩, s.size ≤ 200 := by decide +kernel
theorem wf7 : openR wM0 = (wM0, 0) := by rfl
theorem RfPost.eq {w w1 w' : World} {S P : Nat → Prop} {a n : Nat} {r : DM × Int} {m : DM} {e : Ending} (hp : RfPost w S P a n w1 r e w') (h1 : r.1 = m) (h2 : r.2 = 0) : e = .returned .nilIface ∧ St w S P a w' n m ∧ SameP P w1 w' := by
  obtain ⟨⟨t, ht⟩, h3, h4⟩ := hp
  rw [h2] at ht
  rw [h1] at h3
  exact ⟨ht, h3, h4⟩
set_option maxHeartbeats 12800000 in
set_option maxRecDepth 100000 in
theorem works24_any (w : World) (hG : ErrT w) :
    Calls Tryz.prog 11 #[] w fun e w' => e = .returned (.bool true) ∧ Below w.heap.size w w' := by
  have HG := Lib.hid hG
  clear hG
  have hI := dig_info (d := x12) rfl
  have hI2 := dig_info2 (d := x12) rfl
  have h1 := dig_one x12
  have hz := dig_size (d := x12) rfl
  have hU := dig_und
  have hIz := dig_info (d := zeroD) rfl
  have hIz2 := dig_info2 (d := zeroD) rfl
  have h1z := dig_one zeroD
  have hzz := dig_size (d := zeroD) rfl
  go_enter Tryz.func11, Tryz.ntmps11
  go_wp2_with fail
  refine (st_new w w (Below.refl _ _) 1000 (by decide) (by decide)).mono ?_
  rintro e w1 ⟨a, rfl, hst, hb1⟩
  have HST := Lib.hid hst
  clear hst hb1
  go_wp2_with fail
  refine (ropen_any HST.out (by decide) (fun s hs => by cases hs)).mono ?_
  rintro e w2 ⟨v, rfl, h, hk⟩
  rw [show openR (DM.new 1000) = (wM0, 0) from wf7] at h
  rcases h with ⟨-, rb, rfl, hsb, hrf⟩ | ⟨hne, -⟩
  case inr => exact absurd rfl hne
  have HR2 := Lib.hid hrf
  have HB2 := Lib.hid hrf.st.toB
  clear hk HST hsb hrf
  go_wp2_with fail
  refine (ropen_nil _).mono ?_
  rintro e w3 ⟨rfl, rfl⟩
  have hpl := plain_ref whatO 1 (.inr ⟨by decide, by decide⟩) 1 w2 (HG.out.below HB2.out HG.out.2)
  rw [wrapE_no whatO (show (1 : Int) ≠ 0 by decide)] at hpl ⊢
  rw [show ((1 : Int) == 1) = true from rfl] at hpl
  go_wp2_with (first | (go_at_call 10; refine hpl.mono ?_; rintro e w4 ⟨rfl, hb4⟩; have HR4 := Lib.hid (HR2.out.bel hb4); clear hb4 hpl HR2 HB2) | (refine wpList_store_new rfl _ _ _ rfl _ (x12.map byteV).toArray _ rfl rfl rfl hI2 hz h1 ?_; (obtain ⟨W5, hW5⟩ : ∃ W, w4.alloc (.cells (x12.map byteV).toArray 33) = W := ⟨_, rfl⟩; have hb5 : Below w4.heap.size w4 W5 := (by rw [← hW5]; exact (Below.refl _ _).alloc (Nat.le_refl _) _); have hx5 : W5.heap[w4.heap.size]? = some (.cells (x12.map byteV).toArray 33 (0, 0)) := (by rw [← hW5]; exact heap_new _ _); have HX5 := Lib.hid hx5; have HR5 := Lib.hid (HR4.out.more hb5 (fun b => (b < w.heap.size ∨ b = rb) ∨ b = w4.heap.size) (fun b hb => .inl hb) (fun b hb => hb.elim .inl (fun e => .inr ⟨by omega, by have := blk_lt hx5; omega⟩))); have HRG5 := Lib.hid (dig_range hx5); rw [hW5]; clear hW5 hb5 hx5 HR4)) | refine wpList_load_mid rfl _ _ rfl w4.heap.size 0 rfl (x12.map byteV) _ HRG5.out hU rfl hI ?_)
  refine (set_any HR5.out (by decide) ⟨#[97]⟩ (by decide) x12 rfl).mono ?_
  intro e w6 hp
  obtain ⟨rfl, hs6, hk6⟩ := hp.eq (m := wM1) rfl wf1
  have HR6 := Lib.hid (HR5.out.step hs6 hk6)
  have HX6 : Hid (w6.heap[w4.heap.size]? = some (.cells (x12.map byteV).toArray 33 (0, 0))) := Lib.hid ((hk6 _ (.inr rfl)).trans HX5.out)
  clear hp hs6 hk6 HRG5 HR5 HX5
  go_wp2_with fail
  refine (rget_any HR6.out ⟨aL.toArray⟩ (by decide)).mono ?_
  rintro e w7 ⟨⟨t, rfl⟩, hb7⟩
  rw [show getF wM1 (⟨aL.toArray⟩ : ByteArray).data.toList = (x12, 0) from wf2]
  rw [show wrapE t (x12, (0 : Int)).2 = .nilIface from rfl]
  have HR7 := Lib.hid (HR6.out.bel hb7)
  have HX7 : Hid (w7.heap[w4.heap.size]? = some (.cells (x12.map byteV).toArray 33 (0, 0))) := Lib.hid ((hb7.block _ (blk_lt HX6.out)).trans HX6.out)
  clear hb7 HR6 HX6
  unfold digV
  go_wp2_with (refine wpList_store_new rfl _ _ _ rfl _ (x12.map byteV).toArray _ rfl rfl rfl hI2 hz h1 ?_; (obtain ⟨W8, hW8⟩ : ∃ W, w7.alloc (.cells (x12.map byteV).toArray 33) = W := ⟨_, rfl⟩; have hb8 : Below w7.heap.size w7 W8 := (by rw [← hW8]; exact (Below.refl _ _).alloc (Nat.le_refl _) _); have hx8 : W8.heap[w7.heap.size]? = some (.cells (x12.map byteV).toArray 33 (0, 0)) := (by rw [← hW8]; exact heap_new _ _); have HX8 := Lib.hid hx8; have HY8 : Hid (W8.heap[w4.heap.size]? = some (.cells (x12.map byteV).toArray 33 (0, 0))) := Lib.hid ((hb8.block _ (blk_lt HX7.out)).trans HX7.out); have HR8 := Lib.hid (HR7.out.bel hb8); rw [hW8]; clear hW8 hb8 hx8 HR7 HX7))
  refine (rlist_any HR8.out (by decide) wf6).mono ?_
  rintro e w9 ⟨v, t2, rfl, hown, hb9⟩
  rw [wf3] at hown
  rw [show wrapE t2 (listR wM1).2 = .nilIface from by rw [wf3]; rfl]
  have HR9 := Lib.hid (HR8.out.bel hb9)
  have HX9 := Lib.hid (dig_range ((hb9.block _ (blk_lt HX8.out)).trans HX8.out))
  have HY9 := Lib.hid (dig_range ((hb9.block _ (blk_lt HY8.out)).trans HY8.out))
  obtain ⟨g, cp, rfl, hc0, hc1⟩ : ∃ g cp, v = .slice (some ⟨g, 0, none⟩) 1 cp ∧ w9.cell? ⟨g, 0, none⟩ = some (lV aL) ∧ w9.cell? ⟨g, 1, none⟩ = some (.string (textD x12)) := by
    rcases hown.2 with ⟨-, h⟩ | ⟨g, cap, cur, rfl, h2, h3, h4, h5, h6, h7⟩
    · cases h
    · have hq : ∀ j, j < 2 → cur[j]? = ([lV aL, .string (textD x12)] : List Value)[j]? := fun j hj => by
        have := congrArg (fun l : List Value => l[j]?) h7
        rw [← Array.getElem?_toList]
        simp only [List.getElem?_take] at this
        rw [if_pos (show j < ([(aL, textD x12)] : List (List UInt8 × ByteArray)).length * 2 by show j < 1 * 2; omega)] at this
        exact this
      exact ⟨g, cap, rfl, by rw [cell_of_heapN h3]; exact hq 0 (by decide), by rw [cell_of_heapN h3]; exact hq 1 (by decide)⟩
  obtain ⟨t71, ht71⟩ : ∃ t, textD x12 = t := ⟨_, rfl⟩
  have hsz : (t71.size : Int) = 71 := by rw [← ht71]; decide
  rw [ht71] at hc1
  unfold lV at hc0
  obtain ⟨aT, haT⟩ : ∃ t : ByteArray, (⟨aL.toArray⟩ : ByteArray) = t := ⟨_, rfl⟩
  have haq : (aT.toList == [97, 58, 108, 97, 116, 101, 115, 116]) = true := by rw [← haT, Lib.toList_data]; rfl
  have haq2 : aT = ⟨#[97, 58, 108, 97, 116, 101, 115, 116]⟩ := by rw [← haT]; rfl
  rw [haT] at hc0
  have hdd : (!(x12 == x12)) = false := by decide
  clear hown hb9 HR8 HX8 HY8 ht71 haT
  subst haq2
  go_wp2_with (first | refine wpList_load_midG rfl _ _ rfl w7.heap.size 0 rfl (x12.map byteV) _ HX9.out hU rfl hI ?_ | (refine wpList_load_midG rfl _ _ rfl w4.heap.size 0 rfl (x12.map byteV) _ HY9.out hU rfl hI ?_; simp only [Act.put, List.setIfInBounds_toArray, List.set_cons_succ, List.set_cons_zero]; refine wpList_neqDG rfl _ _ _ rfl (d := x12) (e := x12) rfl rfl rfl rfl ?_; simp only [Act.put, List.setIfInBounds_toArray, List.set_cons_succ, List.set_cons_zero]; rw [hdd]))
  refine (del_any HR9.out (by decide) ⟨#[97]⟩ (by decide)).mono ?_
  intro e w10 hp
  obtain ⟨rfl, hs10, hk10⟩ := hp.eq (m := wM2) rfl wf4
  have HR10 := Lib.hid (HR9.out.step hs10 hk10)
  clear hp hs10 hk10 HR9 hc0 hc1 HX9 HY9
  go_wp2_with fail
  refine (rget_any HR10.out ⟨#[97]⟩ (by decide)).mono ?_
  rintro e w11 ⟨⟨t3, rfl⟩, hb11⟩
  rw [show getF wM2 (⟨#[97]⟩ : ByteArray).data.toList = (zeroD, 10) from wf5]
  rw [show wrapE t3 (zeroD, (10 : Int)).2 = .iface 132 (.agg #[.string t3, .iface 71 (.int .i64 10)]) from rfl]
  have HR11 := Lib.hid (HR10.out.bel hb11)
  have HB11 := Lib.hid HR11.out.st.toB
  have hpl : ∀ W, Below w11.heap.size w11 W → Calls Tryz.prog 10 #[.iface 132 (.agg #[.string t3, .iface 71 (.int .i64 10)]), .int .i64 10] W fun e w' => e = .returned (.bool true) ∧ Below W.heap.size W w' := fun W hb => plain_ref t3 10 (.inr ⟨by decide, by decide⟩) 10 W ((HG.out.below HB11.out HG.out.2).below hb (Nat.lt_of_lt_of_le HG.out.2 HB11.out.size))
  unfold digV
  clear hb11 HR10
  go_wp2_with (first | (refine wpList_store_new rfl _ _ _ rfl _ (zeroD.map byteV).toArray _ rfl rfl rfl hIz2 hzz h1z ?_; (obtain ⟨W12, hW12⟩ : ∃ W, w11.alloc (.cells (zeroD.map byteV).toArray 33) = W := ⟨_, rfl⟩; have hb12 : Below w11.heap.size w11 W12 := (by rw [← hW12]; exact (Below.refl _ _).alloc (Nat.le_refl _) _); have HB12 := Lib.hid hb12; rw [hW12]; clear hW12 hb12)) | (go_at_call 10; refine (hpl _ HB12.out).mono ?_; rintro e w13 ⟨rfl, hb13⟩; have HB13 := Lib.hid ((HB11.out.trans (HB12.out.mono HB11.out.size)).trans (hb13.mono (Nat.le_trans HB11.out.size HB12.out.size))); clear hb13))
  go_ret
  exact ⟨rfl, HB13.out⟩
end Go.Proofs.YtdkedmngeahjiaaGreatDoor
/- The walk of stratalaw24.RefsAlone. -/
namespace Go.Proofs.YtdkedmngeahjiaaGreatDoor
open Go Go.Maps Go.RowKit
theorem Rf.swap {w w1 w2 : World} {S P : Nat → Prop} {rb a n : Nat} {m : DM} (h : Rf w S P rb a w1 n m) (hb : Below w1.heap.size w1 w2) (Q : Nat → Prop) (hrb : Q rb) (hQ : ∀ b, Q b → P b ∨ (w1.heap.size ≤ b ∧ b < w2.heap.size)) : Rf w S Q rb a w2 n m :=
  ⟨h.st.bel hb Q hQ, (h.st.same hb rb h.pb).trans h.box, hrb⟩
theorem st_used {w w1 : World} {S P : Nat → Prop} {a n : Nat} {m : DM} (h : St w S P a w1 n m) (hn : n ≤ 4000000000) : Calls Tryz.prog 14 #[.pointer (some ⟨a, 0, none⟩)] w1 fun e w' => e = .returned (.int .i64 m.used) ∧ Below w1.heap.size w1 w' := by
  obtain ⟨⟨S1, hd, -⟩, -⟩ := h
  exact used_any hd (room_fit hd.ok hn)
/-- What is known while RefsAlone sets a name. -/
structure AlnW (w : World) (P : Nat → Prop) (a n' : Nat) (m' : DM) (W1 : World) (L : Nat → Bool) (_ : ByteArray) (W : World) : Prop where
  lo : L 6 = false → Below W1.heap.size W1 W
  hi : L 6 = true → St w (fun _ => False) P a W n' m' ∧ SameP P W1 W
  dep : L 6 = true → L 0 = true ∧ L 4 = true ∧ L 5 = true
  d4 : L 4 = true → L 3 = true
  d3 : L 3 = true → L 1 = true ∧ L 2 = true
  d7 : L 7 = true → L 6 = true
section
variable {w : World} {P : Nat → Prop} {a n' : Nat} {m' : DM} {W1 W W' : World} {L : Nat → Bool} {γ γ' : ByteArray}
theorem keepL {i k : Nat} (h : L k = true) : updL L i k = true := updL_keep h
theorem AlnW.early {i : Nat} (h : AlnW w P a n' m' W1 L γ W) (hi : i < 3 ∨ i = 5) : AlnW w P a n' m' W1 (updL L i) γ W := by
  have e : ∀ k, k ≠ i → updL L i k = L k := fun k hk => updL_ne hk
  have e6 := e 6 (by omega)
  have e4 := e 4 (by omega)
  have e3 := e 3 (by omega)
  have e7 := e 7 (by omega)
  refine ⟨fun x => h.lo (e6 ▸ x), fun x => h.hi (e6 ▸ x), fun x => ?_, fun x => ?_, fun x => ?_, fun x => ?_⟩
  · obtain ⟨h1, h2, h3⟩ := h.dep (e6 ▸ x)
    exact ⟨keepL h1, keepL h2, keepL h3⟩
  · exact keepL (h.d4 (e4 ▸ x))
  · obtain ⟨h1, h2⟩ := h.d3 (e3 ▸ x)
    exact ⟨keepL h1, keepL h2⟩
  · exact keepL (h.d7 (e7 ▸ x))
theorem AlnW.three (h : AlnW w P a n' m' W1 L γ W) (h1 : L 1 = true) (h2 : L 2 = true) : AlnW w P a n' m' W1 (updL L 3) γ W := by
  have e6 : updL L 3 6 = L 6 := updL_ne (by decide)
  have e7 : updL L 3 7 = L 7 := updL_ne (by decide)
  refine ⟨fun x => h.lo (e6 ▸ x), fun x => h.hi (e6 ▸ x), fun x => ?_, fun x => updL_self, fun x => ⟨keepL h1, keepL h2⟩, fun x => keepL (h.d7 (e7 ▸ x))⟩
  obtain ⟨a1, a2, a3⟩ := h.dep (e6 ▸ x)
  exact ⟨keepL a1, keepL a2, keepL a3⟩
theorem AlnW.four (h : AlnW w P a n' m' W1 L γ W) (h3 : L 3 = true) : AlnW w P a n' m' W1 (updL L 4) γ W := by
  have e6 : updL L 4 6 = L 6 := updL_ne (by decide)
  have e7 : updL L 4 7 = L 7 := updL_ne (by decide)
  have e3 : updL L 4 3 = L 3 := updL_ne (by decide)
  refine ⟨fun x => h.lo (e6 ▸ x), fun x => h.hi (e6 ▸ x), fun x => ?_, fun x => keepL h3, fun x => ?_, fun x => keepL (h.d7 (e7 ▸ x))⟩
  · obtain ⟨a1, a2, a3⟩ := h.dep (e6 ▸ x)
    exact ⟨keepL a1, keepL a2, keepL a3⟩
  · obtain ⟨a1, a2⟩ := h.d3 (e3 ▸ x)
    exact ⟨keepL a1, keepL a2⟩
theorem AlnW.did (h : AlnW w P a n' m' W1 L γ W) (h0 : L 0 = true) (h4 : L 4 = true) (h5 : L 5 = true) (hs : St w (fun _ => False) P a W' n' m') (hk : SameP P W1 W') : AlnW w P a n' m' W1 (updL L 6) γ' W' := by
  have e4 : updL L 6 4 = L 4 := updL_ne (by decide)
  have e3 : updL L 6 3 = L 3 := updL_ne (by decide)
  refine ⟨fun e => (by rw [updL_self] at e; cases e), fun _ => ⟨hs, hk⟩, fun _ => ⟨keepL h0, keepL h4, keepL h5⟩, fun x => keepL (h.d4 (e4 ▸ x)), fun x => ?_, fun _ => updL_self⟩
  obtain ⟨a1, a2⟩ := h.d3 (e3 ▸ x)
  exact ⟨keepL a1, keepL a2⟩
theorem AlnW.end' (h : AlnW w P a n' m' W1 L γ W) (h6 : L 6 = true) : AlnW w P a n' m' W1 (updL L 7) γ W := by
  have e : ∀ k, k ≠ 7 → updL L 7 k = L k := fun k hk => updL_ne hk
  refine ⟨fun x => h.lo ((e 6 (by decide)) ▸ x), fun x => h.hi ((e 6 (by decide)) ▸ x), fun x => ?_, fun x => keepL (h.d4 ((e 4 (by decide)) ▸ x)), fun x => ?_, fun _ => keepL h6⟩
  · obtain ⟨a1, a2, a3⟩ := h.dep ((e 6 (by decide)) ▸ x)
    exact ⟨keepL a1, keepL a2, keepL a3⟩
  · obtain ⟨a1, a2⟩ := h.d3 ((e 3 (by decide)) ▸ x)
    exact ⟨keepL a1, keepL a2⟩
theorem AlnW.no {k : Nat} (h : AlnW w P a n' m' W1 L γ W) (hk : L k = false) (h3 : k = 0 ∨ k = 3 ∨ k = 4 ∨ k = 5 ∨ k = 6) : L 6 = false := by
  cases e : L 6 with
  | false => rfl
  | true =>
    obtain ⟨a1, a2, a3⟩ := h.dep e
    rcases h3 with rfl | rfl | rfl | rfl | rfl
    · rw [hk] at a1; cases a1
    · have := h.d4 a2; rw [hk] at this; cases this
    · rw [hk] at a2; cases a2
    · rw [hk] at a3; cases a3
    · rw [hk] at e; cases e
end
set_option maxHeartbeats 25600000 in
set_option maxRecDepth 100000 in
theorem alone_any (w : World) (hG : ErrT w) (p : Option Addr) (cap : Nat) (L : List ByteArray) (hT : TextsRd w (.slice p L.length cap) L) (hL : L.length ≤ 8800000000000) (hLs : ∀ s ∈ L, s.size ≤ 140737488351232) (D : List UInt8) (hD : D.length = 32) :
    Calls Tryz.prog 4 #[.slice p L.length cap, digV D] w fun e w' => e = .returned (.bool true) ∧ Below w.heap.size w w' := by
  have HG := Lib.hid hG
  have HTT := Lib.hid hT
  have HLS := Lib.hid hLs
  have HDL := Lib.hid hD
  have hI := dig_info hD
  have hU := dig_und
  obtain ⟨N, hN⟩ : ∃ N, L.length = N := ⟨_, rfl⟩
  have HN := Lib.hid hN
  rw [hN] at hL HTT ⊢
  have hmm := @run_makeMap Tryz.prog
  obtain ⟨W0, hW0⟩ : ∃ W, w.alloc (.cells (D.map byteV).toArray 33) = W := ⟨_, rfl⟩
  have hb0 : Below w.heap.size w W0 := by rw [← hW0]; exact (Below.refl _ _).alloc (Nat.le_refl _) _
  have hx0 : W0.heap[w.heap.size]? = some (.cells (D.map byteV).toArray 33 (0, 0)) := by rw [← hW0]; exact heap_new _ _
  have HB0 := Lib.hid hb0
  have HX0 := Lib.hid hx0
  have HZ0 : Hid (W0.heap.size = w.heap.size + 1) := Lib.hid (by rw [← hW0, World.size_alloc])
  unfold digV
  clear hG hT hLs hD hN hb0 hx0
  go_enter Tryz.func4, Tryz.ntmps4
  go_wp2_with fail
  go_loopw [5, 6] (fun nv iv wr => ∃ (i c : Nat), (i : Int) ≤ N ∧ iv = .int .i64 i ∧ nv = .int .i64 c ∧ (c : Int) ≤ 140737488551232 ∧ wr.heap = W0.heap ∧ Hid (Below w.heap.size w wr)) (fun _ iv _ => N - (intOf iv).toNat)
  case atStart => exact ⟨0, 0, by omega, rfl, rfl, by omega, rfl, HB0⟩
  case round =>
    obtain ⟨i, c, hi, rfl, rfl, hc, hh, HB⟩ := hrel
    have HH := Lib.hid hh
    clear hh
    by_cases hgo : (i : Int) < N ∧ (c : Int) ≤ 65536
    · obtain ⟨hlt, hc6⟩ := hgo
      have hil : i < L.length := by rw [HN.out]; omega
      obtain ⟨s, hs⟩ : ∃ s, L[i]? = some s := ⟨_, List.getElem?_eq_getElem hil⟩
      have hss := HLS.out s (List.mem_of_getElem? hs)
      obtain ⟨p', cap', he, hv⟩ := HTT.out
      obtain ⟨vb, vo, hvp, hvl, hvc⟩ := hv i s hs
      have hpe : p = some ⟨vb, vo, none⟩ := by cases he; exact hvp
      subst hpe
      have hc0 : wr.cell? ⟨vb, vo + i, none⟩ = some (.string s) := (HB.out.cell (p := ⟨vb, vo + i, none⟩) hvl).trans hvc
      have hsi : (s.size : Int) ≤ 140737488351232 := by omega
      clear hil hs he hv hvp hvl hvc
      go_wp2_with fail
      exact ⟨⟨i + 1, c + s.size, by omega, by rw [Int.natCast_add]; rfl, by rw [Int.natCast_add], by omega, HH.out, Lib.hid ⟨HB.out.os, HB.out.tape, HB.out.output, HB.out.size, HB.out.block⟩⟩, by simp [intOf]; omega⟩
    · by_cases hbad : (N : Int) > 60 ∨ (c : Int) > 65536
      · rcases (show (N : Int) ≤ i ∨ ((i : Int) < N ∧ 65536 < (c : Int)) by omega) with h1 | ⟨h1, h2⟩ <;> rcases (show 60 < (N : Int) ∨ ((N : Int) ≤ 60 ∧ 65536 < (c : Int)) by omega) with h3 | ⟨h3, h4⟩
        all_goals
          go_wp2_with fail
          go_ret
          exact ⟨rfl, HB.out⟩
      · have h1 : (N : Int) ≤ 60 := by omega
        have h2 : (c : Int) ≤ 65536 := by omega
        have h3 : (N : Int) ≤ i := by omega
        obtain ⟨WB, hWB⟩ : ∃ W, W = wr := ⟨_, rfl⟩
        have HWZ : Hid (WB.heap.size = w.heap.size + 1) := Lib.hid (by rw [hWB, HH.out]; exact HZ0.out)
        have HXB : Hid (WB.heap[w.heap.size]? = some (.cells (D.map byteV).toArray 33 (0, 0))) := Lib.hid (by rw [hWB, HH.out]; exact HX0.out)
        rw [← hWB] at HB ⊢
        clear hgo hbad hWB
        go_wp2_with fail
        refine (st_new w WB HB.out 213 (by decide) (by decide)).mono ?_
        rintro e w1 ⟨a, rfl, hst, hb1⟩
        have HST := Lib.hid hst
        have HX1 : Hid (w1.heap[w.heap.size]? = some (.cells (D.map byteV).toArray 33 (0, 0))) := Lib.hid ((hb1.block _ (by rw [HWZ.out]; omega)).trans HXB.out)
        clear hst hb1
        go_wp2_with fail
        refine (ropen_any HST.out (by decide) (fun s hs => by cases hs)).mono ?_
        rintro e w2 ⟨v, rfl, h, hk⟩
        rw [show openR (DM.new 213) = (DM.new 213, 0) from rfl] at h
        rcases h with ⟨-, rb, rfl, hsb, hrf⟩ | ⟨hne, -⟩
        case inr => exact absurd rfl hne
        have HR2 := Lib.hid hrf
        have HX2 : Hid (w2.heap[w.heap.size]? = some (.cells (D.map byteV).toArray 33 (0, 0))) := Lib.hid ((hk _ (by rw [HWZ.out]; omega)).trans HX1.out)
        clear hk hsb hrf HST HX1
        go_wp2_with fail
        obtain ⟨q0, hq0⟩ : ∃ q, w2.heap.size = q := ⟨_, rfl⟩
        obtain ⟨W3, hW3⟩ : ∃ W, w2.alloc (.map #[] 0) = W := ⟨_, rfl⟩
        have hb3 : Below w2.heap.size w2 W3 := by rw [← hW3]; exact (Below.refl _ _).alloc (Nat.le_refl _) _
        have HR3 : Hid (Rf w (fun _ => False) (fun b => (b < WB.heap.size ∨ b = rb) ∨ b = q0) rb a W3 (0 + 0 + 1) (DM.new 213)) := Lib.hid (HR2.out.swap hb3 _ (.inl (.inr rfl)) (fun b hb => hb.elim .inl (fun e => .inr ⟨by omega, by rw [← hW3, World.size_alloc]; omega⟩)))
        have HX3 : Hid (W3.heap[w.heap.size]? = some (.cells (D.map byteV).toArray 33 (0, 0))) := Lib.hid ((hb3.block _ (blk_lt HX2.out)).trans HX2.out)
        have HL3 : Hid (LedAt W3 q0 []) := Lib.hid (by rw [← hq0, ← hW3]; exact World.ownsMap_made w2 _ _ _)
        rw [hq0, hW3]
        clear hb3 hq0 hW3 HR2 HX2
        go_loopw [10, 11] (fun mv iv wr => ∃ (i q n : Nat) (m : DM) (l : Tab), (i : Int) ≤ N ∧ iv = .int .i64 i ∧ mv = .map (some q) ∧ n ≤ 1 + 7 * i ∧ Hid (Rf w (fun _ => False) (fun b => (b < WB.heap.size ∨ b = rb) ∨ b = q) rb a wr n m) ∧ Hid (wr.heap[w.heap.size]? = some (.cells (D.map byteV).toArray 33 (0, 0))) ∧ Hid (LedAt wr q l) ∧ Hid (Only m l ∧ m.room = 213) ∧ l.length ≤ 3) (fun _ iv _ => N - (intOf iv).toNat)
        case atStart => exact ⟨0, q0, 1, DM.new 213, [], by omega, rfl, rfl, by omega, HR3, HX3, HL3, Lib.hid ⟨only_new 213, rfl⟩, by show 0 ≤ 3; omega⟩
        case round =>
          obtain ⟨i, q, n, m, l, hi2, rfl, rfl, hn, HR, HX, HL, HO, hl3⟩ := hrel
          by_cases hlt : (i : Int) < N
          · have hil : i < L.length := by rw [HN.out]; omega
            obtain ⟨s, hs⟩ : ∃ s, L[i]? = some s := ⟨_, List.getElem?_eq_getElem hil⟩
            have hss := HLS.out s (List.mem_of_getElem? hs)
            obtain ⟨p', cap', he, hv⟩ := HTT.out
            obtain ⟨vb, vo, hvp, hvl, hvc⟩ := hv i s hs
            have hpe : p = some ⟨vb, vo, none⟩ := by cases he; exact hvp
            subst hpe
            have HVC : Hid (∀ W, Below w.heap.size w W → W.cell? ⟨vb, vo + i, none⟩ = some (.string s)) := Lib.hid (fun W hb => (hb.cell (p := ⟨vb, vo + i, none⟩) hvl).trans hvc)
            have hc0 := HVC.out wr HR.out.st.toB
            have hsi : (s.size : Int) ≤ 140737488351232 := by omega
            have hfu := fun W : World => full_any s (by omega) W
            unfold fullV lV at hfu
            have hff := fun u h => full_full (s := s.data.toList) (u := u) h
            clear hil hs he hv hvp hvl hvc
            cases hf : fullM s.data.toList with
            | none =>
              rw [hf] at hfu
              have hfu2 : ∀ W : World, Calls Tryz.prog 9 #[.string s] W fun e w' => e = .returned (.tuple #[.string ⟨#[]⟩, .iface 132 (.agg #[.string whatF, .iface 71 (.int .i64 31)])]) ∧ Below W.heap.size W w' := hfu
              clear hfu hf hff
              go_wp2_with (go_at_call 9; refine (hfu2 _).mono ?_; rintro e w4 ⟨rfl, hb4⟩; have HR4 := Lib.hid (HR.out.bel hb4); have HX4 : Hid (w4.heap[w.heap.size]? = some (.cells (D.map byteV).toArray 33 (0, 0))) := Lib.hid ((hb4.block _ (blk_lt HX.out)).trans HX.out); have HL4 := Lib.hid (HL.out.below hb4); clear hb4)
              exact ⟨⟨i + 1, q, n, m, l, by omega, by rw [Int.natCast_add]; rfl, rfl, by omega, HR4, HX4, HL4, HO, hl3⟩, by simp [intOf]; omega⟩
            | some u =>
              rw [hf] at hfu
              obtain ⟨huu, hul, -⟩ := hff u hf
              have hset : setF m s.data.toList D = setM m (refN u) (textD D) := by unfold setF; rw [hf]
              have HSET := Lib.hid hset
              have hfu2 : ∀ W : World, Calls Tryz.prog 9 #[.string s] W fun e w' => e = .returned (.tuple #[.string ⟨u.toArray⟩, .nilIface]) ∧ Below W.heap.size W w' := hfu
              have HKD : Hid ((⟨u.toArray⟩ : ByteArray).data.toList = u ∧ (⟨u.toArray⟩ : ByteArray).size ≤ maxLen) := Lib.hid ⟨rfl, by show u.length ≤ maxLen; unfold maxLen; omega⟩
              obtain ⟨U, hU⟩ : ∃ x : ByteArray, (⟨u.toArray⟩ : ByteArray) = x := ⟨_, rfl⟩
              rw [hU] at hfu2 HKD
              have hsr := HO.out.1.set huu HDL.out
              rw [HO.out.2] at hsr
              have HSR := Lib.hid hsr
              have HUS := Lib.hid HO.out.1.used
              clear hfu hf hff huu hul hset hU hsr
              obtain ⟨us, hus⟩ : ∃ u : Nat, m.used = u := ⟨_, rfl⟩
              have HUU := Lib.hid hus
              have husd := fun (W : World) (h : Rf w (fun _ => False) (fun b => (b < WB.heap.size ∨ b = rb) ∨ b = q) rb a W n m) => st_used h.st (by omega)
              rw [hus] at husd
              have HUSD := Lib.hid husd
              clear hus husd
              have husb : (us : Int) ≤ 1000 := by have h1 := HUU.out; have h2 := HUS.out; omega
              go_wp2_with (go_at_call 9; refine (hfu2 _).mono ?_; rintro e w4 ⟨rfl, hb4⟩; have HR4 := Lib.hid (HR.out.bel hb4); have HX4 : Hid (w4.heap[w.heap.size]? = some (.cells (D.map byteV).toArray 33 (0, 0))) := Lib.hid ((hb4.block _ (blk_lt HX.out)).trans HX.out); have HL4 := Lib.hid (HL.out.below hb4); clear hb4 hc0)
              refine (HUSD.out _ HR4.out).mono ?_
              rintro e w5 ⟨rfl, hb5⟩
              have HR5 := Lib.hid (HR4.out.bel hb5)
              have HX5 : Hid (w5.heap[w.heap.size]? = some (.cells (D.map byteV).toArray 33 (0, 0))) := Lib.hid ((hb5.block _ (blk_lt HX4.out)).trans HX4.out)
              have HL5 := Lib.hid (HL4.out.below hb5)
              clear hb5 HR4 HX4 HL4 HR HX HL
              go_wp2_with fail
              rcases HSR.out with ⟨hlf, m', hsm, hroom, hon⟩ | ⟨hlf, m', hsm, hroom, hon⟩
              · have HSM := Lib.hid hsm
                have HON := Lib.hid hon
                have HRM := Lib.hid hroom
                have HI0 : AlnW w (fun b => (b < WB.heap.size ∨ b = rb) ∨ b = q) a (n + 7) m' w5 (fun _ => false) (⟨#[]⟩ : ByteArray) w5.drew := ⟨fun _ => ⟨rfl, rfl, rfl, Nat.le_refl _, fun _ _ => rfl⟩, fun h => (by cases h), fun h => (by cases h), fun h => (by cases h), fun h => (by cases h), fun h => (by cases h)⟩
                clear hsm hon hroom
                refine wp_region_flowG (fun γ : ByteArray => [.pointer (some ⟨rb, 0, none⟩), .slice (some ⟨vb, vo, none⟩) N cap, .int .i64 i, .pointer (some ⟨vb, vo + i, none⟩), .string s, .agg (D.map byteV).toArray, .iface 132 (.agg #[.string γ, .iface 71 (.int .i64 28)]), .iface 132 (.agg #[.string γ, .iface 71 (.int .i64 28)])]) (AlnW w (fun b => (b < WB.heap.size ∨ b = rb) ∨ b = q) a (n + 7) m' w5)
                  [[], [], [], [1, 2], [3], [], [0, 4, 5], [6, 6, 0, 1, 2, 3, 4, 5, 6]] 126 (⟨#[]⟩ : ByteArray) mixedD rfl (by kernel_rfl) (fun _ => rfl) HI0 ?_ ?_
                · refine ⟨?_, ?_, ?_, ?_, ?_, ?_, ?_, ?_, rfl⟩
                  all_goals intro L' γ W ev hL hd hW hc hf hg he h0
                  · have e8 : ev (.tmp 8) = .pointer (some ⟨rb, 0, none⟩) := h0 8 rfl
                    clear he h0 hc hf hg
                    exact .inl ⟨rfl, .inl ⟨_, W, (by go_simp <;> rfl), .still (hW.early (.inl (by decide))) rfl⟩⟩
                  · have e0 : ev (.tmp 0) = .slice (some ⟨vb, vo, none⟩) N cap := h0 0 rfl
                    clear he h0 hc hf hg
                    exact .inl ⟨rfl, .inl ⟨_, W, (by go_simp <;> rfl), .still (hW.early (.inl (by decide))) rfl⟩⟩
                  · have e11 : ev (.tmp 11) = .int .i64 i := h0 11 rfl
                    clear he h0 hc hf hg
                    exact .inl ⟨rfl, .inl ⟨_, W, (by go_simp <;> rfl), .still (hW.early (.inl (by decide))) rfl⟩⟩
                  · have e74 : ev (.tmp 74) = .slice (some ⟨vb, vo, none⟩) N cap := he 1 (by decide) _ 74 rfl rfl
                    have e75 : ev (.tmp 75) = .int .i64 i := he 2 (by decide) _ 75 rfl rfl
                    have hb1 : (i : Int) < (N : Int) := hlt
                    clear he h0 hc hf hg
                    exact .inl ⟨rfl, .inl ⟨_, W, (by go_simp <;> rfl), .still (hW.three (hd 1 (by decide)) (hd 2 (by decide))) rfl⟩⟩
                  · have e76 : ev (.tmp 76) = .pointer (some ⟨vb, vo + i, none⟩) := he 3 (by decide) _ 76 rfl rfl
                    have cc : W.cell? ⟨vb, vo + i, none⟩ = some (.string s) := HVC.out W (HR5.out.bel (hW.lo (hW.no hL (by decide)))).st.toB
                    clear he h0 hc hf hg
                    exact .inl ⟨rfl, .inl ⟨_, W, (by go_simp <;> rfl), .still (hW.four (hd 3 (by decide))) rfl⟩⟩
                  · have e3 : ev (.tmp 3) = .pointer (some ⟨w.heap.size, 0, none⟩) := h0 3 rfl
                    clear he h0 hc hg
                    have hB := hW.lo (hW.no hL (by decide))
                    have hlv := run_loadVar_row (P := Tryz.prog) W w.heap.size 33 33 (D.map byteV).toArray (0, 0) _ ((hB.block _ (blk_lt HX5.out)).trans HX5.out) dig_und rfl (dig_info2 HDL.out)
                    refine .inl ⟨rfl, .inl ⟨_, W, ?_, .still (hW.early (.inr rfl)) rfl⟩⟩
                    unfold execOp
                    simp only [e3, Instr.loadAt, Instr.sureAddr, Sem.run_bind, Sem.run_pure, Result.andThen_ok, hlv]
                    try rfl
                  · have e73 : ev (.tmp 73) = .pointer (some ⟨rb, 0, none⟩) := he 0 (by decide) _ 73 rfl rfl
                    have e77 : ev (.tmp 77) = .string s := he 4 (by decide) _ 77 rfl rfl
                    have e78 : ev (.tmp 78) = .agg (D.map byteV).toArray := he 5 (by decide) _ 78 rfl rfl
                    clear he h0 hc hg
                    have hB := hW.lo hL
                    have hr := HR5.out.bel hB
                    refine .inl ⟨rfl, .inr (.inr ⟨15, #[.pointer (some ⟨rb, 0, none⟩), .string s, .agg (D.map byteV).toArray], W, (by have hff := hf 15; clear hf; go_simp <;> rfl), ?_⟩)⟩
                    refine (set_any hr (by omega) s (by omega) D HDL.out).mono ?_
                    rintro e w' ⟨⟨t, rfl⟩, h2, h3⟩
                    rw [HSET.out, HSM.out] at h2
                    rw [HSET.out, HSM.out]
                    have h7 : L' 7 = false := by
                      cases e7 : L' 7 with
                      | false => rfl
                      | true => have := hW.d7 e7; rw [hL] at this; cases this
                    exact ⟨_, rfl, t, hW.did (hd 0 (by decide)) (hd 4 (by decide)) (hd 5 (by decide)) h2 (fun b hb => (h3 b hb).trans (HR5.out.st.same hB b hb)), rfl, fun j hj => by
                      match j, hj with
                      | 0, _ => rfl
                      | 1, _ => rfl
                      | 2, _ => rfl
                      | 3, _ => rfl
                      | 4, _ => rfl
                      | 5, _ => rfl
                      | 6, hj => exact absurd hj (by rw [hL]; decide)
                      | 7, hj => exact absurd hj (by rw [h7]; decide)
                      | j + 8, _ => rfl⟩
                  · have e79 : ev (.tmp 79) = .iface 132 (.agg #[.string γ, .iface 71 (.int .i64 28)]) := he 6 (by decide) _ 79 rfl rfl
                    clear he h0 hc hf hg
                    exact .inl ⟨rfl, .inl ⟨_, W, (by go_simp <;> rfl), .still (hW.end' (hd 6 (by decide))) rfl⟩⟩
                intro γ L' w6 hLL hW
                obtain ⟨hst6, hsm6⟩ := hW.hi (hLL 6 (by decide))
                have HR6 := Lib.hid (HR5.out.step hst6 hsm6)
                have HX6 : Hid (w6.heap[w.heap.size]? = some (.cells (D.map byteV).toArray 33 (0, 0))) := Lib.hid ((hsm6 _ (.inl (.inl (by rw [HWZ.out]; omega)))).trans HX5.out)
                have HL6 : Hid (LedAt w6 q l) := Lib.hid (HL5.out.keep (hsm6 _ (.inr rfl)))
                clear hLL hW hst6 hsm6 HI0 HR5 HX5 HL5
                simp only [putAll, Act.put, List.setIfInBounds_toArray, List.set_cons_succ, List.set_cons_zero]
                have hl : l.length = 3 := by omega
                have hli : ((l.length : Nat) : Int) = 3 := by omega
                have HB6 := Lib.hid HR6.out.st.toB
                have HPL : Hid (∀ W, Below w6.heap.size w6 W → Calls Tryz.prog 10 #[.iface 132 (.agg #[.string γ, .iface 71 (.int .i64 28)]), .int .i64 28] W fun e w' => e = .returned (.bool true) ∧ Below W.heap.size W w') := Lib.hid (fun W hb => plain_ref γ 28 (.inr ⟨by decide, by decide⟩) 28 W ((HG.out.below HB6.out HG.out.2).below hb (Nat.lt_of_lt_of_le HG.out.2 HB6.out.size)))
                have hus' : m'.used = us := by rw [HON.out.used, ← HUU.out, HUS.out]
                have HUSE : Hid (∀ W, Rf w (fun _ => False) (fun b => (b < WB.heap.size ∨ b = rb) ∨ b = q) rb a W (n + 7) m' → Calls Tryz.prog 14 #[.pointer (some ⟨a, 0, none⟩)] W fun e w' => e = .returned (.int .i64 (us : Int)) ∧ Below W.heap.size W w') := Lib.hid (fun W h => by rw [← hus']; exact st_used h.st (by omega))
                have HTMP := Lib.hid HON.out.tmp
                have HLI : Hid (∀ x ∈ m'.lists ⟨refHead.toArray⟩, x.size ≤ 200) := Lib.hid (fun x hx => by
                  rw [HON.out.lists] at hx
                  obtain ⟨y, hy, rfl⟩ := List.mem_map.1 hx
                  rw [refN_size]
                  have := HON.out.named.key y hy
                  omega)
                have hlen := hl3
                clear hus' hl
                go_wp2_with (first | (at_len; refine wpList_len_led rfl _ rfl q l rfl HL6.out ?_; rw [hli]) | (go_at_call 10; refine (HPL.out _ (Below.refl _ _)).mono ?_; rintro e w7 ⟨rfl, hb7⟩; have HR7 := Lib.hid (HR6.out.bel hb7); have HX7 : Hid (w7.heap[w.heap.size]? = some (.cells (D.map byteV).toArray 33 (0, 0))) := Lib.hid ((hb7.block _ (blk_lt HX6.out)).trans HX6.out); have HL7 := Lib.hid (HL6.out.below hb7); clear hb7) | (go_at_call 14; refine (HUSE.out _ HR7.out).mono ?_; rintro e w8 ⟨rfl, hb8⟩; have HR8 := Lib.hid (HR7.out.bel hb8); have HX8 : Hid (w8.heap[w.heap.size]? = some (.cells (D.map byteV).toArray 33 (0, 0))) := Lib.hid ((hb8.block _ (blk_lt HX7.out)).trans HX7.out); have HL8 := Lib.hid (HL7.out.below hb8); clear hb8))
                refine (st_list HR8.out.st ⟨#[116, 109, 112, 47]⟩ (by omega)).mono ?_
                rintro e w9 ⟨v, rfl, hv, hb9⟩
                rw [HTMP.out] at hv
                rw [show errE (if m'.off = true then (27 : Int) else 0) = .nilIface from by rw [HON.out.calm.1]; rfl]
                obtain ⟨vp, vc, rfl⟩ := hv.rd.len
                have HR9 := Lib.hid (HR8.out.bel hb9)
                have HX9 : Hid (w9.heap[w.heap.size]? = some (.cells (D.map byteV).toArray 33 (0, 0))) := Lib.hid ((hb9.block _ (blk_lt HX8.out)).trans HX8.out)
                have HL9 := Lib.hid (HL8.out.below hb9)
                have hho := holds_any HR9.out (by omega) (fun x hx => HLI.out x hx) HON.out.named (by omega) q HL9.out (by omega) HON.out.code
                rw [decide_eq_true rfl] at hho
                have HHO := Lib.hid hho
                rw [show ([] : List ByteArray).length = 0 from rfl]
                clear hv hb9 HR8 HX8 HL8 hho
                go_wp2_with (go_at_call 18; refine HHO.out.mono ?_; rintro e w10 ⟨rfl, hb10⟩; have HR10 := Lib.hid (HR9.out.bel hb10); have HX10 : Hid (w10.heap[w.heap.size]? = some (.cells (D.map byteV).toArray 33 (0, 0))) := Lib.hid ((hb10.block _ (blk_lt HX9.out)).trans HX9.out); have HL10 := Lib.hid (HL9.out.below hb10); clear hb10)
                exact ⟨⟨i + 1, q, n + 7, m', l, by omega, by rw [Int.natCast_add]; rfl, rfl, by omega, HR10, HX10, HL10, Lib.hid ⟨HON.out, HRM.out⟩, hlen⟩, by simp [intOf]; omega⟩
              · have HSM := Lib.hid hsm
                have HON := Lib.hid hon
                have HRM := Lib.hid hroom
                have HI0 : AlnW w (fun b => (b < WB.heap.size ∨ b = rb) ∨ b = q) a (n + 7) m' w5 (fun _ => false) (⟨#[]⟩ : ByteArray) w5.drew := ⟨fun _ => ⟨rfl, rfl, rfl, Nat.le_refl _, fun _ _ => rfl⟩, fun h => (by cases h), fun h => (by cases h), fun h => (by cases h), fun h => (by cases h), fun h => (by cases h)⟩
                clear hsm hon hroom
                refine wp_region_flowG (fun γ : ByteArray => [.pointer (some ⟨rb, 0, none⟩), .slice (some ⟨vb, vo, none⟩) N cap, .int .i64 i, .pointer (some ⟨vb, vo + i, none⟩), .string s, .agg (D.map byteV).toArray, .nilIface, .nilIface]) (AlnW w (fun b => (b < WB.heap.size ∨ b = rb) ∨ b = q) a (n + 7) m' w5)
                  [[], [], [], [1, 2], [3], [], [0, 4, 5], [6, 6, 0, 1, 2, 3, 4, 5, 6]] 126 (⟨#[]⟩ : ByteArray) mixedD rfl (by kernel_rfl) (fun _ => rfl) HI0 ?_ ?_
                · refine ⟨?_, ?_, ?_, ?_, ?_, ?_, ?_, ?_, rfl⟩
                  all_goals intro L' γ W ev hL hd hW hc hf hg he h0
                  · have e8 : ev (.tmp 8) = .pointer (some ⟨rb, 0, none⟩) := h0 8 rfl
                    clear he h0 hc hf hg
                    exact .inl ⟨rfl, .inl ⟨_, W, (by go_simp <;> rfl), .still (hW.early (.inl (by decide))) rfl⟩⟩
                  · have e0 : ev (.tmp 0) = .slice (some ⟨vb, vo, none⟩) N cap := h0 0 rfl
                    clear he h0 hc hf hg
                    exact .inl ⟨rfl, .inl ⟨_, W, (by go_simp <;> rfl), .still (hW.early (.inl (by decide))) rfl⟩⟩
                  · have e11 : ev (.tmp 11) = .int .i64 i := h0 11 rfl
                    clear he h0 hc hf hg
                    exact .inl ⟨rfl, .inl ⟨_, W, (by go_simp <;> rfl), .still (hW.early (.inl (by decide))) rfl⟩⟩
                  · have e74 : ev (.tmp 74) = .slice (some ⟨vb, vo, none⟩) N cap := he 1 (by decide) _ 74 rfl rfl
                    have e75 : ev (.tmp 75) = .int .i64 i := he 2 (by decide) _ 75 rfl rfl
                    have hb1 : (i : Int) < (N : Int) := hlt
                    clear he h0 hc hf hg
                    exact .inl ⟨rfl, .inl ⟨_, W, (by go_simp <;> rfl), .still (hW.three (hd 1 (by decide)) (hd 2 (by decide))) rfl⟩⟩
                  · have e76 : ev (.tmp 76) = .pointer (some ⟨vb, vo + i, none⟩) := he 3 (by decide) _ 76 rfl rfl
                    have cc : W.cell? ⟨vb, vo + i, none⟩ = some (.string s) := HVC.out W (HR5.out.bel (hW.lo (hW.no hL (by decide)))).st.toB
                    clear he h0 hc hf hg
                    exact .inl ⟨rfl, .inl ⟨_, W, (by go_simp <;> rfl), .still (hW.four (hd 3 (by decide))) rfl⟩⟩
                  · have e3 : ev (.tmp 3) = .pointer (some ⟨w.heap.size, 0, none⟩) := h0 3 rfl
                    clear he h0 hc hg
                    have hB := hW.lo (hW.no hL (by decide))
                    have hlv := run_loadVar_row (P := Tryz.prog) W w.heap.size 33 33 (D.map byteV).toArray (0, 0) _ ((hB.block _ (blk_lt HX5.out)).trans HX5.out) dig_und rfl (dig_info2 HDL.out)
                    refine .inl ⟨rfl, .inl ⟨_, W, ?_, .still (hW.early (.inr rfl)) rfl⟩⟩
                    unfold execOp
                    simp only [e3, Instr.loadAt, Instr.sureAddr, Sem.run_bind, Sem.run_pure, Result.andThen_ok, hlv]
                    try rfl
                  · have e73 : ev (.tmp 73) = .pointer (some ⟨rb, 0, none⟩) := he 0 (by decide) _ 73 rfl rfl
                    have e77 : ev (.tmp 77) = .string s := he 4 (by decide) _ 77 rfl rfl
                    have e78 : ev (.tmp 78) = .agg (D.map byteV).toArray := he 5 (by decide) _ 78 rfl rfl
                    clear he h0 hc hg
                    have hB := hW.lo hL
                    have hr := HR5.out.bel hB
                    refine .inl ⟨rfl, .inr (.inr ⟨15, #[.pointer (some ⟨rb, 0, none⟩), .string s, .agg (D.map byteV).toArray], W, (by have hff := hf 15; clear hf; go_simp <;> rfl), ?_⟩)⟩
                    refine (set_any hr (by omega) s (by omega) D HDL.out).mono ?_
                    rintro e w' ⟨⟨t, rfl⟩, h2, h3⟩
                    rw [HSET.out, HSM.out] at h2
                    rw [HSET.out, HSM.out]
                    have h7 : L' 7 = false := by
                      cases e7 : L' 7 with
                      | false => rfl
                      | true => have := hW.d7 e7; rw [hL] at this; cases this
                    exact ⟨_, rfl, t, hW.did (hd 0 (by decide)) (hd 4 (by decide)) (hd 5 (by decide)) h2 (fun b hb => (h3 b hb).trans (HR5.out.st.same hB b hb)), rfl, fun j hj => by
                      match j, hj with
                      | 0, _ => rfl
                      | 1, _ => rfl
                      | 2, _ => rfl
                      | 3, _ => rfl
                      | 4, _ => rfl
                      | 5, _ => rfl
                      | 6, hj => exact absurd hj (by rw [hL]; decide)
                      | 7, hj => exact absurd hj (by rw [h7]; decide)
                      | j + 8, _ => rfl⟩
                  · have e79 : ev (.tmp 79) = .nilIface := he 6 (by decide) _ 79 rfl rfl
                    clear he h0 hc hf hg
                    exact .inl ⟨rfl, .inl ⟨_, W, (by go_simp <;> rfl), .still (hW.end' (hd 6 (by decide))) rfl⟩⟩
                intro γ L' w6 hLL hW
                obtain ⟨hst6, hsm6⟩ := hW.hi (hLL 6 (by decide))
                have HR6 := Lib.hid (HR5.out.step hst6 hsm6)
                have HX6 : Hid (w6.heap[w.heap.size]? = some (.cells (D.map byteV).toArray 33 (0, 0))) := Lib.hid ((hsm6 _ (.inl (.inl (by rw [HWZ.out]; omega)))).trans HX5.out)
                have HL6 : Hid (LedAt w6 q l) := Lib.hid (HL5.out.keep (hsm6 _ (.inr rfl)))
                clear hLL hW hst6 hsm6 HI0 HR5 HX5 HL5
                simp only [putAll, Act.put, List.setIfInBounds_toArray, List.set_cons_succ, List.set_cons_zero]
                have hl : l.length ≤ 2 := by omega
                have hli : ¬ ((l.length : Nat) : Int) = 3 := by omega
                have HTMP := Lib.hid HON.out.tmp
                have HLI : Hid (∀ x ∈ m'.lists ⟨refHead.toArray⟩, x.size ≤ 200) := Lib.hid (fun x hx => by
                  rw [HON.out.lists] at hx
                  obtain ⟨y, hy, rfl⟩ := List.mem_map.1 hx
                  rw [refN_size]
                  have := HON.out.named.key y hy
                  omega)
                have hlen : (tput l u (codeD D)).length ≤ 3 := Nat.le_trans (tput_len l u (codeD D)) (by omega)
                have HRX := Lib.hid (dig_range HX6.out)
                have hwi := with_any w6 q l HL6.out (by omega) U HKD.out.2 D HDL.out false
                rw [HKD.out.1] at hwi
                unfold digV at hwi
                have HWI := Lib.hid hwi
                clear hl hwi
                go_wp2_with (first | (at_len; refine wpList_len_led rfl _ rfl q l rfl HL6.out ?_) | refine wpList_load_mid rfl _ _ rfl w.heap.size 0 rfl (D.map byteV) _ HRX.out hU rfl hI ?_)
                refine HWI.out.mono ?_
                rintro e w8 ⟨q2, rfl, hq2, hled, hb8⟩
                have HR8 : Hid (Rf w (fun _ => False) (fun b => (b < WB.heap.size ∨ b = rb) ∨ b = q2) rb a w8 (n + 7) m') := Lib.hid (HR6.out.swap hb8 _ (.inl (.inr rfl)) (fun b hb => hb.elim (fun h => .inl (.inl h)) (fun e => .inr ⟨by omega, by rw [e]; exact hled.lt⟩)))
                have HX8 : Hid (w8.heap[w.heap.size]? = some (.cells (D.map byteV).toArray 33 (0, 0))) := Lib.hid ((hb8.block _ (blk_lt HX6.out)).trans HX6.out)
                have HL8 : Hid (LedAt w8 q2 (tput l u (codeD D))) := Lib.hid hled
                clear hq2 hled hb8 HR6 HX6 HL6 HRX HWI
                go_wp2_with fail
                refine (st_list HR8.out.st ⟨#[116, 109, 112, 47]⟩ (by omega)).mono ?_
                rintro e w9 ⟨v, rfl, hv, hb9⟩
                rw [HTMP.out] at hv
                rw [show errE (if m'.off = true then (27 : Int) else 0) = .nilIface from by rw [HON.out.calm.1]; rfl]
                obtain ⟨vp, vc, rfl⟩ := hv.rd.len
                have HR9 := Lib.hid (HR8.out.bel hb9)
                have HX9 : Hid (w9.heap[w.heap.size]? = some (.cells (D.map byteV).toArray 33 (0, 0))) := Lib.hid ((hb9.block _ (blk_lt HX8.out)).trans HX8.out)
                have HL9 := Lib.hid (HL8.out.below hb9)
                have hho := holds_any HR9.out (by omega) (fun x hx => HLI.out x hx) HON.out.named (by omega) q2 HL9.out (by omega) HON.out.code
                rw [decide_eq_true rfl] at hho
                have HHO := Lib.hid hho
                rw [show ([] : List ByteArray).length = 0 from rfl]
                clear hv hb9 HR8 HX8 HL8 hho
                go_wp2_with (go_at_call 18; refine HHO.out.mono ?_; rintro e w10 ⟨rfl, hb10⟩; have HR10 := Lib.hid (HR9.out.bel hb10); have HX10 : Hid (w10.heap[w.heap.size]? = some (.cells (D.map byteV).toArray 33 (0, 0))) := Lib.hid ((hb10.block _ (blk_lt HX9.out)).trans HX9.out); have HL10 := Lib.hid (HL9.out.below hb10); clear hb10)
                exact ⟨⟨i + 1, q2, n + 7, m', tput l u (codeD D), by omega, by rw [Int.natCast_add]; rfl, rfl, by omega, HR10, HX10, HL10, Lib.hid ⟨HON.out, HRM.out⟩, hlen⟩, by simp [intOf]; omega⟩
          · obtain rfl : i = N := by omega
            have HWK := works24_any wr (HG.out.below HR.out.st.toB HG.out.2)
            have HBR := Lib.hid HR.out.st.toB
            go_wp2_with fail
            refine HWK.mono ?_
            rintro e w9 ⟨rfl, hb9⟩
            have HB9 := Lib.hid (HBR.out.trans (hb9.mono HBR.out.size))
            clear hb9 HWK
            go_wp2_with fail
            go_ret
            exact ⟨rfl, HB9.out⟩
end Go.Proofs.YtdkedmngeahjiaaGreatDoor
