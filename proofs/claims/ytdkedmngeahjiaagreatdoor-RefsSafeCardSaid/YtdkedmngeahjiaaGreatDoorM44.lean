/- Texts of the seat, one behind the other: RfList, RfHolds, RfAl, RfSaf, RfOpen, RfWorks. -/
import Derived.Test.YtdkedmngeahjiaaGreatDoorRfG
import Derived.Test.YtdkedmngeahjiaaGreatDoorRfRow
import Derived.Test.YtdkedmngeahjiaaGreatDoorRowC
import Derived.Test.YtdkedmngeahjiaaGreatDoorM25
import Derived.Test.YtdkedmngeahjiaaGreatDoorM41
import Derived.Test.YtdkedmngeahjiaaGreatDoorM4
import Derived.Test.YtdkedmngeahjiaaGreatDoorDigT
import Derived.Test.YtdkedmngeahjiaaGreatDoorRfCut
/- Contract of refs' List. -/
namespace Go.Proofs.YtdkedmngeahjiaaGreatDoor
open Go Go.RowKit
/-- A pair's cells: a name's full form, the text behind it. -/
def clP (p : List UInt8 × ByteArray) : Array Value := #[lV p.1, .string p.2]
abbrev OwnP (base : Nat) (l : List (List UInt8 × ByteArray)) (v : Value) (w : World) : Prop := OwnG 83 2 clP base l v w
theorem OwnP.below {base : Nat} {l : List (List UInt8 × ByteArray)} {v : Value} {w w' : World} (h : OwnP base l v w) (hb : Below w.heap.size w w') : OwnP base l v w' := row_same h (fun b hv => hb.block b (row_blk h hv).2.1)
theorem OwnP.row {base K : Nat} {l : List (List UInt8 × ByteArray)} {v : Value} {w : World} (h : OwnP base l v w) (hl : l.length = K) : w.ownsRow base 83 2 v K (flatG clP l) := hl ▸ h
theorem OwnP.base {base b : Nat} {l : List (List UInt8 × ByteArray)} {v : Value} {w : World} (h : OwnP base l v w) (hb : b ≤ base) : OwnP b l v w := by
  refine ⟨h.1, ?_⟩
  rcases h.2 with h2 | ⟨g, cap, cur, h1, h2, h3⟩
  · exact .inl h2
  · exact .inr ⟨g, cap, cur, h1, Nat.le_trans hb h2, h3⟩
theorem infoP : (Tryz.prog.info? 83).map (fun i => (i.zero, i.size, i.bytes)) = some (some (.agg #[.string ⟨#[]⟩, .string ⟨#[]⟩]), 2, 32) := by kernel_rfl
theorem newP (w : World) (x y : Value) (t : TypeId) : ∀ (j : Nat) (u : Value), [x, y][j]? = some u → (w.alloc (.cells #[x, y] t)).cell? ((⟨w.heap.size, 0, none⟩ : Addr).add j) = some u := fun j u h => by
  rw [show ((⟨w.heap.size, 0, none⟩ : Addr).add j) = ⟨w.heap.size, j, none⟩ by simp [Addr.add]; intro e; exact e.symm, cell_of_heapN (heap_new w _)]
  rw [← h, ← List.getElem?_toArray]
theorem onesP (x y : ByteArray) : ∀ u ∈ [Value.string x, Value.string y], u.oneCell' = true := fun u hu => by
  rcases List.mem_cons.1 hu with rfl | hu
  · rfl
  · rw [List.mem_singleton.1 hu]; rfl
/-- A file that is listed is read. -/
theorem reads_listed {m : DM} (hr : Rising m.now) (hoff : m.off = false) {hd s : ByteArray} (h : s ∈ m.lists hd) : (m.reads s).2 = 0 := by
  unfold DM.lists at h
  rw [if_neg (by rw [hoff]; decide)] at h
  obtain ⟨p, hp, rfl⟩ := List.mem_map.1 h
  have h1 : tget m.now (nameB p).data.toList = some p.2 := tget_of_mem hr (List.mem_filter.1 hp).1
  unfold DM.reads DM.get
  rw [if_neg (by rw [hoff]; decide), h1]
theorem namesM_len {m : DM} : ∀ {L : List ByteArray} {l : List (List UInt8 × ByteArray)}, namesM m L = some l → l.length ≤ L.length
  | [], l, h => by cases h; exact Nat.le_refl _
  | n :: r, l, h => by
    unfold namesM at h
    split at h
    · split at h
      · rename_i l' h1
        cases h
        have := namesM_len h1
        rw [List.length_cons, List.length_cons]
        omega
      · cases h
    · have := namesM_len h
      rw [List.length_cons]
      omega
/-- How List ends. -/
def RListPost (w1 : World) (r : List (List UInt8 × ByteArray) × Int) (e : Ending) (w' : World) : Prop :=
  ∃ v t, e = .returned (.tuple #[v, wrapE t r.2]) ∧ OwnP w1.heap.size r.1 v w' ∧ Below w1.heap.size w1 w'
set_option maxHeartbeats 12800000 in
set_option maxRecDepth 100000 in
theorem rlist_any {w w1 : World} {S P : Nat → Prop} {rb a n : Nat} {m : DM} (h : Rf w S P rb a w1 n m) (hn : n ≤ 1000000000) (hsh : ∀ s ∈ m.lists ⟨refHead.toArray⟩, s.size ≤ 200) :
    Calls Tryz.prog 39 #[.pointer (some ⟨rb, 0, none⟩)] w1 (RListPost w1 (listR m)) := by
  obtain ⟨i0, hi, hz0, hz1, hz2⟩ := info_parts infoP
  have HS1 := Lib.hid h
  have hlN : (m.lists ⟨refHead.toArray⟩).length ≤ n := by
    unfold DM.lists
    split
    · exact Nat.zero_le _
    · rw [List.length_map]
      exact Nat.le_trans (List.length_filter_le _ _) h.st.ok.nowN
  have hls := st_list h.st ⟨#[114, 101, 102, 115, 47]⟩ (by omega)
  have hlq : m.lists ⟨refHead.toArray⟩ = m.lists ⟨#[114, 101, 102, 115, 47]⟩ := rfl
  rw [← hlq] at hls
  have hLM : listR m = if m.off then ([], (27 : Int)) else match namesM m (m.lists ⟨refHead.toArray⟩) with
    | some l => (l, (0 : Int))
    | none => ([], (30 : Int)) := rfl
  have hrl : m.off = false → ∀ s ∈ m.lists ⟨refHead.toArray⟩, (m.reads s).2 = 0 := fun ho s hs => reads_listed h.st.ok.now ho hs
  have hbox := h.cell
  obtain ⟨L, hL⟩ : ∃ L, m.lists ⟨refHead.toArray⟩ = L := ⟨_, rfl⟩
  rw [hL] at hls hlN hsh hLM hrl
  obtain ⟨R, hR⟩ : ∃ R, listR m = R := ⟨_, rfl⟩
  rw [hR] at hLM ⊢
  have HLM := Lib.hid hLM
  have HSH := Lib.hid hsh
  have HRL := Lib.hid hrl
  obtain ⟨N, hN⟩ : ∃ N, L.length = N := ⟨_, rfl⟩
  have HN := Lib.hid hN
  rw [hN] at hlN
  have HNN : Hid (N ≤ n ∧ n ≤ 1000000000) := Lib.hid ⟨hlN, hn⟩
  clear h hsh hlN hL hN hn hlq hLM hR hrl
  cases hoff : m.off with
  | true =>
    rw [hoff] at hls
    have HOFF := Lib.hid hoff
    clear hoff
    have hlsw : Calls Tryz.prog 17 #[.pointer (some ⟨a, 0, none⟩), .string ⟨#[114, 101, 102, 115, 47]⟩] w1 fun e w' => ∃ v, e = .returned (.tuple #[v, .iface 71 (.int .i64 27)]) ∧ OwnTexts w1.heap.size w' v L ∧ Below w1.heap.size w1 w' := hls
    have htl := fun W : World => told_any whatL 27 W
    rw [show errE 27 = .iface 71 (.int .i64 27) from rfl] at htl
    unfold whatL at htl
    clear hls
    go_enter Tryz.func39, Tryz.ntmps39
    go_wp2_with fail
    refine hlsw.mono ?_
    rintro e w2 ⟨v, rfl, -, hb2⟩
    have HB2 := Lib.hid hb2
    clear hb2 hlsw hbox
    go_wp2_with (go_at_call 34; refine (htl _).mono ?_; rintro e w3 ⟨rfl, rfl⟩)
    go_ret2
    have hO : R = ([], 27) := by rw [HLM.out, HOFF.out]; rfl
    rw [hO]
    exact ⟨_, whatL, rfl, ⟨rfl, .inl ⟨rfl, rfl⟩⟩, HB2.out⟩
  | false =>
    rw [hoff] at hls
    have HOFF := Lib.hid hoff
    clear hoff
    have hlsw : Calls Tryz.prog 17 #[.pointer (some ⟨a, 0, none⟩), .string ⟨#[114, 101, 102, 115, 47]⟩] w1 fun e w' => ∃ v, e = .returned (.tuple #[v, .nilIface]) ∧ OwnTexts w1.heap.size w' v L ∧ Below w1.heap.size w1 w' := hls
    clear hls
    have HLM2 : Hid (R = match namesM m L with
      | some l => (l, (0 : Int))
      | none => ([], (30 : Int))) := Lib.hid (by rw [HLM.out, HOFF.out]; rfl)
    have htl := fun W : World => told_any whatL 30 W
    rw [show errE 30 = .iface 71 (.int .i64 30) from rfl] at htl
    unfold whatL at htl
    have HTL := Lib.hid htl
    have hI32 := dig_info2 (d := zeroD) rfl
    have hsz := dig_size (d := zeroD) rfl
    have h1z := dig_one zeroD
    clear htl HLM
    go_enter Tryz.func39, Tryz.ntmps39
    go_wp2_with fail
    refine hlsw.mono ?_
    rintro e w2 ⟨v, rfl, hv, hb2⟩
    obtain ⟨vp, vc, rfl⟩ := hv.rd.len
    rw [HN.out] at hv ⊢
    have HV2 := Lib.hid hv.rd
    have HB2 := Lib.hid hb2
    have HS2 := Lib.hid (HS1.out.bel hb2)
    have hNi : (N : Int) ≤ 1000000000 := by have := HNN.out; omega
    clear hb2 hlsw hv HS1 hbox
    go_wp2_with fail
    go_loopw [6, 29] (fun v iv wr => ∃ (k K : Nat) (l : List (List UInt8 × ByteArray)), (k : Int) ≤ N ∧ (K : Int) ≤ k ∧ iv = .int .i64 k ∧ (∃ vp vc, v = .slice vp K vc) ∧ Hid (l.length = K) ∧ Hid (namesM m L = (namesM m (L.drop k)).map (l ++ ·)) ∧ Hid (OwnP w2.heap.size l v wr) ∧ Hid (Below w2.heap.size w2 wr)) (fun _ iv _ => N - (intOf iv).toNat)
    case atStart => exact ⟨0, 0, [], by omega, by omega, rfl, ⟨_, _, rfl⟩, Lib.hid rfl, Lib.hid (by rw [List.drop_zero]; cases namesM m L <;> rfl), Lib.hid ⟨rfl, .inl ⟨rfl, rfl⟩⟩, Lib.hid (Below.refl _ _)⟩
    case round =>
      obtain ⟨k, K, l, hk, hKk, rfl, ⟨up, uc, rfl⟩, HK, HNM, HR, HB⟩ := hrel
      by_cases hlt : (k : Int) < N
      · have hkl : k < L.length := by rw [HN.out]; omega
        obtain ⟨s, hs⟩ : ∃ s, L[k]? = some s := ⟨_, List.getElem?_eq_getElem hkl⟩
        obtain ⟨vp', vc', he, hv⟩ := HV2.out.below HB.out
        obtain ⟨vb, vo, hvp, hvl, hvc⟩ := hv k s hs
        have hpe : vp = some ⟨vb, vo, none⟩ := by cases he; exact hvp
        subst hpe
        have hss := HSH.out s (List.mem_of_getElem? hs)
        have hy := HRL.out HOFF.out s (List.mem_of_getElem? hs)
        have hdr : L.drop k = s :: L.drop (k + 1) := by
          rw [List.drop_eq_getElem_cons hkl]
          rw [List.getElem?_eq_getElem hkl] at hs
          rw [Option.some.inj hs]
        have HDR := Lib.hid hdr
        have hre := fun W : World => rest_any s (show ((s.size : Nat) : Int) ≤ 140737488355328 by omega) W
        unfold lV at hre
        clear hs he hv hvp hvl hkl hdr
        have HS4 := Lib.hid (HS2.out.bel HB.out)
        have c4 := HS4.out.cell
        cases hrs : restM s with
        | false =>
          have hnx : namesM m (L.drop k) = namesM m (L.drop (k + 1)) := by rw [HDR.out, namesM, if_neg (by rw [hrs]; decide)]
          have HNX := Lib.hid hnx
          rw [hrs] at hre
          clear hrs hnx hy
          go_wp2_with (go_at_call 43; refine (hre _).mono ?_; rintro e w5 ⟨rfl, hb5⟩; have HB5 : Hid (Below w2.heap.size w2 w5) := Lib.hid (HB.out.trans (hb5.mono HB.out.size)); have HR5 := Lib.hid (HR.out.below hb5); clear hb5)
          exact ⟨⟨k + 1, K, l, by omega, by omega, by rw [Int.natCast_add]; rfl, ⟨_, _, rfl⟩, HK, Lib.hid (by rw [HNM.out, HNX.out]), HR5, HB5⟩, by simp [intOf]; omega⟩
        | true =>
          have hrd := fun W (hst : St w S P a W n m) => st_read hst s (show s.size ≤ maxLen by unfold maxLen; omega)
          obtain ⟨T, hT⟩ : ∃ T, (m.reads s).1 = T := ⟨_, rfl⟩
          rw [hT, hy, show errE 0 = .nilIface from rfl] at hrd
          have HRD := Lib.hid hrd
          have hpa := fun W : World => parse_dig T W
          have hnx : namesM m (L.drop k) = match parseD T, namesM m (L.drop (k + 1)) with
            | some _, some l => some ((tailM s, T) :: l)
            | _, _ => none := by rw [HDR.out, namesM, if_pos hrs, hT]; cases parseD T <;> cases namesM m (L.drop (k + 1)) <;> rfl
          rw [hrs] at hre
          clear hrd hT hy hrs
          cases hp : parseD T with
          | none =>
            rw [hp] at hpa hnx
            have HNX : Hid (namesM m (L.drop k) = none) := Lib.hid hnx
            have hpa2 : ∀ W : World, Calls Tryz.prog 42 #[.string T] W fun e w' => e = .returned (.tuple #[.agg (zeroD.map byteV).toArray, .iface 71 (.int .i64 4)]) ∧ Below W.heap.size W w' := hpa
            clear hpa hp hnx
            go_wp2_with (go_at_call 43; refine (hre _).mono ?_; rintro e w5 ⟨rfl, hb5⟩; have HB5 : Hid (Below w2.heap.size w2 w5) := Lib.hid (HB.out.trans (hb5.mono HB.out.size)); have HS5 := Lib.hid (HS4.out.bel hb5); have c5 := HS5.out.cell; clear hb5)
            refine (HRD.out _ HS5.out.st).mono ?_
            rintro e w6 ⟨rfl, rfl⟩
            go_wp2_with (first | (go_at_call 42; refine (hpa2 _).mono ?_; rintro e w7 ⟨rfl, hb7⟩; have HB7 : Hid (Below w2.heap.size w2 w7) := Lib.hid (HB5.out.trans (hb7.mono HB5.out.size)); clear hb7) | (refine wpList_store_new rfl _ _ _ rfl _ (zeroD.map byteV).toArray _ rfl rfl rfl hI32 hsz h1z ?_; (obtain ⟨W5, hW5⟩ : ∃ W, w7.alloc (.cells (zeroD.map byteV).toArray 33) = W := ⟨_, rfl⟩; have HB8 : Hid (Below w2.heap.size w2 W5) := Lib.hid (by rw [← hW5]; exact HB7.out.alloc HB7.out.size _); rw [hW5]; clear hW5)) | (go_at_call 34; refine (HTL.out _).mono ?_; rintro e w9 ⟨rfl, rfl⟩))
            go_ret2
            have hO : R = ([], 30) := by rw [HLM2.out, HNM.out, HNX.out]; rfl
            rw [hO]
            exact ⟨_, whatL, rfl, ⟨rfl, .inl ⟨rfl, rfl⟩⟩, HB2.out.trans (HB8.out.mono HB2.out.size)⟩
          | some D =>
            have hDl := (parseD_inv hp).2
            rw [hp] at hpa hnx
            have HNX : Hid (namesM m (L.drop k) = (namesM m (L.drop (k + 1))).map ((tailM s, T) :: ·)) := Lib.hid (by rw [hnx]; cases namesM m (L.drop (k + 1)) <;> rfl)
            have hpa2 : ∀ W : World, Calls Tryz.prog 42 #[.string T] W fun e w' => e = .returned (.tuple #[.agg (D.map byteV).toArray, .nilIface]) ∧ Below W.heap.size W w' := hpa
            have hI2 := dig_info2 hDl
            have hd1 := dig_one D
            have hdz := dig_size hDl
            clear hpa hp hnx hDl
            go_wp2_with (go_at_call 43; refine (hre _).mono ?_; rintro e w5 ⟨rfl, hb5⟩; have HB5 : Hid (Below w2.heap.size w2 w5) := Lib.hid (HB.out.trans (hb5.mono HB.out.size)); have HS5 := Lib.hid (HS4.out.bel hb5); have HR5 := Lib.hid (HR.out.below hb5); have c5 := HS5.out.cell; clear hb5)
            refine (HRD.out _ HS5.out.st).mono ?_
            rintro e w6 ⟨rfl, rfl⟩
            go_wp2_with (first | (go_at_call 42; refine (hpa2 _).mono ?_; rintro e w7 ⟨rfl, hb7⟩; have HB7 : Hid (Below w2.heap.size w2 w7) := Lib.hid (HB5.out.trans (hb7.mono HB5.out.size)); have HR7 := Lib.hid (HR5.out.below hb7); clear hb7) | (refine wpList_store_new rfl _ _ _ rfl _ (D.map byteV).toArray _ rfl rfl rfl hI2 hdz hd1 ?_; (obtain ⟨W5, hW5⟩ : ∃ W, w7.alloc (.cells (D.map byteV).toArray 33) = W := ⟨_, rfl⟩; have hb8 : Below w7.heap.size w7 W5 := (by rw [← hW5]; exact (Below.refl _ _).alloc (Nat.le_refl _) _); have HB8 : Hid (Below w2.heap.size w2 W5) := Lib.hid (HB7.out.trans (hb8.mono HB7.out.size)); have HR8 := Lib.hid (HR7.out.below hb8); rw [hW5]; clear hW5 hb8)) | (at_builtin; go_must (refine wpList_app_to rfl _ _ 79 rfl w2.heap.size 83 i0 (.agg #[.string ⟨#[]⟩, .string ⟨#[]⟩]) 2 32 Tryz.underlying79 hi hz0 hz1 hz2 rfl (by decide) (.slice up K uc) K _ rfl ((HR8.out.below ((Below.refl W5.heap.size W5).alloc (Nat.le_refl _) (.cells #[.string ⟨(tailM s).toArray⟩, .string T] 83))).row HK.out) ⟨W5.heap.size, 0, none⟩ 1 1 [.string ⟨(tailM s).toArray⟩, .string T] rfl rfl (newP W5 _ _ _) (onesP _ _) (by decide) (by unfold maxLen; omega) (by omega) (Nat.le_trans HB8.out.size (by rw [World.size_alloc]; omega)) ?_); intro v6 W6 ho6 hl6; have HO6 := Lib.hid ho6; have HL6 := Lib.hid hl6; (obtain ⟨p6, c6, rfl⟩ := row_slice ho6); clear ho6 hl6))
            have hb9 : Below w2.heap.size w2 W6 := (HB8.out.alloc (by have := HB8.out.size; omega) _).trans (app_below ((HR8.out.below ((Below.refl W5.heap.size W5).alloc (Nat.le_refl _) (.cells #[.string ⟨(tailM s).toArray⟩, .string T] 83))).row HK.out) HL6.out (Nat.le_trans HB8.out.size (by rw [World.size_alloc]; omega)))
            refine ⟨⟨k + 1, K + 1, l ++ [(tailM s, T)], by omega, by omega, by rw [Int.natCast_add]; rfl, ⟨_, _, rfl⟩, Lib.hid ?_, Lib.hid ?_, Lib.hid ?_, Lib.hid hb9⟩, by simp [intOf]; omega⟩
            · rw [List.length_append, HK.out]; rfl
            · rw [HNM.out, HNX.out]
              cases namesM m (L.drop (k + 1)) with
              | none => rfl
              | some r => exact congrArg some (List.append_assoc l [(tailM s, T)] r).symm
            · exact OwnG.app (by rw [HK.out]; exact HO6.out)
      · obtain rfl : k = N := by omega
        have hall : namesM m L = some l := by rw [HNM.out, List.drop_of_length_le (by rw [HN.out]; exact Nat.le_refl _)]; exact congrArg some (List.append_nil l)
        have hO : R = (l, 0) := by rw [HLM2.out, hall]
        have HO := Lib.hid hO
        clear hall hO
        go_wp2_with fail
        go_ret2
        rw [HO.out]
        exact ⟨_, whatL, rfl, HR.out.base HB2.out.size, HB2.out.trans (HB.out.mono HB2.out.size)⟩
end Go.Proofs.YtdkedmngeahjiaaGreatDoor
/- Contract of stratalaw24.holds. -/
namespace Go.Proofs.YtdkedmngeahjiaaGreatDoor
open Go Go.Maps Go.RowKit
theorem bless_bb : ∀ a b : List UInt8, Op.bytesLess a b = bytesBefore a b
  | [], [] => rfl
  | [], _ :: _ => rfl
  | _ :: _, [] => rfl
  | x :: r, y :: s => by simp [Op.bytesLess, bytesBefore, bless_bb r s]
theorem rising_sub : ∀ (m l : Tab), Rising l → Rising m → (∀ p ∈ l, p ∈ m) → l.Sublist m
  | [], l, _, _, h => by
    cases l with
    | nil => exact List.Sublist.slnil
    | cons x s => exact absurd (h x List.mem_cons_self) List.not_mem_nil
  | y :: r, [], _, _, _ => List.nil_sublist _
  | y :: r, x :: s, hl, hm, h => by
    have hl' := List.pairwise_cons.1 hl
    have hm' := List.pairwise_cons.1 hm
    by_cases e : x = y
    · subst e
      refine List.Sublist.cons_cons x (rising_sub r s hl'.2 hm'.2 (fun p hp => ?_))
      rcases List.mem_cons.1 (h p (List.mem_cons_of_mem _ hp)) with h1 | h1
      · exact absurd (congrArg Prod.fst h1).symm (bb_ne (hl'.1 p hp))
      · exact h1
    · have hx : x ∈ r := (List.mem_cons.1 (h x List.mem_cons_self)).resolve_left e
      refine List.Sublist.cons y (rising_sub r (x :: s) hl hm'.2 (fun p hp => ?_))
      rcases List.mem_cons.1 (h p hp) with h1 | h1
      · rcases List.mem_cons.1 hp with h2 | h2
        · exact absurd (h2.symm.trans h1) e
        · have a1 := hl'.1 p h2
          have a2 := hm'.1 x hx
          rw [h1] at a1
          have a3 := WideShapes.bytes_trans _ _ _ a1 a2
          rw [WideAt.bytes_irrefl] at a3
          cases a3
      · exact h1
theorem rising_eq {l m : Tab} (hl : Rising l) (hm : Rising m) (h : ∀ p ∈ l, tget m p.1 = some p.2) (hn : l.length = m.length) : l = m :=
  (rising_sub m l hl hm (fun p hp => tget_mem (h p hp))).eq_of_length hn
/-- What a name leads to, as List says it. -/
def entR (p : Bs × Nat) : List UInt8 × ByteArray := (p.1, textD (decD p.2))
/-- The names of a disk are these. -/
structure NamesT (m : DM) (l : Tab) : Prop where
  rise : Rising l
  list : listR m = (l.map entR, 0)
  get : ∀ p ∈ l, getF m p.1 = (decD p.2, 0)
  code : ∀ p ∈ l, p.2 = codeD (decD p.2)
  key : ∀ p ∈ l, p.1.length ≤ 96
section
variable {w : World} {ops : Array Oper} {rest : List Oper} {o : Oper} {a : Act} {Q : Exit → Act → World → Prop}
theorem wpList_len_ledG (hw : Region.wanted o (yielded ops a.tmps) = true) (m : Operand) (hop : o.op = Op.call { callee := Callee.builtin Builtin.len, args := #[m], argTypes := #[40] })
    (b : Nat) (l : Tab) (hm : a.eval m = .map (some b)) (hown : LedAt w b l) (hK : wpList Tryz.prog ops Q rest (a.put o.dst (.int .i64 (l.length : Int))) w) :
    wpList Tryz.prog ops Q (o :: rest) a w := by
  refine wpList_step fun K' hK' => ?_
  rw [if_pos hw]
  have hlen := World.ownsMap.len hown und_led o.type
  have e : Maps.size (tabD l) = l.length := List.length_map ..
  rw [e] at hlen
  unfold Oper.wp
  simp [execOp, hop, resolve, invoke, builtin, hm, hlen, Result.andThen]
  exact hK' _ _ hK
end
/-- A pair's cells, by its place in a row of the call's own. -/
theorem OwnP.at {base : Nat} {l : List (List UInt8 × ByteArray)} {w : World} {p : Option Addr} {n c : Nat} (h : OwnP base l (.slice p n c) w) {i : Nat} {x : List UInt8 × ByteArray} (hx : l[i]? = some x) :
    ∃ g, p = some ⟨g, 0, none⟩ ∧ g < w.heap.size ∧ w.cell? ⟨g, i * 2, none⟩ = some (lV x.1) ∧ w.cell? ⟨g, i * 2 + 1, none⟩ = some (.string x.2) := by
  rcases OwnG.reads (T := 83) (sz := 2) (cl := clP) (fun _ => rfl) h with ⟨h1, h2⟩ | ⟨g, cap, cur, h1, -, -, h4, h5⟩
  · rw [h2] at hx
    cases hx
  · cases h1
    have e0 := h5 i x hx 0 (by decide)
    have e1 := h5 i x hx 1 (by decide)
    exact ⟨g, rfl, blk_lt h4, by rw [cell_of_heapN h4]; exact e0, by rw [cell_of_heapN h4]; exact e1⟩
set_option maxHeartbeats 12800000 in
set_option maxRecDepth 100000 in
theorem holds_any {w w1 : World} {S P : Nat → Prop} {rb a n : Nat} {m : DM} (h : Rf w S P rb a w1 n m) (hn : n ≤ 1000000000) (hsh : ∀ s ∈ m.lists ⟨refHead.toArray⟩, s.size ≤ 200) {LT W : Tab} (hN : NamesT m LT) (hNl : LT.length ≤ 1000000000) (q : Nat) (hW : LedAt w1 q W) (hWl : W.length ≤ 1000000000) (hWc : ∀ x ∈ W, x.2 = codeD (decD x.2)) :
    Calls Tryz.prog 18 #[.pointer (some ⟨rb, 0, none⟩), .map (some q)] w1 fun e w' => e = .returned (.bool (decide (LT = W))) ∧ Below w1.heap.size w1 w' := by
  have HS1 := Lib.hid h
  have HN := Lib.hid hN
  have HW := Lib.hid hW
  have HWR := Lib.hid hW.rising
  have hU := dig_und
  have HWC : Hid (∀ (c2 : Nat) (k : Bs), tget W k = some c2 → codeD (decD c2) = c2) := Lib.hid (fun c2 k hk => (hWc _ (tget_mem hk)).symm)
  obtain ⟨N, hNN⟩ : ∃ N, LT.length = N := ⟨_, rfl⟩
  have HNN := Lib.hid hNN
  obtain ⟨M, hMM⟩ : ∃ M, W.length = M := ⟨_, rfl⟩
  have HMM := Lib.hid hMM
  rw [hNN] at hNl
  rw [hMM] at hWl
  have hls := rlist_any h hn hsh
  obtain ⟨RB, hRB⟩ : ∃ b, decide (LT = W) = b := ⟨_, rfl⟩
  have HRB := Lib.hid hRB
  rw [hRB]
  clear h hn hsh hN hW hNN hMM hRB hWc
  go_enter Tryz.func18, Tryz.ntmps18
  go_wp2_with fail
  refine hls.mono ?_
  rintro e w2 ⟨v, t, rfl, hown, hb2⟩
  rw [HN.out.list] at hown
  rw [show wrapE t (listR m).2 = .nilIface from by rw [HN.out.list]; rfl]
  obtain ⟨p, cp, rfl⟩ := row_slice hown
  rw [show (LT.map entR).length = N from by rw [List.length_map]; exact HNN.out] at hown ⊢
  have HO2 := Lib.hid hown
  have HS2 := Lib.hid (HS1.out.bel hb2)
  have HB2 := Lib.hid hb2
  have HW2 := Lib.hid (HW.out.below hb2)
  clear hls hown hb2
  by_cases hnm : N = M
  · subst hnm
    have hNi : (N : Int) ≤ 1000000000 := by omega
    go_wp2_with (at_len; refine wpList_len_ledG rfl _ rfl q W rfl HW2.out ?_; rw [HMM.out])
    go_loopw [7] (fun iv wr => ∃ i : Nat, (i : Int) ≤ N ∧ iv = .int .i64 i ∧ Hid (∀ x ∈ LT.take i, tget W x.1 = some x.2) ∧ Hid (Below w2.heap.size w2 wr)) (fun iv _ => N - (intOf iv).toNat)
    case atStart => exact ⟨0, by omega, rfl, Lib.hid (fun x hx => by rw [List.take_zero] at hx; cases hx), Lib.hid (Below.refl _ _)⟩
    case round =>
      obtain ⟨i, hi, rfl, HJ, HB⟩ := hrel
      by_cases hlt : (i : Int) < N
      · have hil : i < LT.length := by rw [HNN.out]; omega
        obtain ⟨x, hx⟩ : ∃ x, LT[i]? = some x := ⟨_, List.getElem?_eq_getElem hil⟩
        obtain ⟨k, c⟩ := x
        have hmem := List.mem_of_getElem? hx
        obtain ⟨g, rfl, hg, hk0, ht0⟩ := HO2.out.at (i := i) (x := entR (k, c)) (by rw [List.getElem?_map, hx]; rfl)
        have hgk := HN.out.get _ hmem
        have hkl := HN.out.key _ hmem
        have hcc := HN.out.code _ hmem
        simp only at hgk hkl hcc
        have HX := Lib.hid hx
        have HG := Lib.hid hg
        have htk : LT.take (i + 1) = LT.take i ++ [(k, c)] := by rw [List.take_add_one, hx]; rfl
        have HTK := Lib.hid htk
        obtain ⟨D, hD⟩ : ∃ D, decD c = D := ⟨_, rfl⟩
        have hDl : D.length = 32 := by rw [← hD]; exact decD_len c
        have HDC : Hid (decD c = D) := Lib.hid hD
        obtain ⟨T, hT⟩ : ∃ T, textD D = T := ⟨_, rfl⟩
        have hTX := fun WW : World => text_dig D hDl WW
        rw [hT] at hTX
        obtain ⟨kB, hkB⟩ : ∃ b : ByteArray, (⟨k.toArray⟩ : ByteArray) = b := ⟨_, rfl⟩
        have hkd : kB.data.toList = k := by rw [← hkB]
        have hks : (kB.size : Int) ≤ 96 := by rw [← hkB]; show ((k.length : Nat) : Int) ≤ 96; omega
        have hc0 : wr.cell? ⟨g, i * 2, none⟩ = some (.string kB) := (HB.out.cell (p := ⟨g, i * 2, none⟩) hg).trans (hk0.trans (by rw [← hkB]; rfl))
        have hc1 : w2.cell? ⟨g, i * 2 + 1, none⟩ = some (.string T) := ht0.trans (by rw [← hT, ← hD]; rfl)
        have hc00 : w2.cell? ⟨g, i * 2, none⟩ = some (.string kB) := hk0.trans (by rw [← hkB]; rfl)
        rw [hD] at hgk hcc
        have HC1 := Lib.hid hc1
        have HC0 := Lib.hid hc00
        have HDL := Lib.hid hDl
        have HCC := Lib.hid hcc
        have HKD := Lib.hid hkd
        have HWr := Lib.hid (HW2.out.below HB.out)
        have HSr := Lib.hid (HS2.out.bel HB.out)
        have hget := fun (WW : World) (hr : Rf w S P rb a WW n m) => rget_any hr kB (by omega)
        rw [hkd, hgk] at hget
        have HGET := Lib.hid hget
        unfold digV at hTX
        have HTX := Lib.hid hTX
        obtain ⟨O, hO⟩ : ∃ O, tget W k = O := ⟨_, rfl⟩
        have HO := Lib.hid hO
        obtain ⟨isb, his⟩ : ∃ b, O.isSome = b := ⟨_, rfl⟩
        have HIS := Lib.hid his
        have hcs : (isb = false ∧ O = none) ∨ (isb = true ∧ ∃ c2, O = some c2) := by
          rw [← his]
          cases O with
          | none => exact .inl ⟨rfl, rfl⟩
          | some c2 => exact .inr ⟨rfl, c2, rfl⟩
        have HCS := Lib.hid hcs
        clear his hcs
        obtain ⟨E, hE⟩ : ∃ E, ledV O = E := ⟨_, rfl⟩
        have hEl : E.length = 32 := by rw [← hE]; exact ledV_len O
        have HE := Lib.hid hE
        have HEL := Lib.hid hEl
        have hI := dig_info hDl
        have hI2 := dig_info2 hDl
        have h1 := dig_one D
        have hz := dig_size hDl
        have hIE := dig_info hEl
        have hIE2 := dig_info2 hEl
        have h1E := dig_one E
        have hzE := dig_size hEl
        have HPREV : Hid (∀ j, i = j + 1 → ∃ pB : ByteArray, w2.cell? ⟨g, j * 2, none⟩ = some (.string pB) ∧ (!(Op.bytesLess pB.toList kB.toList)) = false) := Lib.hid (fun j hj => by
          subst hj
          obtain ⟨y, hy⟩ : ∃ y, LT[j]? = some y := ⟨_, List.getElem?_eq_getElem (by omega)⟩
          obtain ⟨g', hg', -, hy0, -⟩ := HO2.out.at (i := j) (x := entR y) (by rw [List.getElem?_map, hy]; rfl)
          cases hg'
          refine ⟨⟨y.1.toArray⟩, hy0, ?_⟩
          rw [← hkB, Lib.toList_data, Lib.toList_data, bless_bb]
          have hr := List.pairwise_iff_getElem.1 HN.out.rise j (j + 1) (by omega) hil (by omega)
          rw [List.getElem?_eq_getElem (by omega)] at hy
          rw [List.getElem?_eq_getElem hil] at hx
          rw [Option.some.inj hy, Option.some.inj hx] at hr
          show (!(bytesBefore y.1 k)) = false
          rw [hr]
          rfl)
        clear hx hil hmem hk0 ht0 hgk hkl hcc hg htk hD hDl hT hTX hkB hkd hc1 hc00 hget hO hE hEl
        go_wp2_with (first | (at_lookup; refine wpList_look_led rfl _ _ rfl q W rfl HWr.out kB (by unfold maxLen; omega) rfl ?_; rw [HKD.out, HO.out, HE.out, HIS.out]) | (refine wpList_store_new rfl _ _ _ rfl _ (E.map byteV).toArray _ rfl rfl rfl hIE2 hzE h1E ?_; (obtain ⟨W5, hW5⟩ : ∃ W, wr.alloc (.cells (E.map byteV).toArray 33) = W := ⟨_, rfl⟩; have hx5 : W5.heap[wr.heap.size]? = some (.cells (E.map byteV).toArray 33 (0, 0)) := (by rw [← hW5]; exact heap_new _ _); have hb5 : Below wr.heap.size wr W5 := (by rw [← hW5]; exact (Below.refl _ _).alloc (Nat.le_refl _) _); have HX5 := Lib.hid hx5; have HB5 : Hid (Below w2.heap.size w2 W5) := Lib.hid (HB.out.trans (hb5.mono HB.out.size)); have HS5 := Lib.hid (HSr.out.bel hb5); have c5 : W5.cell? ⟨g, i * 2, none⟩ = some (.string kB) := (HB5.out.cell (p := ⟨g, i * 2, none⟩) HG.out).trans HC0.out; rw [hW5]; clear hW5 hx5 hb5)))
        refine (HGET.out _ HS5.out).mono ?_
        rintro e w6 ⟨⟨t6, rfl⟩, hb6⟩
        rw [show wrapE t6 (D, (0 : Int)).2 = .nilIface from rfl]
        have HB6 : Hid (Below w2.heap.size w2 w6) := Lib.hid (HB5.out.trans (hb6.mono HB5.out.size))
        have HX6 : Hid (w6.heap[wr.heap.size]? = some (.cells (E.map byteV).toArray 33 (0, 0))) := Lib.hid ((hb6.block _ (blk_lt HX5.out)).trans HX5.out)
        unfold digV
        clear hb6 c5
        go_wp2_with (refine wpList_store_new rfl _ _ _ rfl _ (D.map byteV).toArray _ rfl rfl rfl hI2 hz h1 ?_; (obtain ⟨W7, hW7⟩ : ∃ W, w6.alloc (.cells (D.map byteV).toArray 33) = W := ⟨_, rfl⟩; have hx7 : W7.heap[w6.heap.size]? = some (.cells (D.map byteV).toArray 33 (0, 0)) := (by rw [← hW7]; exact heap_new _ _); have hb7 : Below w6.heap.size w6 W7 := (by rw [← hW7]; exact (Below.refl _ _).alloc (Nat.le_refl _) _); have HX7 := Lib.hid hx7; have HY7 : Hid (W7.heap[wr.heap.size]? = some (.cells (E.map byteV).toArray 33 (0, 0))) := Lib.hid ((hb7.block _ (blk_lt HX6.out)).trans HX6.out); have HB7 : Hid (Below w2.heap.size w2 W7) := Lib.hid (HB6.out.trans (hb7.mono HB6.out.size)); rw [hW7]; clear hW7 hx7 hb7))
        have hI0 : Below W7.heap.size W7 W7.drew := ⟨rfl, rfl, rfl, Nat.le_refl _, fun _ _ => rfl⟩
        have HCT : Hid (∀ WW, Below W7.heap.size W7 WW → WW.cell? ⟨g, i * 2, none⟩ = some (.string kB) ∧ WW.cell? ⟨g, i * 2 + 1, none⟩ = some (.string T)) := Lib.hid (fun WW hb => by
          have hb9 := HB7.out.trans (hb.mono HB7.out.size)
          exact ⟨(hb9.cell (p := ⟨g, i * 2, none⟩) HG.out).trans HC0.out, (hb9.cell (p := ⟨g, i * 2 + 1, none⟩) HG.out).trans HC1.out⟩)
        obtain ⟨gb, hgb⟩ : ∃ b, w6.heap.size = b := ⟨_, rfl⟩
        obtain ⟨wb, hwb⟩ : ∃ b, wr.heap.size = b := ⟨_, rfl⟩
        rw [hgb] at HX7
        rw [hwb] at HY7
        rw [hgb, hwb]
        clear hgb hwb
        rcases HCS.out with ⟨rfl, hOn⟩ | ⟨rfl, c2, hOs⟩
        · have HON := Lib.hid hOn
          clear hOn
          refine wp_region_flowG (fun _ : Unit => [.bool false, .bool true, .bool true, undef, undef, .bool true, .bool true, undef, undef, undef, .bool true, .bool true, undef, undef, undef, undef, undef, undef, undef, undef, .bool true, .bool true, undef, undef, undef, undef, undef, undef, undef, undef, undef, undef, undef, undef, undef, undef, undef, undef, .bool true]) (fun _ _ W => Below W7.heap.size W7 W)
            [[], [0], [1], [2], [3, 2], [2, 4], [5, 2], [6], [6], [7, 8, 6], [6, 9], [10, 6], [11], [11], [12, 13, 11], [14, 11], [15, 11], [11], [17, 11, 11], [16, 18, 11], [11, 19], [20, 18], [21], [22, 21], [23, 21, 21], [24], [24], [26, 24], [25, 27, 24], [28, 24], [29, 24], [24], [24], [31, 32, 24], [33, 24], [34, 24], [30, 35, 24], [24, 36, 21], [21, 37]] 91 () mixedD rfl (by kernel_rfl) (fun _ => rfl) hI0 ?_ ?_
          · refine ⟨?_, ?_, ?_, ?_, ?_, ?_, ?_, ?_, ?_, ?_, ?_, ?_, ?_, ?_, ?_, ?_, ?_, ?_, ?_, ?_, ?_, ?_, ?_, ?_, ?_, ?_, ?_, ?_, ?_, ?_, ?_, ?_, ?_, ?_, ?_, ?_, ?_, ?_, ?_, rfl⟩
            all_goals intro L γ W ev hL hd hW hc hf hg he h0
            · have e9 : ev (.tmp 9) = .bool false := h0 9 rfl
              clear he h0 hc hf hg
              exact .inl ⟨rfl, .inl ⟨_, W, (by go_simp <;> rfl), .still (hW) rfl⟩⟩
            · have e52 : ev (.tmp 52) = .bool false := he 0 (by decide) _ 52 rfl rfl
              clear he h0 hc hf hg
              exact .inl ⟨rfl, .inl ⟨_, W, (by go_simp <;> rfl), .still (hW) rfl⟩⟩
            · have e53 : ev (.tmp 53) = .bool true := he 1 (by decide) _ 53 rfl rfl
              clear he h0 hc hf hg
              exact .inl ⟨rfl, .inl ⟨_, W, (by go_simp <;> rfl), .still (hW) rfl⟩⟩
            · exact .inr ⟨rfl, .still (hW) rfl⟩
            · exact .inr ⟨rfl, .still (hW) rfl⟩
            · have e54 : ev (.tmp 54) = .bool true := he 2 (by decide) _ 54 rfl rfl
              have e56 : ev (.tmp 56) = undef := he 4 (by decide) _ 56 rfl rfl
              have hcc := hc
              clear he h0 hc hf hg
              exact .inl ⟨rfl, .inl ⟨_, W, (by go_simp <;> rfl), .still (hW) rfl⟩⟩
            · have e57 : ev (.tmp 57) = .bool true := he 5 (by decide) _ 57 rfl rfl
              clear he h0 hc hf hg
              exact .inl ⟨rfl, .inl ⟨_, W, (by go_simp <;> rfl), .still (hW) rfl⟩⟩
            · exact .inr ⟨rfl, .still (hW) rfl⟩
            · exact .inr ⟨rfl, .still (hW) rfl⟩
            · exact .inr ⟨rfl, .still (hW) rfl⟩
            · have e58 : ev (.tmp 58) = .bool true := he 6 (by decide) _ 58 rfl rfl
              have e61 : ev (.tmp 61) = undef := he 9 (by decide) _ 61 rfl rfl
              have hcc := hc
              clear he h0 hc hf hg
              exact .inl ⟨rfl, .inl ⟨_, W, (by go_simp <;> rfl), .still (hW) rfl⟩⟩
            · have e62 : ev (.tmp 62) = .bool true := he 10 (by decide) _ 62 rfl rfl
              clear he h0 hc hf hg
              exact .inl ⟨rfl, .inl ⟨_, W, (by go_simp <;> rfl), .still (hW) rfl⟩⟩
            · exact .inr ⟨rfl, .still (hW) rfl⟩
            · exact .inr ⟨rfl, .still (hW) rfl⟩
            · exact .inr ⟨rfl, .still (hW) rfl⟩
            · exact .inr ⟨rfl, .still (hW) rfl⟩
            · exact .inr ⟨rfl, .still (hW) rfl⟩
            · exact .inr ⟨rfl, .still (hW) rfl⟩
            · exact .inr ⟨rfl, .still (hW) rfl⟩
            · exact .inr ⟨rfl, .still (hW) rfl⟩
            · have e63 : ev (.tmp 63) = .bool true := he 11 (by decide) _ 63 rfl rfl
              have e71 : ev (.tmp 71) = undef := he 19 (by decide) _ 71 rfl rfl
              have hcc := hc
              clear he h0 hc hf hg
              exact .inl ⟨rfl, .inl ⟨_, W, (by go_simp <;> rfl), .still (hW) rfl⟩⟩
            · have e72 : ev (.tmp 72) = .bool true := he 20 (by decide) _ 72 rfl rfl
              clear he h0 hc hf hg
              exact .inl ⟨rfl, .inl ⟨_, W, (by go_simp <;> rfl), .still (hW) rfl⟩⟩
            · exact .inr ⟨rfl, .still (hW) rfl⟩
            · exact .inr ⟨rfl, .still (hW) rfl⟩
            · exact .inr ⟨rfl, .still (hW) rfl⟩
            · exact .inr ⟨rfl, .still (hW) rfl⟩
            · exact .inr ⟨rfl, .still (hW) rfl⟩
            · exact .inr ⟨rfl, .still (hW) rfl⟩
            · exact .inr ⟨rfl, .still (hW) rfl⟩
            · exact .inr ⟨rfl, .still (hW) rfl⟩
            · exact .inr ⟨rfl, .still (hW) rfl⟩
            · exact .inr ⟨rfl, .still (hW) rfl⟩
            · exact .inr ⟨rfl, .still (hW) rfl⟩
            · exact .inr ⟨rfl, .still (hW) rfl⟩
            · exact .inr ⟨rfl, .still (hW) rfl⟩
            · exact .inr ⟨rfl, .still (hW) rfl⟩
            · exact .inr ⟨rfl, .still (hW) rfl⟩
            · exact .inr ⟨rfl, .still (hW) rfl⟩
            · have e73 : ev (.tmp 73) = .bool true := he 21 (by decide) _ 73 rfl rfl
              have e89 : ev (.tmp 89) = undef := he 37 (by decide) _ 89 rfl rfl
              have hcc := hc
              clear he h0 hc hf hg
              exact .inl ⟨rfl, .inl ⟨_, W, (by go_simp <;> rfl), .still (hW) rfl⟩⟩
          intro γ L w8 hL hW
          have HB8 : Hid (Below w2.heap.size w2 w8) := Lib.hid (HB7.out.trans (hW.mono HB7.out.size))
          clear hL hW hI0
          simp only [putAll, Act.put, List.setIfInBounds_toArray, List.set_cons_succ, List.set_cons_zero]
          have hRf : RB = false := by
            rw [← HRB.out]
            refine decide_eq_false fun hh => ?_
            have h2 := tget_of_mem HN.out.rise (List.mem_of_getElem? HX.out)
            rw [hh, HO.out, HON.out] at h2
            cases h2
          subst hRf
          go_wp2_with fail
          go_ret
          exact ⟨rfl, HB2.out.trans (HB8.out.mono HB2.out.size)⟩
        · have HOS := Lib.hid hOs
          have hEd : E = decD c2 := by rw [← HE.out, hOs]; rfl
          have HED := Lib.hid hEd
          clear hOs hEd
          by_cases hde : D = E
          · have hee : (D == E) = true := beq_iff_eq.2 hde
            have hEQ := Lib.hid hde
            have hTT : (T.toList == T.toList) = true := beq_self_eq_true _
            have HNX : Hid (∀ x ∈ LT.take (i + 1), tget W x.1 = some x.2) := Lib.hid (fun x hx => by
              rw [HTK.out] at hx
              rcases List.mem_append.1 hx with hx | hx
              · exact HJ.out x hx
              · rw [List.mem_singleton.1 hx]
                show tget W k = some c
                rw [HO.out, HOS.out, HCC.out, hEQ.out, HED.out]
                exact congrArg some (HWC.out c2 k (HO.out.trans HOS.out)).symm)
            clear hde
            rcases Nat.eq_zero_or_pos i with hi0 | hi0
            · subst hi0
              have HTE : Hid (∀ WW : World, Calls Tryz.prog 49 #[.agg (E.map byteV).toArray] WW fun e w' => e = .returned (.string T) ∧ Below WW.heap.size WW w') := Lib.hid (fun WW => by rw [← hEQ.out]; exact HTX.out WW)
              refine wp_region_flowG (fun _ : Unit => [.bool true, .bool false, .bool false, .nilIface, .bool false, .bool false, .bool false, .agg (D.map byteV).toArray, .agg (E.map byteV).toArray, .bool false, .bool false, .bool false, .slice (some ⟨g, 0, none⟩) N cp, .int .i64 0, .pointer (some ⟨g, 0, none⟩), .pointer (some ⟨g, 1, none⟩), .string T, .agg (E.map byteV).toArray, .string T, .bool false, .bool false, .bool false, .int .i64 0, .bool false, .bool false, undef, undef, undef, undef, undef, undef, undef, undef, undef, undef, undef, undef, .bool false, .bool false]) (fun _ _ W => Below W7.heap.size W7 W)
                [[], [0], [1], [2], [3, 2], [2, 4], [5, 2], [6], [6], [7, 8, 6], [6, 9], [10, 6], [11], [11], [12, 13, 11], [14, 11], [15, 11], [11], [17, 11, 11], [16, 18, 11], [11, 19], [20, 18], [21], [22, 21], [23, 21, 21], [24], [24], [26, 24], [25, 27, 24], [28, 24], [29, 24], [24], [24], [31, 32, 24], [33, 24], [34, 24], [30, 35, 24], [24, 36, 21], [21, 37]] 91 () mixedD rfl (by kernel_rfl) (fun _ => rfl) hI0 ?_ ?_
              · refine ⟨?_, ?_, ?_, ?_, ?_, ?_, ?_, ?_, ?_, ?_, ?_, ?_, ?_, ?_, ?_, ?_, ?_, ?_, ?_, ?_, ?_, ?_, ?_, ?_, ?_, ?_, ?_, ?_, ?_, ?_, ?_, ?_, ?_, ?_, ?_, ?_, ?_, ?_, ?_, rfl⟩
                all_goals intro L γ W ev hL hd hW hc hf hg he h0
                · have e9 : ev (.tmp 9) = .bool true := h0 9 rfl
                  clear he h0 hc hf hg
                  exact .inl ⟨rfl, .inl ⟨_, W, (by go_simp <;> rfl), .still (hW) rfl⟩⟩
                · have e52 : ev (.tmp 52) = .bool true := he 0 (by decide) _ 52 rfl rfl
                  clear he h0 hc hf hg
                  exact .inl ⟨rfl, .inl ⟨_, W, (by go_simp <;> rfl), .still (hW) rfl⟩⟩
                · have e53 : ev (.tmp 53) = .bool false := he 1 (by decide) _ 53 rfl rfl
                  clear he h0 hc hf hg
                  exact .inl ⟨rfl, .inl ⟨_, W, (by go_simp <;> rfl), .still (hW) rfl⟩⟩
                · have e11 : ev (.tmp 11) = .nilIface := h0 11 rfl
                  clear he h0 hc hf hg
                  exact .inl ⟨rfl, .inl ⟨_, W, (by go_simp <;> rfl), .still (hW) rfl⟩⟩
                · have e55 : ev (.tmp 55) = .nilIface := he 3 (by decide) _ 55 rfl rfl
                  have hcc := hc
                  clear he h0 hc hf hg
                  exact .inl ⟨rfl, .inl ⟨_, W, (by go_simp <;> rfl), .still (hW) rfl⟩⟩
                · have e54 : ev (.tmp 54) = .bool false := he 2 (by decide) _ 54 rfl rfl
                  have e56 : ev (.tmp 56) = .bool false := he 4 (by decide) _ 56 rfl rfl
                  have hcc := hc
                  clear he h0 hc hf hg
                  exact .inl ⟨rfl, .inl ⟨_, W, (by go_simp <;> rfl), .still (hW) rfl⟩⟩
                · have e57 : ev (.tmp 57) = .bool false := he 5 (by decide) _ 57 rfl rfl
                  clear he h0 hc hf hg
                  exact .inl ⟨rfl, .inl ⟨_, W, (by go_simp <;> rfl), .still (hW) rfl⟩⟩
                · have e10 : ev (.tmp 10) = .pointer (some ⟨gb, 0, none⟩) := h0 10 rfl
                  clear he h0 hc hg
                  have hlv := run_loadVar_row (P := Tryz.prog) W gb 33 33 (D.map byteV).toArray (0, 0) _ ((hW.block _ (blk_lt HX7.out)).trans HX7.out) dig_und rfl (dig_info2 HDL.out)
                  refine .inl ⟨rfl, .inl ⟨_, W, ?_, .still (hW) rfl⟩⟩
                  unfold execOp
                  simp only [e10, Instr.loadAt, Instr.sureAddr, Sem.run_bind, Sem.run_pure, Result.andThen_ok, hlv]
                  try rfl
                · have e8 : ev (.tmp 8) = .pointer (some ⟨wb, 0, none⟩) := h0 8 rfl
                  clear he h0 hc hg
                  have hlv := run_loadVar_row (P := Tryz.prog) W wb 33 33 (E.map byteV).toArray (0, 0) _ ((hW.block _ (blk_lt HY7.out)).trans HY7.out) dig_und rfl (dig_info2 HEL.out)
                  refine .inl ⟨rfl, .inl ⟨_, W, ?_, .still (hW) rfl⟩⟩
                  unfold execOp
                  simp only [e8, Instr.loadAt, Instr.sureAddr, Sem.run_bind, Sem.run_pure, Result.andThen_ok, hlv]
                  try rfl
                · have e59 : ev (.tmp 59) = .agg (D.map byteV).toArray := he 7 (by decide) _ 59 rfl rfl
                  have e60 : ev (.tmp 60) = .agg (E.map byteV).toArray := he 8 (by decide) _ 60 rfl rfl
                  clear he h0 hc hg
                  have hq := dig_in W HDL.out HEL.out
                  rw [hee] at hq
                  refine .inl ⟨rfl, .inl ⟨_, W, (by go_simp <;> rfl), .still (hW) rfl⟩⟩
                · have e58 : ev (.tmp 58) = .bool false := he 6 (by decide) _ 58 rfl rfl
                  have e61 : ev (.tmp 61) = .bool false := he 9 (by decide) _ 61 rfl rfl
                  have hcc := hc
                  clear he h0 hc hf hg
                  exact .inl ⟨rfl, .inl ⟨_, W, (by go_simp <;> rfl), .still (hW) rfl⟩⟩
                · have e62 : ev (.tmp 62) = .bool false := he 10 (by decide) _ 62 rfl rfl
                  clear he h0 hc hf hg
                  exact .inl ⟨rfl, .inl ⟨_, W, (by go_simp <;> rfl), .still (hW) rfl⟩⟩
                · have e5 : ev (.tmp 5) = .slice (some ⟨g, 0, none⟩) N cp := h0 5 rfl
                  clear he h0 hc hf hg
                  exact .inl ⟨rfl, .inl ⟨_, W, (by go_simp <;> rfl), .still (hW) rfl⟩⟩
                · have e7 : ev (.tmp 7) = .int .i64 0 := h0 7 rfl
                  clear he h0 hc hf hg
                  exact .inl ⟨rfl, .inl ⟨_, W, (by go_simp <;> rfl), .still (hW) rfl⟩⟩
                · have e64 : ev (.tmp 64) = .slice (some ⟨g, 0, none⟩) N cp := he 12 (by decide) _ 64 rfl rfl
                  have e65 : ev (.tmp 65) = .int .i64 0 := he 13 (by decide) _ 65 rfl rfl
                  have hb0 : ¬ N = 0 := by have := hlt; omega
                  clear he h0 hc hf hg
                  exact .inl ⟨rfl, .inl ⟨_, W, (by go_simp <;> rfl), .still (hW) rfl⟩⟩
                · have e66 : ev (.tmp 66) = .pointer (some ⟨g, 0, none⟩) := he 14 (by decide) _ 66 rfl rfl
                  clear he h0 hc hf hg
                  exact .inl ⟨rfl, .inl ⟨_, W, (by go_simp <;> rfl), .still (hW) rfl⟩⟩
                · have e67 : ev (.tmp 67) = .pointer (some ⟨g, 1, none⟩) := he 15 (by decide) _ 67 rfl rfl
                  have cc : W.cell? ⟨g, 1, none⟩ = some (.string T) := (HCT.out W hW).2
                  clear he h0 hc hf hg
                  exact .inl ⟨rfl, .inl ⟨_, W, (by go_simp <;> rfl), .still (hW) rfl⟩⟩
                · have e8 : ev (.tmp 8) = .pointer (some ⟨wb, 0, none⟩) := h0 8 rfl
                  clear he h0 hc hg
                  have hlv := run_loadVar_row (P := Tryz.prog) W wb 33 33 (E.map byteV).toArray (0, 0) _ ((hW.block _ (blk_lt HY7.out)).trans HY7.out) dig_und rfl (dig_info2 HEL.out)
                  refine .inl ⟨rfl, .inl ⟨_, W, ?_, .still (hW) rfl⟩⟩
                  unfold execOp
                  simp only [e8, Instr.loadAt, Instr.sureAddr, Sem.run_bind, Sem.run_pure, Result.andThen_ok, hlv]
                  try rfl
                · have e69 : ev (.tmp 69) = .agg (E.map byteV).toArray := he 17 (by decide) _ 69 rfl rfl
                  clear he h0 hc hg
                  refine .inl ⟨rfl, .inr (.inr ⟨49, #[.agg (E.map byteV).toArray], W, (by have hff := hf 49; clear hf; go_simp <;> rfl), ?_⟩)⟩
                  refine (HTE.out W).mono ?_
                  rintro e w' ⟨rfl, hb⟩
                  exact ⟨_, rfl, .still (hW.trans (hb.mono hW.size)) rfl⟩
                · have e68 : ev (.tmp 68) = .string T := he 16 (by decide) _ 68 rfl rfl
                  have e70 : ev (.tmp 70) = .string T := he 18 (by decide) _ 70 rfl rfl
                  clear he h0 hc hf hg
                  exact .inl ⟨rfl, .inl ⟨_, W, (by go_simp <;> rfl), .still (hW) rfl⟩⟩
                · have e63 : ev (.tmp 63) = .bool false := he 11 (by decide) _ 63 rfl rfl
                  have e71 : ev (.tmp 71) = .bool false := he 19 (by decide) _ 71 rfl rfl
                  have hcc := hc
                  clear he h0 hc hf hg
                  exact .inl ⟨rfl, .inl ⟨_, W, (by go_simp <;> rfl), .still (hW) rfl⟩⟩
                · have e72 : ev (.tmp 72) = .bool false := he 20 (by decide) _ 72 rfl rfl
                  clear he h0 hc hf hg
                  exact .inl ⟨rfl, .inl ⟨_, W, (by go_simp <;> rfl), .still (hW) rfl⟩⟩
                · have e7 : ev (.tmp 7) = .int .i64 0 := h0 7 rfl
                  clear he h0 hc hf hg
                  exact .inl ⟨rfl, .inl ⟨_, W, (by go_simp <;> rfl), .still (hW) rfl⟩⟩
                · have e74 : ev (.tmp 74) = .int .i64 0 := he 22 (by decide) _ 74 rfl rfl
                  have hcc := hc
                  clear he h0 hc hf hg
                  exact .inl ⟨rfl, .inl ⟨_, W, (by go_simp <;> rfl), .still (hW) rfl⟩⟩
                · have e75 : ev (.tmp 75) = .bool false := he 23 (by decide) _ 75 rfl rfl
                  clear he h0 hc hf hg
                  exact .inl ⟨rfl, .inl ⟨_, W, (by go_simp <;> rfl), .still (hW) rfl⟩⟩
                · exact .inr ⟨rfl, .still (hW) rfl⟩
                · exact .inr ⟨rfl, .still (hW) rfl⟩
                · exact .inr ⟨rfl, .still (hW) rfl⟩
                · exact .inr ⟨rfl, .still (hW) rfl⟩
                · exact .inr ⟨rfl, .still (hW) rfl⟩
                · exact .inr ⟨rfl, .still (hW) rfl⟩
                · exact .inr ⟨rfl, .still (hW) rfl⟩
                · exact .inr ⟨rfl, .still (hW) rfl⟩
                · exact .inr ⟨rfl, .still (hW) rfl⟩
                · exact .inr ⟨rfl, .still (hW) rfl⟩
                · exact .inr ⟨rfl, .still (hW) rfl⟩
                · exact .inr ⟨rfl, .still (hW) rfl⟩
                · have e76 : ev (.tmp 76) = .bool false := he 24 (by decide) _ 76 rfl rfl
                  have e88 : ev (.tmp 88) = undef := he 36 (by decide) _ 88 rfl rfl
                  have hcc := hc
                  clear he h0 hc hf hg
                  exact .inl ⟨rfl, .inl ⟨_, W, (by go_simp <;> rfl), .still (hW) rfl⟩⟩
                · have e73 : ev (.tmp 73) = .bool false := he 21 (by decide) _ 73 rfl rfl
                  have e89 : ev (.tmp 89) = .bool false := he 37 (by decide) _ 89 rfl rfl
                  have hcc := hc
                  clear he h0 hc hf hg
                  exact .inl ⟨rfl, .inl ⟨_, W, (by go_simp <;> rfl), .still (hW) rfl⟩⟩
              intro γ L w8 hL hW
              have HB8 : Hid (Below w2.heap.size w2 w8) := Lib.hid (HB7.out.trans (hW.mono HB7.out.size))
              clear hL hW hI0
              simp only [putAll, Act.put, List.setIfInBounds_toArray, List.set_cons_succ, List.set_cons_zero]
              go_wp2_with fail
              refine ⟨⟨1, by omega, by first | rfl | (rw [Int.natCast_add, Int.natCast_add]; rfl), HNX, HB8⟩, by simp [intOf]; omega⟩
            · obtain ⟨j, rfl⟩ : ∃ j, i = j + 1 := ⟨i - 1, by omega⟩
              obtain ⟨pB, hpB, hps⟩ := HPREV.out j rfl
              have HPB := Lib.hid hpB
              clear hpB
              have HTE : Hid (∀ WW : World, Calls Tryz.prog 49 #[.agg (E.map byteV).toArray] WW fun e w' => e = .returned (.string T) ∧ Below WW.heap.size WW w') := Lib.hid (fun WW => by rw [← hEQ.out]; exact HTX.out WW)
              refine wp_region_flowG (fun _ : Unit => [.bool true, .bool false, .bool false, .nilIface, .bool false, .bool false, .bool false, .agg (D.map byteV).toArray, .agg (E.map byteV).toArray, .bool false, .bool false, .bool false, .slice (some ⟨g, 0, none⟩) N cp, .int .i64 ((j : Int) + 1), .pointer (some ⟨g, (j + 1) * 2, none⟩), .pointer (some ⟨g, (j + 1) * 2 + 1, none⟩), .string T, .agg (E.map byteV).toArray, .string T, .bool false, .bool false, .bool false, .int .i64 ((j : Int) + 1), .bool true, .bool true, .slice (some ⟨g, 0, none⟩) N cp, .int .i64 ((j : Int) + 1), .int .i64 j, .pointer (some ⟨g, j * 2, none⟩), .pointer (some ⟨g, j * 2, none⟩), .string pB, .slice (some ⟨g, 0, none⟩) N cp, .int .i64 ((j : Int) + 1), .pointer (some ⟨g, (j + 1) * 2, none⟩), .pointer (some ⟨g, (j + 1) * 2, none⟩), .string kB, .bool false, .bool false, .bool false]) (fun _ _ W => Below W7.heap.size W7 W)
                [[], [0], [1], [2], [3, 2], [2, 4], [5, 2], [6], [6], [7, 8, 6], [6, 9], [10, 6], [11], [11], [12, 13, 11], [14, 11], [15, 11], [11], [17, 11, 11], [16, 18, 11], [11, 19], [20, 18], [21], [22, 21], [23, 21, 21], [24], [24], [26, 24], [25, 27, 24], [28, 24], [29, 24], [24], [24], [31, 32, 24], [33, 24], [34, 24], [30, 35, 24], [24, 36, 21], [21, 37]] 91 () mixedD rfl (by kernel_rfl) (fun _ => rfl) hI0 ?_ ?_
              · refine ⟨?_, ?_, ?_, ?_, ?_, ?_, ?_, ?_, ?_, ?_, ?_, ?_, ?_, ?_, ?_, ?_, ?_, ?_, ?_, ?_, ?_, ?_, ?_, ?_, ?_, ?_, ?_, ?_, ?_, ?_, ?_, ?_, ?_, ?_, ?_, ?_, ?_, ?_, ?_, rfl⟩
                all_goals intro L γ W ev hL hd hW hc hf hg he h0
                · have e9 : ev (.tmp 9) = .bool true := h0 9 rfl
                  clear he h0 hc hf hg
                  exact .inl ⟨rfl, .inl ⟨_, W, (by go_simp <;> rfl), .still (hW) rfl⟩⟩
                · have e52 : ev (.tmp 52) = .bool true := he 0 (by decide) _ 52 rfl rfl
                  clear he h0 hc hf hg
                  exact .inl ⟨rfl, .inl ⟨_, W, (by go_simp <;> rfl), .still (hW) rfl⟩⟩
                · have e53 : ev (.tmp 53) = .bool false := he 1 (by decide) _ 53 rfl rfl
                  clear he h0 hc hf hg
                  exact .inl ⟨rfl, .inl ⟨_, W, (by go_simp <;> rfl), .still (hW) rfl⟩⟩
                · have e11 : ev (.tmp 11) = .nilIface := h0 11 rfl
                  clear he h0 hc hf hg
                  exact .inl ⟨rfl, .inl ⟨_, W, (by go_simp <;> rfl), .still (hW) rfl⟩⟩
                · have e55 : ev (.tmp 55) = .nilIface := he 3 (by decide) _ 55 rfl rfl
                  have hcc := hc
                  clear he h0 hc hf hg
                  exact .inl ⟨rfl, .inl ⟨_, W, (by go_simp <;> rfl), .still (hW) rfl⟩⟩
                · have e54 : ev (.tmp 54) = .bool false := he 2 (by decide) _ 54 rfl rfl
                  have e56 : ev (.tmp 56) = .bool false := he 4 (by decide) _ 56 rfl rfl
                  have hcc := hc
                  clear he h0 hc hf hg
                  exact .inl ⟨rfl, .inl ⟨_, W, (by go_simp <;> rfl), .still (hW) rfl⟩⟩
                · have e57 : ev (.tmp 57) = .bool false := he 5 (by decide) _ 57 rfl rfl
                  clear he h0 hc hf hg
                  exact .inl ⟨rfl, .inl ⟨_, W, (by go_simp <;> rfl), .still (hW) rfl⟩⟩
                · have e10 : ev (.tmp 10) = .pointer (some ⟨gb, 0, none⟩) := h0 10 rfl
                  clear he h0 hc hg
                  have hlv := run_loadVar_row (P := Tryz.prog) W gb 33 33 (D.map byteV).toArray (0, 0) _ ((hW.block _ (blk_lt HX7.out)).trans HX7.out) dig_und rfl (dig_info2 HDL.out)
                  refine .inl ⟨rfl, .inl ⟨_, W, ?_, .still (hW) rfl⟩⟩
                  unfold execOp
                  simp only [e10, Instr.loadAt, Instr.sureAddr, Sem.run_bind, Sem.run_pure, Result.andThen_ok, hlv]
                  try rfl
                · have e8 : ev (.tmp 8) = .pointer (some ⟨wb, 0, none⟩) := h0 8 rfl
                  clear he h0 hc hg
                  have hlv := run_loadVar_row (P := Tryz.prog) W wb 33 33 (E.map byteV).toArray (0, 0) _ ((hW.block _ (blk_lt HY7.out)).trans HY7.out) dig_und rfl (dig_info2 HEL.out)
                  refine .inl ⟨rfl, .inl ⟨_, W, ?_, .still (hW) rfl⟩⟩
                  unfold execOp
                  simp only [e8, Instr.loadAt, Instr.sureAddr, Sem.run_bind, Sem.run_pure, Result.andThen_ok, hlv]
                  try rfl
                · have e59 : ev (.tmp 59) = .agg (D.map byteV).toArray := he 7 (by decide) _ 59 rfl rfl
                  have e60 : ev (.tmp 60) = .agg (E.map byteV).toArray := he 8 (by decide) _ 60 rfl rfl
                  clear he h0 hc hg
                  have hq := dig_in W HDL.out HEL.out
                  rw [hee] at hq
                  refine .inl ⟨rfl, .inl ⟨_, W, (by go_simp <;> rfl), .still (hW) rfl⟩⟩
                · have e58 : ev (.tmp 58) = .bool false := he 6 (by decide) _ 58 rfl rfl
                  have e61 : ev (.tmp 61) = .bool false := he 9 (by decide) _ 61 rfl rfl
                  have hcc := hc
                  clear he h0 hc hf hg
                  exact .inl ⟨rfl, .inl ⟨_, W, (by go_simp <;> rfl), .still (hW) rfl⟩⟩
                · have e62 : ev (.tmp 62) = .bool false := he 10 (by decide) _ 62 rfl rfl
                  clear he h0 hc hf hg
                  exact .inl ⟨rfl, .inl ⟨_, W, (by go_simp <;> rfl), .still (hW) rfl⟩⟩
                · have e5 : ev (.tmp 5) = .slice (some ⟨g, 0, none⟩) N cp := h0 5 rfl
                  clear he h0 hc hf hg
                  exact .inl ⟨rfl, .inl ⟨_, W, (by go_simp <;> rfl), .still (hW) rfl⟩⟩
                · have e7 : ev (.tmp 7) = .int .i64 ((j : Int) + 1) := h0 7 rfl
                  clear he h0 hc hf hg
                  exact .inl ⟨rfl, .inl ⟨_, W, (by go_simp <;> rfl), .still (hW) rfl⟩⟩
                · have e64 : ev (.tmp 64) = .slice (some ⟨g, 0, none⟩) N cp := he 12 (by decide) _ 64 rfl rfl
                  have e65 : ev (.tmp 65) = .int .i64 ((j : Int) + 1) := he 13 (by decide) _ 65 rfl rfl
                  have hb1 : (j : Int) + 1 < (N : Int) := by have := hlt; omega
                  have hb2 : (j : Int) < (N : Int) := by have := hlt; omega
                  have hb3 : ¬ (j : Int) + 1 < 0 := by omega
                  have hb4 : ¬ (j : Int) < 0 := by omega
                  clear he h0 hc hf hg
                  exact .inl ⟨rfl, .inl ⟨_, W, (by go_simp <;> rfl), .still (hW) rfl⟩⟩
                · have e66 : ev (.tmp 66) = .pointer (some ⟨g, (j + 1) * 2, none⟩) := he 14 (by decide) _ 66 rfl rfl
                  clear he h0 hc hf hg
                  exact .inl ⟨rfl, .inl ⟨_, W, (by go_simp <;> rfl), .still (hW) rfl⟩⟩
                · have e67 : ev (.tmp 67) = .pointer (some ⟨g, (j + 1) * 2 + 1, none⟩) := he 15 (by decide) _ 67 rfl rfl
                  have cc : W.cell? ⟨g, (j + 1) * 2 + 1, none⟩ = some (.string T) := (HCT.out W hW).2
                  clear he h0 hc hf hg
                  exact .inl ⟨rfl, .inl ⟨_, W, (by go_simp <;> rfl), .still (hW) rfl⟩⟩
                · have e8 : ev (.tmp 8) = .pointer (some ⟨wb, 0, none⟩) := h0 8 rfl
                  clear he h0 hc hg
                  have hlv := run_loadVar_row (P := Tryz.prog) W wb 33 33 (E.map byteV).toArray (0, 0) _ ((hW.block _ (blk_lt HY7.out)).trans HY7.out) dig_und rfl (dig_info2 HEL.out)
                  refine .inl ⟨rfl, .inl ⟨_, W, ?_, .still (hW) rfl⟩⟩
                  unfold execOp
                  simp only [e8, Instr.loadAt, Instr.sureAddr, Sem.run_bind, Sem.run_pure, Result.andThen_ok, hlv]
                  try rfl
                · have e69 : ev (.tmp 69) = .agg (E.map byteV).toArray := he 17 (by decide) _ 69 rfl rfl
                  clear he h0 hc hg
                  refine .inl ⟨rfl, .inr (.inr ⟨49, #[.agg (E.map byteV).toArray], W, (by have hff := hf 49; clear hf; go_simp <;> rfl), ?_⟩)⟩
                  refine (HTE.out W).mono ?_
                  rintro e w' ⟨rfl, hb⟩
                  exact ⟨_, rfl, .still (hW.trans (hb.mono hW.size)) rfl⟩
                · have e68 : ev (.tmp 68) = .string T := he 16 (by decide) _ 68 rfl rfl
                  have e70 : ev (.tmp 70) = .string T := he 18 (by decide) _ 70 rfl rfl
                  clear he h0 hc hf hg
                  exact .inl ⟨rfl, .inl ⟨_, W, (by go_simp <;> rfl), .still (hW) rfl⟩⟩
                · have e63 : ev (.tmp 63) = .bool false := he 11 (by decide) _ 63 rfl rfl
                  have e71 : ev (.tmp 71) = .bool false := he 19 (by decide) _ 71 rfl rfl
                  have hcc := hc
                  clear he h0 hc hf hg
                  exact .inl ⟨rfl, .inl ⟨_, W, (by go_simp <;> rfl), .still (hW) rfl⟩⟩
                · have e72 : ev (.tmp 72) = .bool false := he 20 (by decide) _ 72 rfl rfl
                  clear he h0 hc hf hg
                  exact .inl ⟨rfl, .inl ⟨_, W, (by go_simp <;> rfl), .still (hW) rfl⟩⟩
                · have e7 : ev (.tmp 7) = .int .i64 ((j : Int) + 1) := h0 7 rfl
                  clear he h0 hc hf hg
                  exact .inl ⟨rfl, .inl ⟨_, W, (by go_simp <;> rfl), .still (hW) rfl⟩⟩
                · have e74 : ev (.tmp 74) = .int .i64 ((j : Int) + 1) := he 22 (by decide) _ 74 rfl rfl
                  have hcc := hc
                  clear he h0 hc hf hg
                  exact .inl ⟨rfl, .inl ⟨_, W, (by go_simp <;> rfl), .still (hW) rfl⟩⟩
                · have e75 : ev (.tmp 75) = .bool true := he 23 (by decide) _ 75 rfl rfl
                  clear he h0 hc hf hg
                  exact .inl ⟨rfl, .inl ⟨_, W, (by go_simp <;> rfl), .still (hW) rfl⟩⟩
                · have e5 : ev (.tmp 5) = .slice (some ⟨g, 0, none⟩) N cp := h0 5 rfl
                  clear he h0 hc hf hg
                  exact .inl ⟨rfl, .inl ⟨_, W, (by go_simp <;> rfl), .still (hW) rfl⟩⟩
                · have e7 : ev (.tmp 7) = .int .i64 ((j : Int) + 1) := h0 7 rfl
                  clear he h0 hc hf hg
                  exact .inl ⟨rfl, .inl ⟨_, W, (by go_simp <;> rfl), .still (hW) rfl⟩⟩
                · have e78 : ev (.tmp 78) = .int .i64 ((j : Int) + 1) := he 26 (by decide) _ 78 rfl rfl
                  have hcc := hc
                  have hwj : IntKind.i64.wrap (j : Int) = (j : Int) := by rw [IntKind.wrap_i64]; omega
                  clear he h0 hc hf hg
                  exact .inl ⟨rfl, .inl ⟨_, W, (by go_simp <;> rfl), .still (hW) rfl⟩⟩
                · have e77 : ev (.tmp 77) = .slice (some ⟨g, 0, none⟩) N cp := he 25 (by decide) _ 77 rfl rfl
                  have e79 : ev (.tmp 79) = .int .i64 j := he 27 (by decide) _ 79 rfl rfl
                  have hb1 : (j : Int) + 1 < (N : Int) := by have := hlt; omega
                  have hb2 : (j : Int) < (N : Int) := by have := hlt; omega
                  have hb3 : ¬ (j : Int) + 1 < 0 := by omega
                  have hb4 : ¬ (j : Int) < 0 := by omega
                  clear he h0 hc hf hg
                  exact .inl ⟨rfl, .inl ⟨_, W, (by go_simp <;> rfl), .still (hW) rfl⟩⟩
                · have e80 : ev (.tmp 80) = .pointer (some ⟨g, j * 2, none⟩) := he 28 (by decide) _ 80 rfl rfl
                  clear he h0 hc hf hg
                  exact .inl ⟨rfl, .inl ⟨_, W, (by go_simp <;> rfl), .still (hW) rfl⟩⟩
                · have e81 : ev (.tmp 81) = .pointer (some ⟨g, j * 2, none⟩) := he 29 (by decide) _ 81 rfl rfl
                  have cc : W.cell? ⟨g, j * 2, none⟩ = some (.string pB) := ((HB7.out.trans (hW.mono HB7.out.size)).cell (p := ⟨g, j * 2, none⟩) HG.out).trans HPB.out
                  clear he h0 hc hf hg
                  exact .inl ⟨rfl, .inl ⟨_, W, (by go_simp <;> rfl), .still (hW) rfl⟩⟩
                · have e5 : ev (.tmp 5) = .slice (some ⟨g, 0, none⟩) N cp := h0 5 rfl
                  clear he h0 hc hf hg
                  exact .inl ⟨rfl, .inl ⟨_, W, (by go_simp <;> rfl), .still (hW) rfl⟩⟩
                · have e7 : ev (.tmp 7) = .int .i64 ((j : Int) + 1) := h0 7 rfl
                  clear he h0 hc hf hg
                  exact .inl ⟨rfl, .inl ⟨_, W, (by go_simp <;> rfl), .still (hW) rfl⟩⟩
                · have e83 : ev (.tmp 83) = .slice (some ⟨g, 0, none⟩) N cp := he 31 (by decide) _ 83 rfl rfl
                  have e84 : ev (.tmp 84) = .int .i64 ((j : Int) + 1) := he 32 (by decide) _ 84 rfl rfl
                  have hb1 : (j : Int) + 1 < (N : Int) := by have := hlt; omega
                  have hb2 : (j : Int) < (N : Int) := by have := hlt; omega
                  have hb3 : ¬ (j : Int) + 1 < 0 := by omega
                  have hb4 : ¬ (j : Int) < 0 := by omega
                  clear he h0 hc hf hg
                  exact .inl ⟨rfl, .inl ⟨_, W, (by go_simp <;> rfl), .still (hW) rfl⟩⟩
                · have e85 : ev (.tmp 85) = .pointer (some ⟨g, (j + 1) * 2, none⟩) := he 33 (by decide) _ 85 rfl rfl
                  clear he h0 hc hf hg
                  exact .inl ⟨rfl, .inl ⟨_, W, (by go_simp <;> rfl), .still (hW) rfl⟩⟩
                · have e86 : ev (.tmp 86) = .pointer (some ⟨g, (j + 1) * 2, none⟩) := he 34 (by decide) _ 86 rfl rfl
                  have cc : W.cell? ⟨g, (j + 1) * 2, none⟩ = some (.string kB) := (HCT.out W hW).1
                  clear he h0 hc hf hg
                  exact .inl ⟨rfl, .inl ⟨_, W, (by go_simp <;> rfl), .still (hW) rfl⟩⟩
                · have e82 : ev (.tmp 82) = .string pB := he 30 (by decide) _ 82 rfl rfl
                  have e87 : ev (.tmp 87) = .string kB := he 35 (by decide) _ 87 rfl rfl
                  clear he h0 hc hf hg
                  exact .inl ⟨rfl, .inl ⟨_, W, (by go_simp <;> rfl), .still (hW) rfl⟩⟩
                · have e76 : ev (.tmp 76) = .bool true := he 24 (by decide) _ 76 rfl rfl
                  have e88 : ev (.tmp 88) = .bool false := he 36 (by decide) _ 88 rfl rfl
                  have hcc := hc
                  clear he h0 hc hf hg
                  exact .inl ⟨rfl, .inl ⟨_, W, (by go_simp <;> rfl), .still (hW) rfl⟩⟩
                · have e73 : ev (.tmp 73) = .bool false := he 21 (by decide) _ 73 rfl rfl
                  have e89 : ev (.tmp 89) = .bool false := he 37 (by decide) _ 89 rfl rfl
                  have hcc := hc
                  clear he h0 hc hf hg
                  exact .inl ⟨rfl, .inl ⟨_, W, (by go_simp <;> rfl), .still (hW) rfl⟩⟩
              intro γ L w8 hL hW
              have HB8 : Hid (Below w2.heap.size w2 w8) := Lib.hid (HB7.out.trans (hW.mono HB7.out.size))
              clear hL hW hI0
              simp only [putAll, Act.put, List.setIfInBounds_toArray, List.set_cons_succ, List.set_cons_zero]
              go_wp2_with fail
              refine ⟨⟨j + 1 + 1, by omega, by first | rfl | (rw [Int.natCast_add, Int.natCast_add]; rfl), HNX, HB8⟩, by simp [intOf]; omega⟩
          · have hee : (D == E) = false := beq_eq_false_iff_ne.2 hde
            have HDE := Lib.hid hde
            clear hde
            refine wp_region_flowG (fun _ : Unit => [.bool true, .bool false, .bool false, .nilIface, .bool false, .bool false, .bool false, .agg (D.map byteV).toArray, .agg (E.map byteV).toArray, .bool true, .bool true, .bool true, undef, undef, undef, undef, undef, undef, undef, undef, .bool true, .bool true, undef, undef, undef, undef, undef, undef, undef, undef, undef, undef, undef, undef, undef, undef, undef, undef, .bool true]) (fun _ _ W => Below W7.heap.size W7 W)
              [[], [0], [1], [2], [3, 2], [2, 4], [5, 2], [6], [6], [7, 8, 6], [6, 9], [10, 6], [11], [11], [12, 13, 11], [14, 11], [15, 11], [11], [17, 11, 11], [16, 18, 11], [11, 19], [20, 18], [21], [22, 21], [23, 21, 21], [24], [24], [26, 24], [25, 27, 24], [28, 24], [29, 24], [24], [24], [31, 32, 24], [33, 24], [34, 24], [30, 35, 24], [24, 36, 21], [21, 37]] 91 () mixedD rfl (by kernel_rfl) (fun _ => rfl) hI0 ?_ ?_
            · refine ⟨?_, ?_, ?_, ?_, ?_, ?_, ?_, ?_, ?_, ?_, ?_, ?_, ?_, ?_, ?_, ?_, ?_, ?_, ?_, ?_, ?_, ?_, ?_, ?_, ?_, ?_, ?_, ?_, ?_, ?_, ?_, ?_, ?_, ?_, ?_, ?_, ?_, ?_, ?_, rfl⟩
              all_goals intro L γ W ev hL hd hW hc hf hg he h0
              · have e9 : ev (.tmp 9) = .bool true := h0 9 rfl
                clear he h0 hc hf hg
                exact .inl ⟨rfl, .inl ⟨_, W, (by go_simp <;> rfl), .still (hW) rfl⟩⟩
              · have e52 : ev (.tmp 52) = .bool true := he 0 (by decide) _ 52 rfl rfl
                clear he h0 hc hf hg
                exact .inl ⟨rfl, .inl ⟨_, W, (by go_simp <;> rfl), .still (hW) rfl⟩⟩
              · have e53 : ev (.tmp 53) = .bool false := he 1 (by decide) _ 53 rfl rfl
                clear he h0 hc hf hg
                exact .inl ⟨rfl, .inl ⟨_, W, (by go_simp <;> rfl), .still (hW) rfl⟩⟩
              · have e11 : ev (.tmp 11) = .nilIface := h0 11 rfl
                clear he h0 hc hf hg
                exact .inl ⟨rfl, .inl ⟨_, W, (by go_simp <;> rfl), .still (hW) rfl⟩⟩
              · have e55 : ev (.tmp 55) = .nilIface := he 3 (by decide) _ 55 rfl rfl
                have hcc := hc
                clear he h0 hc hf hg
                exact .inl ⟨rfl, .inl ⟨_, W, (by go_simp <;> rfl), .still (hW) rfl⟩⟩
              · have e54 : ev (.tmp 54) = .bool false := he 2 (by decide) _ 54 rfl rfl
                have e56 : ev (.tmp 56) = .bool false := he 4 (by decide) _ 56 rfl rfl
                have hcc := hc
                clear he h0 hc hf hg
                exact .inl ⟨rfl, .inl ⟨_, W, (by go_simp <;> rfl), .still (hW) rfl⟩⟩
              · have e57 : ev (.tmp 57) = .bool false := he 5 (by decide) _ 57 rfl rfl
                clear he h0 hc hf hg
                exact .inl ⟨rfl, .inl ⟨_, W, (by go_simp <;> rfl), .still (hW) rfl⟩⟩
              · have e10 : ev (.tmp 10) = .pointer (some ⟨gb, 0, none⟩) := h0 10 rfl
                clear he h0 hc hg
                have hlv := run_loadVar_row (P := Tryz.prog) W gb 33 33 (D.map byteV).toArray (0, 0) _ ((hW.block _ (blk_lt HX7.out)).trans HX7.out) dig_und rfl (dig_info2 HDL.out)
                refine .inl ⟨rfl, .inl ⟨_, W, ?_, .still (hW) rfl⟩⟩
                unfold execOp
                simp only [e10, Instr.loadAt, Instr.sureAddr, Sem.run_bind, Sem.run_pure, Result.andThen_ok, hlv]
                try rfl
              · have e8 : ev (.tmp 8) = .pointer (some ⟨wb, 0, none⟩) := h0 8 rfl
                clear he h0 hc hg
                have hlv := run_loadVar_row (P := Tryz.prog) W wb 33 33 (E.map byteV).toArray (0, 0) _ ((hW.block _ (blk_lt HY7.out)).trans HY7.out) dig_und rfl (dig_info2 HEL.out)
                refine .inl ⟨rfl, .inl ⟨_, W, ?_, .still (hW) rfl⟩⟩
                unfold execOp
                simp only [e8, Instr.loadAt, Instr.sureAddr, Sem.run_bind, Sem.run_pure, Result.andThen_ok, hlv]
                try rfl
              · have e59 : ev (.tmp 59) = .agg (D.map byteV).toArray := he 7 (by decide) _ 59 rfl rfl
                have e60 : ev (.tmp 60) = .agg (E.map byteV).toArray := he 8 (by decide) _ 60 rfl rfl
                clear he h0 hc hg
                have hq := dig_in W HDL.out HEL.out
                rw [hee] at hq
                refine .inl ⟨rfl, .inl ⟨_, W, (by go_simp <;> rfl), .still (hW) rfl⟩⟩
              · have e58 : ev (.tmp 58) = .bool false := he 6 (by decide) _ 58 rfl rfl
                have e61 : ev (.tmp 61) = .bool true := he 9 (by decide) _ 61 rfl rfl
                have hcc := hc
                clear he h0 hc hf hg
                exact .inl ⟨rfl, .inl ⟨_, W, (by go_simp <;> rfl), .still (hW) rfl⟩⟩
              · have e62 : ev (.tmp 62) = .bool true := he 10 (by decide) _ 62 rfl rfl
                clear he h0 hc hf hg
                exact .inl ⟨rfl, .inl ⟨_, W, (by go_simp <;> rfl), .still (hW) rfl⟩⟩
              · exact .inr ⟨rfl, .still (hW) rfl⟩
              · exact .inr ⟨rfl, .still (hW) rfl⟩
              · exact .inr ⟨rfl, .still (hW) rfl⟩
              · exact .inr ⟨rfl, .still (hW) rfl⟩
              · exact .inr ⟨rfl, .still (hW) rfl⟩
              · exact .inr ⟨rfl, .still (hW) rfl⟩
              · exact .inr ⟨rfl, .still (hW) rfl⟩
              · exact .inr ⟨rfl, .still (hW) rfl⟩
              · have e63 : ev (.tmp 63) = .bool true := he 11 (by decide) _ 63 rfl rfl
                have e71 : ev (.tmp 71) = undef := he 19 (by decide) _ 71 rfl rfl
                have hcc := hc
                clear he h0 hc hf hg
                exact .inl ⟨rfl, .inl ⟨_, W, (by go_simp <;> rfl), .still (hW) rfl⟩⟩
              · have e72 : ev (.tmp 72) = .bool true := he 20 (by decide) _ 72 rfl rfl
                clear he h0 hc hf hg
                exact .inl ⟨rfl, .inl ⟨_, W, (by go_simp <;> rfl), .still (hW) rfl⟩⟩
              · exact .inr ⟨rfl, .still (hW) rfl⟩
              · exact .inr ⟨rfl, .still (hW) rfl⟩
              · exact .inr ⟨rfl, .still (hW) rfl⟩
              · exact .inr ⟨rfl, .still (hW) rfl⟩
              · exact .inr ⟨rfl, .still (hW) rfl⟩
              · exact .inr ⟨rfl, .still (hW) rfl⟩
              · exact .inr ⟨rfl, .still (hW) rfl⟩
              · exact .inr ⟨rfl, .still (hW) rfl⟩
              · exact .inr ⟨rfl, .still (hW) rfl⟩
              · exact .inr ⟨rfl, .still (hW) rfl⟩
              · exact .inr ⟨rfl, .still (hW) rfl⟩
              · exact .inr ⟨rfl, .still (hW) rfl⟩
              · exact .inr ⟨rfl, .still (hW) rfl⟩
              · exact .inr ⟨rfl, .still (hW) rfl⟩
              · exact .inr ⟨rfl, .still (hW) rfl⟩
              · exact .inr ⟨rfl, .still (hW) rfl⟩
              · have e73 : ev (.tmp 73) = .bool true := he 21 (by decide) _ 73 rfl rfl
                have e89 : ev (.tmp 89) = undef := he 37 (by decide) _ 89 rfl rfl
                have hcc := hc
                clear he h0 hc hf hg
                exact .inl ⟨rfl, .inl ⟨_, W, (by go_simp <;> rfl), .still (hW) rfl⟩⟩
            intro γ L w8 hL hW
            have HB8 : Hid (Below w2.heap.size w2 w8) := Lib.hid (HB7.out.trans (hW.mono HB7.out.size))
            clear hL hW hI0
            simp only [putAll, Act.put, List.setIfInBounds_toArray, List.set_cons_succ, List.set_cons_zero]
            have hRf : RB = false := by
              rw [← HRB.out]
              refine decide_eq_false fun hh => ?_
              have h2 := tget_of_mem HN.out.rise (List.mem_of_getElem? HX.out)
              rw [hh, HO.out, HOS.out] at h2
              refine HDE.out ?_
              rw [HED.out, Option.some.inj h2, HDC.out]
            subst hRf
            go_wp2_with fail
            go_ret
            exact ⟨rfl, HB2.out.trans (HB8.out.mono HB2.out.size)⟩
      · obtain rfl : i = N := by omega
        have he : LT = W := rising_eq HN.out.rise HWR.out (fun x hx => HJ.out x (by rw [List.take_of_length_le (by rw [HNN.out]; exact Nat.le_refl _)]; exact hx)) (HNN.out.trans HMM.out.symm)
        have hRt : RB = true := by rw [← HRB.out]; exact decide_eq_true he
        subst hRt
        clear he
        go_wp2_with fail
        go_ret
        exact ⟨rfl, HB2.out.trans (HB.out.mono HB2.out.size)⟩
  · have hne : (N : Int) ≠ M := by omega
    have hRf : RB = false := by
      rw [← HRB.out]
      refine decide_eq_false fun e => hnm ?_
      rw [← HNN.out, ← HMM.out, e]
    subst hRf
    go_wp2_with (at_len; refine wpList_len_ledG rfl _ rfl q W rfl HW2.out ?_; rw [HMM.out])
    go_ret
    exact ⟨rfl, HB2.out⟩
end Go.Proofs.YtdkedmngeahjiaaGreatDoor
/- Plain: a Set on a disk on which nothing fails; names on a disk of little room. -/
namespace Go.Proofs.YtdkedmngeahjiaaGreatDoor
open Go Go.Maps Go.RowKit
theorem bytes_ne {a b : ByteArray} (h : a ≠ b) : a.data.toList ≠ b.data.toList := fun e => h (by
  cases a; cases b
  exact congrArg ByteArray.mk (Array.toList_inj.1 e))
theorem set_app_last {fs : List Fil} (f g : Fil) : (fs ++ [f]).set fs.length g = fs ++ [g] := by
  rw [List.set_append_right _ _ (Nat.le_refl _), Nat.sub_self]
  rfl
theorem get_app_last {fs : List Fil} (f : Fil) : (fs ++ [f])[fs.length]! = f := by
  rw [getElem!_pos (fs ++ [f]) fs.length (by rw [List.length_append, List.length_singleton]; omega), List.getElem_append_right (Nat.le_refl _)]
  simp
theorem get_app_old {fs : List Fil} (f : Fil) {i : Nat} (h : i < fs.length) : (fs ++ [f])[i]! = fs[i]! := by
  rw [getElem!_pos (fs ++ [f]) i (by rw [List.length_append]; omega), getElem!_pos fs i h, List.getElem_append_left h]
theorem refused_create (m : DM) (n : ByteArray) : m.refused (.create n) = if rightB n then if (m.get n).isSome then 11 else 0 else 8 := rfl
theorem refused_write (m : DM) (n s : ByteArray) : m.refused (.write n s) = if (m.get n).isSome then if m.used + s.size > m.room then 28 else 0 else 10 := rfl
theorem refused_sync (m : DM) (n : ByteArray) : m.refused (.sync n) = if (m.get n).isSome then 0 else 10 := rfl
theorem refused_rename (m : DM) (o n : ByteArray) : m.refused (.rename o n) = if (m.get o).isSome then if rightB n then 0 else 8 else 10 := rfl
theorem refused_remove (m : DM) (n : ByteArray) : m.refused (.remove n) = if (m.get n).isSome then 0 else 10 := rfl
theorem dact_write (m : DM) (n s : ByteArray) : m.act (.write n s) = match m.get n with | some i => { m with files := m.files.set i ⟨m.files[i]!.data ++ s, m.files[i]!.safe⟩ } | none => m := rfl
theorem dact_sync (m : DM) (n : ByteArray) : m.act (.sync n) = match m.get n with | some i => { m with files := m.files.set i ⟨m.files[i]!.data, m.files[i]!.data.size⟩ } | none => m := rfl
theorem dact_rename (m : DM) (o n : ByteArray) : m.act (.rename o n) = m.names (.rename o n) := rfl
theorem handR_right : rightB handR = true := by decide
theorem tdel_none {l : Tab} {k : Bs} (h : tget l k = none) : tdel l k = l := by
  unfold tdel
  rw [List.filter_eq_self]
  intro p hp
  have := tget_none.1 h p hp
  simp [this]
theorem tdel_tput {l : Tab} {k : Bs} {b : Nat} (hr : Rising l) (h : tget l k = none) : tdel (tput l k b) k = l := by
  refine tab_ext (tdel_rising (tput_rising hr)) hr fun j => ?_
  rw [tget_del (tput_rising hr), tget_put hr]
  by_cases e : j = k
  · rw [if_pos e, e, h]
  · rw [if_neg e, if_neg e]
theorem sizeT_ins (fs : List Fil) (x : Bs × Nat) : ∀ l : Tab, sizeOfTab fs (tins x l) = fs[x.2]!.data.size + sizeOfTab fs l
  | [] => rfl
  | y :: r => by
    unfold tins
    split
    · rfl
    · rw [sizeOfTab, sizeT_ins fs x r, sizeOfTab]
      omega
theorem sizeT_old {fs : List Fil} (f : Fil) : ∀ {l : Tab}, (∀ p ∈ l, p.2 < fs.length) → sizeOfTab (fs ++ [f]) l = sizeOfTab fs l
  | [], _ => rfl
  | p :: r, h => by
    rw [sizeOfTab, sizeOfTab, sizeT_old f (fun q hq => h q (List.mem_cons_of_mem _ hq)), get_app_old f (h p List.mem_cons_self)]
/-- A Set while the power stays on. -/
theorem set_calm {m : DM} (hc : m.Calm) (hr : Rising m.now) (hi : ∀ p ∈ m.now, p.2 < m.files.length) (hh : tget m.now handR.data.toList = none) (name t : ByteArray) (hn : rightB name = true) (hne : name ≠ handR) :
    ∃ m', m'.Calm ∧ m'.room = m.room ∧ ((m.room < m.used + t.size ∧ setM m name t = (m', 28) ∧ m'.now = m.now ∧ m'.files = m.files ++ [⟨⟨#[]⟩, 0⟩]) ∨
      (m.used + t.size ≤ m.room ∧ setM m name t = (m', 0) ∧ m'.now = tput m.now name.data.toList m.files.length ∧ ∃ k, m'.files = m.files ++ [⟨t, k⟩])) := by
  obtain ⟨off, room, files, now, safe, pend, armed, keep⟩ := m
  obtain ⟨h1, h2⟩ := hc
  simp only at h1 h2 hr hi hh
  subst h1 h2
  have hnone : (⟨false, room, files, now, safe, pend, 0, keep⟩ : DM).get handR = none := hh
  have e0 : clearR ⟨false, room, files, now, safe, pend, 0, keep⟩ = (⟨false, room, files, now, safe, pend, 0, keep⟩, 0) := by
    have hrd : (⟨false, room, files, now, safe, pend, 0, keep⟩ : DM).reads handR = (⟨#[]⟩, 10) := by
      unfold DM.reads
      rw [if_neg (fun h => by cases h), hnone]
    unfold clearR
    rw [hrd]
    rfl
  obtain ⟨m1, hm1⟩ : ∃ x : DM, x = ⟨false, room, files ++ [⟨⟨#[]⟩, 0⟩], tput now handR.data.toList files.length, safe, pend ++ [.create handR files.length], 0, keep⟩ := ⟨_, rfl⟩
  have e1 : (⟨false, room, files, now, safe, pend, 0, keep⟩ : DM).op (.create handR) = (m1, 0) := by
    rw [DM.Calm.op_eq ⟨rfl, rfl⟩]
    have hf : (⟨false, room, files, now, safe, pend, 0, keep⟩ : DM).refused (.create handR) = 0 := by
      rw [refused_create, if_pos handR_right, hnone]
      rfl
    rw [hf, if_neg (by decide), hm1]
    rfl
  have hr1 : Rising (tput now handR.data.toList files.length) := tput_rising hr
  have hg1 : tget (tput now handR.data.toList files.length) handR.data.toList = some files.length := by rw [tget_put hr, if_pos rfl]
  have c1 : m1.Calm := by rw [hm1]; exact ⟨rfl, rfl⟩
  have g1 : m1.get handR = some files.length := by rw [hm1]; exact hg1
  have u1 : m1.used = sizeOfTab files now := by
    rw [hm1]
    show sizeOfTab (files ++ [⟨⟨#[]⟩, 0⟩]) (tins (handR.data.toList, files.length) (tdel now handR.data.toList)) = _
    rw [sizeT_ins, tdel_none hh, sizeT_old _ hi, get_app_last]
    show 0 + _ = _
    omega
  have ur : m1.room = room := by rw [hm1]
  have hdt := tdel_tput (b := files.length) hr hh
  unfold setM
  rw [seqM_ok _ e0, seqM_ok _ e1]
  by_cases hfull : m1.used + t.size > m1.room
  · have e2 : m1.op (.write handR t) = (m1, 28) := by
      rw [c1.op_eq]
      have hf : m1.refused (.write handR t) = 28 := by
        rw [refused_write, g1]
        exact (if_pos rfl).trans (if_pos hfull)
      rw [hf]
      rfl
    obtain ⟨m2, hm2⟩ : ∃ x : DM, x = ⟨false, room, files ++ [⟨⟨#[]⟩, 0⟩], now, safe, pend ++ [.create handR files.length] ++ [.remove handR], 0, keep⟩ := ⟨_, rfl⟩
    have e3 : m1.op (.remove handR) = (m2, 0) := by
      rw [c1.op_eq]
      have hf : m1.refused (.remove handR) = 0 := by
        rw [refused_remove, g1]
        rfl
      rw [hf, if_neg (by decide), hm1, hm2]
      show ((⟨false, room, files ++ [⟨⟨#[]⟩, 0⟩], tdel (tput now handR.data.toList files.length) handR.data.toList, safe, pend ++ [.create handR files.length] ++ [.remove handR], 0, keep⟩ : DM), (0 : Int)) = _
      rw [hdt]
    have c2 : m2.Calm := by rw [hm2]; exact ⟨rfl, rfl⟩
    have e4 : m2.op .flush = (m2.act .flush, 0) := by rw [c2.op_eq]; rfl
    refine ⟨m2.act .flush, c2.act .flush, by rw [hm2]; rfl, .inl ⟨?_, ?_, by rw [hm2]; rfl, by rw [hm2]; rfl⟩⟩
    · rw [u1, ur] at hfull
      exact hfull
    · rw [wrote_full e2]
      unfold goneM
      rw [seqM_ok _ e3, e4]
  · obtain ⟨m2, hm2⟩ : ∃ x : DM, x = ⟨false, room, files ++ [⟨⟨#[]⟩ ++ t, 0⟩], tput now handR.data.toList files.length, safe, pend ++ [.create handR files.length], 0, keep⟩ := ⟨_, rfl⟩
    have e2 : m1.op (.write handR t) = (m2, 0) := by
      rw [c1.op_eq]
      have hf : m1.refused (.write handR t) = 0 := by
        rw [refused_write, g1]
        exact (if_pos rfl).trans (if_neg hfull)
      rw [hf, if_neg (by decide)]
      rw [dact_write, g1]
      show ((_ : DM), (0 : Int)) = _
      rw [hm1, hm2]
      refine congrArg (fun fs => ((⟨false, room, fs, tput now handR.data.toList files.length, safe, pend ++ [.create handR files.length], 0, keep⟩ : DM), (0 : Int))) ?_
      rw [set_app_last, get_app_last]
    have g2 : m2.get handR = some files.length := by rw [hm2]; exact hg1
    have c2 : m2.Calm := by rw [hm2]; exact ⟨rfl, rfl⟩
    obtain ⟨m3, hm3⟩ : ∃ x : DM, x = ⟨false, room, files ++ [⟨⟨#[]⟩ ++ t, (⟨#[]⟩ ++ t : ByteArray).size⟩], tput now handR.data.toList files.length, safe, pend ++ [.create handR files.length], 0, keep⟩ := ⟨_, rfl⟩
    have e3 : m2.op (.sync handR) = (m3, 0) := by
      rw [c2.op_eq]
      have hf : m2.refused (.sync handR) = 0 := by
        rw [refused_sync, g2]
        rfl
      rw [hf, if_neg (by decide)]
      rw [dact_sync, g2]
      show ((_ : DM), (0 : Int)) = _
      rw [hm2, hm3]
      refine congrArg (fun fs => ((⟨false, room, fs, tput now handR.data.toList files.length, safe, pend ++ [.create handR files.length], 0, keep⟩ : DM), (0 : Int))) ?_
      rw [set_app_last, get_app_last]
    have g3 : m3.get handR = some files.length := by rw [hm3]; exact hg1
    have c3 : m3.Calm := by rw [hm3]; exact ⟨rfl, rfl⟩
    obtain ⟨m4, hm4⟩ : ∃ x : DM, x = ⟨false, room, files ++ [⟨⟨#[]⟩ ++ t, (⟨#[]⟩ ++ t : ByteArray).size⟩], tput now name.data.toList files.length, safe, pend ++ [.create handR files.length] ++ [.rename handR name], 0, keep⟩ := ⟨_, rfl⟩
    have e4 : m3.op (.rename handR name) = (m4, 0) := by
      rw [c3.op_eq]
      have hf : m3.refused (.rename handR name) = 0 := by
        rw [refused_rename, g3]
        exact (if_pos rfl).trans (if_pos hn)
      rw [hf, if_neg (by decide), hm3, hm4]
      rw [dact_rename]
      unfold DM.names DOp.act
      show ((_ : DM), (0 : Int)) = _
      simp only [hg1, hdt]
    have c4 : m4.Calm := by rw [hm4]; exact ⟨rfl, rfl⟩
    have e5 : m4.op .flush = (m4.act .flush, 0) := by rw [c4.op_eq]; rfl
    refine ⟨m4.act .flush, c4.act .flush, by rw [hm4]; rfl, .inr ⟨?_, ?_, by rw [hm4]; rfl, (⟨#[]⟩ ++ t : ByteArray).size, ?_⟩⟩
    · rw [u1, ur] at hfull
      show sizeOfTab files now + _ ≤ room
      omega
    · rw [wrote_ok e2, seqM_ok _ e3, seqM_ok _ e4, e5]
    · rw [hm4]
      show files ++ [⟨⟨#[]⟩ ++ t, _⟩] = _
      rw [show (⟨#[]⟩ ++ t : ByteArray) = t from ByteArray.empty_append]
/-! ## Names on a disk -/
theorem bb_app (h a b : Bs) : bytesBefore (h ++ a) (h ++ b) = bytesBefore a b := by
  induction h with
  | nil => rfl
  | cons x r ih =>
    rw [List.cons_append, List.cons_append, bytesBefore, ih]
    simp
theorem keys_ins (h u : Bs) (i c : Nat) : ∀ (t l : Tab), t.map (·.1) = l.map (fun p => h ++ p.1) → (tins (h ++ u, i) t).map (·.1) = (tins (u, c) l).map (fun p => h ++ p.1)
  | [], [], _ => rfl
  | [], _ :: _, e => by cases e
  | _ :: _, [], e => by cases e
  | x :: r, y :: s, e => by
    have e1 : x.1 = h ++ y.1 := (List.cons.inj e).1
    have e2 := (List.cons.inj e).2
    unfold tins
    have hb : bytesBefore (h ++ u, i).1 x.1 = bytesBefore (u, c).1 y.1 := by
      rw [e1]
      exact bb_app h u y.1
    rw [hb]
    split
    · rw [List.map_cons, List.map_cons, List.map_cons, List.map_cons, e1]
      exact congrArg _ (congrArg _ e2)
    · rw [List.map_cons, List.map_cons, keys_ins h u i c r s e2, e1]
theorem keys_del (h u : Bs) : ∀ (t l : Tab), t.map (·.1) = l.map (fun p => h ++ p.1) → (tdel t (h ++ u)).map (·.1) = (tdel l u).map (fun p => h ++ p.1)
  | [], [], _ => rfl
  | [], _ :: _, e => by cases e
  | _ :: _, [], e => by cases e
  | x :: r, y :: s, e => by
    have e1 : x.1 = h ++ y.1 := (List.cons.inj e).1
    have e2 := keys_del h u r s (List.cons.inj e).2
    unfold tdel at e2 ⊢
    have hb : (x.1 == h ++ u) = (y.1 == u) := by
      rw [e1, Bool.eq_iff_iff, beq_iff_eq, beq_iff_eq]
      exact ⟨fun e => List.append_cancel_left e, fun e => by rw [e]⟩
    rw [List.filter_cons, List.filter_cons, hb]
    split
    · rw [List.map_cons, List.map_cons, e1]
      exact congrArg _ e2
    · exact e2
theorem keys_put (h u : Bs) (i c : Nat) {t l : Tab} (e : t.map (·.1) = l.map (fun p => h ++ p.1)) : (tput t (h ++ u) i).map (·.1) = (tput l u c).map (fun p => h ++ p.1) := keys_ins h u i c _ _ (keys_del h u t l e)
/-- A disk that holds these names and no other file. -/
structure Only (m : DM) (l : Tab) : Prop where
  calm : m.Calm
  now : Rising m.now
  ids : ∀ p ∈ m.now, p.2 < m.files.length
  rise : Rising l
  keys : m.now.map (·.1) = l.map (fun p => refHead ++ p.1)
  data : ∀ p ∈ l, ∀ i, tget m.now (refHead ++ p.1) = some i → m.files[i]!.data = textD (decD p.2)
  full : ∀ p ∈ l, fullM p.1 = some p.1
  code : ∀ p ∈ l, p.2 = codeD (decD p.2)
section
variable {m : DM} {l : Tab}
theorem Only.len (h : Only m l) : m.now.length = l.length := by
  have := congrArg List.length h.keys
  rw [List.length_map, List.length_map] at this
  exact this
theorem Only.head (h : Only m l) {p : Bs × Nat} (hp : p ∈ m.now) : ∃ x ∈ l, p.1 = refHead ++ x.1 := by
  have h1 : p.1 ∈ l.map (fun p => refHead ++ p.1) := by rw [← h.keys]; exact List.mem_map_of_mem hp
  obtain ⟨x, hx, e⟩ := List.mem_map.1 h1
  exact ⟨x, hx, e.symm⟩
theorem Only.look (h : Only m l) {x : Bs × Nat} (hx : x ∈ l) : ∃ i, tget m.now (refHead ++ x.1) = some i ∧ m.files[i]!.data = textD (decD x.2) := by
  have h1 : refHead ++ x.1 ∈ m.now.map (·.1) := by rw [h.keys]; exact List.mem_map.2 ⟨x, hx, rfl⟩
  obtain ⟨p, hp, e⟩ := List.mem_map.1 h1
  have h2 : tget m.now (refHead ++ x.1) = some p.2 := tget_of_mem h.now (by rw [← e]; exact hp)
  exact ⟨p.2, h2, h.data x hx _ h2⟩
theorem Only.reads (h : Only m l) {x : Bs × Nat} (hx : x ∈ l) : m.reads (refN x.1) = (textD (decD x.2), 0) := by
  obtain ⟨i, h1, h2⟩ := h.look hx
  have hg : m.get (refN x.1) = some i := h1
  unfold DM.reads
  rw [if_neg (by rw [h.calm.1]; decide), hg]
  show (m.files[i]!.data, (0 : Int)) = _
  rw [h2]
theorem Only.lists (h : Only m l) : m.lists ⟨refHead.toArray⟩ = l.map (fun p => refN p.1) := by
  unfold DM.lists
  rw [if_neg (by rw [h.calm.1]; decide)]
  have hf : m.now.filter (hasHead ⟨refHead.toArray⟩) = m.now := by
    rw [List.filter_eq_self]
    intro p hp
    obtain ⟨x, -, e⟩ := h.head hp
    unfold hasHead
    rw [e]
    show List.isPrefixOf refHead (refHead ++ x.1) = true
    rw [List.isPrefixOf_iff_prefix]
    exact List.prefix_append _ _
  rw [hf]
  have h1 : m.now.map nameB = (m.now.map (·.1)).map (fun k => (⟨k.toArray⟩ : ByteArray)) := by rw [List.map_map]; rfl
  rw [h1, h.keys, List.map_map]
  rfl
theorem tail_refN (u : Bs) : tailM (refN u) = u := by
  unfold tailM
  have h1 : (refN u).data.toList = refHead ++ u := rfl
  rw [h1, if_pos (by rw [List.take_append_of_le_length (by decide)]; rfl), List.drop_append_of_le_length (by decide)]
  rfl
theorem Only.names (h : Only m l) : ∀ r : Tab, (∀ p ∈ r, p ∈ l) → namesM m (r.map (fun p => refN p.1)) = some (r.map entR)
  | [], _ => rfl
  | p :: r, hr => by
    have hp := hr p List.mem_cons_self
    rw [List.map_cons, namesM]
    have h1 : restM (refN p.1) = true := by
      unfold restM
      rw [tail_refN, h.full p hp]
      exact beq_self_eq_true _
    rw [if_pos h1, h.reads hp, parseD_textD _ (decD_len _), Only.names h r (fun q hq => hr q (List.mem_cons_of_mem _ hq)), tail_refN]
    rfl
theorem Only.named (h : Only m l) : NamesT m l := by
  refine ⟨h.rise, ?_, fun p hp => ?_, h.code, fun p hp => (full_full (h.full p hp)).2.1⟩
  · unfold listR
    rw [if_neg (by rw [h.calm.1]; decide), h.lists, h.names l (fun _ hp => hp)]
  · unfold getF
    rw [h.full p hp]
    show getR m p.1 = _
    unfold getR
    rw [h.reads hp, if_neg (fun e => e rfl), parseD_textD _ (decD_len _)]
theorem sizeT_71 (fs : List Fil) : ∀ t : Tab, (∀ p ∈ t, fs[p.2]!.data.size = 71) → sizeOfTab fs t = 71 * t.length
  | [], _ => rfl
  | p :: r, h => by
    rw [sizeOfTab, h p List.mem_cons_self, sizeT_71 fs r (fun q hq => h q (List.mem_cons_of_mem _ hq)), List.length_cons]
    omega
theorem textD_71 {d : List UInt8} (h : d.length = 32) : (textD d).size = 71 := by
  show (shaHead ++ hexB d).length = 71
  rw [List.length_append, hexB_len, h]
  rfl
theorem Only.used (h : Only m l) : m.used = 71 * l.length := by
  unfold DM.used
  rw [if_neg (by rw [h.calm.1]; decide), sizeT_71 _ _ (fun p hp => ?_), h.len]
  obtain ⟨x, hx, e⟩ := h.head hp
  rw [h.data x hx p.2 (by rw [← e]; exact tget_of_mem h.now hp)]
  exact textD_71 (decD_len _)
theorem Only.hand (h : Only m l) : tget m.now handR.data.toList = none := by
  rw [tget_none]
  intro p hp e
  obtain ⟨x, -, e2⟩ := h.head hp
  rw [e] at e2
  have := congrArg List.head? e2
  cases this
theorem Only.tmp (h : Only m l) : m.lists ⟨#[116, 109, 112, 47]⟩ = [] := by
  unfold DM.lists
  split
  · rfl
  · have hf : m.now.filter (hasHead ⟨#[116, 109, 112, 47]⟩) = [] := by
      rw [List.filter_eq_nil_iff]
      intro p hp
      obtain ⟨x, -, e⟩ := h.head hp
      unfold hasHead
      rw [e]
      show ¬ List.isPrefixOf [116, 109, 112, 47] (refHead ++ x.1) = true
      simp [refHead, List.isPrefixOf]
    rw [hf]
    rfl
theorem refN_right {u : Bs} (h : u.length ≤ 96) : rightB (refN u) = true := by
  unfold rightB
  rw [refN_size]
  simp only [Bool.and_eq_true, decide_eq_true_eq]
  omega
theorem refN_hand (u : Bs) : refN u ≠ handR := by
  intro h
  have h1 : (refHead ++ u).head? = some 116 := by
    have := congrArg (fun b : ByteArray => b.data.toList.head?) h
    exact this
  cases h1
/-- A Set of a name, while nothing fails. -/
theorem Only.set (h : Only m l) {u : Bs} (hu : fullM u = some u) {D : List UInt8} (hD : D.length = 32) :
    (m.room < 71 * l.length + 71 ∧ ∃ m', setM m (refN u) (textD D) = (m', 28) ∧ m'.room = m.room ∧ Only m' l) ∨
      (71 * l.length + 71 ≤ m.room ∧ ∃ m', setM m (refN u) (textD D) = (m', 0) ∧ m'.room = m.room ∧ Only m' (tput l u (codeD D))) := by
  have hul := (full_full hu).2.1
  obtain ⟨m', c', hroom, hs⟩ := set_calm h.calm h.now h.ids h.hand (refN u) (textD D) (refN_right hul) (refN_hand u)
  rw [h.used, textD_71 hD] at hs
  rcases hs with ⟨h1, h2, h3, h4⟩ | ⟨h1, h2, h3, k, h4⟩
  · refine .inl ⟨h1, m', h2, hroom, ⟨c', by rw [h3]; exact h.now, fun p hp => ?_, h.rise, by rw [h3]; exact h.keys, fun p hp i hi => ?_, h.full, h.code⟩⟩
    · rw [h3] at hp
      rw [h4, List.length_append]
      have := h.ids p hp
      omega
    · rw [h3] at hi
      rw [h4, get_app_old _ (h.ids _ (tget_mem hi))]
      exact h.data p hp i hi
  · have hkd : (refN u).data.toList = refHead ++ u := rfl
    rw [hkd] at h3
    refine .inr ⟨h1, m', h2, hroom, ⟨c', by rw [h3]; exact tput_rising h.now, fun p hp => ?_, tput_rising h.rise, by rw [h3]; exact keys_put _ _ _ _ h.keys, fun p hp i hi => ?_, fun p hp => ?_, fun p hp => ?_⟩⟩
    · rw [h3] at hp
      rw [h4, List.length_append, List.length_singleton]
      rcases tput_mem.1 hp with rfl | ⟨hp, -⟩
      · show m.files.length < _
        omega
      · have := h.ids p hp
        omega
    · rw [h3, tget_put h.now] at hi
      rcases tput_mem.1 hp with rfl | ⟨hp, hne⟩
      · rw [if_pos rfl] at hi
        cases hi
        rw [h4, get_app_last, dec_code hD]
      · rw [if_neg (fun e => hne (List.append_cancel_left e))] at hi
        rw [h4, get_app_old _ (h.ids _ (tget_mem hi))]
        exact h.data p hp i hi
    · rcases tput_mem.1 hp with rfl | ⟨hp, -⟩
      · exact hu
      · exact h.full p hp
    · rcases tput_mem.1 hp with rfl | ⟨hp, -⟩
      · show codeD D = codeD (decD (codeD D))
        rw [dec_code hD]
      · exact h.code p hp
end
theorem only_new (r : Int) : Only (DM.new r) [] := ⟨⟨rfl, rfl⟩, List.Pairwise.nil, fun _ h => (by cases h), List.Pairwise.nil, rfl, fun _ h => (by cases h), fun _ h => (by cases h), fun _ h => (by cases h)⟩
end Go.Proofs.YtdkedmngeahjiaaGreatDoor
/- Plain: names on a disk whose power may fail in any operation. -/
namespace Go.Proofs.YtdkedmngeahjiaaGreatDoor
open Go Go.Maps Go.RowKit
def handKR : Bs := handR.data.toList
def keyN (u : Bs) : Bs := refHead ++ u
theorem keyN_hand (u : Bs) : keyN u ≠ handKR := bytes_ne (refN_hand u)
theorem keyN_inj {u v : Bs} (h : keyN u = keyN v) : u = v := List.append_cancel_left h
/-- A table and files that say these names; the file in hand may be there. -/
structure NormT (t : Tab) (fs : List Fil) (l : Tab) : Prop where
  now : Rising t
  rise : Rising l
  full : ∀ x ∈ l, fullM x.1 = some x.1
  code : ∀ x ∈ l, x.2 = codeD (decD x.2)
  rows : ∀ p ∈ t, p.1 = handKR ∨ (p.2 < fs.length ∧ ∃ x ∈ l, p.1 = keyN x.1 ∧ fs[p.2]! = ⟨textD (decD x.2), 71⟩)
  all : ∀ x ∈ l, (tget t (keyN x.1)).isSome = true
structure Rst (m : DM) (l : Tab) : Prop where
  on : m.off = false
  pend : m.pend = []
  eq : m.safe = m.now
  norm : NormT m.now m.files l
  hand : tget m.now handKR = none
structure Dwn (m : DM) (l : Tab) : Prop where
  off : m.off = true
  armed : m.armed = 0
  pend : m.pend = []
  eq : m.safe = m.now
  norm : NormT m.now m.files l
/-- A table near another: the file in hand may be there, one name may lead elsewhere. -/
structure Near (s0 : Tab) (nm : Bs) (X : Option Nat) (i0 : Nat) (t : Tab) : Prop where
  rise : Rising t
  other : ∀ k, k ≠ handKR → k ≠ nm → tget t k = tget s0 k
  name : tget t nm = tget s0 nm ∨ tget t nm = X
  hand : tget t handKR = none ∨ tget t handKR = some i0
section
variable {s0 t : Tab} {fs : List Fil} {l : Tab} {u : Bs} {X : Option Nat} {i0 : Nat}
theorem Near.create (h : Near s0 (keyN u) X i0 t) : Near s0 (keyN u) X i0 ((DOp.create handR i0).act t) := by
  refine ⟨act_rising _ h.rise, fun k h1 h2 => ?_, ?_, ?_⟩
  · show tget (tput t handKR i0) k = _
    rw [tget_put h.rise, if_neg h1]
    exact h.other k h1 h2
  · have e : tget ((DOp.create handR i0).act t) (keyN u) = tget t (keyN u) := by
      show tget (tput t handKR i0) _ = _
      rw [tget_put h.rise, if_neg (keyN_hand u)]
    rw [e]
    exact h.name
  · refine .inr ?_
    show tget (tput t handKR i0) _ = _
    rw [tget_put h.rise, if_pos rfl]
theorem Near.rename (h : Near s0 (keyN u) (some i0) i0 t) : Near s0 (keyN u) (some i0) i0 ((DOp.rename handR (refN u)).act t) := by
  have hk : handR.data.toList = handKR := rfl
  rcases h.hand with hh | hh
  · have e : (DOp.rename handR (refN u)).act t = t := by
      simp only [DOp.act]
      rw [hk, hh]
    rw [e]
    exact h
  · have e : (DOp.rename handR (refN u)).act t = tput (tdel t handKR) (keyN u) i0 := by
      simp only [DOp.act]
      rw [hk, hh]
      rfl
    rw [e]
    have hr := tdel_rising (k := handKR) h.rise
    refine ⟨tput_rising hr, fun k h1 h2 => ?_, .inr ?_, .inl ?_⟩
    · rw [tget_put hr, if_neg h2, tget_del h.rise, if_neg h1]
      exact h.other k h1 h2
    · rw [tget_put hr, if_pos rfl]
    · rw [tget_put hr, if_neg (fun e => keyN_hand u e.symm), tget_del h.rise, if_pos rfl]
theorem Near.remove (h : Near s0 (keyN u) none i0 t) : Near s0 (keyN u) none i0 ((DOp.remove (refN u)).act t) := by
  refine ⟨act_rising _ h.rise, fun k h1 h2 => ?_, .inr ?_, ?_⟩
  · show tget (tdel t (keyN u)) k = _
    rw [tget_del h.rise, if_neg h2]
    exact h.other k h1 h2
  · show tget (tdel t (keyN u)) _ = _
    rw [tget_del h.rise, if_pos rfl]
  · show tget (tdel t (keyN u)) _ = none ∨ tget (tdel t (keyN u)) _ = _
    rw [tget_del h.rise, if_neg (fun e => keyN_hand u e.symm)]
    exact h.hand
theorem near_fail {Q : Tab → Prop} : ∀ (ps : List DOp) (ks : List Int) (t : Tab), (∀ o ∈ ps, ∀ t, Q t → Q (o.act t)) → Q t → Q (failPend ps ks t)
  | [], _, _, _, h => h
  | o :: r, ks, t, hp, h => by
    unfold failPend
    refine near_fail r ks.tail _ (fun o' ho => hp o' (List.mem_cons_of_mem _ ho)) ?_
    split
    · exact hp o List.mem_cons_self _ h
    · exact h
theorem NormT.start (h : NormT s0 fs l) (hh : tget s0 handKR = none) (nm : Bs) (X : Option Nat) (i0 : Nat) : Near s0 nm X i0 s0 := ⟨h.now, fun _ _ _ => rfl, .inl rfl, .inl hh⟩
/-- The old names. -/
theorem Near.same (h : Near s0 (keyN u) X i0 t) (h0 : NormT s0 fs l) (hn : tget t (keyN u) = tget s0 (keyN u)) : NormT t fs l := by
  refine ⟨h.rise, h0.rise, h0.full, h0.code, fun p hp => ?_, fun x hx => ?_⟩
  · by_cases h1 : p.1 = handKR
    · exact .inl h1
    · have hg := tget_of_mem h.rise (show (p.1, p.2) ∈ t from hp)
      have hg0 : tget s0 p.1 = some p.2 := by
        by_cases h2 : p.1 = keyN u
        · rw [h2] at hg ⊢
          rw [← hn]
          exact hg
        · rw [← h.other _ h1 h2]
          exact hg
      exact h0.rows (p.1, p.2) (tget_mem hg0)
  · by_cases h2 : keyN x.1 = keyN u
    · rw [h2, hn, ← h2]
      exact h0.all x hx
    · rw [h.other _ (keyN_hand _) h2]
      exact h0.all x hx
/-- One name leads to a new file. -/
theorem Near.put (h : Near s0 (keyN u) X i0 t) (h0 : NormT s0 fs l) (hn : tget t (keyN u) = some i0) (hu : fullM u = some u) {D : List UInt8} (hD : D.length = 32) (hi : i0 < fs.length) (hf : fs[i0]! = ⟨textD D, 71⟩) : NormT t fs (tput l u (codeD D)) := by
  refine ⟨h.rise, tput_rising h0.rise, fun x hx => ?_, fun x hx => ?_, fun p hp => ?_, fun x hx => ?_⟩
  · rcases tput_mem.1 hx with rfl | ⟨hx, -⟩
    · exact hu
    · exact h0.full x hx
  · rcases tput_mem.1 hx with rfl | ⟨hx, -⟩
    · show codeD D = codeD (decD (codeD D))
      rw [dec_code hD]
    · exact h0.code x hx
  · by_cases h1 : p.1 = handKR
    · exact .inl h1
    · have hg := tget_of_mem h.rise (show (p.1, p.2) ∈ t from hp)
      by_cases h2 : p.1 = keyN u
      · rw [h2, hn] at hg
        have he := Option.some.inj hg
        refine .inr ⟨by rw [← he]; exact hi, (u, codeD D), tput_mem.2 (.inl rfl), h2, ?_⟩
        rw [← he, hf, dec_code hD]
      · have hg0 : tget s0 p.1 = some p.2 := by rw [← h.other _ h1 h2]; exact hg
        rcases h0.rows (p.1, p.2) (tget_mem hg0) with h3 | ⟨h3, x, hx, h4, h5⟩
        · exact absurd h3 h1
        · exact .inr ⟨h3, x, tput_mem.2 (.inr ⟨hx, fun e => h2 (by rw [← e]; exact h4)⟩), h4, h5⟩
  · rcases tput_mem.1 hx with rfl | ⟨hx, hne⟩
    · show (tget t (keyN u)).isSome = true
      rw [hn]
      rfl
    · rw [h.other _ (keyN_hand _) (fun e => hne (keyN_inj e))]
      exact h0.all x hx
/-- One name leads nowhere. -/
theorem Near.del (h : Near s0 (keyN u) X i0 t) (h0 : NormT s0 fs l) (hn : tget t (keyN u) = none) : NormT t fs (tdel l u) := by
  refine ⟨h.rise, tdel_rising h0.rise, fun x hx => h0.full x (tdel_mem.1 hx).1, fun x hx => h0.code x (tdel_mem.1 hx).1, fun p hp => ?_, fun x hx => ?_⟩
  · by_cases h1 : p.1 = handKR
    · exact .inl h1
    · have hg := tget_of_mem h.rise (show (p.1, p.2) ∈ t from hp)
      by_cases h2 : p.1 = keyN u
      · rw [h2, hn] at hg
        cases hg
      · have hg0 : tget s0 p.1 = some p.2 := by rw [← h.other _ h1 h2]; exact hg
        rcases h0.rows (p.1, p.2) (tget_mem hg0) with h3 | ⟨h3, x, hx, h4, h5⟩
        · exact absurd h3 h1
        · exact .inr ⟨h3, x, tdel_mem.2 ⟨hx, fun e => h2 (by rw [← e]; exact h4)⟩, h4, h5⟩
  · obtain ⟨hx, hne⟩ := tdel_mem.1 hx
    rw [h.other _ (keyN_hand _) (fun e => hne (keyN_inj e))]
    exact h0.all x hx
theorem NormT.fail (h : NormT t fs l) (t' : Tab) (ks : List Int) : NormT t (failFiles t' ks fs) l := by
  refine ⟨h.now, h.rise, h.full, h.code, fun p hp => ?_, h.all⟩
  rcases h.rows p hp with h1 | ⟨h1, x, h2, h3, h4⟩
  · exact .inl h1
  · refine .inr ⟨by rw [failFiles_length]; exact h1, x, h2, h3, ?_⟩
    exact failFiles_get (Q := fun f => f = ⟨textD (decD x.2), 71⟩) (fun f k hf => by rw [hf]; exact Fil.whole.cut (f := ⟨textD (decD x.2), 71⟩) (textD_71 (decD_len _)).symm k) t' ks fs h1 h4
theorem NormT.files {fs' : List Fil} (h : NormT t fs l) (hl : fs.length ≤ fs'.length) (hf : ∀ i, i < fs.length → (∃ p ∈ t, p.1 ≠ handKR ∧ p.2 = i) → fs'[i]! = fs[i]!) : NormT t fs' l := by
  refine ⟨h.now, h.rise, h.full, h.code, fun p hp => ?_, h.all⟩
  rcases h.rows p hp with h1 | ⟨h1, x, h2, h3, h4⟩
  · exact .inl h1
  · refine .inr ⟨by omega, x, h2, h3, ?_⟩
    rw [hf p.2 h1 ⟨p, hp, by rw [h3]; exact keyN_hand _, rfl⟩]
    exact h4
end
/-- The power fails: what is left is near. -/
theorem fail_near {m : DM} {nm : Bs} {X : Option Nat} {i0 : Nat} {l : Tab} (hn : NormT m.safe m.files l) (hh : tget m.safe handKR = none) (hp : ∀ o ∈ m.pend, ∀ t, Near m.safe nm X i0 t → Near m.safe nm X i0 (o.act t)) (ks : List Int) : Near m.safe nm X i0 (m.fail ks).now :=
  near_fail m.pend ks m.safe hp (hn.start hh nm X i0)
theorem fail_dwn {m : DM} {l : Tab} {ks : List Int} (h : NormT (m.fail ks).now m.files l) : Dwn (m.fail ks) l := ⟨rfl, rfl, rfl, rfl, h.fail _ _⟩
/-- What an operation does while the power is on. -/
theorem op_splitR {m : DM} (h : m.off = false) (c : DCall) : (m.refused c ≠ 0 ∧ m.op c = (m, m.refused c)) ∨ (m.refused c = 0 ∧ m.armed = 1 ∧ m.op c = ((if c.late then m.tick else m.tick.act c).fail m.keep, 27)) ∨ (m.refused c = 0 ∧ m.op c = (m.tick.act c, 0)) := by
  unfold DM.op
  rw [if_neg (by rw [h]; decide)]
  by_cases h1 : m.refused c = 0
  · rw [if_neg (fun e => e h1)]
    by_cases h2 : m.armed = 1
    · rw [if_pos h2]
      exact .inr (.inl ⟨h1, h2, rfl⟩)
    · rw [if_neg h2]
      exact .inr (.inr ⟨h1, rfl⟩)
  · rw [if_pos h1]
    exact .inl ⟨h1, rfl⟩
theorem keys_of {t : Tab} {fs : List Fil} {l : Tab} (h : NormT t fs l) (hh : tget t handKR = none) : t.map (·.1) = l.map (fun x => keyN x.1) := by
  have e : t.map (fun p => (p.1, 0)) = l.map (fun x => (keyN x.1, 0)) := by
    refine tab_ext ?_ ?_ fun k => ?_
    · exact List.pairwise_map.2 h.now
    · refine List.pairwise_map.2 (h.rise.imp fun {a b} hab => ?_)
      show bytesBefore (refHead ++ a.1) (refHead ++ b.1) = true
      rw [bb_app]
      exact hab
    · have e1 : ∀ (T : Tab) (k : Bs), (tget T k).isSome = true ↔ ∃ p ∈ T, p.1 = k := fun T k => by
        constructor
        · intro hs
          obtain ⟨b, hb⟩ := Option.isSome_iff_exists.1 hs
          exact ⟨_, tget_mem hb, rfl⟩
        · rintro ⟨p, hp, rfl⟩
          cases hg : tget T p.1 with
          | some b => rfl
          | none => exact absurd rfl (tget_none.1 hg p hp)
      have e2 : (tget (t.map (fun p => (p.1, 0))) k).isSome = true ↔ (tget (l.map (fun x => (keyN x.1, 0))) k).isSome = true := by
        rw [e1, e1]
        constructor
        · rintro ⟨p, hp, rfl⟩
          obtain ⟨q, hq, rfl⟩ := List.mem_map.1 hp
          rcases h.rows q hq with h1 | ⟨-, x, hx, h3, -⟩
          · exact absurd h1 (tget_none.1 hh q hq)
          · exact ⟨_, List.mem_map.2 ⟨x, hx, rfl⟩, h3.symm⟩
        · rintro ⟨p, hp, rfl⟩
          obtain ⟨x, hx, rfl⟩ := List.mem_map.1 hp
          obtain ⟨i, hi⟩ := Option.isSome_iff_exists.1 (h.all x hx)
          exact ⟨_, List.mem_map.2 ⟨_, tget_mem hi, rfl⟩, rfl⟩
      have e3 : ∀ (T : Tab) (k : Bs) (b : Nat), (∀ p ∈ T, p.2 = 0) → tget T k = some b → b = 0 := fun T k b hT hb => hT _ (tget_mem hb)
      have z1 : ∀ p ∈ t.map (fun p => (p.1, 0)), p.2 = 0 := fun p hp => by obtain ⟨q, -, rfl⟩ := List.mem_map.1 hp; rfl
      have z2 : ∀ p ∈ l.map (fun x => (keyN x.1, 0)), p.2 = 0 := fun p hp => by obtain ⟨q, -, rfl⟩ := List.mem_map.1 hp; rfl
      cases ha : tget (t.map (fun p => (p.1, 0))) k with
      | none =>
        cases hb : tget (l.map (fun x => (keyN x.1, 0))) k with
        | none => rfl
        | some b => rw [ha, hb] at e2; exact absurd (e2.2 rfl) (by decide)
      | some a =>
        cases hb : tget (l.map (fun x => (keyN x.1, 0))) k with
        | none => rw [ha, hb] at e2; exact absurd (e2.1 rfl) (by decide)
        | some b => rw [e3 _ _ _ z1 ha, e3 _ _ _ z2 hb]
  have e2 := congrArg (List.map Prod.fst) e
  rw [List.map_map, List.map_map] at e2
  exact e2
section
variable {m : DM} {l : Tab}
/-- While nothing is armed: the disk holds these names and no other file. -/
theorem Rst.only (h : Rst m l) (ha : m.armed = 0) : Only m l := by
  refine ⟨⟨h.on, ha⟩, h.norm.now, fun p hp => ?_, h.norm.rise, keys_of h.norm h.hand, fun x hx i hi => ?_, h.norm.full, h.norm.code⟩
  · rcases h.norm.rows p hp with h1 | ⟨h1, -⟩
    · exact absurd h1 (tget_none.1 h.hand p hp)
    · exact h1
  · rcases h.norm.rows _ (tget_mem hi) with h1 | ⟨-, y, hy, h3, h4⟩
    · exact absurd h1 (keyN_hand _)
    · have e : x.1 = y.1 := keyN_inj h3
      have e2 : x.2 = y.2 := by
        have g1 := tget_of_mem h.norm.rise (show (x.1, x.2) ∈ l from hx)
        have g2 := tget_of_mem h.norm.rise (show (y.1, y.2) ∈ l from hy)
        rw [e, g2] at g1
        exact (Option.some.inj g1).symm
      rw [h4, e2]
theorem Rst.arm (h : Rst m l) (n : Int) (ks : List Int) : Rst (m.arm n ks) l := ⟨h.on, h.pend, h.eq, h.norm, h.hand⟩
theorem Rst.crash (h : Rst m l) (ks : List Int) : Dwn (m.crash ks) l := by
  unfold DM.crash
  rw [if_neg (by rw [h.on]; decide)]
  have hn : NormT m.safe m.files l := by rw [h.eq]; exact h.norm
  have e : (m.fail ks).now = m.now := by
    show failPend m.pend ks m.safe = _
    rw [h.pend, h.eq]
    rfl
  exact fail_dwn (by rw [e]; exact h.norm)
/-- A name is taken away. -/
theorem del_out (h : Rst m l) (u : Bs) :
    (tget l u = none ∧ delM m (refN u) = (m, 10)) ∨ ((tget l u).isSome = true ∧ (((delM m (refN u)).2 = 27 ∧ 1 ≤ m.armed ∧ (Dwn (delM m (refN u)).1 l ∨ Dwn (delM m (refN u)).1 (tdel l u))) ∨ ((delM m (refN u)).2 = 0 ∧ Rst (delM m (refN u)).1 (tdel l u)))) := by
  unfold delM
  have hlk : (m.get (refN u)).isSome = (tget l u).isSome := by
    show (tget m.now (keyN u)).isSome = _
    cases hg : tget m.now (keyN u) with
    | some i =>
      rcases h.norm.rows _ (tget_mem hg) with h1 | ⟨-, x, hx, h3, -⟩
      · exact absurd h1 (keyN_hand _)
      · have e : u = x.1 := keyN_inj h3
        rw [e, tget_of_mem h.norm.rise (show (x.1, x.2) ∈ l from hx)]
        rfl
    | none =>
      cases hl : tget l u with
      | none => rfl
      | some c =>
        have := h.norm.all _ (tget_mem hl)
        rw [show tget m.now (keyN (u, c).1) = none from hg] at this
        cases this
  have hnear : ∀ t, Near m.now (keyN u) none 0 t → Near m.now (keyN u) none 0 ((DOp.remove (refN u)).act t) := fun t ht => ht.remove
  obtain ⟨m2, hm2⟩ : ∃ y, m.tick.act (.remove (refN u)) = y := ⟨_, rfl⟩
  have hs2 : m2.safe = m.now := by rw [← hm2]; exact h.eq
  have hf2 : m2.files = m.files := by rw [← hm2]; rfl
  have hp2 : m2.pend = [.remove (refN u)] := by
    rw [← hm2]
    show m.pend ++ [.remove (refN u)] = _
    rw [h.pend]
    rfl
  have hn2 : m2.now = tdel m.now (keyN u) := by rw [← hm2]; rfl
  have hon2 : m2.off = false := by rw [← hm2]; exact h.on
  have ha2 : m2.armed = if 1 ≤ m.armed then m.armed - 1 else 0 := by rw [← hm2]; rfl
  have hfail : ∀ mm : DM, mm.safe = m.now → mm.files = m.files → mm.pend = [.remove (refN u)] → ∀ ks, Dwn (mm.fail ks) l ∨ Dwn (mm.fail ks) (tdel l u) := fun mm e1 e2 e3 ks => by
    have hN : NormT mm.safe mm.files l := by rw [e1, e2]; exact h.norm
    have hne := fail_near (X := none) (i0 := 0) (nm := keyN u) hN (by rw [e1]; exact h.hand) (fun o ho t ht => by
      rw [e3] at ho
      rw [List.mem_singleton.1 ho]
      exact ht.remove) ks
    rcases hne.name with h1 | h1
    · exact .inl (fail_dwn (hne.same hN h1))
    · exact .inr (fail_dwn (hne.del hN h1))
  cases hl : tget l u with
  | none =>
    rw [hl] at hlk
    rcases op_splitR h.on (.remove (refN u)) with ⟨h1, h2⟩ | ⟨h1, -⟩ | ⟨h1, -⟩
    · rw [refused_remove, if_neg (by rw [hlk]; decide)] at h2
      rw [seqM_no _ h2 (by decide)]
      exact .inl ⟨rfl, rfl⟩
    · rw [refused_remove, if_neg (by rw [hlk]; decide)] at h1
      cases h1
    · rw [refused_remove, if_neg (by rw [hlk]; decide)] at h1
      cases h1
  | some c =>
    rw [hl] at hlk
    refine .inr ⟨rfl, ?_⟩
    rcases op_splitR h.on (.remove (refN u)) with ⟨h1, -⟩ | ⟨-, ha, h2⟩ | ⟨-, h2⟩
    · rw [refused_remove, if_pos (by rw [hlk]; rfl)] at h1
      exact absurd rfl h1
    · rw [show (if DCall.late (.remove (refN u)) then m.tick else m.tick.act (.remove (refN u))) = m2 from hm2] at h2
      rw [seqM_no _ h2 (by decide)]
      exact .inl ⟨rfl, by rw [ha]; decide, hfail m2 hs2 hf2 hp2 _⟩
    · rw [hm2] at h2
      rw [seqM_ok _ h2]
      rcases op_splitR hon2 .flush with ⟨h1, -⟩ | ⟨-, ha, h3⟩ | ⟨-, h3⟩
      · exact absurd rfl h1
      · rw [h3]
        refine .inl ⟨rfl, ?_, hfail m2.tick hs2 hf2 hp2 _⟩
        rw [ha2] at ha
        split at ha
        · assumption
        · cases ha
      · rw [h3]
        have hN : NormT m2.now m2.files (tdel l u) := by
          rw [hn2, hf2]
          have hne : Near m.now (keyN u) none 0 (tdel m.now (keyN u)) := (h.norm.start h.hand (keyN u) none 0).remove
          exact hne.del h.norm (by rw [tget_del h.norm.now, if_pos rfl])
        refine .inr ⟨rfl, hon2, rfl, rfl, hN, ?_⟩
        show tget m2.now handKR = none
        rw [hn2, tget_del h.norm.now, if_neg (fun e => keyN_hand u e.symm)]
        exact h.hand
/-- A name is set, on a disk with room. -/
theorem set_out (h : Rst m l) {u : Bs} (hu : fullM u = some u) {D : List UInt8} (hD : D.length = 32) (hroom : 71 * l.length + 71 ≤ m.room) :
    ((setM m (refN u) (textD D)).2 = 27 ∧ 1 ≤ m.armed ∧ (Dwn (setM m (refN u) (textD D)).1 l ∨ Dwn (setM m (refN u) (textD D)).1 (tput l u (codeD D)))) ∨ ((setM m (refN u) (textD D)).2 = 0 ∧ Rst (setM m (refN u) (textD D)).1 (tput l u (codeD D))) := by
  have hul := (full_full hu).2.1
  have hsz : (textD D).size = 71 := textD_71 hD
  obtain ⟨t, ht⟩ : ∃ t, textD D = t := ⟨_, rfl⟩
  have hids : ∀ p ∈ m.now, p.2 < m.files.length := fun p hp => by
    rcases h.norm.rows p hp with h1 | ⟨h1, -⟩
    · exact absurd h1 (tget_none.1 h.hand p hp)
    · exact h1
  have hused : sizeOfTab m.files m.now = 71 * l.length := by
    have h0 : Only (m.arm 0 []) l := (h.arm 0 []).only rfl
    have h1 := h0.used
    unfold DM.used at h1
    rw [if_neg (by rw [h0.calm.1]; decide)] at h1
    exact h1
  rw [ht] at hsz ⊢
  obtain ⟨i0, hi0⟩ : ∃ i, m.files.length = i := ⟨_, rfl⟩
  have hr := h.norm.now
  have e0 : clearR m = (m, 0) := by
    have hrd : m.reads handR = (⟨#[]⟩, 10) := by
      unfold DM.reads DM.get
      rw [if_neg (by rw [h.on]; decide), show tget m.now handR.data.toList = none from h.hand]
    unfold clearR
    rw [hrd]
    rfl
  unfold setM
  rw [seqM_ok _ e0]
  -- early: what is in hand has no name
  have early : ∀ mm : DM, mm.safe = m.now → (m.files.length ≤ mm.files.length ∧ ∀ i, i < m.files.length → mm.files[i]! = m.files[i]!) → mm.pend = [.create handR i0] → ∀ ks, Dwn (mm.fail ks) l := fun mm e1 e2 e3 ks => by
    have hN : NormT mm.safe mm.files l := by rw [e1]; exact h.norm.files e2.1 (fun i hi _ => e2.2 i hi)
    have hne := fail_near (X := tget mm.safe (keyN u)) (i0 := i0) (nm := keyN u) hN (by rw [e1]; exact h.hand) (fun o ho t ht => by
      rw [e3] at ho
      rw [List.mem_singleton.1 ho]
      exact ht.create) ks
    exact fail_dwn (hne.same hN (hne.name.elim id id))
  -- create
  obtain ⟨m1, hm1⟩ : ∃ y, m.tick.act (.create handR) = y := ⟨_, rfl⟩
  have hf1 : m1.files = m.files ++ [⟨⟨#[]⟩, 0⟩] := by rw [← hm1]; rfl
  have hn1 : m1.now = tput m.now handKR i0 := by rw [← hm1, ← hi0]; rfl
  have hs1 : m1.safe = m.now := by rw [← hm1]; exact h.eq
  have hp1 : m1.pend = [.create handR i0] := by
    rw [← hm1]
    show m.pend ++ [.create handR m.files.length] = _
    rw [h.pend, hi0]
    rfl
  have hon1 : m1.off = false := by rw [← hm1]; exact h.on
  have hrm1 : m1.room = m.room := by rw [← hm1]; rfl
  have ha1 : 1 ≤ m1.armed → 1 ≤ m.armed := by
    rw [← hm1]
    show 1 ≤ (if 1 ≤ m.armed then m.armed - 1 else 0) → _
    split <;> intro hx <;> omega
  have hold1 : ∀ i, i < m.files.length → m1.files[i]! = m.files[i]! := fun i hi => by rw [hf1]; exact get_app_old _ hi
  have hlen1 : m1.files.length = i0 + 1 := by rw [hf1, List.length_append, hi0]; rfl
  have hg1 : m1.get handR = some i0 := by show tget m1.now handKR = _; rw [hn1, tget_put hr, if_pos rfl]
  have hlast1 : m1.files[i0]! = ⟨⟨#[]⟩, 0⟩ := by rw [hf1, ← hi0]; exact get_app_last _
  have hu1 : m1.used = sizeOfTab m.files m.now := by
    unfold DM.used
    rw [if_neg (by rw [hon1]; decide), hn1]
    show sizeOfTab m1.files (tins (handKR, i0) (tdel m.now handKR)) = _
    rw [sizeT_ins, tdel_none h.hand, hlast1, hf1, sizeT_old _ hids]
    show 0 + _ = _
    omega
  rcases op_splitR h.on (.create handR) with ⟨h1, -⟩ | ⟨-, ha, h2⟩ | ⟨-, h2⟩
  · refine absurd ?_ h1
    rw [refused_create, if_pos handR_right]
    unfold DM.get
    rw [show tget m.now handR.data.toList = none from h.hand]
    rfl
  · rw [show (if DCall.late (.create handR) then m.tick else m.tick.act (.create handR)) = m1 from hm1] at h2
    rw [seqM_no _ h2 (by decide)]
    exact .inl ⟨rfl, by rw [ha]; decide, .inl (early m1 hs1 ⟨by omega, hold1⟩ hp1 _)⟩
  rw [hm1] at h2
  rw [seqM_ok _ h2]
  -- write
  have hac : m1.tick.act (.write handR t) = { m1.tick with files := m1.files.set i0 ⟨m1.files[i0]!.data ++ t, m1.files[i0]!.safe⟩ } := by
    rw [dact_write, show m1.tick.get handR = some i0 from hg1]
    rfl
  obtain ⟨m2, hm2⟩ : ∃ y, m1.tick.act (.write handR t) = y := ⟨_, rfl⟩
  have hf2 : m2.files = m1.files.set i0 ⟨⟨#[]⟩ ++ t, 0⟩ := by
    rw [← hm2, hac, hlast1]
  have hn2 : m2.now = m1.now := by rw [← hm2, hac]; rfl
  have hp2 : m2.pend = m1.pend := by rw [← hm2, hac]; rfl
  have hs2 : m2.safe = m.now := by rw [← hm2, hac]; exact hs1
  have hon2 : m2.off = false := by rw [← hm2, hac]; exact hon1
  have ha2 : 1 ≤ m2.armed → 1 ≤ m.armed := by
    rw [← hm2, hac]
    show 1 ≤ (if 1 ≤ m1.armed then m1.armed - 1 else 0) → _
    split
    · intro hx
      exact ha1 (by omega)
    · intro hx
      omega
  have hold2 : ∀ i, i < m.files.length → m2.files[i]! = m.files[i]! := fun i hi => by
    rw [hf2, fail_set_len (by omega), if_neg (by omega)]
    exact hold1 i hi
  have hlen2 : m2.files.length = i0 + 1 := by rw [hf2, List.length_set, hlen1]
  have hg2 : m2.get handR = some i0 := by show tget m2.now handKR = _; rw [hn2]; exact hg1
  rcases op_splitR hon1 (.write handR t) with ⟨h3, h4⟩ | ⟨-, ha, h4⟩ | ⟨h3, h4⟩
  · exfalso
    rw [refused_write, hg1, if_pos (show (some i0).isSome = true from rfl), hu1, hused, hsz, hrm1, if_neg (by omega)] at h3
    exact h3 rfl
  · rw [show (if DCall.late (.write handR t) then m1.tick else m1.tick.act (.write handR t)) = m2 from hm2] at h4
    rw [wrote_no h4 (by decide) (by decide)]
    exact .inl ⟨rfl, ha1 (by rw [ha]; decide), .inl (early m2 hs2 ⟨by omega, hold2⟩ (hp2.trans hp1) _)⟩
  rw [hm2] at h4
  rw [wrote_ok h4]
  -- sync
  have h2i : m2.files[i0]!.data = t := by
    rw [hf2, fail_set_len (by omega), if_pos rfl]
    exact ByteArray.empty_append
  have hac3 : m2.tick.act (.sync handR) = { m2.tick with files := m2.files.set i0 ⟨m2.files[i0]!.data, m2.files[i0]!.data.size⟩ } := by
    rw [dact_sync, show m2.tick.get handR = some i0 from hg2]
    rfl
  obtain ⟨m3, hm3⟩ : ∃ y, m2.tick.act (.sync handR) = y := ⟨_, rfl⟩
  have hf3 : m3.files = m2.files.set i0 ⟨t, t.size⟩ := by rw [← hm3, hac3, h2i]
  have hn3 : m3.now = m1.now := by rw [← hm3, hac3]; exact hn2
  have hp3 : m3.pend = [.create handR i0] := by rw [← hm3, hac3]; exact hp2.trans hp1
  have hs3 : m3.safe = m.now := by rw [← hm3, hac3]; exact hs2
  have hon3 : m3.off = false := by rw [← hm3, hac3]; exact hon2
  have ha3 : 1 ≤ m3.armed → 1 ≤ m.armed := by
    rw [← hm3, hac3]
    show 1 ≤ (if 1 ≤ m2.armed then m2.armed - 1 else 0) → _
    split
    · intro hx
      exact ha2 (by omega)
    · intro hx
      omega
  have hold3 : ∀ i, i < m.files.length → m3.files[i]! = m.files[i]! := fun i hi => by
    rw [hf3, fail_set_len (by omega), if_neg (by omega)]
    exact hold2 i hi
  have hlen3 : m3.files.length = i0 + 1 := by rw [hf3, List.length_set, hlen2]
  have hlast3 : m3.files[i0]! = ⟨textD D, 71⟩ := by rw [hf3, fail_set_len (by omega), if_pos rfl, hsz, ht]
  have hg3 : m3.get handR = some i0 := by show tget m3.now handKR = _; rw [hn3]; exact hg1
  rcases op_splitR hon2 (.sync handR) with ⟨h5, -⟩ | ⟨-, ha, h6⟩ | ⟨-, h6⟩
  · refine absurd ?_ h5
    rw [refused_sync, hg2]
    rfl
  · rw [seqM_no _ h6 (by decide)]
    refine .inl ⟨rfl, ha2 (by rw [ha]; decide), .inl ?_⟩
    exact early m2.tick hs2 ⟨by show _ ≤ m2.files.length; omega, hold2⟩ (hp2.trans hp1) _
  rw [hm3] at h6
  rw [seqM_ok _ h6]
  -- rename
  have late : ∀ mm : DM, mm.safe = m.now → (m.files.length ≤ mm.files.length ∧ ∀ i, i < m.files.length → mm.files[i]! = m.files[i]!) → i0 < mm.files.length → mm.files[i0]! = ⟨textD D, 71⟩ → (∀ o ∈ mm.pend, o = .create handR i0 ∨ o = .rename handR (refN u)) → ∀ ks, Dwn (mm.fail ks) l ∨ Dwn (mm.fail ks) (tput l u (codeD D)) := fun mm e1 e2 e4 e5 e3 ks => by
    have hN : NormT mm.safe mm.files l := by rw [e1]; exact h.norm.files e2.1 (fun i hi _ => e2.2 i hi)
    have hne := fail_near (X := some i0) (i0 := i0) (nm := keyN u) hN (by rw [e1]; exact h.hand) (fun o ho t ht => by
      rcases e3 o ho with rfl | rfl
      · exact ht.create
      · exact ht.rename) ks
    rcases hne.name with h1 | h1
    · exact .inl (fail_dwn (hne.same hN h1))
    · exact .inr (fail_dwn (hne.put hN h1 hu hD e4 e5))
  obtain ⟨m4, hm4⟩ : ∃ y, m3.tick.act (.rename handR (refN u)) = y := ⟨_, rfl⟩
  have hac4 : m4 = m3.tick.names (.rename handR (refN u)) := by rw [← hm4, dact_rename]
  have hf4 : m4.files = m3.files := by rw [hac4]; rfl
  have hn4 : m4.now = tput (tdel m1.now handKR) (keyN u) i0 := by
    rw [hac4]
    show (DOp.rename handR (refN u)).act m3.now = _
    simp only [DOp.act]
    rw [show tget m3.now handR.data.toList = some i0 from hg3, hn3]
    rfl
  have hp4 : m4.pend = [.create handR i0, .rename handR (refN u)] := by
    rw [hac4]
    show m3.pend ++ [.rename handR (refN u)] = _
    rw [hp3]
    rfl
  have hs4 : m4.safe = m.now := by rw [hac4]; exact hs3
  have hon4 : m4.off = false := by rw [hac4]; exact hon3
  have ha4 : 1 ≤ m4.armed → 1 ≤ m.armed := by
    rw [hac4]
    show 1 ≤ (if 1 ≤ m3.armed then m3.armed - 1 else 0) → _
    split
    · intro hx
      exact ha3 (by omega)
    · intro hx
      omega
  have hpp : ∀ o ∈ m4.pend, o = .create handR i0 ∨ o = .rename handR (refN u) := fun o ho => by
    rw [hp4] at ho
    rcases List.mem_cons.1 ho with rfl | ho
    · exact .inl rfl
    · exact .inr (List.mem_singleton.1 ho)
  rcases op_splitR hon3 (.rename handR (refN u)) with ⟨h7, -⟩ | ⟨-, ha, h8⟩ | ⟨-, h8⟩
  · refine absurd ?_ h7
    rw [refused_rename, hg3, if_pos (show (some i0).isSome = true from rfl), if_pos (refN_right hul)]
  · rw [show (if DCall.late (.rename handR (refN u)) then m3.tick else m3.tick.act (.rename handR (refN u))) = m4 from hm4] at h8
    rw [seqM_no _ h8 (by decide)]
    refine .inl ⟨rfl, ha3 (by rw [ha]; decide), late m4 hs4 ⟨by rw [hf4]; omega, fun i hi => by rw [hf4]; exact hold3 i hi⟩ (by rw [hf4]; omega) (by rw [hf4]; exact hlast3) hpp _⟩
  rw [hm4] at h8
  rw [seqM_ok _ h8]
  -- flush
  rcases op_splitR hon4 .flush with ⟨h9, -⟩ | ⟨-, ha, h10⟩ | ⟨-, h10⟩
  · exact absurd rfl h9
  · rw [h10]
    refine .inl ⟨rfl, ha4 (by rw [ha]; decide), late m4.tick hs4 ⟨by show _ ≤ m4.files.length; rw [hf4]; omega, fun i hi => by show m4.files[i]! = _; rw [hf4]; exact hold3 i hi⟩ (by show _ < m4.files.length; rw [hf4]; omega) (by show m4.files[i0]! = _; rw [hf4]; exact hlast3) hpp _⟩
  · rw [h10]
    have hnd : m4.now = tput m.now (keyN u) i0 := by
      rw [hn4, hn1, tdel_tput hr h.hand]
    have hN : NormT m.now m4.files l := h.norm.files (by rw [hf4]; omega) (fun i hi _ => by rw [hf4]; exact hold3 i hi)
    have hne : Near m.now (keyN u) (some i0) i0 m4.now := by
      rw [hnd]
      refine ⟨tput_rising hr, fun k h1 h2 => by rw [tget_put hr, if_neg h2], .inr (by rw [tget_put hr, if_pos rfl]), .inl ?_⟩
      rw [tget_put hr, if_neg (fun e => keyN_hand u e.symm)]
      exact h.hand
    have hN4 : NormT m4.now m4.files (tput l u (codeD D)) := hne.put hN (by rw [hnd, tget_put hr, if_pos rfl]) hu hD (by rw [hf4]; omega) (by rw [hf4]; exact hlast3)
    refine .inr ⟨rfl, hon4, rfl, rfl, hN4, ?_⟩
    show tget m4.now handKR = none
    rw [hnd, tget_put hr, if_neg (fun e => keyN_hand u e.symm)]
    exact h.hand
theorem nameB_key {p : Bs × Nat} {u : Bs} (h : p.1 = keyN u) : nameB p = refN u := by
  unfold nameB refN keyN at *
  rw [h]
theorem Dwn.bad (h : Dwn m l) : badR m.revive = if (tget m.now handKR).isSome then [handR] else [] := by
  have hrd : ∀ n : ByteArray, m.revive.reads n = match tget m.now n.data.toList with | some i => (m.files[i]!.data, 0) | none => (⟨#[]⟩, 10) := fun n => by
    unfold DM.reads DM.get
    rw [if_neg (show ¬ m.revive.off = true from fun e => by cases e)]
    rfl
  have h1 : (m.revive.lists ⟨refHead.toArray⟩).filter (fun n => !rightR m.revive n) = [] := by
    refine List.filter_eq_nil_iff.2 fun s hs => ?_
    unfold DM.lists at hs
    rw [if_neg (show ¬ m.revive.off = true from fun e => by cases e)] at hs
    obtain ⟨p, hp, rfl⟩ := List.mem_map.1 hs
    obtain ⟨hp1, hp2⟩ := List.mem_filter.1 hp
    have hp1 : p ∈ m.now := hp1
    rcases h.norm.rows p hp1 with hk | ⟨-, x, hx, hk, hf⟩
    · exfalso
      unfold hasHead at hp2
      rw [hk] at hp2
      revert hp2
      decide
    · rw [nameB_key hk]
      have hg : tget m.now (refN x.1).data.toList = some p.2 := by
        show tget m.now (keyN x.1) = _
        rw [← hk]
        exact tget_of_mem h.norm.now hp1
      have hr1 : rightR m.revive (refN x.1) = true := by
        unfold rightR restM
        rw [tail_refN, h.norm.full x hx, hrd, hg]
        simp only [hf]
        rw [parseD_textD _ (decD_len _)]
        simp
      rw [hr1]
      decide
  unfold badR
  rw [h1, List.append_nil, hrd]
  have he : tget m.now handR.data.toList = tget m.now handKR := rfl
  rw [he]
  cases tget m.now handKR with
  | none => exact if_neg (show ¬ (10 : Int) = 0 by decide)
  | some i => exact if_pos rfl
/-- The disk is revived and opened anew. -/
theorem open_out (h : Dwn m l) : (openR m.revive).2 = 0 ∧ Rst (openR m.revive).1 l ∧ (openR m.revive).1.armed = 0 ∧ (openR m.revive).1.room = m.room ∧ (badR m.revive).length ≤ 1 ∧ ∀ s ∈ m.revive.lists ⟨refHead.toArray⟩, s.size ≤ 200 := by
  have hb := h.bad
  have hsz : ∀ s ∈ m.revive.lists ⟨refHead.toArray⟩, s.size ≤ 200 := fun s hs => by
    unfold DM.lists at hs
    rw [if_neg (show ¬ m.revive.off = true from fun e => by cases e)] at hs
    obtain ⟨p, hp, rfl⟩ := List.mem_map.1 hs
    have hp1 : p ∈ m.now := (List.mem_filter.1 hp).1
    rcases h.norm.rows p hp1 with hk | ⟨-, x, hx, hk, -⟩
    · show p.1.toArray.size ≤ 200
      rw [hk]
      decide
    · rw [nameB_key hk, refN_size]
      have := (full_full (h.norm.full x hx)).2.1
      omega
  have hc : m.revive.Calm := ⟨rfl, h.armed⟩
  unfold openR
  rw [if_neg (show ¬ m.revive.off = true from fun e => by cases e)]
  cases hg : tget m.now handKR with
  | none =>
    rw [hg] at hb
    rw [hb, show (if (none : Option Nat).isSome = true then [handR] else []) = [] from rfl]
    exact ⟨rfl, ⟨rfl, h.pend, h.eq, h.norm, hg⟩, h.armed, rfl, by decide, hsz⟩
  | some i =>
    rw [hg] at hb
    rw [hb, show (if (some i : Option Nat).isSome = true then [handR] else []) = [handR] from rfl]
    have e1 : m.revive.op (.remove handR) = (m.revive.act (.remove handR), 0) := by
      rw [hc.op_eq]
      have hf : m.revive.refused (.remove handR) = 0 := by
        rw [refused_remove]
        unfold DM.get
        rw [show tget m.revive.now handR.data.toList = some i from hg]
        rfl
      rw [hf]
      rfl
    have e2 : (m.revive.act (.remove handR)).op .flush = ((m.revive.act (.remove handR)).act .flush, 0) := by
      rw [(hc.act _).op_eq]
      rfl
    have e3 : takesM [handR] m.revive = (m.revive.act (.remove handR), 0) := by
      show seqM (m.revive.op (.remove handR)) (takesM []) = _
      rw [seqM_ok _ e1]
      rfl
    rw [seqM_ok _ e3, if_neg (by decide), e2]
    have hn : ((m.revive.act (.remove handR)).act .flush).now = tdel m.now handKR := rfl
    have hN : NormT (tdel m.now handKR) m.files l := by
      refine ⟨tdel_rising h.norm.now, h.norm.rise, h.norm.full, h.norm.code, fun p hp => h.norm.rows p (tdel_mem.1 hp).1, fun x hx => ?_⟩
      rw [tget_del h.norm.now, if_neg (keyN_hand _)]
      exact h.norm.all x hx
    refine ⟨rfl, ⟨rfl, rfl, rfl, hN, ?_⟩, h.armed, rfl, by decide, hsz⟩
    show tget (tdel m.now handKR) handKR = none
    rw [tget_del h.norm.now, if_pos rfl]
theorem rst_new (r : Int) : Rst (DM.new r) [] := ⟨rfl, rfl, rfl, ⟨List.Pairwise.nil, List.Pairwise.nil, fun _ h => (by cases h), fun _ h => (by cases h), fun _ h => (by cases h), fun _ h => (by cases h)⟩, rfl⟩
end
end Go.Proofs.YtdkedmngeahjiaaGreatDoor
/- Contract of refs.Open. -/
namespace Go.Proofs.YtdkedmngeahjiaaGreatDoor
open Go Go.RowKit
theorem openR_on {m : DM} (h : m.off = false) : openR m = seqM (takesM (badR m) m) fun m' => if badR m = [] then (m', 0) else m'.op .flush := if_neg (by rw [h]; decide)
theorem RowC.own {base : Nat} {l : List Value} {v : Value} {w : World} (h : RowC base l v w) (b : Nat) (hb : v.ownBlock = some b) : base ≤ b ∧ b < w.heap.size := by
  rcases h with ⟨rfl, -⟩ | ⟨g, cap, rfl, h2, h3, -⟩
  · cases hb
  · cases hb
    exact ⟨h2, h3⟩
theorem reads_two {m : DM} (h : m.off = false) (n : ByteArray) : (m.reads n).2 = 0 ∨ (m.reads n).2 = 10 := by
  unfold DM.reads
  rw [if_neg (by rw [h]; decide)]
  split
  · exact .inl rfl
  · exact .inr rfl
/-- How Open ends: names, or an error. -/
def ROpenPost (w : World) (S P : Nat → Prop) (a n N : Nat) (w1 : World) (r : DM × Int) (e : Ending) (w' : World) : Prop :=
  ∃ v, e = .returned v ∧ ((r.2 = 0 ∧ ∃ rb, v = .tuple #[.pointer (some ⟨rb, 0, none⟩), .nilIface] ∧ w1.heap.size ≤ rb ∧ Rf w S (fun b => P b ∨ b = rb) rb a w' (n + N + 1) r.1) ∨
    (r.2 ≠ 0 ∧ ∃ u t, v = .tuple #[.pointer none, u] ∧ u = wrapE t r.2 ∧ St w S P a w' (n + N + 1) r.1)) ∧ SameP P w1 w'
theorem refO_box {w w1 : World} {S P : Nat → Prop} {a n n' : Nat} {m : DM} (h : St w S P a w1 n m) (hn : n ≤ n') : Rf w S (fun b => P b ∨ b = w1.heap.size) w1.heap.size a (w1.alloc (refsO a)) n' m :=
  ⟨(h.bel ((Below.refl _ _).alloc (Nat.le_refl _) _) _ (fun b hb => by
    rcases hb with hb | rfl
    · exact .inl hb
    · exact .inr ⟨Nat.le_refl _, by rw [World.size_alloc]; omega⟩)).more hn, heap_new _ _, .inr rfl⟩
set_option maxHeartbeats 1600000 in
set_option maxRecDepth 100000 in
theorem ropen_nil (w : World) : Calls Tryz.prog 13 #[.pointer none] w fun e w' => e = .returned (.tuple #[.pointer none, wrapE whatO 1]) ∧ w = w' := by
  have htl := fun W : World => told_any whatO 1 W
  rw [show errE 1 = .iface 71 (.int .i64 1) from rfl] at htl
  unfold whatO at htl
  go_enter Tryz.func13, Tryz.ntmps13
  go_wp2_with (go_at_call 34; refine (htl _).mono ?_; rintro e w3 ⟨rfl, rfl⟩)
  go_ret2
  exact ⟨rfl, rfl⟩
set_option maxHeartbeats 12800000 in
set_option maxRecDepth 100000 in
theorem ropen0 {w1 : World} {S P : Nat → Prop} {a n : Nat} {m : DM} (h : St w1 S P a w1 n m) (hn : n ≤ 1000000000) (hsh : ∀ s ∈ m.lists ⟨refHead.toArray⟩, s.size ≤ 200) :
    Calls Tryz.prog 13 #[.pointer (some ⟨a, 0, none⟩)] w1 (ROpenPost w1 S P a n (badR m).length w1 (openR m)) := by
  obtain ⟨i0, hi, hz0, hz1, hz2⟩ := info_parts infoS
  have HS1 := Lib.hid h
  have hlN : (m.lists ⟨refHead.toArray⟩).length ≤ n := by
    unfold DM.lists
    split
    · exact Nat.zero_le _
    · rw [List.length_map]
      exact Nat.le_trans (List.length_filter_le _ _) h.ok.nowN
  have hrl : m.off = false → ∀ s ∈ m.lists ⟨refHead.toArray⟩, (m.reads s).2 = 0 := fun ho s hs => reads_listed h.ok.now ho hs
  have hls := st_list h ⟨#[114, 101, 102, 115, 47]⟩ (by omega)
  have hlq : m.lists ⟨refHead.toArray⟩ = m.lists ⟨#[114, 101, 102, 115, 47]⟩ := rfl
  rw [← hlq] at hls
  obtain ⟨L, hL⟩ : ∃ L, m.lists ⟨refHead.toArray⟩ = L := ⟨_, rfl⟩
  rw [hL] at hls hlN hsh hrl
  have HL := Lib.hid hL
  have HSH := Lib.hid hsh
  have HRL := Lib.hid hrl
  obtain ⟨N, hN⟩ : ∃ N, L.length = N := ⟨_, rfl⟩
  have HN := Lib.hid hN
  rw [hN] at hlN
  have HNN : Hid (N ≤ n ∧ n ≤ 1000000000) := Lib.hid ⟨hlN, hn⟩
  have HTL := Lib.hid (fun (y : Int) (W : World) => told_any whatO y W)
  unfold whatO at HTL
  clear h hsh hlN hL hN hn hlq hrl
  cases hoff : m.off with
  | true =>
    rw [hoff] at hls
    have HOFF := Lib.hid hoff
    clear hoff
    have hlsw : Calls Tryz.prog 17 #[.pointer (some ⟨a, 0, none⟩), .string ⟨#[114, 101, 102, 115, 47]⟩] w1 fun e w' => ∃ v, e = .returned (.tuple #[v, .iface 71 (.int .i64 27)]) ∧ OwnTexts w1.heap.size w' v L ∧ Below w1.heap.size w1 w' := hls
    have htl := HTL.out 27
    rw [show errE 27 = .iface 71 (.int .i64 27) from rfl] at htl
    clear hls
    go_enter Tryz.func13, Tryz.ntmps13
    go_wp2_with fail
    refine hlsw.mono ?_
    rintro e w2 ⟨v, rfl, -, hb2⟩
    have HS2 := Lib.hid (HS1.out.bel hb2 P (fun b hb => .inl hb))
    have HM2 : Hid (SameP P w1 w2) := Lib.hid (HS1.out.same hb2)
    clear hb2 hlsw
    go_wp2_with (go_at_call 34; refine (htl _).mono ?_; rintro e w3 ⟨rfl, rfl⟩)
    go_ret2
    have hO : openR m = (m, 27) := if_pos HOFF.out
    refine ⟨_, rfl, ?_, HM2.out⟩
    rw [hO]
    exact .inr ⟨(show (27 : Int) ≠ 0 by decide), _, whatO, rfl, rfl, HS2.out.more (by omega)⟩
  | false =>
    rw [hoff] at hls
    have HOFF := Lib.hid hoff
    clear hoff
    have hlsw : Calls Tryz.prog 17 #[.pointer (some ⟨a, 0, none⟩), .string ⟨#[114, 101, 102, 115, 47]⟩] w1 fun e w' => ∃ v, e = .returned (.tuple #[v, .nilIface]) ∧ OwnTexts w1.heap.size w' v L ∧ Below w1.heap.size w1 w' := hls
    clear hls
    obtain ⟨r, hr⟩ : ∃ r, (m.reads handR).1 = r := ⟨_, rfl⟩
    have hrd := fun W (hs : St w1 S P a W n m) => st_read hs handR (by decide)
    rcases reads_two HOFF.out handR with hy0 | hy0
    · rw [hy0, hr, show errE 0 = .nilIface from rfl] at hrd
      have HY0 := Lib.hid hy0
      unfold handR at hrd
      clear hr hy0
      go_enter Tryz.func13, Tryz.ntmps13
      go_wp2_with fail
      refine hlsw.mono ?_
      rintro e w2 ⟨v, rfl, hv, hb2⟩
      obtain ⟨vp, vc, rfl⟩ := hv.rd.len
      rw [HN.out] at hv ⊢
      have HV2 := Lib.hid hv.rd
      have HS2 := Lib.hid (HS1.out.bel hb2 P (fun b hb => .inl hb))
      have HM2 : Hid (SameP P w1 w2) := Lib.hid (HS1.out.same hb2)
      clear hb2 hlsw hv HS1
      go_wp2_with fail
      refine (hrd _ HS2.out).mono ?_
      rintro e w3 ⟨rfl, rfl⟩
      clear hrd
      have hbn : (0 : Nat) + 1 ≤ 140737488355328 := by decide
      go_wp2_with (at_builtin; refine wpList_appC rfl _ _ 31 rfl w2.heap.size 9 i0 (.string ⟨#[]⟩) 16 Tryz.underlying31 hi hz0 hz1 hz2 rfl [] _ rfl (RowC.nil _ _) (.string handR) ⟨w2.heap.size, 0, none⟩ rfl (new1V w2 _ _) rfl (by decide) (by decide) (by rw [World.size_alloc]; have := (Below.refl w2.heap.size w2).size; omega) ?_; intro v1 w7 hr7 hb7; have HR7 := Lib.hid hr7; have HB7 : Hid (Below w2.heap.size w2 w7) := Lib.hid (((Below.refl w2.heap.size w2).alloc (by have := (Below.refl w2.heap.size w2).size; omega) _).trans hb7); clear hr7 hb7)
      have HR9 : Hid (RowC w2.heap.size (([handR] : List ByteArray).map strV) v1 w7) := HR7
      have HB9 := HB7
      clear hbn HR7 HB7
      have hNi : (N : Int) ≤ 1000000000 := by have := HNN.out; omega
      go_wp2_with fail
      go_loopw [6, 52] (fun v iv wr => ∃ k : Nat, (k : Int) ≤ N ∧ iv = .int .i64 k ∧ Hid (RowC w2.heap.size (([handR] ++ (L.take k).filter fun s => !rightR m s).map strV) v wr) ∧ Hid (Below w2.heap.size w2 wr)) (fun _ iv _ => N - (intOf iv).toNat)
      case atStart => exact ⟨0, by omega, rfl, Lib.hid (by rw [List.take_zero, List.filter_nil, List.append_nil]; exact HR9.out), HB9⟩
      case round =>
        obtain ⟨k, hk, rfl, HR, HB⟩ := hrel
        by_cases hlt : (k : Int) < N
        · have hkl : k < L.length := by rw [HN.out]; omega
          obtain ⟨s, hs⟩ : ∃ s, L[k]? = some s := ⟨_, List.getElem?_eq_getElem hkl⟩
          obtain ⟨vp', vc', he, hv⟩ := HV2.out.below HB.out
          obtain ⟨vb, vo, hvp, hvl, hvc⟩ := hv k s hs
          have hpe : vp = some ⟨vb, vo, none⟩ := by cases he; exact hvp
          subst hpe
          have hss := HSH.out s (List.mem_of_getElem? hs)
          have hy := HRL.out HOFF.out s (List.mem_of_getElem? hs)
          have htk : L.take (k + 1) = L.take k ++ [s] := by rw [List.take_add_one, hs]; rfl
          have HTK := Lib.hid htk
          obtain ⟨q, cap, rfl, -⟩ := HR.out.slice
          have hql : (([handR] ++ (L.take k).filter fun s => !rightR m s).map strV).length ≤ 1 + k := by
            rw [List.length_map, List.length_append]
            have h1 := List.length_filter_le (fun s => !rightR m s) (L.take k)
            rw [List.length_take] at h1
            have : ([handR] : List ByteArray).length = 1 := rfl
            omega
          obtain ⟨K, hK⟩ : ∃ K, (([handR] ++ (L.take k).filter fun s => !rightR m s).map strV).length = K := ⟨_, rfl⟩
          rw [hK] at hql HR ⊢
          have HQL := Lib.hid hql
          have HK := Lib.hid hK
          have hre := fun W : World => rest_any s (show ((s.size : Nat) : Int) ≤ 140737488355328 by omega) W
          unfold lV at hre
          have hrd := fun W (hst : St w1 S P a W n m) => st_read hst s (show s.size ≤ maxLen by unfold maxLen; omega)
          obtain ⟨T, hT⟩ : ∃ T, (m.reads s).1 = T := ⟨_, rfl⟩
          rw [hT, hy, show errE 0 = .nilIface from rfl] at hrd
          have HRD := Lib.hid hrd
          have hpa := fun W : World => parse_dig T W
          have hrr : rightR m s = (restM s && (parseD T).isSome) := by unfold rightR; rw [hT]
          obtain ⟨RS, hRS⟩ : ∃ b, restM s = b := ⟨_, rfl⟩
          rw [hRS] at hre hrr
          obtain ⟨T1, hT1⟩ : ∃ T : ByteArray, (⟨(tailM s).toArray⟩ : ByteArray) = T := ⟨_, rfl⟩
          rw [hT1] at hre
          clear hs he hv hvp hvl htk hkl hql hK hrd hT hy hT1 hRS
          have HS4 := Lib.hid (HS2.out.bel HB.out P (fun b hb => .inl hb))
          have hpp : ∃ (D : List UInt8) (e : Value), parseV (parseD T) = .tuple #[.agg (D.map byteV).toArray, e] ∧ D.length = 32 ∧ (((parseD T).isSome = true ∧ e = .nilIface) ∨ ((parseD T).isSome = false ∧ e = .iface 71 (.int .i64 4))) := by
            cases hp : parseD T with
            | none => exact ⟨zeroD, _, rfl, rfl, .inr ⟨rfl, rfl⟩⟩
            | some D => exact ⟨D, _, rfl, (parseD_inv hp).2, .inl ⟨rfl, rfl⟩⟩
          obtain ⟨D, ev, hpv, -, hev⟩ := hpp
          rw [hpv] at hpa
          generalize (parseD T).isSome = PS at hev hrr
          have HRR := Lib.hid hrr
          clear hrr hpv
          rcases hev with ⟨rfl, rfl⟩ | ⟨rfl, rfl⟩ <;> cases RS
          all_goals
            have hvv : True := trivial
            go_wp2_with fail
            refine (HRD.out _ HS4.out).mono ?_
            rintro e w5 ⟨rfl, rfl⟩
            go_wp2_with (first | (go_at_call 42; refine (hpa _).mono ?_; rintro e w6 ⟨rfl, hb6⟩; have HB6 : Hid (Below w2.heap.size w2 w6) := Lib.hid (HB.out.trans (hb6.mono HB.out.size)); have HR6 := Lib.hid (HR.out.keep hb6); clear hb6) | (go_at_call 43; refine (hre _).mono ?_; rintro e w7 ⟨rfl, hb7⟩; have HB7 : Hid (Below w2.heap.size w2 w7) := Lib.hid (HB6.out.trans (hb7.mono HB6.out.size)); have HR7 := Lib.hid (HR6.out.keep hb7); clear hb7) | (at_builtin; refine wpList_appC rfl _ _ 31 rfl w2.heap.size 9 i0 (.string ⟨#[]⟩) 16 Tryz.underlying31 hi hz0 hz1 hz2 rfl _ _ rfl (HR7.out.keep ((Below.refl _ _).alloc (Nat.le_refl _) _)) (.string s) ⟨w7.heap.size, 0, none⟩ rfl (new1V w7 _ _) rfl (by rw [HK.out]; have := HQL.out; have := HNN.out; unfold maxLen; omega) (by rw [HK.out]; have := HQL.out; have := HNN.out; omega) (by rw [World.size_alloc]; have := HB7.out.size; omega) ?_; intro v1 w8 hr8 hb8; have HR8 := Lib.hid hr8; have HB8 : Hid (Below w2.heap.size w2 w8) := Lib.hid ((HB7.out.alloc (by have := HB7.out.size; omega) _).trans hb8); clear hr8 hb8))
            first
              | (have hf : [s].filter (fun s => !rightR m s) = [s] := by rw [List.filter_cons, HRR.out]; rfl
                 refine ⟨⟨k + 1, by omega, by rw [Int.natCast_add]; rfl, Lib.hid ?_, HB8⟩, by simp [intOf]; omega⟩
                 rw [HTK.out, List.filter_append, hf, ← List.append_assoc, List.map_append]
                 exact HR8.out)
              | (have hf : [s].filter (fun s => !rightR m s) = [] := by rw [List.filter_cons, HRR.out]; rfl
                 refine ⟨⟨k + 1, by omega, by rw [Int.natCast_add]; rfl, Lib.hid ?_, HB7⟩, by simp [intOf]; omega⟩
                 rw [HTK.out, List.filter_append, hf, List.append_nil]
                 exact HR7.out)
        · have hbad : ([handR] ++ (L.take k).filter fun s => !rightR m s) = badR m := by
            rw [List.take_of_length_le (by rw [HN.out]; omega)]
            exact (show [handR] ++ L.filter _ = badR m by unfold badR; rw [if_pos HY0.out, HL.out])
          rw [hbad] at HR
          have hbl : (badR m).length ≤ 1 + N := by
            rw [← hbad, List.length_append]
            have h1 := List.length_filter_le (fun s => !rightR m s) (L.take k)
            rw [List.length_take] at h1
            have : ([handR] : List ByteArray).length = 1 := rfl
            have := HN.out
            omega
          have hsz : ∀ s ∈ badR m, s.size ≤ 200 := by
            rw [← hbad]
            intro s hs
            rcases List.mem_append.1 hs with hs | hs
            · rw [List.mem_singleton.1 hs]; decide
            · exact HSH.out s (List.mem_of_mem_take (List.mem_filter.1 hs).1)
          obtain ⟨BD, hBD⟩ : ∃ l, badR m = l := ⟨_, rfl⟩
          rw [hBD] at HR hbl hsz
          have HBD := Lib.hid hBD
          have HBL := Lib.hid hbl
          have HSZ := Lib.hid hsz
          have HQ : Hid (St w1 S (fun b => P b ∨ u6.ownBlock = some b) a wr n m) := Lib.hid (HS2.out.bel HB.out _ (fun b hb => hb.elim .inl (fun e => .inr (HR.out.own b e))))
          have HMQ : Hid (SameP P w1 wr) := Lib.hid (fun b hb => (HS2.out.same HB.out b hb).trans (HM2.out b hb))
          obtain ⟨q, cap, hu9, hcl⟩ := HR.out.slice
          rw [List.length_map] at hu9
          obtain ⟨M, hM⟩ : ∃ M, BD.length = M := ⟨_, rfl⟩
          rw [hM] at hu9 HBL
          have HMM := Lib.hid hM
          have HCL : Hid (∀ j s, BD[j]? = some s → ∃ g, q = some ⟨g, 0, none⟩ ∧ wr.cell? ⟨g, j, none⟩ = some (.string s)) := Lib.hid (fun j s hj => by
            obtain ⟨g, h1, -, h3⟩ := hcl j (strV s) (by rw [List.getElem?_map, hj]; rfl)
            exact ⟨g, h1, h3⟩)
          subst hu9
          clear hbad hbl hsz hBD hcl hM HR
          obtain ⟨W9, hW9⟩ : ∃ W, W = wr := ⟨_, rfl⟩
          rw [← hW9] at HQ HMQ HCL ⊢
          clear hW9
          have hMi : (M : Int) ≤ 1000000001 := by have := HNN.out; have := HBL.out; omega
          go_wp2_with fail
          go_loopw [89] (fun iv wx => ∃ (k : Nat) (mk : DM), (k : Int) ≤ M ∧ iv = .int .i64 k ∧ Hid (takesM BD m = takesM (BD.drop k) mk) ∧ Hid (St w1 S (fun b => P b ∨ (Value.slice q M cap).ownBlock = some b) a wx (n + k) mk) ∧ Hid (SameP (fun b => P b ∨ (Value.slice q M cap).ownBlock = some b) W9 wx)) (fun iv _ => M - (intOf iv).toNat)
          case atStart => exact ⟨0, m, by omega, rfl, Lib.hid rfl, HQ, Lib.hid (fun _ _ => rfl)⟩
          case round =>
            obtain ⟨k, mk, hk, rfl, HTM, HS, HX⟩ := hrel
            by_cases hlt : (k : Int) < M
            · have hkl : k < BD.length := by rw [HMM.out]; omega
              obtain ⟨s, hs⟩ : ∃ s, BD[k]? = some s := ⟨_, List.getElem?_eq_getElem hkl⟩
              obtain ⟨g, hqg, hgc⟩ := HCL.out k s hs
              have hss := HSZ.out s (List.mem_of_getElem? hs)
              have hdr : BD.drop k = s :: BD.drop (k + 1) := by
                rw [List.drop_eq_getElem_cons hkl]
                rw [List.getElem?_eq_getElem hkl] at hs
                rw [Option.some.inj hs]
              have htm : takesM BD m = seqM (mk.op (.remove s)) (takesM (BD.drop (k + 1))) := by rw [HTM.out, hdr]; rfl
              have HTM2 := Lib.hid htm
              subst hqg
              have hc9 : wr.cell? ⟨g, k, none⟩ = some (.string s) := (cell_of_heap (HX.out g (.inr rfl))).trans hgc
              have hMn : M ≤ 1 + N := by have := HBL.out; omega
              have hnn := HNN.out
              clear hs hgc hdr htm hkl
              go_wp2_with fail
              refine (st_remove HS.out s (Nat.le_trans hss (by decide)) (by omega)).mono ?_
              intro e w8 hp
              by_cases hy : (mk.op (.remove s)).2 = 0
              · obtain ⟨mj, h1⟩ : ∃ mj, mk.op (.remove s) = (mj, 0) := ⟨_, by rw [← hy]⟩
                obtain ⟨rfl, hs8, hk8⟩ := hp.eq h1 (show errE 0 = .nilIface from rfl)
                have HS8 := Lib.hid hs8
                have HX8 : Hid (SameP (fun b => P b ∨ (Value.slice (some ⟨g, 0, none⟩) M cap).ownBlock = some b) W9 w8) := Lib.hid (fun b hb => (hk8 b hb).trans (HX.out b hb))
                have HOP := Lib.hid h1
                clear hp hy hs8 hk8 h1 hc9
                go_wp2_with fail
                refine ⟨⟨k + 1, mj, by omega, by rw [Int.natCast_add]; rfl, Lib.hid ?_, HS8, HX8⟩, by simp [intOf]; omega⟩
                rw [HTM2.out, seqM_ok _ HOP.out]
              · obtain ⟨y, hyy⟩ : ∃ y, (mk.op (.remove s)).2 = y := ⟨_, rfl⟩
                rw [hyy] at hy
                obtain ⟨mj, h1⟩ : ∃ mj, mk.op (.remove s) = (mj, y) := ⟨_, by rw [← hyy]⟩
                obtain ⟨rfl, hs8, hk8⟩ := hp.eq h1 (errE_no hy)
                have HS8 := Lib.hid hs8
                have HX8 : Hid (SameP P w1 w8) := Lib.hid (fun b hb => (hk8 b (.inl hb)).trans ((HX.out b (.inl hb)).trans (HMQ.out b hb)))
                have HOP := Lib.hid h1
                have HY := Lib.hid hy
                have htl := HTL.out y
                rw [errE_no hy] at htl
                clear hp hy hs8 hk8 h1 hc9 hyy
                go_wp2_with (go_at_call 34; refine (htl _).mono ?_; rintro e w9 ⟨rfl, rfl⟩)
                go_ret2
                have hO : openR m = (mj, y) := by
                  rw [openR_on HOFF.out, HBD.out]
                  exact seqM_no _ (show takesM BD m = (mj, y) by rw [HTM2.out, seqM_no _ HOP.out HY.out]) HY.out
                refine ⟨_, rfl, ?_, HX8.out⟩
                rw [hO, HBD.out]
                refine .inr ⟨HY.out, _, whatO, rfl, rfl, (HS8.out.sub P (fun b hb => .inl hb)).more ?_⟩
                rw [HMM.out]
                omega
            · obtain rfl : k = M := by omega
              have htm : takesM BD m = (mk, 0) := by rw [HTM.out, List.drop_of_length_le (by rw [HMM.out]; exact Nat.le_refl _)]; rfl
              have HTM2 := Lib.hid htm
              have hMn : k ≤ 1 + N := by have := HBL.out; omega
              have hnn := HNN.out
              have HX9 : Hid (SameP P w1 wr) := Lib.hid (fun b hb => (HX.out b (.inl hb)).trans (HMQ.out b hb))
              clear htm
              by_cases hk0 : (0 : Int) < k
              · have hne : BD ≠ [] := fun e => by have h0 : ([] : List ByteArray).length = k := e ▸ HMM.out; have h1 : (0 : Nat) = k := h0; omega
                have HNE := Lib.hid hne
                clear hne
                go_wp2_with fail
                refine (st_flush HS.out (by omega)).mono ?_
                intro e w8 hp
                by_cases hy : (mk.op .flush).2 = 0
                · obtain ⟨mj, h1⟩ : ∃ mj, mk.op .flush = (mj, 0) := ⟨_, by rw [← hy]⟩
                  obtain ⟨rfl, hs8, hk8⟩ := hp.eq h1 (show errE 0 = .nilIface from rfl)
                  have HS8 := Lib.hid (hs8.sub P (fun b hb => .inl hb))
                  have HX8 : Hid (SameP P w1 w8) := Lib.hid (fun b hb => (hk8 b (.inl hb)).trans (HX9.out b hb))
                  have HOP := Lib.hid h1
                  clear hp hy hs8 hk8 h1
                  go_wp2_with fail
                  go_ret2
                  have hO : openR m = (mj, 0) := by
                    rw [openR_on HOFF.out, HBD.out, seqM_ok _ HTM2.out, if_neg HNE.out]
                    exact HOP.out
                  refine ⟨_, rfl, ?_, fun b hb => (HS8.out.same ((Below.refl _ _).alloc (Nat.le_refl _) _) b hb).trans (HX8.out b hb)⟩
                  rw [hO, HBD.out]
                  exact .inl ⟨rfl, _, rfl, HS8.out.size, refO_box HS8.out (by rw [HMM.out]; omega)⟩
                · obtain ⟨y, hyy⟩ : ∃ y, (mk.op .flush).2 = y := ⟨_, rfl⟩
                  rw [hyy] at hy
                  obtain ⟨mj, h1⟩ : ∃ mj, mk.op .flush = (mj, y) := ⟨_, by rw [← hyy]⟩
                  obtain ⟨rfl, hs8, hk8⟩ := hp.eq h1 (errE_no hy)
                  have HS8 := Lib.hid hs8
                  have HX8 : Hid (SameP P w1 w8) := Lib.hid (fun b hb => (hk8 b (.inl hb)).trans (HX9.out b hb))
                  have HOP := Lib.hid h1
                  have HY := Lib.hid hy
                  have htl := HTL.out y
                  rw [errE_no hy] at htl
                  clear hp hy hs8 hk8 h1 hyy
                  go_wp2_with (go_at_call 34; refine (htl _).mono ?_; rintro e w9 ⟨rfl, rfl⟩)
                  go_ret2
                  have hO : openR m = (mj, y) := by
                    rw [openR_on HOFF.out, HBD.out, seqM_ok _ HTM2.out, if_neg HNE.out]
                    exact HOP.out
                  refine ⟨_, rfl, ?_, HX8.out⟩
                  rw [hO, HBD.out]
                  refine .inr ⟨HY.out, _, whatO, rfl, rfl, (HS8.out.sub P (fun b hb => .inl hb)).more ?_⟩
                  rw [HMM.out]
                  omega
              · have he : BD = [] := List.eq_nil_of_length_eq_zero (by rw [HMM.out]; omega)
                have HE := Lib.hid he
                have HS8 := Lib.hid (HS.out.sub P (fun b hb => .inl hb))
                clear he
                go_wp2_with fail
                go_ret2
                have hO : openR m = (mk, 0) := by
                  rw [openR_on HOFF.out, HBD.out, seqM_ok _ HTM2.out, if_pos HE.out]
                refine ⟨_, rfl, ?_, fun b hb => (HS8.out.same ((Below.refl _ _).alloc (Nat.le_refl _) _) b hb).trans (HX9.out b hb)⟩
                rw [hO, HBD.out]
                exact .inl ⟨rfl, _, rfl, HS8.out.size, refO_box HS8.out (by rw [HMM.out]; omega)⟩
    · rw [hy0, hr, show errE 10 = .iface 71 (.int .i64 10) from rfl] at hrd
      have HY0 := Lib.hid hy0
      have hie := fun W : World => is_E 10 10 (by decide) W
      rw [show errE 10 = .iface 71 (.int .i64 10) from rfl, show errV 10 = .iface 71 (.int .i64 10) from rfl, show ((10 : Int) == 10) = true from rfl] at hie
      unfold handR at hrd
      clear hr hy0
      go_enter Tryz.func13, Tryz.ntmps13
      go_wp2_with fail
      refine hlsw.mono ?_
      rintro e w2 ⟨v, rfl, hv, hb2⟩
      obtain ⟨vp, vc, rfl⟩ := hv.rd.len
      rw [HN.out] at hv ⊢
      have HV2 := Lib.hid hv.rd
      have HS2 := Lib.hid (HS1.out.bel hb2 P (fun b hb => .inl hb))
      have HM2 : Hid (SameP P w1 w2) := Lib.hid (HS1.out.same hb2)
      clear hb2 hlsw hv HS1
      go_wp2_with fail
      refine (hrd _ HS2.out).mono ?_
      rintro e w3 ⟨rfl, rfl⟩
      clear hrd
      go_wp2_with (go_at_call 41; refine (hie _).mono ?_; rintro e w4 ⟨rfl, rfl⟩)
      have HR9 : Hid (RowC w2.heap.size (([] : List ByteArray).map strV) (.slice none 0 0) w2) := Lib.hid (RowC.nil _ _)
      have HB9 : Hid (Below w2.heap.size w2 w2) := Lib.hid (Below.refl _ _)
      have hNi : (N : Int) ≤ 1000000000 := by have := HNN.out; omega
      go_wp2_with fail
      go_loopw [6, 52] (fun v iv wr => ∃ k : Nat, (k : Int) ≤ N ∧ iv = .int .i64 k ∧ Hid (RowC w2.heap.size (([] ++ (L.take k).filter fun s => !rightR m s).map strV) v wr) ∧ Hid (Below w2.heap.size w2 wr)) (fun _ iv _ => N - (intOf iv).toNat)
      case atStart => exact ⟨0, by omega, rfl, Lib.hid (by rw [List.take_zero, List.filter_nil, List.append_nil]; exact HR9.out), HB9⟩
      case round =>
        obtain ⟨k, hk, rfl, HR, HB⟩ := hrel
        by_cases hlt : (k : Int) < N
        · have hkl : k < L.length := by rw [HN.out]; omega
          obtain ⟨s, hs⟩ : ∃ s, L[k]? = some s := ⟨_, List.getElem?_eq_getElem hkl⟩
          obtain ⟨vp', vc', he, hv⟩ := HV2.out.below HB.out
          obtain ⟨vb, vo, hvp, hvl, hvc⟩ := hv k s hs
          have hpe : vp = some ⟨vb, vo, none⟩ := by cases he; exact hvp
          subst hpe
          have hss := HSH.out s (List.mem_of_getElem? hs)
          have hy := HRL.out HOFF.out s (List.mem_of_getElem? hs)
          have htk : L.take (k + 1) = L.take k ++ [s] := by rw [List.take_add_one, hs]; rfl
          have HTK := Lib.hid htk
          obtain ⟨q, cap, rfl, -⟩ := HR.out.slice
          have hql : (([] ++ (L.take k).filter fun s => !rightR m s).map strV).length ≤ 0 + k := by
            rw [List.length_map, List.length_append]
            have h1 := List.length_filter_le (fun s => !rightR m s) (L.take k)
            rw [List.length_take] at h1
            have : ([] : List ByteArray).length = 0 := rfl
            omega
          obtain ⟨K, hK⟩ : ∃ K, (([] ++ (L.take k).filter fun s => !rightR m s).map strV).length = K := ⟨_, rfl⟩
          rw [hK] at hql HR ⊢
          have HQL := Lib.hid hql
          have HK := Lib.hid hK
          have hre := fun W : World => rest_any s (show ((s.size : Nat) : Int) ≤ 140737488355328 by omega) W
          unfold lV at hre
          have hrd := fun W (hst : St w1 S P a W n m) => st_read hst s (show s.size ≤ maxLen by unfold maxLen; omega)
          obtain ⟨T, hT⟩ : ∃ T, (m.reads s).1 = T := ⟨_, rfl⟩
          rw [hT, hy, show errE 0 = .nilIface from rfl] at hrd
          have HRD := Lib.hid hrd
          have hpa := fun W : World => parse_dig T W
          have hrr : rightR m s = (restM s && (parseD T).isSome) := by unfold rightR; rw [hT]
          obtain ⟨RS, hRS⟩ : ∃ b, restM s = b := ⟨_, rfl⟩
          rw [hRS] at hre hrr
          obtain ⟨T1, hT1⟩ : ∃ T : ByteArray, (⟨(tailM s).toArray⟩ : ByteArray) = T := ⟨_, rfl⟩
          rw [hT1] at hre
          clear hs he hv hvp hvl htk hkl hql hK hrd hT hy hT1 hRS
          have HS4 := Lib.hid (HS2.out.bel HB.out P (fun b hb => .inl hb))
          have hpp : ∃ (D : List UInt8) (e : Value), parseV (parseD T) = .tuple #[.agg (D.map byteV).toArray, e] ∧ D.length = 32 ∧ (((parseD T).isSome = true ∧ e = .nilIface) ∨ ((parseD T).isSome = false ∧ e = .iface 71 (.int .i64 4))) := by
            cases hp : parseD T with
            | none => exact ⟨zeroD, _, rfl, rfl, .inr ⟨rfl, rfl⟩⟩
            | some D => exact ⟨D, _, rfl, (parseD_inv hp).2, .inl ⟨rfl, rfl⟩⟩
          obtain ⟨D, ev, hpv, -, hev⟩ := hpp
          rw [hpv] at hpa
          generalize (parseD T).isSome = PS at hev hrr
          have HRR := Lib.hid hrr
          clear hrr hpv
          rcases hev with ⟨rfl, rfl⟩ | ⟨rfl, rfl⟩ <;> cases RS
          all_goals
            have hvv : True := trivial
            go_wp2_with fail
            refine (HRD.out _ HS4.out).mono ?_
            rintro e w5 ⟨rfl, rfl⟩
            go_wp2_with (first | (go_at_call 42; refine (hpa _).mono ?_; rintro e w6 ⟨rfl, hb6⟩; have HB6 : Hid (Below w2.heap.size w2 w6) := Lib.hid (HB.out.trans (hb6.mono HB.out.size)); have HR6 := Lib.hid (HR.out.keep hb6); clear hb6) | (go_at_call 43; refine (hre _).mono ?_; rintro e w7 ⟨rfl, hb7⟩; have HB7 : Hid (Below w2.heap.size w2 w7) := Lib.hid (HB6.out.trans (hb7.mono HB6.out.size)); have HR7 := Lib.hid (HR6.out.keep hb7); clear hb7) | (at_builtin; refine wpList_appC rfl _ _ 31 rfl w2.heap.size 9 i0 (.string ⟨#[]⟩) 16 Tryz.underlying31 hi hz0 hz1 hz2 rfl _ _ rfl (HR7.out.keep ((Below.refl _ _).alloc (Nat.le_refl _) _)) (.string s) ⟨w7.heap.size, 0, none⟩ rfl (new1V w7 _ _) rfl (by rw [HK.out]; have := HQL.out; have := HNN.out; unfold maxLen; omega) (by rw [HK.out]; have := HQL.out; have := HNN.out; omega) (by rw [World.size_alloc]; have := HB7.out.size; omega) ?_; intro v1 w8 hr8 hb8; have HR8 := Lib.hid hr8; have HB8 : Hid (Below w2.heap.size w2 w8) := Lib.hid ((HB7.out.alloc (by have := HB7.out.size; omega) _).trans hb8); clear hr8 hb8))
            first
              | (have hf : [s].filter (fun s => !rightR m s) = [s] := by rw [List.filter_cons, HRR.out]; rfl
                 refine ⟨⟨k + 1, by omega, by rw [Int.natCast_add]; rfl, Lib.hid ?_, HB8⟩, by simp [intOf]; omega⟩
                 rw [HTK.out, List.filter_append, hf, ← List.append_assoc, List.map_append]
                 exact HR8.out)
              | (have hf : [s].filter (fun s => !rightR m s) = [] := by rw [List.filter_cons, HRR.out]; rfl
                 refine ⟨⟨k + 1, by omega, by rw [Int.natCast_add]; rfl, Lib.hid ?_, HB7⟩, by simp [intOf]; omega⟩
                 rw [HTK.out, List.filter_append, hf, List.append_nil]
                 exact HR7.out)
        · have hbad : ([] ++ (L.take k).filter fun s => !rightR m s) = badR m := by
            rw [List.take_of_length_le (by rw [HN.out]; omega)]
            exact (show [] ++ L.filter _ = badR m by unfold badR; rw [if_neg (by rw [HY0.out]; decide), HL.out])
          rw [hbad] at HR
          have hbl : (badR m).length ≤ 0 + N := by
            rw [← hbad, List.length_append]
            have h1 := List.length_filter_le (fun s => !rightR m s) (L.take k)
            rw [List.length_take] at h1
            have : ([] : List ByteArray).length = 0 := rfl
            have := HN.out
            omega
          have hsz : ∀ s ∈ badR m, s.size ≤ 200 := by
            rw [← hbad]
            intro s hs
            rcases List.mem_append.1 hs with hs | hs
            · cases hs
            · exact HSH.out s (List.mem_of_mem_take (List.mem_filter.1 hs).1)
          obtain ⟨BD, hBD⟩ : ∃ l, badR m = l := ⟨_, rfl⟩
          rw [hBD] at HR hbl hsz
          have HBD := Lib.hid hBD
          have HBL := Lib.hid hbl
          have HSZ := Lib.hid hsz
          have HQ : Hid (St w1 S (fun b => P b ∨ u6.ownBlock = some b) a wr n m) := Lib.hid (HS2.out.bel HB.out _ (fun b hb => hb.elim .inl (fun e => .inr (HR.out.own b e))))
          have HMQ : Hid (SameP P w1 wr) := Lib.hid (fun b hb => (HS2.out.same HB.out b hb).trans (HM2.out b hb))
          obtain ⟨q, cap, hu9, hcl⟩ := HR.out.slice
          rw [List.length_map] at hu9
          obtain ⟨M, hM⟩ : ∃ M, BD.length = M := ⟨_, rfl⟩
          rw [hM] at hu9 HBL
          have HMM := Lib.hid hM
          have HCL : Hid (∀ j s, BD[j]? = some s → ∃ g, q = some ⟨g, 0, none⟩ ∧ wr.cell? ⟨g, j, none⟩ = some (.string s)) := Lib.hid (fun j s hj => by
            obtain ⟨g, h1, -, h3⟩ := hcl j (strV s) (by rw [List.getElem?_map, hj]; rfl)
            exact ⟨g, h1, h3⟩)
          subst hu9
          clear hbad hbl hsz hBD hcl hM HR
          obtain ⟨W9, hW9⟩ : ∃ W, W = wr := ⟨_, rfl⟩
          rw [← hW9] at HQ HMQ HCL ⊢
          clear hW9
          have hMi : (M : Int) ≤ 1000000001 := by have := HNN.out; have := HBL.out; omega
          go_wp2_with fail
          go_loopw [89] (fun iv wx => ∃ (k : Nat) (mk : DM), (k : Int) ≤ M ∧ iv = .int .i64 k ∧ Hid (takesM BD m = takesM (BD.drop k) mk) ∧ Hid (St w1 S (fun b => P b ∨ (Value.slice q M cap).ownBlock = some b) a wx (n + k) mk) ∧ Hid (SameP (fun b => P b ∨ (Value.slice q M cap).ownBlock = some b) W9 wx)) (fun iv _ => M - (intOf iv).toNat)
          case atStart => exact ⟨0, m, by omega, rfl, Lib.hid rfl, HQ, Lib.hid (fun _ _ => rfl)⟩
          case round =>
            obtain ⟨k, mk, hk, rfl, HTM, HS, HX⟩ := hrel
            by_cases hlt : (k : Int) < M
            · have hkl : k < BD.length := by rw [HMM.out]; omega
              obtain ⟨s, hs⟩ : ∃ s, BD[k]? = some s := ⟨_, List.getElem?_eq_getElem hkl⟩
              obtain ⟨g, hqg, hgc⟩ := HCL.out k s hs
              have hss := HSZ.out s (List.mem_of_getElem? hs)
              have hdr : BD.drop k = s :: BD.drop (k + 1) := by
                rw [List.drop_eq_getElem_cons hkl]
                rw [List.getElem?_eq_getElem hkl] at hs
                rw [Option.some.inj hs]
              have htm : takesM BD m = seqM (mk.op (.remove s)) (takesM (BD.drop (k + 1))) := by rw [HTM.out, hdr]; rfl
              have HTM2 := Lib.hid htm
              subst hqg
              have hc9 : wr.cell? ⟨g, k, none⟩ = some (.string s) := (cell_of_heap (HX.out g (.inr rfl))).trans hgc
              have hMn : M ≤ 1 + N := by have := HBL.out; omega
              have hnn := HNN.out
              clear hs hgc hdr htm hkl
              go_wp2_with fail
              refine (st_remove HS.out s (Nat.le_trans hss (by decide)) (by omega)).mono ?_
              intro e w8 hp
              by_cases hy : (mk.op (.remove s)).2 = 0
              · obtain ⟨mj, h1⟩ : ∃ mj, mk.op (.remove s) = (mj, 0) := ⟨_, by rw [← hy]⟩
                obtain ⟨rfl, hs8, hk8⟩ := hp.eq h1 (show errE 0 = .nilIface from rfl)
                have HS8 := Lib.hid hs8
                have HX8 : Hid (SameP (fun b => P b ∨ (Value.slice (some ⟨g, 0, none⟩) M cap).ownBlock = some b) W9 w8) := Lib.hid (fun b hb => (hk8 b hb).trans (HX.out b hb))
                have HOP := Lib.hid h1
                clear hp hy hs8 hk8 h1 hc9
                go_wp2_with fail
                refine ⟨⟨k + 1, mj, by omega, by rw [Int.natCast_add]; rfl, Lib.hid ?_, HS8, HX8⟩, by simp [intOf]; omega⟩
                rw [HTM2.out, seqM_ok _ HOP.out]
              · obtain ⟨y, hyy⟩ : ∃ y, (mk.op (.remove s)).2 = y := ⟨_, rfl⟩
                rw [hyy] at hy
                obtain ⟨mj, h1⟩ : ∃ mj, mk.op (.remove s) = (mj, y) := ⟨_, by rw [← hyy]⟩
                obtain ⟨rfl, hs8, hk8⟩ := hp.eq h1 (errE_no hy)
                have HS8 := Lib.hid hs8
                have HX8 : Hid (SameP P w1 w8) := Lib.hid (fun b hb => (hk8 b (.inl hb)).trans ((HX.out b (.inl hb)).trans (HMQ.out b hb)))
                have HOP := Lib.hid h1
                have HY := Lib.hid hy
                have htl := HTL.out y
                rw [errE_no hy] at htl
                clear hp hy hs8 hk8 h1 hc9 hyy
                go_wp2_with (go_at_call 34; refine (htl _).mono ?_; rintro e w9 ⟨rfl, rfl⟩)
                go_ret2
                have hO : openR m = (mj, y) := by
                  rw [openR_on HOFF.out, HBD.out]
                  exact seqM_no _ (show takesM BD m = (mj, y) by rw [HTM2.out, seqM_no _ HOP.out HY.out]) HY.out
                refine ⟨_, rfl, ?_, HX8.out⟩
                rw [hO, HBD.out]
                refine .inr ⟨HY.out, _, whatO, rfl, rfl, (HS8.out.sub P (fun b hb => .inl hb)).more ?_⟩
                rw [HMM.out]
                omega
            · obtain rfl : k = M := by omega
              have htm : takesM BD m = (mk, 0) := by rw [HTM.out, List.drop_of_length_le (by rw [HMM.out]; exact Nat.le_refl _)]; rfl
              have HTM2 := Lib.hid htm
              have hMn : k ≤ 1 + N := by have := HBL.out; omega
              have hnn := HNN.out
              have HX9 : Hid (SameP P w1 wr) := Lib.hid (fun b hb => (HX.out b (.inl hb)).trans (HMQ.out b hb))
              clear htm
              by_cases hk0 : (0 : Int) < k
              · have hne : BD ≠ [] := fun e => by have h0 : ([] : List ByteArray).length = k := e ▸ HMM.out; have h1 : (0 : Nat) = k := h0; omega
                have HNE := Lib.hid hne
                clear hne
                go_wp2_with fail
                refine (st_flush HS.out (by omega)).mono ?_
                intro e w8 hp
                by_cases hy : (mk.op .flush).2 = 0
                · obtain ⟨mj, h1⟩ : ∃ mj, mk.op .flush = (mj, 0) := ⟨_, by rw [← hy]⟩
                  obtain ⟨rfl, hs8, hk8⟩ := hp.eq h1 (show errE 0 = .nilIface from rfl)
                  have HS8 := Lib.hid (hs8.sub P (fun b hb => .inl hb))
                  have HX8 : Hid (SameP P w1 w8) := Lib.hid (fun b hb => (hk8 b (.inl hb)).trans (HX9.out b hb))
                  have HOP := Lib.hid h1
                  clear hp hy hs8 hk8 h1
                  go_wp2_with fail
                  go_ret2
                  have hO : openR m = (mj, 0) := by
                    rw [openR_on HOFF.out, HBD.out, seqM_ok _ HTM2.out, if_neg HNE.out]
                    exact HOP.out
                  refine ⟨_, rfl, ?_, fun b hb => (HS8.out.same ((Below.refl _ _).alloc (Nat.le_refl _) _) b hb).trans (HX8.out b hb)⟩
                  rw [hO, HBD.out]
                  exact .inl ⟨rfl, _, rfl, HS8.out.size, refO_box HS8.out (by rw [HMM.out]; omega)⟩
                · obtain ⟨y, hyy⟩ : ∃ y, (mk.op .flush).2 = y := ⟨_, rfl⟩
                  rw [hyy] at hy
                  obtain ⟨mj, h1⟩ : ∃ mj, mk.op .flush = (mj, y) := ⟨_, by rw [← hyy]⟩
                  obtain ⟨rfl, hs8, hk8⟩ := hp.eq h1 (errE_no hy)
                  have HS8 := Lib.hid hs8
                  have HX8 : Hid (SameP P w1 w8) := Lib.hid (fun b hb => (hk8 b (.inl hb)).trans (HX9.out b hb))
                  have HOP := Lib.hid h1
                  have HY := Lib.hid hy
                  have htl := HTL.out y
                  rw [errE_no hy] at htl
                  clear hp hy hs8 hk8 h1 hyy
                  go_wp2_with (go_at_call 34; refine (htl _).mono ?_; rintro e w9 ⟨rfl, rfl⟩)
                  go_ret2
                  have hO : openR m = (mj, y) := by
                    rw [openR_on HOFF.out, HBD.out, seqM_ok _ HTM2.out, if_neg HNE.out]
                    exact HOP.out
                  refine ⟨_, rfl, ?_, HX8.out⟩
                  rw [hO, HBD.out]
                  refine .inr ⟨HY.out, _, whatO, rfl, rfl, (HS8.out.sub P (fun b hb => .inl hb)).more ?_⟩
                  rw [HMM.out]
                  omega
              · have he : BD = [] := List.eq_nil_of_length_eq_zero (by rw [HMM.out]; omega)
                have HE := Lib.hid he
                have HS8 := Lib.hid (HS.out.sub P (fun b hb => .inl hb))
                clear he
                go_wp2_with fail
                go_ret2
                have hO : openR m = (mk, 0) := by
                  rw [openR_on HOFF.out, HBD.out, seqM_ok _ HTM2.out, if_pos HE.out]
                refine ⟨_, rfl, ?_, fun b hb => (HS8.out.same ((Below.refl _ _).alloc (Nat.le_refl _) _) b hb).trans (HX9.out b hb)⟩
                rw [hO, HBD.out]
                exact .inl ⟨rfl, _, rfl, HS8.out.size, refO_box HS8.out (by rw [HMM.out]; omega)⟩
theorem St.under {w w1 w' : World} {S S1 Q : Nat → Prop} {a n' : Nat} {m' : DM} (h2 : ∀ b, S1 b → (S b ∨ w.heap.size ≤ b)) (h4 : Off S w w1) (h5 : ∀ b, S b → b < w.heap.size) (h : St w1 S1 Q a w' n' m') : St w S Q a w' n' m' := by
  obtain ⟨⟨S2, hd, g2⟩, g3, g4, g5⟩ := h
  have hz := h4.size
  refine ⟨⟨S2, hd, fun b hb => ⟨?_, (g2 b hb).2⟩⟩, g3, h4.trans g4 (fun i hi hs => ?_), h5⟩
  · rcases (g2 b hb).1 with h | h
    · exact h2 b h
    · exact .inr (by omega)
  · rcases h2 i hs with h | h
    · exact h
    · omega
theorem ropen_any {w w1 : World} {S P : Nat → Prop} {a n : Nat} {m : DM} (h : St w S P a w1 n m) (hn : n ≤ 1000000000) (hsh : ∀ s ∈ m.lists ⟨refHead.toArray⟩, s.size ≤ 200) :
    Calls Tryz.prog 13 #[.pointer (some ⟨a, 0, none⟩)] w1 (ROpenPost w S P a n (badR m).length w1 (openR m)) := by
  obtain ⟨⟨S1, hd, h2⟩, h3, h4, h5⟩ := h
  have hs : St w1 S1 P a w1 n m := St.start hd (fun b hb => ⟨h3 b hb, fun hs => (h2 b hs).2 hb⟩)
  refine (ropen0 hs hn hsh).mono ?_
  rintro e w' ⟨v, rfl, hr, hk⟩
  refine ⟨v, rfl, ?_, hk⟩
  rcases hr with ⟨h0, rb, h6, h7, h8⟩ | ⟨h0, u, t, h6, h7, h8⟩
  · exact .inl ⟨h0, rb, h6, h7, ⟨h8.st.under (fun b hb => (h2 b hb).1) h4 h5, h8.box, h8.pb⟩⟩
  · exact .inr ⟨h0, u, t, h6, h7, h8.under (fun b hb => (h2 b hb).1) h4 h5⟩
end Go.Proofs.YtdkedmngeahjiaaGreatDoor
/- Contract of stratalaw24.works. -/
namespace Go.Proofs.YtdkedmngeahjiaaGreatDoor
open Go Go.RowKit
/-- What was there when the law began stays. -/
theorem St.toB {w w1 : World} {P : Nat → Prop} {a n : Nat} {m : DM} (h : St w (fun _ => False) P a w1 n m) : Below w.heap.size w w1 := h.off.toBelow (fun _ hf => hf.elim) (Nat.le_refl _)
/-- A disk that was just made. -/
theorem st_new (w w1 : World) (hb : Below w.heap.size w w1) (r : Int) (h1 : -9223372036854775808 ≤ r) (h2 : r ≤ 9223372036854775807) :
    Calls Tryz.prog 12 #[.int .i64 r] w1 fun e w' => ∃ a, e = .returned (.pointer (some ⟨a, 0, none⟩)) ∧ St w (fun _ => False) (fun b => b < w1.heap.size) a w' 0 (DM.new r) ∧ Below w1.heap.size w1 w' := by
  refine (new_any w1 r h1 h2).mono ?_
  rintro e w' ⟨a, rfl, hd, hb2⟩
  have hz := hb.size
  exact ⟨a, rfl, ⟨⟨_, hd, fun b hb3 => ⟨.inr (Nat.le_trans hz hb3.1), fun h => by have := hb3.1; omega⟩⟩, fun b hb3 => Nat.lt_of_lt_of_le hb3 hb2.size, (Off.refl _ w).below (hb.trans (hb2.mono hz)) (Nat.le_refl _), fun _ hf => hf.elim⟩, hb2⟩
def x12 : List UInt8 := 1 :: 2 :: List.replicate 30 0
def aL : List UInt8 := [97, 58, 108, 97, 116, 101, 115, 116]
def wM0 : DM := DM.new 1000
def wM1 : DM := (setF wM0 [97] x12).1
def wM2 : DM := (delF wM1 [97]).1
theorem wf1 : (setF wM0 [97] x12).2 = 0 := by decide +kernel
theorem wf2 : getF wM1 aL = (x12, 0) := by decide +kernel
theorem wf3 : listR wM1 = ([(aL, textD x12)], 0) := by decide +kernel
theorem wf4 : (delF wM1 [97]).2 = 0 := by decide +kernel
theorem wf5 : getF wM2 [97] = (zeroD, 10) := by decide +kernel
theorem wf6 : ∀ s ∈ wM1.lists ⟨refHead.toArray⟩, s.size ≤ 200 := by decide +kernel
theorem wf7 : openR wM0 = (wM0, 0) := by rfl
theorem RfPost.eq {w w1 w' : World} {S P : Nat → Prop} {a n : Nat} {r : DM × Int} {m : DM} {e : Ending} (hp : RfPost w S P a n w1 r e w') (h1 : r.1 = m) (h2 : r.2 = 0) : e = .returned .nilIface ∧ St w S P a w' n m ∧ SameP P w1 w' := by
  obtain ⟨⟨t, ht⟩, h3, h4⟩ := hp
  rw [h2] at ht
  rw [h1] at h3
  exact ⟨ht, h3, h4⟩
set_option maxHeartbeats 12800000 in
set_option maxRecDepth 100000 in
theorem works24_any (w : World) (hG : ErrT w) :
    Calls Tryz.prog 11 #[] w fun e w' => e = .returned (.bool true) ∧ Below w.heap.size w w' := by
  have HG := Lib.hid hG
  clear hG
  have hI := dig_info (d := x12) rfl
  have hI2 := dig_info2 (d := x12) rfl
  have h1 := dig_one x12
  have hz := dig_size (d := x12) rfl
  have hU := dig_und
  have hIz := dig_info (d := zeroD) rfl
  have hIz2 := dig_info2 (d := zeroD) rfl
  have h1z := dig_one zeroD
  have hzz := dig_size (d := zeroD) rfl
  go_enter Tryz.func11, Tryz.ntmps11
  go_wp2_with fail
  refine (st_new w w (Below.refl _ _) 1000 (by decide) (by decide)).mono ?_
  rintro e w1 ⟨a, rfl, hst, hb1⟩
  have HST := Lib.hid hst
  clear hst hb1
  go_wp2_with fail
  refine (ropen_any HST.out (by decide) (fun s hs => by cases hs)).mono ?_
  rintro e w2 ⟨v, rfl, h, hk⟩
  rw [show openR (DM.new 1000) = (wM0, 0) from wf7] at h
  rcases h with ⟨-, rb, rfl, hsb, hrf⟩ | ⟨hne, -⟩
  case inr => exact absurd rfl hne
  have HR2 := Lib.hid hrf
  have HB2 := Lib.hid hrf.st.toB
  clear hk HST hsb hrf
  go_wp2_with fail
  refine (ropen_nil _).mono ?_
  rintro e w3 ⟨rfl, rfl⟩
  have hpl := plain_ref whatO 1 (.inr ⟨by decide, by decide⟩) 1 w2 (HG.out.below HB2.out HG.out.2)
  rw [wrapE_no whatO (show (1 : Int) ≠ 0 by decide)] at hpl ⊢
  rw [show ((1 : Int) == 1) = true from rfl] at hpl
  go_wp2_with (first | (go_at_call 10; refine hpl.mono ?_; rintro e w4 ⟨rfl, hb4⟩; have HR4 := Lib.hid (HR2.out.bel hb4); clear hb4 hpl HR2 HB2) | (refine wpList_store_new rfl _ _ _ rfl _ (x12.map byteV).toArray _ rfl rfl rfl hI2 hz h1 ?_; (obtain ⟨W5, hW5⟩ : ∃ W, w4.alloc (.cells (x12.map byteV).toArray 33) = W := ⟨_, rfl⟩; have hb5 : Below w4.heap.size w4 W5 := (by rw [← hW5]; exact (Below.refl _ _).alloc (Nat.le_refl _) _); have hx5 : W5.heap[w4.heap.size]? = some (.cells (x12.map byteV).toArray 33 (0, 0)) := (by rw [← hW5]; exact heap_new _ _); have HX5 := Lib.hid hx5; have HR5 := Lib.hid (HR4.out.more hb5 (fun b => (b < w.heap.size ∨ b = rb) ∨ b = w4.heap.size) (fun b hb => .inl hb) (fun b hb => hb.elim .inl (fun e => .inr ⟨by omega, by have := blk_lt hx5; omega⟩))); have HRG5 := Lib.hid (dig_range hx5); rw [hW5]; clear hW5 hb5 hx5 HR4)) | refine wpList_load_mid rfl _ _ rfl w4.heap.size 0 rfl (x12.map byteV) _ HRG5.out hU rfl hI ?_)
  refine (set_any HR5.out (by decide) ⟨#[97]⟩ (by decide) x12 rfl).mono ?_
  intro e w6 hp
  obtain ⟨rfl, hs6, hk6⟩ := hp.eq (m := wM1) rfl wf1
  have HR6 := Lib.hid (HR5.out.step hs6 hk6)
  have HX6 : Hid (w6.heap[w4.heap.size]? = some (.cells (x12.map byteV).toArray 33 (0, 0))) := Lib.hid ((hk6 _ (.inr rfl)).trans HX5.out)
  clear hp hs6 hk6 HRG5 HR5 HX5
  go_wp2_with fail
  refine (rget_any HR6.out ⟨aL.toArray⟩ (by decide)).mono ?_
  rintro e w7 ⟨⟨t, rfl⟩, hb7⟩
  rw [show getF wM1 (⟨aL.toArray⟩ : ByteArray).data.toList = (x12, 0) from wf2]
  rw [show wrapE t (x12, (0 : Int)).2 = .nilIface from rfl]
  have HR7 := Lib.hid (HR6.out.bel hb7)
  have HX7 : Hid (w7.heap[w4.heap.size]? = some (.cells (x12.map byteV).toArray 33 (0, 0))) := Lib.hid ((hb7.block _ (blk_lt HX6.out)).trans HX6.out)
  clear hb7 HR6 HX6
  unfold digV
  go_wp2_with (refine wpList_store_new rfl _ _ _ rfl _ (x12.map byteV).toArray _ rfl rfl rfl hI2 hz h1 ?_; (obtain ⟨W8, hW8⟩ : ∃ W, w7.alloc (.cells (x12.map byteV).toArray 33) = W := ⟨_, rfl⟩; have hb8 : Below w7.heap.size w7 W8 := (by rw [← hW8]; exact (Below.refl _ _).alloc (Nat.le_refl _) _); have hx8 : W8.heap[w7.heap.size]? = some (.cells (x12.map byteV).toArray 33 (0, 0)) := (by rw [← hW8]; exact heap_new _ _); have HX8 := Lib.hid hx8; have HY8 : Hid (W8.heap[w4.heap.size]? = some (.cells (x12.map byteV).toArray 33 (0, 0))) := Lib.hid ((hb8.block _ (blk_lt HX7.out)).trans HX7.out); have HR8 := Lib.hid (HR7.out.bel hb8); rw [hW8]; clear hW8 hb8 hx8 HR7 HX7))
  refine (rlist_any HR8.out (by decide) wf6).mono ?_
  rintro e w9 ⟨v, t2, rfl, hown, hb9⟩
  rw [wf3] at hown
  rw [show wrapE t2 (listR wM1).2 = .nilIface from by rw [wf3]; rfl]
  have HR9 := Lib.hid (HR8.out.bel hb9)
  have HX9 := Lib.hid (dig_range ((hb9.block _ (blk_lt HX8.out)).trans HX8.out))
  have HY9 := Lib.hid (dig_range ((hb9.block _ (blk_lt HY8.out)).trans HY8.out))
  obtain ⟨g, cp, rfl, hc0, hc1⟩ : ∃ g cp, v = .slice (some ⟨g, 0, none⟩) 1 cp ∧ w9.cell? ⟨g, 0, none⟩ = some (lV aL) ∧ w9.cell? ⟨g, 1, none⟩ = some (.string (textD x12)) := by
    rcases hown.2 with ⟨-, h⟩ | ⟨g, cap, cur, rfl, h2, h3, h4, h5, h6, h7⟩
    · cases h
    · have hq : ∀ j, j < 2 → cur[j]? = ([lV aL, .string (textD x12)] : List Value)[j]? := fun j hj => by
        have := congrArg (fun l : List Value => l[j]?) h7
        rw [← Array.getElem?_toList]
        simp only [List.getElem?_take] at this
        rw [if_pos (show j < ([(aL, textD x12)] : List (List UInt8 × ByteArray)).length * 2 by show j < 1 * 2; omega)] at this
        exact this
      exact ⟨g, cap, rfl, by rw [cell_of_heapN h3]; exact hq 0 (by decide), by rw [cell_of_heapN h3]; exact hq 1 (by decide)⟩
  obtain ⟨t71, ht71⟩ : ∃ t, textD x12 = t := ⟨_, rfl⟩
  have hsz : (t71.size : Int) = 71 := by rw [← ht71]; decide
  rw [ht71] at hc1
  unfold lV at hc0
  obtain ⟨aT, haT⟩ : ∃ t : ByteArray, (⟨aL.toArray⟩ : ByteArray) = t := ⟨_, rfl⟩
  have haq : (aT.toList == [97, 58, 108, 97, 116, 101, 115, 116]) = true := by rw [← haT, Lib.toList_data]; rfl
  have haq2 : aT = ⟨#[97, 58, 108, 97, 116, 101, 115, 116]⟩ := by rw [← haT]; rfl
  rw [haT] at hc0
  have hdd : (!(x12 == x12)) = false := by decide
  clear hown hb9 HR8 HX8 HY8 ht71 haT
  subst haq2
  go_wp2_with (first | refine wpList_load_midG rfl _ _ rfl w7.heap.size 0 rfl (x12.map byteV) _ HX9.out hU rfl hI ?_ | (refine wpList_load_midG rfl _ _ rfl w4.heap.size 0 rfl (x12.map byteV) _ HY9.out hU rfl hI ?_; simp only [Act.put, List.setIfInBounds_toArray, List.set_cons_succ, List.set_cons_zero]; refine wpList_neqDG rfl _ _ _ rfl (d := x12) (e := x12) rfl rfl rfl rfl ?_; simp only [Act.put, List.setIfInBounds_toArray, List.set_cons_succ, List.set_cons_zero]; rw [hdd]))
  refine (del_any HR9.out (by decide) ⟨#[97]⟩ (by decide)).mono ?_
  intro e w10 hp
  obtain ⟨rfl, hs10, hk10⟩ := hp.eq (m := wM2) rfl wf4
  have HR10 := Lib.hid (HR9.out.step hs10 hk10)
  clear hp hs10 hk10 HR9 hc0 hc1 HX9 HY9
  go_wp2_with fail
  refine (rget_any HR10.out ⟨#[97]⟩ (by decide)).mono ?_
  rintro e w11 ⟨⟨t3, rfl⟩, hb11⟩
  rw [show getF wM2 (⟨#[97]⟩ : ByteArray).data.toList = (zeroD, 10) from wf5]
  rw [show wrapE t3 (zeroD, (10 : Int)).2 = .iface 132 (.agg #[.string t3, .iface 71 (.int .i64 10)]) from rfl]
  have HR11 := Lib.hid (HR10.out.bel hb11)
  have HB11 := Lib.hid HR11.out.st.toB
  have hpl : ∀ W, Below w11.heap.size w11 W → Calls Tryz.prog 10 #[.iface 132 (.agg #[.string t3, .iface 71 (.int .i64 10)]), .int .i64 10] W fun e w' => e = .returned (.bool true) ∧ Below W.heap.size W w' := fun W hb => plain_ref t3 10 (.inr ⟨by decide, by decide⟩) 10 W ((HG.out.below HB11.out HG.out.2).below hb (Nat.lt_of_lt_of_le HG.out.2 HB11.out.size))
  unfold digV
  clear hb11 HR10
  go_wp2_with (first | (refine wpList_store_new rfl _ _ _ rfl _ (zeroD.map byteV).toArray _ rfl rfl rfl hIz2 hzz h1z ?_; (obtain ⟨W12, hW12⟩ : ∃ W, w11.alloc (.cells (zeroD.map byteV).toArray 33) = W := ⟨_, rfl⟩; have hb12 : Below w11.heap.size w11 W12 := (by rw [← hW12]; exact (Below.refl _ _).alloc (Nat.le_refl _) _); have HB12 := Lib.hid hb12; rw [hW12]; clear hW12 hb12)) | (go_at_call 10; refine (hpl _ HB12.out).mono ?_; rintro e w13 ⟨rfl, hb13⟩; have HB13 := Lib.hid ((HB11.out.trans (HB12.out.mono HB11.out.size)).trans (hb13.mono (Nat.le_trans HB11.out.size HB12.out.size))); clear hb13))
  go_ret
  exact ⟨rfl, HB13.out⟩
end Go.Proofs.YtdkedmngeahjiaaGreatDoor
