/- Texts of the seat, one behind the other: BlobN, BlobV, BlobKn. -/
import Derived.Test.YtecgikanophonaaGreatDoorM43
import Derived.Test.YtecgikanophonaaGreatDoorM47
import Derived.Test.YtecgikanophonaaGreatDoorDigR
/- Contract of blobs' List. -/
namespace Go.Proofs.YtecgikanophonaaGreatDoor
open Go Go.RowKit Go.Sort
/-- A row of digests of the call's own. -/
abbrev OwnD (base : Nat) (l : List Dg) (v : Value) (w : World) : Prop := OwnG 33 32 clD base l v w
theorem OwnD.below {base : Nat} {l : List Dg} {v : Value} {w w' : World} (h : OwnD base l v w) (hb : Below w.heap.size w w') : OwnD base l v w' := row_same h (fun b hv => hb.block b (row_blk h hv).2.1)
theorem OwnD.row {base K : Nat} {l : List Dg} {v : Value} {w : World} (h : OwnD base l v w) (hl : l.length = K) : w.ownsRow base 33 32 v K (flatG clD l) := hl ▸ h
theorem sortL_nil : sortL [] = [] := by unfold sortL; exact List.mergeSort_nil
/-- How List ends. -/
def ListPost (w1 : World) (m : DM) (x : Int) (e : Ending) (w' : World) : Prop :=
  ∃ v, e = .returned (.tuple #[v, errE (if m.off then 27 else 0)]) ∧ OwnD w1.heap.size (sortL (listM m x)) v w' ∧ Below w1.heap.size w1 w'
theorem listM_off {m : DM} (x : Int) (h : m.off = true) : listM m x = [] := by
  unfold listM DM.lists
  rw [if_pos h]
  rfl
set_option maxHeartbeats 12800000 in
set_option maxRecDepth 100000 in
theorem listB_any {w w1 : World} {S P : Nat → Prop} {sb a n : Nat} {x : Int} {m : DM} (h : Sto w S P sb a x w1 n m) (hn : n ≤ 1000000000) (hsh : ∀ s ∈ m.lists ⟨blobHead.toArray⟩, s.size ≤ 200) :
    Calls Tryz.prog 45 #[.pointer (some ⟨sb, 0, none⟩)] w1 (ListPost w1 m x) := by
  obtain ⟨i0, hi, hz0, hz1, hz2⟩ := dig_parts
  have HS1 := Lib.hid h
  have hlN : (m.lists ⟨blobHead.toArray⟩).length ≤ n := by
    unfold DM.lists
    split
    · exact Nat.zero_le _
    · rw [List.length_map]
      exact Nat.le_trans (List.length_filter_le _ _) h.st.ok.nowN
  have hls := st_list h.st ⟨#[98, 108, 111, 98, 115, 47]⟩ (by omega)
  have hlq : m.lists ⟨blobHead.toArray⟩ = m.lists ⟨#[98, 108, 111, 98, 115, 47]⟩ := rfl
  rw [← hlq] at hls
  have hLM : listM m x = ((m.lists ⟨blobHead.toArray⟩).filter fun n => (rightM m x n).isSome).map digOf := rfl
  have hbox : w1.cell? ⟨sb, 0, none⟩ = some (.pointer (some ⟨a, 0, none⟩)) := by rw [cell_of_heapN h.box]; rfl
  obtain ⟨L, hL⟩ : ∃ L, m.lists ⟨blobHead.toArray⟩ = L := ⟨_, rfl⟩
  rw [hL] at hls hlN hsh hLM
  have HLM := Lib.hid hLM
  have HSH := Lib.hid hsh
  obtain ⟨N, hN⟩ : ∃ N, L.length = N := ⟨_, rfl⟩
  have HN := Lib.hid hN
  rw [hN] at hlN
  have HNN : Hid (N ≤ n ∧ n ≤ 1000000000) := Lib.hid ⟨hlN, hn⟩
  clear h hsh hlN hL hN hn hlq hLM
  unfold ListPost
  cases hoff : m.off with
  | true =>
    rw [hoff] at hls
    have HOFF := Lib.hid hoff
    clear hoff
    have hlsw : Calls Tryz.prog 25 #[.pointer (some ⟨a, 0, none⟩), .string ⟨#[98, 108, 111, 98, 115, 47]⟩] w1 fun e w' => ∃ v, e = .returned (.tuple #[v, .iface 76 (.int .i64 27)]) ∧ OwnTexts w1.heap.size w' v L ∧ Below w1.heap.size w1 w' := hls
    clear hls
    go_enter Tryz.func45, Tryz.ntmps45
    go_wp2_with fail
    refine hlsw.mono ?_
    rintro e w2 ⟨v, rfl, -, hb2⟩
    have HB2 := Lib.hid hb2
    clear hb2 hlsw hbox
    go_wp2_with fail
    go_ret2
    refine ⟨_, rfl, ?_, HB2.out⟩
    rw [listM_off x HOFF.out, sortL_nil]
    exact ⟨rfl, .inl ⟨rfl, rfl⟩⟩
  | false =>
    rw [hoff] at hls
    clear hoff
    have hlsw : Calls Tryz.prog 25 #[.pointer (some ⟨a, 0, none⟩), .string ⟨#[98, 108, 111, 98, 115, 47]⟩] w1 fun e w' => ∃ v, e = .returned (.tuple #[v, .nilIface]) ∧ OwnTexts w1.heap.size w' v L ∧ Below w1.heap.size w1 w' := hls
    clear hls
    go_enter Tryz.func45, Tryz.ntmps45
    go_wp2_with fail
    refine hlsw.mono ?_
    rintro e w2 ⟨v, rfl, hv, hb2⟩
    obtain ⟨vp, vc, rfl⟩ := hv.rd.len
    rw [HN.out] at hv ⊢
    have HV2 := Lib.hid hv.rd
    have HB2 := Lib.hid hb2
    have HS2 := Lib.hid (HS1.out.bel hb2)
    have hNi : (N : Int) ≤ 1000000000 := by have := HNN.out; omega
    clear hb2 hlsw hv HS1 hbox
    go_wp2_with fail
    go_loopw [6, 26] (fun v iv wr => ∃ (k K : Nat), (k : Int) ≤ N ∧ (K : Int) ≤ k ∧ iv = .int .i64 k ∧ (∃ vp vc, v = .slice vp K vc) ∧ Hid ((((L.take k).filter fun s => (rightM m x s).isSome).map digOf).length = K) ∧ Hid (OwnD w2.heap.size (((L.take k).filter fun s => (rightM m x s).isSome).map digOf) v wr) ∧ Hid (Below w2.heap.size w2 wr)) (fun _ iv _ => N - (intOf iv).toNat)
    case atStart => exact ⟨0, 0, by omega, by omega, rfl, ⟨_, _, rfl⟩, Lib.hid rfl, Lib.hid ⟨rfl, .inl ⟨rfl, rfl⟩⟩, Lib.hid (Below.refl _ _)⟩
    case round =>
      obtain ⟨k, K, hk, hKk, rfl, ⟨up, uc, rfl⟩, HK, HR, HB⟩ := hrel
      by_cases hlt : (k : Int) < N
      · have hkl : k < L.length := by rw [HN.out]; omega
        obtain ⟨s, hs⟩ : ∃ s, L[k]? = some s := ⟨_, List.getElem?_eq_getElem hkl⟩
        obtain ⟨vp', vc', he, hv⟩ := HV2.out.below HB.out
        obtain ⟨vb, vo, hvp, hvl, hvc⟩ := hv k s hs
        have hpe : vp = some ⟨vb, vo, none⟩ := by cases he; exact hvp
        subst hpe
        have hss := HSH.out s (List.mem_of_getElem? hs)
        have htk : L.take (k + 1) = L.take k ++ [s] := by rw [List.take_add_one, hs]; rfl
        have HTK := Lib.hid htk
        obtain ⟨l, hl⟩ : ∃ l, ((L.take k).filter fun s => (rightM m x s).isSome).map digOf = l := ⟨_, rfl⟩
        have HL := Lib.hid hl
        rw [hl] at HK HR
        have hss3 : s.size ≤ 140737488355328 := by omega
        have hnm := fun W => named_any s hss3 W
        have hdl : ((namedM s).getD zeroD).length = 32 := named_len s
        obtain ⟨D, hD⟩ : ∃ D, (namedM s).getD zeroD = D := ⟨_, rfl⟩
        have HDO : Hid (∀ h : D.length = 32, digOf s = ⟨D, h⟩) := Lib.hid (fun h => Subtype.ext hD)
        unfold namedV at hnm
        rw [hD] at hdl hnm
        have HDL := Lib.hid hdl
        obtain ⟨ob, hob⟩ : ∃ b, (namedM s).isSome = b := ⟨_, rfl⟩
        rw [hob] at hnm
        unfold digV at hnm
        have HNM := Lib.hid hnm
        clear hs he hv hvp hvl htk hkl hl hnm hdl hD hob hss
        have HS4 := Lib.hid (HS2.out.bel HB.out)
        go_wp2_with fail
        refine (st_right HS4.out s hss3).mono ?_
        rintro e w5 ⟨⟨t, rfl, -⟩, hb5⟩
        have HB5 : Hid (Below w2.heap.size w2 w5) := Lib.hid (HB.out.trans (hb5.mono HB.out.size))
        have HR5 := Lib.hid (HR.out.below hb5)
        clear hb5 hvc
        cases hrt : rightM m x s with
        | none =>
          have hf : [s].filter (fun s => (rightM m x s).isSome) = [] := by rw [List.filter_cons, hrt]; rfl
          have HF := Lib.hid hf
          clear hf hrt
          go_wp2_with fail
          have he : ((L.take (k + 1)).filter fun s => (rightM m x s).isSome).map digOf = l := by rw [HTK.out, List.filter_append, HF.out, List.append_nil]; exact HL.out
          refine ⟨⟨k + 1, K, by omega, by omega, by rw [Int.natCast_add]; rfl, ⟨_, _, rfl⟩, Lib.hid ?_, Lib.hid ?_, HB5⟩, by simp [intOf]; omega⟩
          · rw [he]; exact HK.out
          · rw [he]; exact HR5.out
        | some u =>
          have hf : [s].filter (fun s => (rightM m x s).isSome) = [s] := by rw [List.filter_cons, hrt]; rfl
          have HF := Lib.hid hf
          have hdl32 := HDL.out
          have hfd := fold_dig HDL.out
          have hI := dig_info HDL.out
          have hI2 := dig_info2 HDL.out
          have hd1 := dig_one D
          have hdz := dig_size HDL.out
          have hU := dig_und
          have hDo : ∀ u ∈ D.map byteV, u.oneCell' = true := fun u hu => by obtain ⟨x, _, rfl⟩ := List.mem_map.1 hu; rfl
          clear hf hrt
          go_wp2_with (first | (go_at_call 77; refine (HNM.out _).mono ?_; rintro e w6 ⟨rfl, hb6⟩; have HB6 : Hid (Below w2.heap.size w2 w6) := Lib.hid (HB5.out.trans (hb6.mono HB5.out.size)); have HR6 := Lib.hid (HR5.out.below hb6); clear hb6) | (refine wpList_store_new rfl _ _ _ rfl _ (D.map byteV).toArray _ rfl rfl rfl hI2 hdz hd1 ?_; (obtain ⟨W5, hW5⟩ : ∃ W, w6.alloc (.cells (D.map byteV).toArray 33) = W := ⟨_, rfl⟩; have hb7 : Below w6.heap.size w6 W5 := (by rw [← hW5]; exact (Below.refl _ _).alloc (Nat.le_refl _) _); have hx5 : W5.heap[w6.heap.size]? = some (.cells (D.map byteV).toArray 33 (0, 0)) := (by rw [← hW5]; exact heap_new _ _); have HB7 : Hid (Below w2.heap.size w2 W5) := Lib.hid (HB6.out.trans (hb7.mono HB6.out.size)); have HR7 := Lib.hid (HR6.out.below hb7); have HRG5 := Lib.hid (dig_range hx5); rw [hW5]; clear hW5 hb7 hx5)) | refine wpList_load_mid rfl _ _ rfl w6.heap.size 0 rfl (D.map byteV) _ HRG5.out hU rfl hI ?_ | (at_builtin; go_must (refine wpList_app_to rfl _ _ 31 rfl w2.heap.size 33 i0 (.agg z32) 32 32 Tryz.underlying31 hi hz0 hz1 hz2 rfl (by decide) (.slice up K uc) K _ rfl ((HR7.out.below ((Below.refl W5.heap.size W5).alloc (Nat.le_refl _) (.cells (D.map byteV).toArray 33))).row HK.out) ⟨W5.heap.size, 0, none⟩ 1 1 (D.map byteV) rfl (by rw [List.length_map, hdl32]) (newDg W5 D) hDo (by decide) (by unfold maxLen; omega) (by omega) (Nat.le_trans HB7.out.size (by rw [World.size_alloc]; omega)) ?_); intro v6 W6 ho6 hl6; have HO6 := Lib.hid ho6; have HL6 := Lib.hid hl6; (obtain ⟨p6, c6, rfl⟩ := row_slice ho6); clear ho6 hl6))
          have he : ((L.take (k + 1)).filter fun s => (rightM m x s).isSome).map digOf = l ++ [⟨D, hdl32⟩] := by rw [HTK.out, List.filter_append, HF.out, List.map_append, HL.out, ← HDO.out]; rfl
          have hb9 : Below w2.heap.size w2 W6 := (HB7.out.alloc (by have := HB7.out.size; omega) _).trans (app_below ((HR7.out.below ((Below.refl W5.heap.size W5).alloc (Nat.le_refl _) (.cells (D.map byteV).toArray 33))).row HK.out) HL6.out (Nat.le_trans HB7.out.size (by rw [World.size_alloc]; omega)))
          refine ⟨⟨k + 1, K + 1, by omega, by omega, by rw [Int.natCast_add]; rfl, ⟨_, _, rfl⟩, Lib.hid ?_, Lib.hid ?_, Lib.hid hb9⟩, by simp [intOf]; omega⟩
          · rw [he, List.length_append, HK.out]; rfl
          · rw [he]
            exact OwnG.app (by rw [HK.out]; exact HO6.out)
      · obtain rfl : k = N := by omega
        have hall : ((L.take k).filter fun s => (rightM m x s).isSome).map digOf = listM m x := by rw [List.take_of_length_le (by rw [HN.out]; exact Nat.le_refl _)]; exact HLM.out.symm
        rw [hall] at HK HR
        have hsr := sort_row HR.out HB.out.size HK.out (by have := HNN.out; omega)
        go_wp2_with fail
        refine hsr.mono ?_
        rintro e w9 ⟨rfl, ho, hb⟩
        have HO := Lib.hid ho
        have HB9 := Lib.hid hb
        clear ho hb hsr
        go_wp2_with fail
        go_ret2
        exact ⟨_, rfl, own_base HO.out HB2.out.size, HB2.out.trans ((HB.out.trans HB9.out).mono HB2.out.size)⟩
end Go.Proofs.YtecgikanophonaaGreatDoor
/- Walk of shown: the examples of the chapter on calls. -/
namespace Go.Proofs.YtecgikanophonaaGreatDoor
open Go Go.RowKit
set_option maxRecDepth 100000 in
theorem open_none (x : Int) (w : World) : Calls Tryz.prog 8 #[.pointer none, .int .i64 x] w fun e w' => e = .returned (.tuple #[.pointer none, .iface 76 (.int .i64 1)]) ∧ w = w' := by
  go_enter Tryz.func8, Tryz.ntmps8
  go_wp2_with fail
  go_ret2
  exact ⟨rfl, rfl⟩
set_option maxRecDepth 100000 in
theorem open_narrow (a : Nat) (w : World) : Calls Tryz.prog 8 #[.pointer (some ⟨a, 0, none⟩), .int .i64 0] w fun e w' => e = .returned (.tuple #[.pointer none, .iface 76 (.int .i64 1)]) ∧ w = w' := by
  go_enter Tryz.func8, Tryz.ntmps8
  go_wp2_with fail
  go_ret2
  exact ⟨rfl, rfl⟩
set_option maxRecDepth 100000 in
theorem open_broad (a : Nat) (w : World) : Calls Tryz.prog 8 #[.pointer (some ⟨a, 0, none⟩), .int .i64 33] w fun e w' => e = .returned (.tuple #[.pointer none, .iface 76 (.int .i64 1)]) ∧ w = w' := by
  go_enter Tryz.func8, Tryz.ntmps8
  go_wp2_with fail
  go_ret2
  exact ⟨rfl, rfl⟩
/-- A store beside boxes that hold digests. -/
def ShW (w : World) (sb a : Nat) (W : World) (n : Nat) (m : DM) (Bs : List (Nat × Obj)) : Prop :=
  ∃ P, Sto w (fun _ => False) P sb a 32 W n m ∧ ∀ q ∈ Bs, P q.1 ∧ W.heap[q.1]? = some q.2
/-- A box that holds a digest. -/
abbrev digO (D : List UInt8) : Obj := .cells (D.map byteV).toArray 33 (0, 0)
section
variable {w : World} {sb a : Nat} {W W' : World} {n : Nat} {m : DM} {Bs : List (Nat × Obj)}
theorem ShW.toB (h : ShW w sb a W n m Bs) : Below w.heap.size w W := by
  obtain ⟨P, hs, -⟩ := h
  exact hs.st.toB
theorem ShW.bel (h : ShW w sb a W n m Bs) (hb : Below W.heap.size W W') : ShW w sb a W' n m Bs := by
  obtain ⟨P, hs, hq⟩ := h
  exact ⟨P, hs.bel hb, fun q hm => ⟨(hq q hm).1, (hb.block _ (blk_lt (hq q hm).2)).trans (hq q hm).2⟩⟩
theorem ShW.add (h : ShW w sb a W n m Bs) (hb : Below W.heap.size W W') {b : Nat} {o : Obj} (h1 : W.heap.size ≤ b) (h2 : W'.heap[b]? = some o) : ShW w sb a W' n m ((b, o) :: Bs) := by
  obtain ⟨P, hs, hq⟩ := h
  refine ⟨fun c => P c ∨ c = b, hs.more hb _ (fun b hb => .inl hb) (fun c hb2 => hb2.elim .inl (fun e => .inr ⟨by omega, by rw [e]; exact blk_lt h2⟩)), fun q hm => ?_⟩
  rcases List.mem_cons.1 hm with rfl | hm
  · exact ⟨.inr rfl, h2⟩
  · exact ⟨.inl (hq q hm).1, (hb.block _ (blk_lt (hq q hm).2)).trans (hq q hm).2⟩
theorem ShW.box (h : ShW w sb a W n m Bs) (D : List UInt8) : ShW w sb a (W.alloc (digO D)) n m ((W.heap.size, digO D) :: Bs) :=
  h.add ((Below.refl _ _).alloc (Nat.le_refl _) _) (Nat.le_refl _) (heap_new _ _)
theorem ShW.at (h : ShW w sb a W n m Bs) {q : Nat × Obj} (hq : q ∈ Bs) : W.heap[q.1]? = some q.2 := by
  obtain ⟨P, -, h2⟩ := h
  exact (h2 q hq).2
theorem sh_put (h : ShW w sb a W n m Bs) (hn : n + 9 ≤ 4000000000) (s : ByteArray) (hs : s.size ≤ 140737488355328) :
    Calls Tryz.prog 10 #[.pointer (some ⟨sb, 0, none⟩), .string s] W fun e W' => e = .returned (.tuple #[digV (putM m 32 s).2.1, errE (putM m 32 s).2.2]) ∧ ShW w sb a W' (n + 9) (putM m 32 s).1 Bs := by
  obtain ⟨P, h1, hq⟩ := h
  refine (put_any h1 hn s hs).mono ?_
  rintro e W' ⟨rfl, hst, hk⟩
  exact ⟨rfl, P, h1.step hst hk, fun q hm => ⟨(hq q hm).1, (hk _ (hq q hm).1).trans (hq q hm).2⟩⟩
theorem sh_take (h : ShW w sb a W n m Bs) (hn : n + 2 ≤ 4000000000) (D : List UInt8) (hD : D.length = 32) :
    Calls Tryz.prog 15 #[.pointer (some ⟨sb, 0, none⟩), digV D] W fun e W' => e = .returned (errE (takeM m D).2) ∧ ShW w sb a W' (n + 2) (takeM m D).1 Bs := by
  obtain ⟨P, h1, hq⟩ := h
  refine (take_any h1 hn D hD).mono ?_
  rintro e W' ⟨rfl, hst, hk⟩
  exact ⟨rfl, P, h1.step hst hk, fun q hm => ⟨(hq q hm).1, (hk _ (hq q hm).1).trans (hq q hm).2⟩⟩
theorem sh_get (h : ShW w sb a W n m Bs) (D : List UInt8) (hD : D.length = 32) : Calls Tryz.prog 12 #[.pointer (some ⟨sb, 0, none⟩), digV D] W fun e W' => e = .returned (.tuple #[.string (getM m 32 D).1, errE (getM m 32 D).2]) ∧ Below W.heap.size W W' := by
  obtain ⟨P, h1, -⟩ := h
  exact st_get h1 D hD
theorem sh_has (h : ShW w sb a W n m Bs) (D : List UInt8) (hD : D.length = 32) : Calls Tryz.prog 16 #[.pointer (some ⟨sb, 0, none⟩), digV D] W fun e W' => e = .returned (.tuple #[.bool (hasM m 32 D).1, errE (hasM m 32 D).2]) ∧ Below W.heap.size W W' := by
  obtain ⟨P, h1, -⟩ := h
  exact st_has h1 D hD
theorem sh_list (h : ShW w sb a W n m Bs) (hn : n ≤ 1000000000) (hsh : ∀ s ∈ m.lists ⟨blobHead.toArray⟩, s.size ≤ 200) : Calls Tryz.prog 45 #[.pointer (some ⟨sb, 0, none⟩)] W (ListPost W m 32) := by
  obtain ⟨P, h1, -⟩ := h
  exact listB_any h1 hn hsh
theorem sh_used (h : ShW w sb a W n m Bs) (hn : n ≤ 4000000000) : Calls Tryz.prog 47 #[.pointer (some ⟨a, 0, none⟩)] W fun e w' => e = .returned (.int .i64 m.used) ∧ Below W.heap.size W w' := by
  obtain ⟨P, h1, -⟩ := h
  exact st_used h1.st hn
theorem sh_dir (h : ShW w sb a W n m Bs) (hn : n ≤ 4000000000) (hd : ByteArray) : Calls Tryz.prog 25 #[.pointer (some ⟨a, 0, none⟩), .string hd] W fun e w' => ∃ v, e = .returned (.tuple #[v, errE (if m.off then 27 else 0)]) ∧ OwnTexts W.heap.size w' v (m.lists hd) ∧ Below W.heap.size W w' := by
  obtain ⟨P, h1, -⟩ := h
  exact st_list h1.st hd hn
end
/-- A row of one digest. -/
theorem own_one {base : Nat} {D : Dg} {v : Value} {W : World} (h : OwnD base [D] v W) : ∃ g cap cur, v = .slice (some ⟨g, 0, none⟩) 1 cap ∧ base ≤ g ∧ W.heap[g]? = some (.cells cur 33 (0, 0)) ∧ ∀ W2 : World, W2.heap[g]? = some (.cells cur 33 (0, 0)) → W2.rangeAt g 0 (D.1.map byteV) := by
  rcases h.2 with ⟨-, h0⟩ | ⟨g, cap, cur, h1, h2, h3, h4, h5, h6, h7⟩
  · cases h0
  · refine ⟨g, cap, cur, h1, h2, h3, fun W2 h8 j u hj => ?_⟩
    have hf : flatG clD [D] = D.1.map byteV := by show (clD D).toList ++ [] = _; rw [List.append_nil]; rfl
    have hjl : j < 32 := by have := (List.getElem?_eq_some_iff.1 hj).1; rw [List.length_map, D.2] at this; exact this
    rw [hf] at h7
    rw [Nat.zero_add, cell_of_heapN h8, ← Array.getElem?_toList]
    rw [← h7, List.getElem?_take, if_pos (show j < [D].length * 32 by show j < 1 * 32; omega)] at hj
    exact hj
theorem k1_list : sortL (listM k1 32) = [⟨d0, rfl⟩] := by
  have h1 : (listM k1 32).map (·.1) = [d0] := by rw [listS_eq, k1_eq, tabS_eq]; exact shown_all.2.2.1
  have h2 : listM k1 32 = [⟨d0, rfl⟩] := by
    cases hl : listM k1 32 with
    | nil => rw [hl] at h1; cases h1
    | cons x r =>
      rw [hl] at h1
      cases r with
      | nil => exact congrArg (fun y => [y]) (Subtype.ext (List.cons.inj h1).1)
      | cons y r => exact absurd (congrArg List.length h1) (by show ¬ (r.map (·.1)).length + 1 + 1 = 0 + 1; omega)
  rw [h2]
  unfold sortL
  exact List.mergeSort_singleton _
set_option maxRecDepth 100000 in
theorem shown_facts : (putM (DM.new 200) 32 ⟨#[]⟩).2 = (d0, 0) ∧ k1.off = false ∧ hasM k1 32 d0 = (true, 0) ∧ (∃ s, getM k1 32 dA = (s, 10)) ∧ (takeM k1 dA).2 = 10 ∧ (putM k2 32 abcN).2 = (dAbc, 0) ∧ (putM k3 32 abcN).2 = (dAbc, 0) ∧ (putM k4 32 qsN).2 = (zeroD, 28) ∧ k5.off = false ∧ k5.used = 3 ∧ k5.lists ⟨#[116, 109, 112, 47]⟩ = [] ∧ ∀ s ∈ k1.lists ⟨blobHead.toArray⟩, s.size ≤ 200 := by
  obtain ⟨h1, h2, -, h4, h5, h6, h7, h8, h9, h10, h11⟩ := shown_all
  obtain ⟨h12, h13⟩ := shown_lists
  have hg : (getM k1 32 d0).2 = 0 := by rw [getS_eq, k1_eq, tabS_eq]; exact h4
  refine ⟨by rw [putS_eq, tabS_eq]; exact h1, by rw [k1_eq]; exact h2, ?_, ⟨(getM k1 32 dA).1, Prod.ext rfl (by rw [getS_eq, k1_eq, tabS_eq]; exact h5)⟩, by rw [k1_eq]; exact h6, by rw [k2_eq, putS_eq, tabS_eq]; exact h7, by rw [k3_eq, putS_eq, tabS_eq]; exact h8, by rw [k4_eq, putS_eq, tabS_eq]; exact h9, by rw [k5_eq]; exact h10, by rw [k5_eq]; exact h11, by rw [k5_eq]; exact List.isEmpty_iff.1 h12, by rw [k1_eq]; intro s hs; exact of_decide_eq_true (List.all_eq_true.1 h13 s hs)⟩
  unfold hasM
  rw [hg]
  rfl
theorem abc_val : Value.agg (dAbc.map byteV).toArray = .agg (shaL 32 ⟨#[97, 98, 99]⟩).toArray := by
  rw [shaL_shaU, show shaU 32 ⟨#[97, 98, 99]⟩ = dAbc from sh_abc32]
set_option maxRecDepth 100000 in
theorem times_qs : timesB ⟨#[113]⟩ 198 = qsN := by decide +kernel
set_option maxHeartbeats 25600000 in
set_option maxRecDepth 100000 in
theorem shown_any (w : World) (hG : ErrT w) (hT : RoundsT w) (hR : RoundsR w) (hB : BeginR w) :
    Calls Tryz.prog 17 #[] w fun e w' => e = .returned (.bool true) ∧ Below w.heap.size w w' := by
  have HG := Lib.hid hG
  have HTT := Lib.hid hT
  have HRR := Lib.hid hR
  have HBR := Lib.hid hB
  have HSF := Lib.hid shown_facts
  have hPL : ∀ k : Int, (1 ≤ k ∧ k ≤ 32) → ∀ W, Below w.heap.size w W → Calls Tryz.prog 11 #[.iface 76 (.int .i64 k), .int .i64 k] W fun e w' => e = .returned (.bool true) ∧ Below W.heap.size W w' := fun k hk W hb => by
    have h := plain_E k (.inr hk) k W (HG.out.below hb HG.out.2)
    rw [show errE k = .iface 76 (.int .i64 k) from if_neg (by omega), show (k == k) = true by simp] at h
    exact h
  have HPL := Lib.hid hPL
  have hU := dig_und
  have hI0 := dig_info (d := d0) rfl
  have hIA := dig_info (d := dA) rfl
  have hIb := dig_info (d := dAbc) rfl
  have h20 := dig_info2 (d := d0) rfl
  have h2A := dig_info2 (d := dA) rfl
  have h2b := dig_info2 (d := dAbc) rfl
  have h10 := dig_one d0
  have h1A := dig_one dA
  have h1b := dig_one dAbc
  have hz0 := dig_size (d := d0) rfl
  have hzA := dig_size (d := dA) rfl
  have hzb := dig_size (d := dAbc) rfl
  clear hG hT hR hB hPL
  go_enter Tryz.func17, Tryz.ntmps17
  go_wp2_with fail
  refine (open_none 32 _).mono ?_
  rintro e w0 ⟨rfl, rfl⟩
  go_wp2_with fail
  refine (new_any _ 9 (by decide) (by decide)).mono ?_
  rintro e w1 ⟨a1, rfl, -, hb1⟩
  have HB1 := Lib.hid hb1
  clear hb1
  go_wp2_with fail
  refine (open_narrow _ _).mono ?_
  rintro e w2 ⟨rfl, rfl⟩
  go_wp2_with fail
  refine (new_any _ 9 (by decide) (by decide)).mono ?_
  rintro e w3 ⟨a3, rfl, -, hb3⟩
  have HB3 : Hid (Below w.heap.size w w3) := Lib.hid (HB1.out.trans (hb3.mono HB1.out.size))
  clear hb3
  go_wp2_with fail
  refine (open_broad _ _).mono ?_
  rintro e w4 ⟨rfl, rfl⟩
  go_wp2_with (first | (go_at_call 11; first | (refine (HPL.out 1 ⟨by decide, by decide⟩ p2 HQ2.out).mono ?_; rintro e p3 ⟨rfl, hb8⟩; have HQ3 := Lib.hid (HQ2.out.trans (hb8.mono HQ2.out.size)); clear hb8) | (refine (HPL.out 1 ⟨by decide, by decide⟩ p1 HQ1.out).mono ?_; rintro e p2 ⟨rfl, hb8⟩; have HQ2 := Lib.hid (HQ1.out.trans (hb8.mono HQ1.out.size)); clear hb8) | (refine (HPL.out 1 ⟨by decide, by decide⟩ w3 HB3.out).mono ?_; rintro e p1 ⟨rfl, hb8⟩; have HQ1 := Lib.hid (HB3.out.trans (hb8.mono HB3.out.size)); clear hb8)))
  refine (st_new w p3 HQ3.out 200 (by decide) (by decide)).mono ?_
  rintro e w5 ⟨a, rfl, hst, hb5⟩
  have HST := Lib.hid hst
  have HT5 : Hid (RoundsT w5) := Lib.hid (HTT.out.belowR (HQ3.out.trans (hb5.mono HQ3.out.size)))
  have HP5 : Hid (3 < p3.heap.size) := Lib.hid (Nat.lt_of_lt_of_le HTT.out.2 HQ3.out.size)
  clear hst hb5 HB1 HB3 HQ1 HQ2
  go_wp2_with fail
  refine (open_any (x := 32) HST.out HT5.out HP5.out ⟨by decide, by decide⟩ (by decide) (fun s hs => by cases hs)).mono ?_
  rintro e w6 ⟨v, rfl, h, hk⟩
  rw [(open_new 200 32).1, (open_new 200 32).2] at h
  rcases h with ⟨-, sb, rfl, hsb, hsto⟩ | ⟨hne, -⟩
  case inr => exact absurd rfl hne
  have HS6 : Hid (ShW w sb a w6 1 (DM.new 200) []) := Lib.hid ⟨_, hsto, fun q hq => by cases hq⟩
  clear hsto hk hsb HST HT5 HP5 HQ3
  go_wp2_with fail
  refine (sh_put HS6.out (by decide) ⟨#[]⟩ (by decide)).mono ?_
  rintro e w7 ⟨rfl, hs⟩
  rw [HSF.out.1]
  have HS7 : Hid (ShW w sb a w7 10 k1 []) := Lib.hid hs
  simp only
  rw [show errE 0 = .nilIface from rfl]
  unfold digV
  clear hs HS6
  go_wp2_with (first | (refine wpList_store_new rfl _ _ _ rfl _ (d0.map byteV).toArray _ rfl rfl rfl h20 hz0 h10 ?_; (obtain ⟨W8, hWe⟩ : ∃ W, w7.alloc (.cells (d0.map byteV).toArray 33) = W := ⟨_, rfl⟩; have hsx := HS7.out.box d0; rw [hWe] at hsx; obtain ⟨B10, hBe⟩ : ∃ b, w7.heap.size = b := ⟨_, rfl⟩; rw [hBe] at hsx; have HS8 : Hid (ShW w sb a W8 10 k1 [(B10, digO d0)]) := Lib.hid hsx; have HRB10 := Lib.hid (dig_range (HS8.out.at (q := (B10, digO d0)) (by simp))); rw [hWe, hBe]; clear hWe hsx hBe)))
  refine (sh_list HS8.out (by decide) HSF.out.2.2.2.2.2.2.2.2.2.2.2).mono ?_
  rintro e w9 ⟨v, rfl, hv, hb⟩
  rw [HSF.out.2.1] ; rw [k1_list] at hv
  obtain ⟨g, gc, cur, rfl, hg0, hg, hgr⟩ := own_one hv
  have HGR := Lib.hid hgr
  have HS9 := Lib.hid (HS8.out.add hb hg0 hg)
  rw [show errE (if (false = true) then 27 else 0) = .nilIface from rfl]
  have HR9 := Lib.hid (dig_range (HS9.out.at (q := (B10, digO d0)) (by simp)))
  clear hv hg0 hg hgr hb HRB10 HS8 HS7
  go_wp2_with (first | refine wpList_load_mid rfl _ _ rfl B10 0 rfl (d0.map byteV) _ HR9.out hU rfl hI0 ?_)
  refine (sh_has HS9.out d0 rfl).mono ?_
  rintro e w10 ⟨rfl, hb⟩
  rw [HSF.out.2.2.1]
  simp only
  rw [show errE 0 = .nilIface from rfl]
  have HC10 : Hid (Below w9.heap.size w9 w10) := Lib.hid hb
  have HS10 := Lib.hid (HS9.out.bel hb)
  clear hb HR9 HS9
  go_wp2_with fail
  have hsm := refSum_any 32 ⟨#[97]⟩ w10 (HRR.out.belowR2 HS10.out.toB) (HBR.out.belowB HS10.out.toB) (by decide)
  rw [show shaL 32 ⟨#[97]⟩ = dA.map byteV by rw [shaL_shaU, sh_a]] at hsm
  refine hsm.mono ?_
  rintro e w11 ⟨rfl, hb⟩
  have HS11 := Lib.hid (HS10.out.bel hb)
  clear hb hsm HS10
  go_wp2_with (first | (refine wpList_store_new rfl _ _ _ rfl _ (dA.map byteV).toArray _ rfl rfl rfl h2A hzA h1A ?_; (obtain ⟨W12, hWe⟩ : ∃ W, w11.alloc (.cells (dA.map byteV).toArray 33) = W := ⟨_, rfl⟩; have hsx := HS11.out.box dA; rw [hWe] at hsx; obtain ⟨B16, hBe⟩ : ∃ b, w11.heap.size = b := ⟨_, rfl⟩; rw [hBe] at hsx; have HS12 : Hid (ShW w sb a W12 10 k1 [(B16, digO dA), (g, .cells cur 33 (0, 0)), (B10, digO d0)]) := Lib.hid hsx; have HRB16 := Lib.hid (dig_range (HS12.out.at (q := (B16, digO dA)) (by simp))); rw [hWe, hBe]; clear hWe hsx hBe)) | refine wpList_load_mid rfl _ _ rfl B16 0 rfl (dA.map byteV) _ HRB16.out hU rfl hIA ?_)
  obtain ⟨sg, hsg⟩ := HSF.out.2.2.2.1
  have hgt := sh_get HS12.out dA rfl
  rw [hsg] at hgt
  rw [show errE (sg, (10 : Int)).2 = .iface 76 (.int .i64 10) from rfl] at hgt
  refine hgt.mono ?_
  rintro e w13 ⟨rfl, hb⟩
  have HS13 := Lib.hid (HS12.out.bel hb)
  have HR13 := Lib.hid (dig_range (HS13.out.at (q := (B16, digO dA)) (by simp)))
  clear hb hgt hsg HS11 HS12 HRB16
  go_wp2_with (first | refine wpList_load_mid rfl _ _ rfl B16 0 rfl (dA.map byteV) _ HR13.out hU rfl hIA ?_)
  have hmk := sh_take HS13.out (by decide) dA rfl
  rw [HSF.out.2.2.2.2.1, show errE 10 = .iface 76 (.int .i64 10) from rfl] at hmk
  refine hmk.mono ?_
  rintro e w14 ⟨rfl, hs⟩
  have HS14 : Hid (ShW w sb a w14 12 k2 [(B16, digO dA), (g, .cells cur 33 (0, 0)), (B10, digO d0)]) := Lib.hid hs
  have HX10 := Lib.hid (HS14.out.at (q := (B10, digO d0)) (by simp))
  have HXG := Lib.hid (HS14.out.at (q := (g, .cells cur 33 (0, 0))) (by simp))
  have HB14 := Lib.hid HS14.out.toB
  clear hmk hs HS13 HR13
  go_wp2_with fail
  have hI0w : Below w14.heap.size w14 w14.drew := ⟨rfl, rfl, rfl, Nat.le_refl _, fun _ _ => rfl⟩
  refine wp_region_flowG (fun _ : Unit => [.nilIface, .bool false, .bool false, .pointer (some ⟨B10, 0, none⟩), .int .u8 227, .bool false, .bool false, .bool false, .pointer (some ⟨B10, 1, none⟩), .int .u8 176, .bool false, .bool false, .bool false, .pointer (some ⟨B10, 2, none⟩), .int .u8 196, .bool false, .bool false, .bool false, .pointer (some ⟨B10, 3, none⟩), .int .u8 66, .bool false, .bool false, .bool false, .nilIface, .bool false, .bool false, .bool false, .slice (some ⟨g, 0, none⟩) 1 gc, .int .i64 1, .bool false, .bool false, .bool false, .slice (some ⟨g, 0, none⟩) 1 gc, .pointer (some ⟨g, 0, none⟩), .agg (d0.map byteV).toArray, .agg (d0.map byteV).toArray, .bool false, .bool false, .bool false, .bool true, .bool false, .bool false, .bool false, .nilIface, .bool false, .bool false]) (fun _ _ W => Below w14.heap.size w14 W)
    [[], [0], [1], [2], [3, 2], [4, 2], [2, 5], [6, 2], [7], [8, 7], [9, 7], [7, 10], [11, 7], [12], [13, 12], [14, 12], [12, 15], [16, 12], [17], [18, 17], [19, 17], [17, 20], [21, 17], [22], [23, 22], [22, 24], [25, 22], [26], [27, 26], [28, 26], [26, 29], [30, 26], [31], [32, 31], [33, 31], [31], [34, 35, 31], [31, 36], [37, 31], [38], [39, 38], [38, 40], [41, 38], [42], [43, 42], [42, 44]] 197 () mixedD rfl (by kernel_rfl) (fun _ => rfl) hI0w ?_ ?_
  · refine ⟨?_, ?_, ?_, ?_, ?_, ?_, ?_, ?_, ?_, ?_, ?_, ?_, ?_, ?_, ?_, ?_, ?_, ?_, ?_, ?_, ?_, ?_, ?_, ?_, ?_, ?_, ?_, ?_, ?_, ?_, ?_, ?_, ?_, ?_, ?_, ?_, ?_, ?_, ?_, ?_, ?_, ?_, ?_, ?_, ?_, ?_, rfl⟩
    all_goals intro L γ W ev hL hd hW hc hf hg he h0
    · have e11 : ev (.tmp 11) = .nilIface := h0 11 rfl
      have hcc := hc
      clear he h0 hc hf hg
      exact .inl ⟨rfl, .inl ⟨_, W, (by go_simp <;> rfl), .still (hW) rfl⟩⟩
    · have e88 : ev (.tmp 88) = .nilIface := he 0 (by decide) _ 88 rfl rfl
      have hcc := hc
      clear he h0 hc hf hg
      exact .inl ⟨rfl, .inl ⟨_, W, (by go_simp <;> rfl), .still (hW) rfl⟩⟩
    · have e89 : ev (.tmp 89) = .bool false := he 1 (by decide) _ 89 rfl rfl
      have hcc := hc
      clear he h0 hc hf hg
      exact .inl ⟨rfl, .inl ⟨_, W, (by go_simp <;> rfl), .still (hW) rfl⟩⟩
    · have e10 : ev (.tmp 10) = .pointer (some ⟨B10, 0, none⟩) := h0 10 rfl
      have hcc := hc
      clear he h0 hc hf hg
      exact .inl ⟨rfl, .inl ⟨_, W, (by go_simp <;> rfl), .still (hW) rfl⟩⟩
    · have e91 : ev (.tmp 91) = .pointer (some ⟨B10, 0, none⟩) := he 3 (by decide) _ 91 rfl rfl
      have c0 : W.cell? ⟨B10, 0, none⟩ = some (.int .u8 227) := (hW.cell (p := ⟨B10, 0, none⟩) (blk_lt HX10.out)).trans (by rw [cell_of_heapN HX10.out]; rfl)
      have hcc := hc
      clear he h0 hc hf hg
      exact .inl ⟨rfl, .inl ⟨_, W, (by go_simp <;> rfl), .still (hW) rfl⟩⟩
    · have e92 : ev (.tmp 92) = .int .u8 227 := he 4 (by decide) _ 92 rfl rfl
      have hcc := hc
      clear he h0 hc hf hg
      exact .inl ⟨rfl, .inl ⟨_, W, (by go_simp <;> rfl), .still (hW) rfl⟩⟩
    · have e90 : ev (.tmp 90) = .bool false := he 2 (by decide) _ 90 rfl rfl
      have e93 : ev (.tmp 93) = .bool false := he 5 (by decide) _ 93 rfl rfl
      have hcc := hc
      clear he h0 hc hf hg
      exact .inl ⟨rfl, .inl ⟨_, W, (by go_simp <;> rfl), .still (hW) rfl⟩⟩
    · have e94 : ev (.tmp 94) = .bool false := he 6 (by decide) _ 94 rfl rfl
      have hcc := hc
      clear he h0 hc hf hg
      exact .inl ⟨rfl, .inl ⟨_, W, (by go_simp <;> rfl), .still (hW) rfl⟩⟩
    · have e10 : ev (.tmp 10) = .pointer (some ⟨B10, 0, none⟩) := h0 10 rfl
      have hcc := hc
      clear he h0 hc hf hg
      exact .inl ⟨rfl, .inl ⟨_, W, (by go_simp <;> rfl), .still (hW) rfl⟩⟩
    · have e96 : ev (.tmp 96) = .pointer (some ⟨B10, 1, none⟩) := he 8 (by decide) _ 96 rfl rfl
      have c0 : W.cell? ⟨B10, 1, none⟩ = some (.int .u8 176) := (hW.cell (p := ⟨B10, 1, none⟩) (blk_lt HX10.out)).trans (by rw [cell_of_heapN HX10.out]; rfl)
      have hcc := hc
      clear he h0 hc hf hg
      exact .inl ⟨rfl, .inl ⟨_, W, (by go_simp <;> rfl), .still (hW) rfl⟩⟩
    · have e97 : ev (.tmp 97) = .int .u8 176 := he 9 (by decide) _ 97 rfl rfl
      have hcc := hc
      clear he h0 hc hf hg
      exact .inl ⟨rfl, .inl ⟨_, W, (by go_simp <;> rfl), .still (hW) rfl⟩⟩
    · have e95 : ev (.tmp 95) = .bool false := he 7 (by decide) _ 95 rfl rfl
      have e98 : ev (.tmp 98) = .bool false := he 10 (by decide) _ 98 rfl rfl
      have hcc := hc
      clear he h0 hc hf hg
      exact .inl ⟨rfl, .inl ⟨_, W, (by go_simp <;> rfl), .still (hW) rfl⟩⟩
    · have e99 : ev (.tmp 99) = .bool false := he 11 (by decide) _ 99 rfl rfl
      have hcc := hc
      clear he h0 hc hf hg
      exact .inl ⟨rfl, .inl ⟨_, W, (by go_simp <;> rfl), .still (hW) rfl⟩⟩
    · have e10 : ev (.tmp 10) = .pointer (some ⟨B10, 0, none⟩) := h0 10 rfl
      have hcc := hc
      clear he h0 hc hf hg
      exact .inl ⟨rfl, .inl ⟨_, W, (by go_simp <;> rfl), .still (hW) rfl⟩⟩
    · have e101 : ev (.tmp 101) = .pointer (some ⟨B10, 2, none⟩) := he 13 (by decide) _ 101 rfl rfl
      have c0 : W.cell? ⟨B10, 2, none⟩ = some (.int .u8 196) := (hW.cell (p := ⟨B10, 2, none⟩) (blk_lt HX10.out)).trans (by rw [cell_of_heapN HX10.out]; rfl)
      have hcc := hc
      clear he h0 hc hf hg
      exact .inl ⟨rfl, .inl ⟨_, W, (by go_simp <;> rfl), .still (hW) rfl⟩⟩
    · have e102 : ev (.tmp 102) = .int .u8 196 := he 14 (by decide) _ 102 rfl rfl
      have hcc := hc
      clear he h0 hc hf hg
      exact .inl ⟨rfl, .inl ⟨_, W, (by go_simp <;> rfl), .still (hW) rfl⟩⟩
    · have e100 : ev (.tmp 100) = .bool false := he 12 (by decide) _ 100 rfl rfl
      have e103 : ev (.tmp 103) = .bool false := he 15 (by decide) _ 103 rfl rfl
      have hcc := hc
      clear he h0 hc hf hg
      exact .inl ⟨rfl, .inl ⟨_, W, (by go_simp <;> rfl), .still (hW) rfl⟩⟩
    · have e104 : ev (.tmp 104) = .bool false := he 16 (by decide) _ 104 rfl rfl
      have hcc := hc
      clear he h0 hc hf hg
      exact .inl ⟨rfl, .inl ⟨_, W, (by go_simp <;> rfl), .still (hW) rfl⟩⟩
    · have e10 : ev (.tmp 10) = .pointer (some ⟨B10, 0, none⟩) := h0 10 rfl
      have hcc := hc
      clear he h0 hc hf hg
      exact .inl ⟨rfl, .inl ⟨_, W, (by go_simp <;> rfl), .still (hW) rfl⟩⟩
    · have e106 : ev (.tmp 106) = .pointer (some ⟨B10, 3, none⟩) := he 18 (by decide) _ 106 rfl rfl
      have c0 : W.cell? ⟨B10, 3, none⟩ = some (.int .u8 66) := (hW.cell (p := ⟨B10, 3, none⟩) (blk_lt HX10.out)).trans (by rw [cell_of_heapN HX10.out]; rfl)
      have hcc := hc
      clear he h0 hc hf hg
      exact .inl ⟨rfl, .inl ⟨_, W, (by go_simp <;> rfl), .still (hW) rfl⟩⟩
    · have e107 : ev (.tmp 107) = .int .u8 66 := he 19 (by decide) _ 107 rfl rfl
      have hcc := hc
      clear he h0 hc hf hg
      exact .inl ⟨rfl, .inl ⟨_, W, (by go_simp <;> rfl), .still (hW) rfl⟩⟩
    · have e105 : ev (.tmp 105) = .bool false := he 17 (by decide) _ 105 rfl rfl
      have e108 : ev (.tmp 108) = .bool false := he 20 (by decide) _ 108 rfl rfl
      have hcc := hc
      clear he h0 hc hf hg
      exact .inl ⟨rfl, .inl ⟨_, W, (by go_simp <;> rfl), .still (hW) rfl⟩⟩
    · have e109 : ev (.tmp 109) = .bool false := he 21 (by decide) _ 109 rfl rfl
      have hcc := hc
      clear he h0 hc hf hg
      exact .inl ⟨rfl, .inl ⟨_, W, (by go_simp <;> rfl), .still (hW) rfl⟩⟩
    · have e13 : ev (.tmp 13) = .nilIface := h0 13 rfl
      have hcc := hc
      clear he h0 hc hf hg
      exact .inl ⟨rfl, .inl ⟨_, W, (by go_simp <;> rfl), .still (hW) rfl⟩⟩
    · have e111 : ev (.tmp 111) = .nilIface := he 23 (by decide) _ 111 rfl rfl
      have hcc := hc
      clear he h0 hc hf hg
      exact .inl ⟨rfl, .inl ⟨_, W, (by go_simp <;> rfl), .still (hW) rfl⟩⟩
    · have e110 : ev (.tmp 110) = .bool false := he 22 (by decide) _ 110 rfl rfl
      have e112 : ev (.tmp 112) = .bool false := he 24 (by decide) _ 112 rfl rfl
      have hcc := hc
      clear he h0 hc hf hg
      exact .inl ⟨rfl, .inl ⟨_, W, (by go_simp <;> rfl), .still (hW) rfl⟩⟩
    · have e113 : ev (.tmp 113) = .bool false := he 25 (by decide) _ 113 rfl rfl
      have hcc := hc
      clear he h0 hc hf hg
      exact .inl ⟨rfl, .inl ⟨_, W, (by go_simp <;> rfl), .still (hW) rfl⟩⟩
    · have e12 : ev (.tmp 12) = .slice (some ⟨g, 0, none⟩) 1 gc := h0 12 rfl
      have hcc := hc
      clear he h0 hc hf hg
      exact .inl ⟨rfl, .inl ⟨_, W, (by go_simp <;> rfl), .still (hW) rfl⟩⟩
    · have e115 : ev (.tmp 115) = .slice (some ⟨g, 0, none⟩) 1 gc := he 27 (by decide) _ 115 rfl rfl
      have hcc := hc
      clear he h0 hc hf hg
      exact .inl ⟨rfl, .inl ⟨_, W, (by go_simp <;> rfl), .still (hW) rfl⟩⟩
    · have e116 : ev (.tmp 116) = .int .i64 1 := he 28 (by decide) _ 116 rfl rfl
      have hcc := hc
      clear he h0 hc hf hg
      exact .inl ⟨rfl, .inl ⟨_, W, (by go_simp <;> rfl), .still (hW) rfl⟩⟩
    · have e114 : ev (.tmp 114) = .bool false := he 26 (by decide) _ 114 rfl rfl
      have e117 : ev (.tmp 117) = .bool false := he 29 (by decide) _ 117 rfl rfl
      have hcc := hc
      clear he h0 hc hf hg
      exact .inl ⟨rfl, .inl ⟨_, W, (by go_simp <;> rfl), .still (hW) rfl⟩⟩
    · have e118 : ev (.tmp 118) = .bool false := he 30 (by decide) _ 118 rfl rfl
      have hcc := hc
      clear he h0 hc hf hg
      exact .inl ⟨rfl, .inl ⟨_, W, (by go_simp <;> rfl), .still (hW) rfl⟩⟩
    · have e12 : ev (.tmp 12) = .slice (some ⟨g, 0, none⟩) 1 gc := h0 12 rfl
      have hcc := hc
      clear he h0 hc hf hg
      exact .inl ⟨rfl, .inl ⟨_, W, (by go_simp <;> rfl), .still (hW) rfl⟩⟩
    · have e120 : ev (.tmp 120) = .slice (some ⟨g, 0, none⟩) 1 gc := he 32 (by decide) _ 120 rfl rfl
      have hcc := hc
      clear he h0 hc hf hg
      exact .inl ⟨rfl, .inl ⟨_, W, (by go_simp <;> rfl), .still (hW) rfl⟩⟩
    · have e121 : ev (.tmp 121) = .pointer (some ⟨g, 0, none⟩) := he 33 (by decide) _ 121 rfl rfl
      clear he h0 hc hg
      have hlv := run_loadVar_mid (P := Tryz.prog) W g 0 33 (d0.map byteV) _ (HGR.out W ((hW.block _ (blk_lt HXG.out)).trans HXG.out)) dig_und rfl hI0
      refine .inl ⟨rfl, .inl ⟨_, W, ?_, .still (hW) rfl⟩⟩
      unfold execOp
      simp only [e121, Instr.loadAt, Instr.sureAddr, Sem.run_bind, Sem.run_pure, Result.andThen_ok, hlv]
      try rfl
    · have e10 : ev (.tmp 10) = .pointer (some ⟨B10, 0, none⟩) := h0 10 rfl
      clear he h0 hc hg
      have hlv := run_loadVar_row (P := Tryz.prog) W B10 33 33 (d0.map byteV).toArray (0, 0) _ ((hW.block _ (blk_lt HX10.out)).trans HX10.out) dig_und rfl h20
      refine .inl ⟨rfl, .inl ⟨_, W, ?_, .still (hW) rfl⟩⟩
      unfold execOp
      simp only [e10, Instr.loadAt, Instr.sureAddr, Sem.run_bind, Sem.run_pure, Result.andThen_ok, hlv]
      try rfl
    · have e122 : ev (.tmp 122) = .agg (d0.map byteV).toArray := he 34 (by decide) _ 122 rfl rfl
      have e123 : ev (.tmp 123) = .agg (d0.map byteV).toArray := he 35 (by decide) _ 123 rfl rfl
      clear he h0 hc hg
      have hq := dig_in W (d := d0) (e := d0) rfl rfl
      rw [show (d0 == d0) = true from by simp] at hq
      refine .inl ⟨rfl, .inl ⟨_, W, (by go_simp <;> rfl), .still (hW) rfl⟩⟩
    · have e119 : ev (.tmp 119) = .bool false := he 31 (by decide) _ 119 rfl rfl
      have e124 : ev (.tmp 124) = .bool false := he 36 (by decide) _ 124 rfl rfl
      have hcc := hc
      clear he h0 hc hf hg
      exact .inl ⟨rfl, .inl ⟨_, W, (by go_simp <;> rfl), .still (hW) rfl⟩⟩
    · have e125 : ev (.tmp 125) = .bool false := he 37 (by decide) _ 125 rfl rfl
      have hcc := hc
      clear he h0 hc hf hg
      exact .inl ⟨rfl, .inl ⟨_, W, (by go_simp <;> rfl), .still (hW) rfl⟩⟩
    · have e14 : ev (.tmp 14) = .bool true := h0 14 rfl
      have hcc := hc
      clear he h0 hc hf hg
      exact .inl ⟨rfl, .inl ⟨_, W, (by go_simp <;> rfl), .still (hW) rfl⟩⟩
    · have e127 : ev (.tmp 127) = .bool true := he 39 (by decide) _ 127 rfl rfl
      have hcc := hc
      clear he h0 hc hf hg
      exact .inl ⟨rfl, .inl ⟨_, W, (by go_simp <;> rfl), .still (hW) rfl⟩⟩
    · have e126 : ev (.tmp 126) = .bool false := he 38 (by decide) _ 126 rfl rfl
      have e128 : ev (.tmp 128) = .bool false := he 40 (by decide) _ 128 rfl rfl
      have hcc := hc
      clear he h0 hc hf hg
      exact .inl ⟨rfl, .inl ⟨_, W, (by go_simp <;> rfl), .still (hW) rfl⟩⟩
    · have e129 : ev (.tmp 129) = .bool false := he 41 (by decide) _ 129 rfl rfl
      have hcc := hc
      clear he h0 hc hf hg
      exact .inl ⟨rfl, .inl ⟨_, W, (by go_simp <;> rfl), .still (hW) rfl⟩⟩
    · have e15 : ev (.tmp 15) = .nilIface := h0 15 rfl
      have hcc := hc
      clear he h0 hc hf hg
      exact .inl ⟨rfl, .inl ⟨_, W, (by go_simp <;> rfl), .still (hW) rfl⟩⟩
    · have e131 : ev (.tmp 131) = .nilIface := he 43 (by decide) _ 131 rfl rfl
      have hcc := hc
      clear he h0 hc hf hg
      exact .inl ⟨rfl, .inl ⟨_, W, (by go_simp <;> rfl), .still (hW) rfl⟩⟩
    · have e130 : ev (.tmp 130) = .bool false := he 42 (by decide) _ 130 rfl rfl
      have e132 : ev (.tmp 132) = .bool false := he 44 (by decide) _ 132 rfl rfl
      have hcc := hc
      clear he h0 hc hf hg
      exact .inl ⟨rfl, .inl ⟨_, W, (by go_simp <;> rfl), .still (hW) rfl⟩⟩
  intro γ L w15 hL hW
  have HS15 := Lib.hid (HS14.out.bel hW)
  clear hL hW HX10 HXG HS14 HB14 hI0w
  simp only [putAll, Act.put, List.setIfInBounds_toArray, List.set_cons_succ, List.set_cons_zero]
  go_wp2_with (first | (go_at_call 11; first | (refine (HPL.out 10 ⟨by decide, by decide⟩ q1 HSq1.out.toB).mono ?_; rintro e q2 ⟨rfl, hb8⟩; have HSq2 := Lib.hid (HSq1.out.bel hb8); clear hb8) | (refine (HPL.out 10 ⟨by decide, by decide⟩ w15 HS15.out.toB).mono ?_; rintro e q1 ⟨rfl, hb8⟩; have HSq1 := Lib.hid (HS15.out.bel hb8); clear hb8)))
  have hpu := sh_put HSq2.out (by decide) abcN (by decide)
  rw [HSF.out.2.2.2.2.2.1, show errE (dAbc, (0 : Int)).2 = .nilIface from rfl] at hpu
  refine hpu.mono ?_
  rintro e w17 ⟨rfl, hs⟩
  have HS17 : Hid (ShW w sb a w17 21 k3 [(B16, digO dA), (g, .cells cur 33 (0, 0)), (B10, digO d0)]) := Lib.hid hs
  unfold digV
  simp only
  clear hs hpu HS15 HSq1 HSq2
  go_wp2_with (first | (refine wpList_store_new rfl _ _ _ rfl _ (dAbc.map byteV).toArray _ rfl rfl rfl h2b hzb h1b ?_; (obtain ⟨W18, hWe⟩ : ∃ W, w17.alloc (.cells (dAbc.map byteV).toArray 33) = W := ⟨_, rfl⟩; have hsx := HS17.out.box dAbc; rw [hWe] at hsx; obtain ⟨B20, hBe⟩ : ∃ b, w17.heap.size = b := ⟨_, rfl⟩; rw [hBe] at hsx; have HS18 : Hid (ShW w sb a W18 21 k3 [(B20, digO dAbc), (B16, digO dA), (g, .cells cur 33 (0, 0)), (B10, digO d0)]) := Lib.hid hsx; have HRB20 := Lib.hid (dig_range (HS18.out.at (q := (B20, digO dAbc)) (by simp))); rw [hWe, hBe]; clear hWe hsx hBe)))
  have hpu := sh_put HS18.out (by decide) abcN (by decide)
  rw [HSF.out.2.2.2.2.2.2.1, show errE (dAbc, (0 : Int)).2 = .nilIface from rfl] at hpu
  refine hpu.mono ?_
  rintro e w19 ⟨rfl, hs⟩
  have HS19 : Hid (ShW w sb a w19 30 k4 [(B20, digO dAbc), (B16, digO dA), (g, .cells cur 33 (0, 0)), (B10, digO d0)]) := Lib.hid hs
  unfold digV
  simp only
  clear hs hpu HS17 HS18 HRB20
  go_wp2_with (first | (refine wpList_store_new rfl _ _ _ rfl _ (dAbc.map byteV).toArray _ rfl rfl rfl h2b hzb h1b ?_; (obtain ⟨W20, hWe⟩ : ∃ W, w19.alloc (.cells (dAbc.map byteV).toArray 33) = W := ⟨_, rfl⟩; have hsx := HS19.out.box dAbc; rw [hWe] at hsx; obtain ⟨B21, hBe⟩ : ∃ b, w19.heap.size = b := ⟨_, rfl⟩; rw [hBe] at hsx; have HS20 : Hid (ShW w sb a W20 30 k4 [(B21, digO dAbc), (B20, digO dAbc), (B16, digO dA), (g, .cells cur 33 (0, 0)), (B10, digO d0)]) := Lib.hid hsx; have HRB21 := Lib.hid (dig_range (HS20.out.at (q := (B21, digO dAbc)) (by simp))); rw [hWe, hBe]; clear hWe hsx hBe)))
  have hti := times_any ⟨#[113]⟩ 198 (by decide) (by decide) W20
  rw [times_qs] at hti
  refine hti.mono ?_
  rintro e w21 ⟨rfl, rfl⟩
  clear hti
  have hqz : qsN.size = 198 := rfl
  obtain ⟨Q, hQ⟩ : ∃ Q, qsN = Q := ⟨_, rfl⟩
  rw [hQ] at hqz ⊢
  go_wp2_with fail
  have hpu := sh_put HS20.out (by decide) Q (by rw [hqz]; decide)
  rw [← hQ, HSF.out.2.2.2.2.2.2.2.1, show errE (zeroD, (28 : Int)).2 = .iface 76 (.int .i64 28) from rfl, hQ] at hpu
  refine hpu.mono ?_
  rintro e w22 ⟨rfl, hs⟩
  have HS22 : Hid (ShW w sb a w22 39 k5 [(B21, digO dAbc), (B20, digO dAbc), (B16, digO dA), (g, .cells cur 33 (0, 0)), (B10, digO d0)]) := Lib.hid (by rw [← hQ] at hs; exact hs)
  obtain ⟨zd, hzd⟩ : ∃ v, digV zeroD = v := ⟨_, rfl⟩
  simp only
  rw [hzd]
  clear hs hpu HS19 HS20 HRB21 hQ hqz hzd
  go_wp2_with fail
  have hdi := sh_dir HS22.out (by decide) ⟨#[116, 109, 112, 47]⟩
  rw [HSF.out.2.2.2.2.2.2.2.2.1, HSF.out.2.2.2.2.2.2.2.2.2.2.1] at hdi
  rw [show errE (if (false = true) then 27 else 0) = .nilIface from rfl] at hdi
  refine hdi.mono ?_
  rintro e w23 ⟨v, rfl, hv, hb⟩
  obtain ⟨vp, vc, rfl⟩ := hv.rd.len
  rw [show ([] : List ByteArray).length = 0 from rfl]
  have HS23 := Lib.hid (HS22.out.bel hb)
  have hus := sh_used HS23.out (by decide)
  have HX20 := Lib.hid (HS23.out.at (q := (B20, digO dAbc)) (by simp))
  have HX21 := Lib.hid (HS23.out.at (q := (B21, digO dAbc)) (by simp))
  have hus := fun W (hW : Below w23.heap.size w23 W) => sh_used (HS23.out.bel hW) (by decide)
  rw [HSF.out.2.2.2.2.2.2.2.2.2.1] at hus
  have HUS := Lib.hid hus
  clear hv hb hdi hus HS22
  go_wp2_with fail
  have hI0w : Below w23.heap.size w23 w23.drew := ⟨rfl, rfl, rfl, Nat.le_refl _, fun _ _ => rfl⟩
  refine wp_region_flowG (fun _ : Unit => [.nilIface, .bool true, .bool true, .nilIface, .bool true, .bool true, .bool true, .agg (dAbc.map byteV).toArray, .agg (dAbc.map byteV).toArray, .bool true, .bool true, .bool true, .agg (dAbc.map byteV).toArray, .agg (dAbc.map byteV).toArray, .bool true, .bool true, .bool true, .pointer (some ⟨a, 0, none⟩), .int .i64 3, .bool true, .bool true, .bool true, .iface 76 (.int .i64 28), .bool true, .bool true, .bool true, .nilIface, .bool true, .bool true, .bool true, .slice vp 0 vc, .int .i64 0, .bool true, .bool true, .bool true]) (fun _ _ W => Below w23.heap.size w23 W)
    [[], [0], [1], [2], [3, 2], [2, 4], [5, 2], [6], [6], [7, 8, 6], [6, 9], [10, 6], [11], [11, 11], [12, 13, 11], [11, 14], [15, 13], [16], [17, 16, 16], [18, 16], [16, 19], [20, 18], [21], [22, 21, 21], [21, 23], [24, 23], [25], [26, 25], [25, 27], [28, 25], [29], [30, 29], [31, 29], [29, 32], [33, 29, 0, 1, 2, 3, 4, 5, 6, 7, 8, 9, 10, 11, 12, 13, 14, 15, 16, 17, 18, 19, 20, 21, 22, 23, 24, 25, 26, 27, 28, 29, 30, 31, 32, 33]] 197 () mixedD rfl (by kernel_rfl) (fun _ => rfl) hI0w ?_ ?_
  · refine ⟨?_, ?_, ?_, ?_, ?_, ?_, ?_, ?_, ?_, ?_, ?_, ?_, ?_, ?_, ?_, ?_, ?_, ?_, ?_, ?_, ?_, ?_, ?_, ?_, ?_, ?_, ?_, ?_, ?_, ?_, ?_, ?_, ?_, ?_, ?_, rfl⟩
    all_goals intro L γ W ev hL hd hW hc hf hg he h0
    · have e11 : ev (.tmp 11) = .nilIface := h0 11 rfl
      have hcc := hc
      clear he h0 hc hf hg
      exact .inl ⟨rfl, .inl ⟨_, W, (by go_simp <;> rfl), .still (hW) rfl⟩⟩
    · have e163 : ev (.tmp 163) = .nilIface := he 0 (by decide) _ 163 rfl rfl
      have hcc := hc
      clear he h0 hc hf hg
      exact .inl ⟨rfl, .inl ⟨_, W, (by go_simp <;> rfl), .still (hW) rfl⟩⟩
    · have e164 : ev (.tmp 164) = .bool true := he 1 (by decide) _ 164 rfl rfl
      have hcc := hc
      clear he h0 hc hf hg
      exact .inl ⟨rfl, .inl ⟨_, W, (by go_simp <;> rfl), .still (hW) rfl⟩⟩
    · have e13 : ev (.tmp 13) = .nilIface := h0 13 rfl
      have hcc := hc
      clear he h0 hc hf hg
      exact .inl ⟨rfl, .inl ⟨_, W, (by go_simp <;> rfl), .still (hW) rfl⟩⟩
    · have e166 : ev (.tmp 166) = .nilIface := he 3 (by decide) _ 166 rfl rfl
      have hcc := hc
      clear he h0 hc hf hg
      exact .inl ⟨rfl, .inl ⟨_, W, (by go_simp <;> rfl), .still (hW) rfl⟩⟩
    · have e165 : ev (.tmp 165) = .bool true := he 2 (by decide) _ 165 rfl rfl
      have e167 : ev (.tmp 167) = .bool true := he 4 (by decide) _ 167 rfl rfl
      have hcc := hc
      clear he h0 hc hf hg
      exact .inl ⟨rfl, .inl ⟨_, W, (by go_simp <;> rfl), .still (hW) rfl⟩⟩
    · have e168 : ev (.tmp 168) = .bool true := he 5 (by decide) _ 168 rfl rfl
      have hcc := hc
      clear he h0 hc hf hg
      exact .inl ⟨rfl, .inl ⟨_, W, (by go_simp <;> rfl), .still (hW) rfl⟩⟩
    · have e20 : ev (.tmp 20) = .pointer (some ⟨B20, 0, none⟩) := h0 20 rfl
      clear he h0 hc hg
      have hlv := run_loadVar_row (P := Tryz.prog) W B20 33 33 (dAbc.map byteV).toArray (0, 0) _ ((hW.block _ (blk_lt HX20.out)).trans HX20.out) dig_und rfl h2b
      refine .inl ⟨rfl, .inl ⟨_, W, ?_, .still (hW) rfl⟩⟩
      unfold execOp
      simp only [e20, Instr.loadAt, Instr.sureAddr, Sem.run_bind, Sem.run_pure, Result.andThen_ok, hlv]
      try rfl
    · have e21 : ev (.tmp 21) = .pointer (some ⟨B21, 0, none⟩) := h0 21 rfl
      clear he h0 hc hg
      have hlv := run_loadVar_row (P := Tryz.prog) W B21 33 33 (dAbc.map byteV).toArray (0, 0) _ ((hW.block _ (blk_lt HX21.out)).trans HX21.out) dig_und rfl h2b
      refine .inl ⟨rfl, .inl ⟨_, W, ?_, .still (hW) rfl⟩⟩
      unfold execOp
      simp only [e21, Instr.loadAt, Instr.sureAddr, Sem.run_bind, Sem.run_pure, Result.andThen_ok, hlv]
      try rfl
    · have e170 : ev (.tmp 170) = .agg (dAbc.map byteV).toArray := he 7 (by decide) _ 170 rfl rfl
      have e171 : ev (.tmp 171) = .agg (dAbc.map byteV).toArray := he 8 (by decide) _ 171 rfl rfl
      clear he h0 hc hg
      have hq := dig_in W (d := dAbc) (e := dAbc) rfl rfl
      rw [show (dAbc == dAbc) = true from by simp] at hq
      refine .inl ⟨rfl, .inl ⟨_, W, (by go_simp <;> rfl), .still (hW) rfl⟩⟩
    · have e169 : ev (.tmp 169) = .bool true := he 6 (by decide) _ 169 rfl rfl
      have e172 : ev (.tmp 172) = .bool true := he 9 (by decide) _ 172 rfl rfl
      have hcc := hc
      clear he h0 hc hf hg
      exact .inl ⟨rfl, .inl ⟨_, W, (by go_simp <;> rfl), .still (hW) rfl⟩⟩
    · have e173 : ev (.tmp 173) = .bool true := he 10 (by decide) _ 173 rfl rfl
      have hcc := hc
      clear he h0 hc hf hg
      exact .inl ⟨rfl, .inl ⟨_, W, (by go_simp <;> rfl), .still (hW) rfl⟩⟩
    · have e20 : ev (.tmp 20) = .pointer (some ⟨B20, 0, none⟩) := h0 20 rfl
      clear he h0 hc hg
      have hlv := run_loadVar_row (P := Tryz.prog) W B20 33 33 (dAbc.map byteV).toArray (0, 0) _ ((hW.block _ (blk_lt HX20.out)).trans HX20.out) dig_und rfl h2b
      refine .inl ⟨rfl, .inl ⟨_, W, ?_, .still (hW) rfl⟩⟩
      unfold execOp
      simp only [e20, Instr.loadAt, Instr.sureAddr, Sem.run_bind, Sem.run_pure, Result.andThen_ok, hlv]
      try rfl
    · have hcc := hc
      clear he h0 hc hg
      have hbw := HS23.out.toB.trans (hW.mono HS23.out.toB.size)
      refine .inl ⟨rfl, .inr (.inr ⟨13, #[.int .i64 32, .string ⟨#[97, 98, 99]⟩], W, (by have hff := hf 13; clear hf; go_simp <;> rfl), ?_⟩)⟩
      refine (refSum_any 32 ⟨#[97, 98, 99]⟩ W (HRR.out.belowR2 hbw) (HBR.out.belowB hbw) (by decide)).mono ?_
      rintro e w' ⟨rfl, hb⟩
      exact ⟨_, rfl, .still (hW.trans (hb.mono hW.size)) abc_val⟩
    · have e175 : ev (.tmp 175) = .agg (dAbc.map byteV).toArray := he 12 (by decide) _ 175 rfl rfl
      have e176 : ev (.tmp 176) = .agg (dAbc.map byteV).toArray := he 13 (by decide) _ 176 rfl rfl
      clear he h0 hc hg
      have hq := dig_in W (d := dAbc) (e := dAbc) rfl rfl
      rw [show (dAbc == dAbc) = true from by simp] at hq
      refine .inl ⟨rfl, .inl ⟨_, W, (by go_simp <;> rfl), .still (hW) rfl⟩⟩
    · have e174 : ev (.tmp 174) = .bool true := he 11 (by decide) _ 174 rfl rfl
      have e177 : ev (.tmp 177) = .bool true := he 14 (by decide) _ 177 rfl rfl
      have hcc := hc
      clear he h0 hc hf hg
      exact .inl ⟨rfl, .inl ⟨_, W, (by go_simp <;> rfl), .still (hW) rfl⟩⟩
    · have e178 : ev (.tmp 178) = .bool true := he 15 (by decide) _ 178 rfl rfl
      have hcc := hc
      clear he h0 hc hf hg
      exact .inl ⟨rfl, .inl ⟨_, W, (by go_simp <;> rfl), .still (hW) rfl⟩⟩
    · have e7 : ev (.tmp 7) = .pointer (some ⟨a, 0, none⟩) := h0 7 rfl
      have hcc := hc
      clear he h0 hc hf hg
      exact .inl ⟨rfl, .inl ⟨_, W, (by go_simp <;> rfl), .still (hW) rfl⟩⟩
    · have e180 : ev (.tmp 180) = .pointer (some ⟨a, 0, none⟩) := he 17 (by decide) _ 180 rfl rfl
      have hcc := hc
      clear he h0 hc hg
      refine .inl ⟨rfl, .inr (.inr ⟨47, #[.pointer (some ⟨a, 0, none⟩)], W, (by have hff := hf 47; clear hf; go_simp <;> rfl), ?_⟩)⟩
      refine (HUS.out W hW).mono ?_
      rintro e w' ⟨rfl, hb⟩
      exact ⟨_, rfl, .still (hW.trans (hb.mono hW.size)) rfl⟩
    · have e181 : ev (.tmp 181) = .int .i64 3 := he 18 (by decide) _ 181 rfl rfl
      have hcc := hc
      clear he h0 hc hf hg
      exact .inl ⟨rfl, .inl ⟨_, W, (by go_simp <;> rfl), .still (hW) rfl⟩⟩
    · have e179 : ev (.tmp 179) = .bool true := he 16 (by decide) _ 179 rfl rfl
      have e182 : ev (.tmp 182) = .bool true := he 19 (by decide) _ 182 rfl rfl
      have hcc := hc
      clear he h0 hc hf hg
      exact .inl ⟨rfl, .inl ⟨_, W, (by go_simp <;> rfl), .still (hW) rfl⟩⟩
    · have e183 : ev (.tmp 183) = .bool true := he 20 (by decide) _ 183 rfl rfl
      have hcc := hc
      clear he h0 hc hf hg
      exact .inl ⟨rfl, .inl ⟨_, W, (by go_simp <;> rfl), .still (hW) rfl⟩⟩
    · have e15 : ev (.tmp 15) = .iface 76 (.int .i64 28) := h0 15 rfl
      have hcc := hc
      clear he h0 hc hf hg
      exact .inl ⟨rfl, .inl ⟨_, W, (by go_simp <;> rfl), .still (hW) rfl⟩⟩
    · have e185 : ev (.tmp 185) = .iface 76 (.int .i64 28) := he 22 (by decide) _ 185 rfl rfl
      have hcc := hc
      clear he h0 hc hg
      have hbw := HS23.out.toB.trans (hW.mono HS23.out.toB.size)
      refine .inl ⟨rfl, .inr (.inr ⟨11, #[.iface 76 (.int .i64 28), .int .i64 28], W, (by have hff := hf 11; clear hf; go_simp <;> rfl), ?_⟩)⟩
      refine (HPL.out 28 ⟨by decide, by decide⟩ W hbw).mono ?_
      rintro e w' ⟨rfl, hb⟩
      exact ⟨_, rfl, .still (hW.trans (hb.mono hW.size)) rfl⟩
    · have e184 : ev (.tmp 184) = .bool true := he 21 (by decide) _ 184 rfl rfl
      have e186 : ev (.tmp 186) = .bool true := he 23 (by decide) _ 186 rfl rfl
      have hcc := hc
      clear he h0 hc hf hg
      exact .inl ⟨rfl, .inl ⟨_, W, (by go_simp <;> rfl), .still (hW) rfl⟩⟩
    · have e187 : ev (.tmp 187) = .bool true := he 24 (by decide) _ 187 rfl rfl
      have hcc := hc
      clear he h0 hc hf hg
      exact .inl ⟨rfl, .inl ⟨_, W, (by go_simp <;> rfl), .still (hW) rfl⟩⟩
    · have e18 : ev (.tmp 18) = .nilIface := h0 18 rfl
      have hcc := hc
      clear he h0 hc hf hg
      exact .inl ⟨rfl, .inl ⟨_, W, (by go_simp <;> rfl), .still (hW) rfl⟩⟩
    · have e189 : ev (.tmp 189) = .nilIface := he 26 (by decide) _ 189 rfl rfl
      have hcc := hc
      clear he h0 hc hf hg
      exact .inl ⟨rfl, .inl ⟨_, W, (by go_simp <;> rfl), .still (hW) rfl⟩⟩
    · have e188 : ev (.tmp 188) = .bool true := he 25 (by decide) _ 188 rfl rfl
      have e190 : ev (.tmp 190) = .bool true := he 27 (by decide) _ 190 rfl rfl
      have hcc := hc
      clear he h0 hc hf hg
      exact .inl ⟨rfl, .inl ⟨_, W, (by go_simp <;> rfl), .still (hW) rfl⟩⟩
    · have e191 : ev (.tmp 191) = .bool true := he 28 (by decide) _ 191 rfl rfl
      have hcc := hc
      clear he h0 hc hf hg
      exact .inl ⟨rfl, .inl ⟨_, W, (by go_simp <;> rfl), .still (hW) rfl⟩⟩
    · have e22 : ev (.tmp 22) = .slice vp 0 vc := h0 22 rfl
      have hcc := hc
      clear he h0 hc hf hg
      exact .inl ⟨rfl, .inl ⟨_, W, (by go_simp <;> rfl), .still (hW) rfl⟩⟩
    · have e193 : ev (.tmp 193) = .slice vp 0 vc := he 30 (by decide) _ 193 rfl rfl
      have hcc := hc
      clear he h0 hc hf hg
      exact .inl ⟨rfl, .inl ⟨_, W, (by go_simp <;> rfl), .still (hW) rfl⟩⟩
    · have e194 : ev (.tmp 194) = .int .i64 0 := he 31 (by decide) _ 194 rfl rfl
      have hcc := hc
      clear he h0 hc hf hg
      exact .inl ⟨rfl, .inl ⟨_, W, (by go_simp <;> rfl), .still (hW) rfl⟩⟩
    · have e192 : ev (.tmp 192) = .bool true := he 29 (by decide) _ 192 rfl rfl
      have e195 : ev (.tmp 195) = .bool true := he 32 (by decide) _ 195 rfl rfl
      have hcc := hc
      clear he h0 hc hf hg
      exact .inl ⟨rfl, .inl ⟨_, W, (by go_simp <;> rfl), .still (hW) rfl⟩⟩
    · have e196 : ev (.tmp 196) = .bool true := he 33 (by decide) _ 196 rfl rfl
      have hcc := hc
      clear he h0 hc hf hg
      exact .inl ⟨rfl, .inl ⟨_, W, (by go_simp <;> rfl), .still (hW) rfl⟩⟩
  intro γ L W hL hW
  have HBF := Lib.hid (HS23.out.toB.trans (hW.mono HS23.out.toB.size))
  clear hL hW
  simp only [putAll, Act.put, List.setIfInBounds_toArray, List.set_cons_succ, List.set_cons_zero]
  go_wp2_with fail
  go_ret
  exact ⟨rfl, HBF.out⟩
end Go.Proofs.YtecgikanophonaaGreatDoor
/- BlobsKnown, walked. -/
namespace Go.Proofs.YtecgikanophonaaGreatDoor
open Go Go.RowKit
set_option maxRecDepth 100000 in
theorem blobsKnown_any (w : World) (hG : ErrT w) (hT : RoundsT w) (hR : RoundsR w) (hB : BeginR w) :
    Calls Tryz.prog 4 #[] w fun e w' => e = .returned (.bool true) ∧ Below w.heap.size w w' := by
  have HG := Lib.hid hG
  have HTT := Lib.hid hT
  have HRR := Lib.hid hR
  have HBR := Lib.hid hB
  clear hG hT hR hB
  go_enter Tryz.func4, Tryz.ntmps4
  go_wp2_with fail
  refine (shown_any w HG.out HTT.out HRR.out HBR.out).mono ?_
  rintro e w1 ⟨rfl, hb⟩
  have HB1 := Lib.hid hb
  clear hb
  go_wp2_with fail
  refine (fated_any w1 (HG.out.below HB1.out HG.out.2) (HTT.out.belowR HB1.out) (HRR.out.belowR2 HB1.out) (HBR.out.belowB HB1.out)).mono ?_
  rintro e w2 ⟨rfl, hb⟩
  have HB2 : Hid (Below w.heap.size w w2) := Lib.hid (HB1.out.trans (hb.mono HB1.out.size))
  clear hb HB1
  go_wp2_with fail
  refine (clashes_any w2 (HG.out.below HB2.out HG.out.2) (HTT.out.belowR HB2.out)).mono ?_
  rintro e w3 ⟨rfl, hb⟩
  have HB3 : Hid (Below w.heap.size w w3) := Lib.hid (HB2.out.trans (hb.mono HB2.out.size))
  clear hb HB2
  go_wp2_with fail
  go_ret
  exact ⟨rfl, HB3.out⟩
end Go.Proofs.YtecgikanophonaaGreatDoor
