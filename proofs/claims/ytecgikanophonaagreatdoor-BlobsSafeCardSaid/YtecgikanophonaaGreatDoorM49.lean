/- Texts of the seat, one behind the other: BlobN, Book, BookA, BookN, BookH, CopyI, SafeS, BSafeW. -/
import Derived.Test.YtecgikanophonaaGreatDoorM43
import Derived.Test.YtecgikanophonaaGreatDoorM47
import Derived.Test.YtecgikanophonaaGreatDoorDigR
import Derived.Test.YtecgikanophonaaGreatDoorM32
import Derived.Test.YtecgikanophonaaGreatDoorM42
import Derived.Test.YtecgikanophonaaGreatDoorSmall
/- Contract of blobs' List. -/
namespace Go.Proofs.YtecgikanophonaaGreatDoor
open Go Go.RowKit Go.Sort
/-- A row of digests of the call's own. -/
abbrev OwnD (base : Nat) (l : List Dg) (v : Value) (w : World) : Prop := OwnG 33 32 clD base l v w
theorem OwnD.below {base : Nat} {l : List Dg} {v : Value} {w w' : World} (h : OwnD base l v w) (hb : Below w.heap.size w w') : OwnD base l v w' := row_same h (fun b hv => hb.block b (row_blk h hv).2.1)
theorem OwnD.row {base K : Nat} {l : List Dg} {v : Value} {w : World} (h : OwnD base l v w) (hl : l.length = K) : w.ownsRow base 33 32 v K (flatG clD l) := hl ▸ h
theorem sortL_nil : sortL [] = [] := by unfold sortL; exact List.mergeSort_nil
/-- How List ends. -/
def ListPost (w1 : World) (m : DM) (x : Int) (e : Ending) (w' : World) : Prop :=
  ∃ v, e = .returned (.tuple #[v, errE (if m.off then 27 else 0)]) ∧ OwnD w1.heap.size (sortL (listM m x)) v w' ∧ Below w1.heap.size w1 w'
theorem listM_off {m : DM} (x : Int) (h : m.off = true) : listM m x = [] := by
  unfold listM DM.lists
  rw [if_pos h]
  rfl
set_option maxHeartbeats 12800000 in
set_option maxRecDepth 100000 in
theorem listB_any {w w1 : World} {S P : Nat → Prop} {sb a n : Nat} {x : Int} {m : DM} (h : Sto w S P sb a x w1 n m) (hn : n ≤ 1000000000) (hsh : ∀ s ∈ m.lists ⟨blobHead.toArray⟩, s.size ≤ 200) :
    Calls Tryz.prog 45 #[.pointer (some ⟨sb, 0, none⟩)] w1 (ListPost w1 m x) := by
  obtain ⟨i0, hi, hz0, hz1, hz2⟩ := dig_parts
  have HS1 := Lib.hid h
  have hlN : (m.lists ⟨blobHead.toArray⟩).length ≤ n := by
    unfold DM.lists
    split
    · exact Nat.zero_le _
    · rw [List.length_map]
      exact Nat.le_trans (List.length_filter_le _ _) h.st.ok.nowN
  have hls := st_list h.st ⟨#[98, 108, 111, 98, 115, 47]⟩ (by omega)
  have hlq : m.lists ⟨blobHead.toArray⟩ = m.lists ⟨#[98, 108, 111, 98, 115, 47]⟩ := rfl
  rw [← hlq] at hls
  have hLM : listM m x = ((m.lists ⟨blobHead.toArray⟩).filter fun n => (rightM m x n).isSome).map digOf := rfl
  have hbox : w1.cell? ⟨sb, 0, none⟩ = some (.pointer (some ⟨a, 0, none⟩)) := by rw [cell_of_heapN h.box]; rfl
  obtain ⟨L, hL⟩ : ∃ L, m.lists ⟨blobHead.toArray⟩ = L := ⟨_, rfl⟩
  rw [hL] at hls hlN hsh hLM
  have HLM := Lib.hid hLM
  have HSH := Lib.hid hsh
  obtain ⟨N, hN⟩ : ∃ N, L.length = N := ⟨_, rfl⟩
  have HN := Lib.hid hN
  rw [hN] at hlN
  have HNN : Hid (N ≤ n ∧ n ≤ 1000000000) := Lib.hid ⟨hlN, hn⟩
  clear h hsh hlN hL hN hn hlq hLM
  unfold ListPost
  cases hoff : m.off with
  | true =>
    rw [hoff] at hls
    have HOFF := Lib.hid hoff
    clear hoff
    have hlsw : Calls Tryz.prog 25 #[.pointer (some ⟨a, 0, none⟩), .string ⟨#[98, 108, 111, 98, 115, 47]⟩] w1 fun e w' => ∃ v, e = .returned (.tuple #[v, .iface 76 (.int .i64 27)]) ∧ OwnTexts w1.heap.size w' v L ∧ Below w1.heap.size w1 w' := hls
    clear hls
    go_enter Tryz.func45, Tryz.ntmps45
    go_wp2_with fail
    refine hlsw.mono ?_
    rintro e w2 ⟨v, rfl, -, hb2⟩
    have HB2 := Lib.hid hb2
    clear hb2 hlsw hbox
    go_wp2_with fail
    go_ret2
    refine ⟨_, rfl, ?_, HB2.out⟩
    rw [listM_off x HOFF.out, sortL_nil]
    exact ⟨rfl, .inl ⟨rfl, rfl⟩⟩
  | false =>
    rw [hoff] at hls
    clear hoff
    have hlsw : Calls Tryz.prog 25 #[.pointer (some ⟨a, 0, none⟩), .string ⟨#[98, 108, 111, 98, 115, 47]⟩] w1 fun e w' => ∃ v, e = .returned (.tuple #[v, .nilIface]) ∧ OwnTexts w1.heap.size w' v L ∧ Below w1.heap.size w1 w' := hls
    clear hls
    go_enter Tryz.func45, Tryz.ntmps45
    go_wp2_with fail
    refine hlsw.mono ?_
    rintro e w2 ⟨v, rfl, hv, hb2⟩
    obtain ⟨vp, vc, rfl⟩ := hv.rd.len
    rw [HN.out] at hv ⊢
    have HV2 := Lib.hid hv.rd
    have HB2 := Lib.hid hb2
    have HS2 := Lib.hid (HS1.out.bel hb2)
    have hNi : (N : Int) ≤ 1000000000 := by have := HNN.out; omega
    clear hb2 hlsw hv HS1 hbox
    go_wp2_with fail
    go_loopw [6, 26] (fun v iv wr => ∃ (k K : Nat), (k : Int) ≤ N ∧ (K : Int) ≤ k ∧ iv = .int .i64 k ∧ (∃ vp vc, v = .slice vp K vc) ∧ Hid ((((L.take k).filter fun s => (rightM m x s).isSome).map digOf).length = K) ∧ Hid (OwnD w2.heap.size (((L.take k).filter fun s => (rightM m x s).isSome).map digOf) v wr) ∧ Hid (Below w2.heap.size w2 wr)) (fun _ iv _ => N - (intOf iv).toNat)
    case atStart => exact ⟨0, 0, by omega, by omega, rfl, ⟨_, _, rfl⟩, Lib.hid rfl, Lib.hid ⟨rfl, .inl ⟨rfl, rfl⟩⟩, Lib.hid (Below.refl _ _)⟩
    case round =>
      obtain ⟨k, K, hk, hKk, rfl, ⟨up, uc, rfl⟩, HK, HR, HB⟩ := hrel
      by_cases hlt : (k : Int) < N
      · have hkl : k < L.length := by rw [HN.out]; omega
        obtain ⟨s, hs⟩ : ∃ s, L[k]? = some s := ⟨_, List.getElem?_eq_getElem hkl⟩
        obtain ⟨vp', vc', he, hv⟩ := HV2.out.below HB.out
        obtain ⟨vb, vo, hvp, hvl, hvc⟩ := hv k s hs
        have hpe : vp = some ⟨vb, vo, none⟩ := by cases he; exact hvp
        subst hpe
        have hss := HSH.out s (List.mem_of_getElem? hs)
        have htk : L.take (k + 1) = L.take k ++ [s] := by rw [List.take_add_one, hs]; rfl
        have HTK := Lib.hid htk
        obtain ⟨l, hl⟩ : ∃ l, ((L.take k).filter fun s => (rightM m x s).isSome).map digOf = l := ⟨_, rfl⟩
        have HL := Lib.hid hl
        rw [hl] at HK HR
        have hss3 : s.size ≤ 140737488355328 := by omega
        have hnm := fun W => named_any s hss3 W
        have hdl : ((namedM s).getD zeroD).length = 32 := named_len s
        obtain ⟨D, hD⟩ : ∃ D, (namedM s).getD zeroD = D := ⟨_, rfl⟩
        have HDO : Hid (∀ h : D.length = 32, digOf s = ⟨D, h⟩) := Lib.hid (fun h => Subtype.ext hD)
        unfold namedV at hnm
        rw [hD] at hdl hnm
        have HDL := Lib.hid hdl
        obtain ⟨ob, hob⟩ : ∃ b, (namedM s).isSome = b := ⟨_, rfl⟩
        rw [hob] at hnm
        unfold digV at hnm
        have HNM := Lib.hid hnm
        clear hs he hv hvp hvl htk hkl hl hnm hdl hD hob hss
        have HS4 := Lib.hid (HS2.out.bel HB.out)
        go_wp2_with fail
        refine (st_right HS4.out s hss3).mono ?_
        rintro e w5 ⟨⟨t, rfl, -⟩, hb5⟩
        have HB5 : Hid (Below w2.heap.size w2 w5) := Lib.hid (HB.out.trans (hb5.mono HB.out.size))
        have HR5 := Lib.hid (HR.out.below hb5)
        clear hb5 hvc
        cases hrt : rightM m x s with
        | none =>
          have hf : [s].filter (fun s => (rightM m x s).isSome) = [] := by rw [List.filter_cons, hrt]; rfl
          have HF := Lib.hid hf
          clear hf hrt
          go_wp2_with fail
          have he : ((L.take (k + 1)).filter fun s => (rightM m x s).isSome).map digOf = l := by rw [HTK.out, List.filter_append, HF.out, List.append_nil]; exact HL.out
          refine ⟨⟨k + 1, K, by omega, by omega, by rw [Int.natCast_add]; rfl, ⟨_, _, rfl⟩, Lib.hid ?_, Lib.hid ?_, HB5⟩, by simp [intOf]; omega⟩
          · rw [he]; exact HK.out
          · rw [he]; exact HR5.out
        | some u =>
          have hf : [s].filter (fun s => (rightM m x s).isSome) = [s] := by rw [List.filter_cons, hrt]; rfl
          have HF := Lib.hid hf
          have hdl32 := HDL.out
          have hfd := fold_dig HDL.out
          have hI := dig_info HDL.out
          have hI2 := dig_info2 HDL.out
          have hd1 := dig_one D
          have hdz := dig_size HDL.out
          have hU := dig_und
          have hDo : ∀ u ∈ D.map byteV, u.oneCell' = true := fun u hu => by obtain ⟨x, _, rfl⟩ := List.mem_map.1 hu; rfl
          clear hf hrt
          go_wp2_with (first | (go_at_call 77; refine (HNM.out _).mono ?_; rintro e w6 ⟨rfl, hb6⟩; have HB6 : Hid (Below w2.heap.size w2 w6) := Lib.hid (HB5.out.trans (hb6.mono HB5.out.size)); have HR6 := Lib.hid (HR5.out.below hb6); clear hb6) | (refine wpList_store_new rfl _ _ _ rfl _ (D.map byteV).toArray _ rfl rfl rfl hI2 hdz hd1 ?_; (obtain ⟨W5, hW5⟩ : ∃ W, w6.alloc (.cells (D.map byteV).toArray 33) = W := ⟨_, rfl⟩; have hb7 : Below w6.heap.size w6 W5 := (by rw [← hW5]; exact (Below.refl _ _).alloc (Nat.le_refl _) _); have hx5 : W5.heap[w6.heap.size]? = some (.cells (D.map byteV).toArray 33 (0, 0)) := (by rw [← hW5]; exact heap_new _ _); have HB7 : Hid (Below w2.heap.size w2 W5) := Lib.hid (HB6.out.trans (hb7.mono HB6.out.size)); have HR7 := Lib.hid (HR6.out.below hb7); have HRG5 := Lib.hid (dig_range hx5); rw [hW5]; clear hW5 hb7 hx5)) | refine wpList_load_mid rfl _ _ rfl w6.heap.size 0 rfl (D.map byteV) _ HRG5.out hU rfl hI ?_ | (at_builtin; go_must (refine wpList_app_to rfl _ _ 31 rfl w2.heap.size 33 i0 (.agg z32) 32 32 Tryz.underlying31 hi hz0 hz1 hz2 rfl (by decide) (.slice up K uc) K _ rfl ((HR7.out.below ((Below.refl W5.heap.size W5).alloc (Nat.le_refl _) (.cells (D.map byteV).toArray 33))).row HK.out) ⟨W5.heap.size, 0, none⟩ 1 1 (D.map byteV) rfl (by rw [List.length_map, hdl32]) (newDg W5 D) hDo (by decide) (by unfold maxLen; omega) (by omega) (Nat.le_trans HB7.out.size (by rw [World.size_alloc]; omega)) ?_); intro v6 W6 ho6 hl6; have HO6 := Lib.hid ho6; have HL6 := Lib.hid hl6; (obtain ⟨p6, c6, rfl⟩ := row_slice ho6); clear ho6 hl6))
          have he : ((L.take (k + 1)).filter fun s => (rightM m x s).isSome).map digOf = l ++ [⟨D, hdl32⟩] := by rw [HTK.out, List.filter_append, HF.out, List.map_append, HL.out, ← HDO.out]; rfl
          have hb9 : Below w2.heap.size w2 W6 := (HB7.out.alloc (by have := HB7.out.size; omega) _).trans (app_below ((HR7.out.below ((Below.refl W5.heap.size W5).alloc (Nat.le_refl _) (.cells (D.map byteV).toArray 33))).row HK.out) HL6.out (Nat.le_trans HB7.out.size (by rw [World.size_alloc]; omega)))
          refine ⟨⟨k + 1, K + 1, by omega, by omega, by rw [Int.natCast_add]; rfl, ⟨_, _, rfl⟩, Lib.hid ?_, Lib.hid ?_, Lib.hid hb9⟩, by simp [intOf]; omega⟩
          · rw [he, List.length_append, HK.out]; rfl
          · rw [he]
            exact OwnG.app (by rw [HK.out]; exact HO6.out)
      · obtain rfl : k = N := by omega
        have hall : ((L.take k).filter fun s => (rightM m x s).isSome).map digOf = listM m x := by rw [List.take_of_length_le (by rw [HN.out]; exact Nat.le_refl _)]; exact HLM.out.symm
        rw [hall] at HK HR
        have hsr := sort_row HR.out HB.out.size HK.out (by have := HNN.out; omega)
        go_wp2_with fail
        refine hsr.mono ?_
        rintro e w9 ⟨rfl, ho, hb⟩
        have HO := Lib.hid ho
        have HB9 := Lib.hid hb
        clear ho hb hsr
        go_wp2_with fail
        go_ret2
        exact ⟨_, rfl, own_base HO.out HB2.out.size, HB2.out.trans ((HB.out.trans HB9.out).mono HB2.out.size)⟩
end Go.Proofs.YtecgikanophonaaGreatDoor
/- What is known of digests, as it lies in memory: a struct of four rows. -/
namespace Go.Proofs.YtecgikanophonaaGreatDoor
open Go Go.RowKit
def boolVs (l : List Bool) : List Value := l.map Value.bool
structure BookR (base bk : Nat) (dv mv gv pv : Value) (W : World) (D : List Dg) (M G : List Bool) (T : List ByteArray) : Prop where
  bx : W.heap[bk]? = some (.cells #[dv, mv, gv, pv] 49 (0, 0))
  bb : base ≤ bk
  d : W.ownsRow base 33 32 dv D.length (flatG clD D)
  m : W.ownsRow base 4 1 mv M.length (boolVs M)
  g : W.ownsRow base 4 1 gv G.length (boolVs G)
  p : W.ownsRow base 9 1 pv T.length (T.map strV)
  mg : ∀ k, mv.ownBlock = some k → gv.ownBlock ≠ some k
theorem _root_.Go.RowKit.Below.off2 {W W1 W2 : World} {S : Nat → Prop} (h : Below W.heap.size W W1) (k : Below W1.heap.size W1 W2) : Off S W W2 := ⟨k.os.trans h.os, k.tape.trans h.tape, k.output.trans h.output, Nat.le_trans h.size k.size, fun i hi _ => (k.block i (Nat.lt_of_lt_of_le hi h.size)).trans (h.block i hi)⟩
/-- The book's blocks. -/
def BkS (bk : Nat) (dv mv gv pv : Value) (b : Nat) : Prop := b = bk ∨ dv.ownBlock = some b ∨ mv.ownBlock = some b ∨ gv.ownBlock = some b ∨ pv.ownBlock = some b
section
variable {base bk : Nat} {dv mv gv pv : Value} {W W' : World} {D : List Dg} {M G : List Bool} {T : List ByteArray}
theorem BookR.own (h : BookR base bk dv mv gv pv W D M G T) (b : Nat) (hb : BkS bk dv mv gv pv b) : base ≤ b ∧ b < W.heap.size := by
  rcases hb with rfl | hb | hb | hb | hb
  · exact ⟨h.bb, blk_lt h.bx⟩
  · exact ⟨(row_blk h.d hb).1, (row_blk h.d hb).2.1⟩
  · exact ⟨(row_blk h.m hb).1, (row_blk h.m hb).2.1⟩
  · exact ⟨(row_blk h.g hb).1, (row_blk h.g hb).2.1⟩
  · exact ⟨(row_blk h.p hb).1, (row_blk h.p hb).2.1⟩
theorem BookR.same (h : BookR base bk dv mv gv pv W D M G T) (hk : ∀ b, BkS bk dv mv gv pv b → W'.heap[b]? = W.heap[b]?) : BookR base bk dv mv gv pv W' D M G T :=
  ⟨(hk bk (.inl rfl)).trans h.bx, h.bb, row_same h.d (fun b hb => hk b (.inr (.inl hb))), row_same h.m (fun b hb => hk b (.inr (.inr (.inl hb)))), row_same h.g (fun b hb => hk b (.inr (.inr (.inr (.inl hb))))), row_same h.p (fun b hb => hk b (.inr (.inr (.inr (.inr hb))))), h.mg⟩
theorem BookR.bel (h : BookR base bk dv mv gv pv W D M G T) (hb : Below W.heap.size W W') : BookR base bk dv mv gv pv W' D M G T := h.same (fun b hs => hb.block b (h.own b hs).2)
/-- A row stays where another one grows and a cell of the head is set. -/
theorem row_other {e e' : TypeId} {sz n sz' n' i : Nat} {v u z : Value} {xs ys : List Value} (h : W.ownsRow base e sz v n xs) (hu : W.ownsRow base e' sz' u n' ys) (hne : ∀ k, v.ownBlock = some k → u.ownBlock ≠ some k) {o : Obj} (hbk : W.heap[bk]? = some o) (hbt : ∀ cur, o ≠ .cells cur e (0, 0))
    {row : Option Nat} (hg : W.grownBy W' row) (hr : row = none ∨ row = u.ownBlock) : (W'.setCell ⟨bk, i, none⟩ z).ownsRow base e sz v n xs := by
  refine row_same h fun b hb => ?_
  obtain ⟨-, hlt, cur, hc⟩ := row_blk h hb
  have hbb : b ≠ bk := fun e2 => by
    rw [e2, hbk] at hc
    exact hbt _ (Option.some.inj hc)
  rw [Below.heap_setCell _ _ _ _ (show b ≠ (⟨bk, i, none⟩ : Addr).block from hbb)]
  refine hg.block b hlt fun e2 => ?_
  rcases hr with hr | hr
  · rw [hr] at e2; cases e2
  · exact hne b hb (by rw [← hr, ← e2])
theorem type_ne {e e' : TypeId} {sz n sz' n' : Nat} {v u : Value} {xs ys : List Value} (h : W.ownsRow base e sz v n xs) (hu : W.ownsRow base e' sz' u n' ys) (he : e ≠ e') : ∀ k, v.ownBlock = some k → u.ownBlock ≠ some k := fun k h1 h2 => by
  obtain ⟨-, -, c1, hc1⟩ := row_blk h h1
  obtain ⟨-, -, c2, hc2⟩ := row_blk hu h2
  rw [hc1] at hc2
  cases hc2
  exact he rfl
theorem bk_type {cs : Array Value} {e : TypeId} (he : e ≠ 49) : ∀ cur, (Obj.cells cs 49 (0, 0)) ≠ .cells cur e (0, 0) := fun cur h => by cases h; exact he rfl
theorem grow_row {v v' : Value} (hl : (v'.ownBlock = v.ownBlock ∧ W.grownBy W' v.ownBlock) ∨ (v'.ownBlock = some W.heap.size ∧ W.grownBy W' none)) : ∃ row, W.grownBy W' row ∧ (row = none ∨ row = v.ownBlock) ∧ ∀ b, v'.ownBlock = some b → v.ownBlock = some b ∨ W.heap.size = b := by
  rcases hl with ⟨h1, h2⟩ | ⟨h1, h2⟩
  · exact ⟨_, h2, .inr rfl, fun b hb => .inl (h1 ▸ hb)⟩
  · exact ⟨_, h2, .inl rfl, fun b hb => .inr (Option.some.inj (h1.symm.trans hb))⟩
/-- The row that has grown, behind the head's cell. -/
theorem row_head {e : TypeId} {sz n i : Nat} {v z : Value} {xs : List Value} (ho : W'.ownsRow base e sz v n xs) {o : Obj} (hbk : W'.heap[bk]? = some o) (hbt : ∀ cur, o ≠ .cells cur e (0, 0)) : (W'.setCell ⟨bk, i, none⟩ z).ownsRow base e sz v n xs := by
  refine row_same ho fun b hb => ?_
  obtain ⟨-, -, cur, hc⟩ := row_blk ho hb
  exact Below.heap_setCell _ _ _ _ (show b ≠ (⟨bk, i, none⟩ : Addr).block from fun e2 => by
    have e2 : b = bk := e2
    rw [e2, hbk] at hc
    exact hbt _ (Option.some.inj hc))
theorem head_set {cs : Array Value} {i : Nat} {z : Value} (hbk : W'.heap[bk]? = some (.cells cs 49 (0, 0))) : (W'.setCell ⟨bk, i, none⟩ z).heap[bk]? = some (.cells (cs.setIfInBounds i z) 49 (0, 0)) := by
  rw [setCell_blk hbk]
  exact setBlk_heap (blk_lt hbk)
/-- What changes when one row grows and the head's cell is set. -/
theorem grow_off {v z : Value} {i : Nat} {row : Option Nat} (hg : W.grownBy W' row) (hr : row = none ∨ row = v.ownBlock) : Off (fun b => b = bk ∨ v.ownBlock = some b) W (W'.setCell ⟨bk, i, none⟩ z) := by
  refine ⟨hg.os, hg.tape, hg.output, by rw [World.size_setCell]; exact hg.size, fun k hk hn => ?_⟩
  rw [Below.heap_setCell _ _ _ _ (show k ≠ (⟨bk, i, none⟩ : Addr).block from fun e => hn (.inl e))]
  refine hg.block k hk fun e => ?_
  rcases hr with hr | hr
  · rw [hr] at e; cases e
  · exact hn (.inr (by rw [← hr, ← e]))
theorem head_keep {e : TypeId} {sz n : Nat} {v : Value} {xs : List Value} {cs : Array Value} (hv : W.ownsRow base e sz v n xs) (he : e ≠ 49) (hbk : W.heap[bk]? = some (.cells cs 49 (0, 0))) {row : Option Nat} (hg : W.grownBy W' row) (hr : row = none ∨ row = v.ownBlock) : W'.heap[bk]? = some (.cells cs 49 (0, 0)) := by
  refine (hg.block bk (blk_lt hbk) fun e2 => ?_).trans hbk
  rcases hr with hr | hr
  · rw [hr] at e2; cases e2
  · obtain ⟨-, -, cur, hc⟩ := row_blk hv (show v.ownBlock = some bk by rw [← hr, ← e2])
    rw [hbk] at hc
    exact bk_type he _ (Option.some.inj hc)
theorem BookR.appd (h : BookR base bk dv mv gv pv W D M G T) {v' : Value} {x : Dg} (ho : W'.ownsRow base 33 32 v' (D.length + 1) (flatG clD D ++ encD x)) (hl : (v'.ownBlock = dv.ownBlock ∧ W.grownBy W' dv.ownBlock) ∨ (v'.ownBlock = some W.heap.size ∧ W.grownBy W' none)) :
    BookR base bk v' mv gv pv (W'.setCell ⟨bk, 0, none⟩ v') (D ++ [x]) M G T ∧ Off (fun b => b = bk ∨ dv.ownBlock = some b) W (W'.setCell ⟨bk, 0, none⟩ v') ∧ ∀ b, v'.ownBlock = some b → dv.ownBlock = some b ∨ W.heap.size ≤ b := by
  obtain ⟨row, hg, hr, hv⟩ := grow_row hl
  have hbk := head_keep h.d (by decide) h.bx hg hr
  exact ⟨⟨head_set hbk, h.bb, OwnG.app (row_head ho hbk (bk_type (by decide))), row_other h.m h.d (type_ne h.m h.d (by decide)) h.bx (bk_type (by decide)) hg hr, row_other h.g h.d (type_ne h.g h.d (by decide)) h.bx (bk_type (by decide)) hg hr, row_other h.p h.d (type_ne h.p h.d (by decide)) h.bx (bk_type (by decide)) hg hr, h.mg⟩,
    grow_off hg hr, fun b hb => (hv b hb).imp id (fun e => Nat.le_of_eq e)⟩
theorem snoc_map {α : Type} (f : α → Value) (l : List α) (x : α) {e : TypeId} {v : Value} {w : World} (h : w.ownsRow base e 1 v (l.length + 1) (l.map f ++ [f x])) : w.ownsRow base e 1 v (l ++ [x]).length ((l ++ [x]).map f) := by
  rw [List.length_append, List.map_append]
  exact h
theorem BookR.appm (h : BookR base bk dv mv gv pv W D M G T) {v' : Value} {x : Bool} (ho : W'.ownsRow base 4 1 v' (M.length + 1) (boolVs M ++ [.bool x])) (hl : (v'.ownBlock = mv.ownBlock ∧ W.grownBy W' mv.ownBlock) ∨ (v'.ownBlock = some W.heap.size ∧ W.grownBy W' none)) :
    BookR base bk dv v' gv pv (W'.setCell ⟨bk, 1, none⟩ v') D (M ++ [x]) G T ∧ Off (fun b => b = bk ∨ mv.ownBlock = some b) W (W'.setCell ⟨bk, 1, none⟩ v') ∧ ∀ b, v'.ownBlock = some b → mv.ownBlock = some b ∨ W.heap.size ≤ b := by
  obtain ⟨row, hg, hr, hv⟩ := grow_row hl
  have hbk := head_keep h.m (by decide) h.bx hg hr
  refine ⟨⟨head_set hbk, h.bb, row_other h.d h.m (type_ne h.d h.m (by decide)) h.bx (bk_type (by decide)) hg hr, snoc_map Value.bool M x (row_head ho hbk (bk_type (by decide))), row_other h.g h.m (fun k h1 h2 => h.mg k h2 h1) h.bx (bk_type (by decide)) hg hr, row_other h.p h.m (type_ne h.p h.m (by decide)) h.bx (bk_type (by decide)) hg hr, fun k h1 h2 => ?_⟩,
    grow_off hg hr, fun b hb => (hv b hb).imp id (fun e => Nat.le_of_eq e)⟩
  rcases hv k h1 with h3 | h3
  · exact h.mg k h3 h2
  · have := (row_blk h.g h2).2.1; omega
theorem BookR.appg (h : BookR base bk dv mv gv pv W D M G T) {v' : Value} {x : Bool} (ho : W'.ownsRow base 4 1 v' (G.length + 1) (boolVs G ++ [.bool x])) (hl : (v'.ownBlock = gv.ownBlock ∧ W.grownBy W' gv.ownBlock) ∨ (v'.ownBlock = some W.heap.size ∧ W.grownBy W' none)) :
    BookR base bk dv mv v' pv (W'.setCell ⟨bk, 2, none⟩ v') D M (G ++ [x]) T ∧ Off (fun b => b = bk ∨ gv.ownBlock = some b) W (W'.setCell ⟨bk, 2, none⟩ v') ∧ ∀ b, v'.ownBlock = some b → gv.ownBlock = some b ∨ W.heap.size ≤ b := by
  obtain ⟨row, hg, hr, hv⟩ := grow_row hl
  have hbk := head_keep h.g (by decide) h.bx hg hr
  refine ⟨⟨head_set hbk, h.bb, row_other h.d h.g (type_ne h.d h.g (by decide)) h.bx (bk_type (by decide)) hg hr, row_other h.m h.g h.mg h.bx (bk_type (by decide)) hg hr, snoc_map Value.bool G x (row_head ho hbk (bk_type (by decide))), row_other h.p h.g (type_ne h.p h.g (by decide)) h.bx (bk_type (by decide)) hg hr, fun k h1 h2 => ?_⟩,
    grow_off hg hr, fun b hb => (hv b hb).imp id (fun e => Nat.le_of_eq e)⟩
  rcases hv k h2 with h3 | h3
  · exact h.mg k h1 h3
  · have := (row_blk h.m h1).2.1; omega
theorem BookR.appp (h : BookR base bk dv mv gv pv W D M G T) {v' : Value} {x : ByteArray} (ho : W'.ownsRow base 9 1 v' (T.length + 1) (T.map strV ++ [strV x])) (hl : (v'.ownBlock = pv.ownBlock ∧ W.grownBy W' pv.ownBlock) ∨ (v'.ownBlock = some W.heap.size ∧ W.grownBy W' none)) :
    BookR base bk dv mv gv v' (W'.setCell ⟨bk, 3, none⟩ v') D M G (T ++ [x]) ∧ Off (fun b => b = bk ∨ pv.ownBlock = some b) W (W'.setCell ⟨bk, 3, none⟩ v') ∧ ∀ b, v'.ownBlock = some b → pv.ownBlock = some b ∨ W.heap.size ≤ b := by
  obtain ⟨row, hg, hr, hv⟩ := grow_row hl
  have hbk := head_keep h.p (by decide) h.bx hg hr
  exact ⟨⟨head_set hbk, h.bb, row_other h.d h.p (type_ne h.d h.p (by decide)) h.bx (bk_type (by decide)) hg hr, row_other h.m h.p (type_ne h.m h.p (by decide)) h.bx (bk_type (by decide)) hg hr, row_other h.g h.p (type_ne h.g h.p (by decide)) h.bx (bk_type (by decide)) hg hr, snoc_map strV T x (row_head ho hbk (bk_type (by decide))), h.mg⟩,
    grow_off hg hr, fun b hb => (hv b hb).imp id (fun e => Nat.le_of_eq e)⟩
/-- A cell of a row of one-cell elements is set. -/
theorem row_cell {e : TypeId} {n i g cap : Nat} {xs : List Value} {z : Value} (h : W.ownsRow base e 1 (.slice (some ⟨g, 0, none⟩) n cap) n xs) (hi : i < n) : (W.setCell ⟨g, i, none⟩ z).ownsRow base e 1 (.slice (some ⟨g, 0, none⟩) n cap) n (xs.set i z) := by
  refine ⟨by rw [List.length_set]; exact h.1, ?_⟩
  rcases h.2 with ⟨h1, -⟩ | ⟨g', cap', cur, h1, h2, h3, h4, h5, h6, h7⟩
  · cases h1
  · cases h1
    refine .inr ⟨g, cap, cur.setIfInBounds i z, rfl, h2, by rw [setCell_blk h3]; exact setBlk_heap (blk_lt h3), h4, h5, by rw [Array.size_setIfInBounds]; exact h6, ?_⟩
    rw [Array.toList_setIfInBounds, List.take_set, h7]
theorem row_nth {e : TypeId} {n i : Nat} {v z : Value} {xs : List Value} (h : W.ownsRow base e 1 v n xs) (hz : xs[i]? = some z) : ∃ g cap, v = .slice (some ⟨g, 0, none⟩) n cap ∧ g < W.heap.size ∧ W.cell? ⟨g, i, none⟩ = some z ∧ W.frozen? ⟨g, i, none⟩ = false := by
  have hi := (List.getElem?_eq_some_iff.1 hz).1
  have hl := h.1
  rcases h.2 with ⟨-, h0⟩ | ⟨g, cap, cur, h1, h2, h3, h4, h5, h6, h7⟩
  · omega
  · refine ⟨g, cap, h1, blk_lt h3, ?_, frozen_of_row W g i cur e h3⟩
    rw [cell_of_heapN h3, ← Array.getElem?_toList]
    rw [← h7, List.getElem?_take] at hz
    split at hz
    · exact hz
    · cases hz
/-- Two cells are set: what is known of a digest that is in the book. -/
theorem BookR.set (h : BookR base bk dv mv gv pv W D M G T) {gm gg cm cg i K : Nat} {a c : Bool} (hm : mv = .slice (some ⟨gm, 0, none⟩) K cm) (hg : gv = .slice (some ⟨gg, 0, none⟩) K cg) (hM : M.length = K) (hG : G.length = K) (hi : i < K) :
    BookR base bk dv mv gv pv ((W.setCell ⟨gm, i, none⟩ (.bool a)).setCell ⟨gg, i, none⟩ (.bool c)) D (M.set i a) (G.set i c) T ∧ Off (fun b => mv.ownBlock = some b ∨ gv.ownBlock = some b) W ((W.setCell ⟨gm, i, none⟩ (.bool a)).setCell ⟨gg, i, none⟩ (.bool c)) := by
  subst hm hg
  have hm0 := h.m
  have hg0 := h.g
  rw [hM] at hm0
  rw [hG] at hg0
  have hne : gm ≠ gg := fun e => h.mg gm rfl (by rw [e]; rfl)
  have hm1 := row_cell (z := .bool a) hm0 hi
  have hg1 : (W.setCell ⟨gm, i, none⟩ (.bool a)).ownsRow base 4 1 (.slice (some ⟨gg, 0, none⟩) K cg) K (boolVs G) := row_same hg0 fun b hb => Below.heap_setCell _ _ _ _ (fun e => by cases hb; exact hne e.symm)
  have hg2 := row_cell (z := .bool c) hg1 hi
  have hm2 : ((W.setCell ⟨gm, i, none⟩ (.bool a)).setCell ⟨gg, i, none⟩ (.bool c)).ownsRow base 4 1 (.slice (some ⟨gm, 0, none⟩) K cm) K ((boolVs M).set i (.bool a)) := row_same hm1 fun b hb => Below.heap_setCell _ _ _ _ (fun e => by cases hb; exact hne e)
  have hoff : Off (fun b => (Value.slice (some ⟨gm, 0, none⟩) K cm).ownBlock = some b ∨ (Value.slice (some ⟨gg, 0, none⟩) K cg).ownBlock = some b) W ((W.setCell ⟨gm, i, none⟩ (.bool a)).setCell ⟨gg, i, none⟩ (.bool c)) := ⟨rfl, rfl, rfl, by rw [World.size_setCell, World.size_setCell]; exact Nat.le_refl _, fun k _ hn => by
    exact (Below.heap_setCell _ _ _ _ (show k ≠ gg from fun e => hn (.inr (by rw [e]; rfl)))).trans (Below.heap_setCell _ _ _ _ (show k ≠ gm from fun e => hn (.inl (by rw [e]; rfl))))⟩
  have hk : ∀ {e : TypeId} {sz n : Nat} {v : Value} {xs : List Value}, W.ownsRow base e sz v n xs → e ≠ 4 → ((W.setCell ⟨gm, i, none⟩ (.bool a)).setCell ⟨gg, i, none⟩ (.bool c)).ownsRow base e sz v n xs := fun hv he => row_same hv fun b hb => hoff.block b (row_blk hv hb).2.1 (fun hbb => by
    rcases hbb with hbb | hbb
    · exact type_ne hv hm0 he b hb hbb
    · exact type_ne hv hg0 he b hb hbb)
  refine ⟨⟨(hoff.block bk (blk_lt h.bx) (fun hbb => ?_)).trans h.bx, h.bb, hk h.d (by decide), by rw [List.length_set, hM]; unfold boolVs; rw [List.map_set]; exact hm2, by rw [List.length_set, hG]; unfold boolVs; rw [List.map_set]; exact hg2, hk h.p (by decide), h.mg⟩, hoff⟩
  rcases hbb with hbb | hbb
  · obtain ⟨-, -, cur, hc⟩ := row_blk hm0 hbb
    rw [h.bx] at hc
    exact bk_type (by decide) _ (Option.some.inj hc)
  · obtain ⟨-, -, cur, hc⟩ := row_blk hg0 hbb
    rw [h.bx] at hc
    exact bk_type (by decide) _ (Option.some.inj hc)
end
end Go.Proofs.YtecgikanophonaaGreatDoor
/- A drawn region 'x.f = append(x.f, v)': what holds in it. -/
namespace Go.Proofs.YtecgikanophonaaGreatDoor
open Go Go.RowKit
/-- How an append ends. -/
def Grew (v v' : Value) (W W' : World) : Prop := (v'.ownBlock = v.ownBlock ∧ W.grownBy W' v.ownBlock) ∨ (v'.ownBlock = some W.heap.size ∧ W.grownBy W' none)
structure AppW (wr : World) (base bk fld : Nat) (e : TypeId) (sz : Nat) (v : Value) (K : Nat) (xs news : List Value) (sa lb ia ib ic : Nat) (L : Nat → Bool) (γ : Nat × Value) (W : World) : Prop where
  bel : L ib = false → Below wr.heap.size wr W
  blk : L ia = true → L ib = false → W.heap[γ.1]? = some (.cells news.toArray e (0, 0)) ∧ wr.heap.size ≤ γ.1
  app : L ib = true → L ic = false → W.ownsRow base e sz γ.2 (K + 1) (xs ++ news) ∧ ∃ W8, Below wr.heap.size wr W8 ∧ Grew v γ.2 W8 W
  fin : L ic = true → ∃ W9, W9.ownsRow base e sz γ.2 (K + 1) (xs ++ news) ∧ (∃ W8, Below wr.heap.size wr W8 ∧ Grew v γ.2 W8 W9) ∧ W = W9.setCell ⟨bk, fld, none⟩ γ.2
  das : L ia = true → L sa = true
  dbl : L ib = true → L lb = true
  dba : L ib = true → L ia = true
  dcb : L ic = true → L ib = true
section
variable {wr W W' : World} {base bk fld sz K sa lb ia ib ic : Nat} {e : TypeId} {v : Value} {xs news : List Value} {L : Nat → Bool} {γ : Nat × Value}
theorem AppW.start (wr : World) (base bk fld : Nat) (e : TypeId) (sz : Nat) (v : Value) (K : Nat) (xs news : List Value) (sa lb ia ib ic : Nat) (γ : Nat × Value) : AppW wr base bk fld e sz v K xs news sa lb ia ib ic (fun _ => false) γ wr.drew :=
  ⟨fun _ => ⟨rfl, rfl, rfl, Nat.le_refl _, fun _ _ => rfl⟩, fun h => (by cases h), fun h => (by cases h), fun h => (by cases h), fun h => (by cases h), fun h => (by cases h), fun h => (by cases h), fun h => (by cases h)⟩
theorem AppW.low (h : AppW wr base bk fld e sz v K xs news sa lb ia ib ic L γ W) (hl : L sa = false ∨ L lb = false ∨ L ia = false) : L ib = false := by
  cases hx : L ib with
  | false => rfl
  | true =>
    have h1 := h.dba hx
    have h2 := h.das h1
    have h3 := h.dbl hx
    rcases hl with hl | hl | hl <;> simp_all
theorem upd_keep {k j : Nat} (h : L j = true) : updL L k j = true := by unfold updL; rw [h]; rfl
theorem AppW.upd (h : AppW wr base bk fld e sz v K xs news sa lb ia ib ic L γ W) (k : Nat) (h1 : k ≠ ia) (h2 : k ≠ ib) (h3 : k ≠ ic) : AppW wr base bk fld e sz v K xs news sa lb ia ib ic (updL L k) γ W := by
  have e1 : updL L k ia = L ia := updL_ne h1.symm
  have e2 : updL L k ib = L ib := updL_ne h2.symm
  have e3 : updL L k ic = L ic := updL_ne h3.symm
  exact ⟨fun a => h.bel (e2 ▸ a), fun a b => h.blk (e1 ▸ a) (e2 ▸ b), fun a b => h.app (e2 ▸ a) (e3 ▸ b), fun a => h.fin (e3 ▸ a), fun a => upd_keep (h.das (e1 ▸ a)), fun a => upd_keep (h.dbl (e2 ▸ a)), fun a => upd_keep (h.dba (e2 ▸ a)), fun a => upd_keep (h.dcb (e3 ▸ a))⟩
theorem AppW.made (h : AppW wr base bk fld e sz v K xs news sa lb ia ib ic L γ W) (hL : L ia = false) (hs : L sa = true) (h1 : ia ≠ ib) (h2 : ia ≠ ic) : AppW wr base bk fld e sz v K xs news sa lb ia ib ic (updL L ia) (W.heap.size, γ.2) (W.alloc (.cells news.toArray e)) := by
  have hb : L ib = false := h.low (.inr (.inr hL))
  have hc : L ic = false := by
    cases hx : L ic with
    | false => rfl
    | true => have := h.dcb hx; rw [hb] at this; cases this
  have e2 : updL L ia ib = L ib := updL_ne h1.symm
  have e3 : updL L ia ic = L ic := updL_ne h2.symm
  have hbel := h.bel hb
  refine ⟨fun _ => hbel.alloc hbel.size _, fun _ _ => ⟨heap_new _ _, hbel.size⟩, fun a => ?_, fun a => ?_, fun _ => upd_keep hs, fun a => ?_, fun a => ?_, fun a => ?_⟩
  · rw [e2, hb] at a; cases a
  · rw [e3, hc] at a; cases a
  · rw [e2, hb] at a; cases a
  · rw [e2, hb] at a; cases a
  · rw [e3, hc] at a; cases a
theorem AppW.grown (h : AppW wr base bk fld e sz v K xs news sa lb ia ib ic L γ W) (hL : L ib = false) (hl : L lb = true) (ha : L ia = true) (h2 : ib ≠ ic) {v' : Value} (ho : W'.ownsRow base e sz v' (K + 1) (xs ++ news)) (hg : Grew v v' W W') : AppW wr base bk fld e sz v K xs news sa lb ia ib ic (updL L ib) (γ.1, v') W' := by
  have hc : L ic = false := by
    cases hx : L ic with
    | false => rfl
    | true => have := h.dcb hx; rw [hL] at this; cases this
  have e3 : updL L ib ic = L ic := updL_ne h2.symm
  refine ⟨fun a => ?_, fun _ a => ?_, fun _ _ => ⟨ho, W, h.bel hL, hg⟩, fun a => ?_, fun _ => upd_keep (h.das ha), fun _ => upd_keep hl, fun _ => upd_keep ha, fun a => ?_⟩
  · rw [updL_self] at a; cases a
  · rw [updL_self] at a; cases a
  · rw [e3, hc] at a; cases a
  · exact updL_self
theorem AppW.stored (h : AppW wr base bk fld e sz v K xs news sa lb ia ib ic L γ W) (hL : L ic = false) (hb : L ib = true) : AppW wr base bk fld e sz v K xs news sa lb ia ib ic (updL L ic) γ (W.setCell ⟨bk, fld, none⟩ γ.2) := by
  have hbt : updL L ic ib = true := upd_keep hb
  obtain ⟨h1, h2⟩ := h.app hb hL
  refine ⟨fun a => ?_, fun _ a => ?_, fun _ a => ?_, fun _ => ⟨W, h1, h2, rfl⟩, fun _ => upd_keep (h.das (h.dba hb)), fun _ => upd_keep (h.dbl hb), fun _ => upd_keep (h.dba hb), fun _ => hbt⟩
  · rw [hbt] at a; cases a
  · rw [hbt] at a; cases a
  · rw [updL_self] at a; cases a
end
/-- One append, at the operation. -/
theorem exec_app2 {ev : Operand → Value} {o : Oper} {s x : Operand} {t : TypeId} {w w' : World} {v u v' : Value} (ho : o.op = .call { callee := .builtin .append, args := #[s, x], argTypes := #[t, t] }) (hs : ev s = v) (hx : ev x = u)
    (hr : (Builtin.append_ #[t, t] o.type #[v, u]).run Tryz.prog w = .ok v' w') : (execOp ev o).run Tryz.prog w = .ok (.value v') w' := by
  unfold execOp
  simp only [ho, resolve, invoke, builtin, Sem.run_bind, Sem.run_pure, Result.andThen_ok, List.map_toArray, List.map_cons, List.map_nil, hs, hx, hr]
/-- The head's cell, where an append has just ended. -/
theorem grew_keep {base bk : Nat} {e : TypeId} {sz n : Nat} {v v' : Value} {xs : List Value} {cs : Array Value} {wr W8 W : World} (hb : Below wr.heap.size wr W8) (hv : wr.ownsRow base e sz v n xs) (he : e ≠ 49) (hbk : wr.heap[bk]? = some (.cells cs 49 (0, 0))) (hg : Grew v v' W8 W) : W.heap[bk]? = some (.cells cs 49 (0, 0)) := by
  obtain ⟨row, h1, h2, -⟩ := grow_row hg
  exact head_keep (row_same hv (fun b hb2 => hb.block b (row_blk hv hb2).2.1)) he ((hb.block bk (blk_lt hbk)).trans hbk) h1 h2
end Go.Proofs.YtecgikanophonaaGreatDoor
/- book.note, walked. -/
namespace Go.Proofs.YtecgikanophonaaGreatDoor
open Go Go.RowKit
def GrV (w : World) (o : Obj) (b : Nat) (W : World) : Prop := GrA w W ∧ w.heap.size ≤ b ∧ W.heap[b]? = some o
theorem row_dig {W : World} {base n i : Nat} {v : Value} {l : List Dg} {x : Dg} (h : W.ownsRow base 33 32 v n (flatG clD l)) (hn : l.length = n) (hx : l[i]? = some x) : ∃ g cap, v = .slice (some ⟨g, 0, none⟩) n cap ∧ g < W.heap.size ∧ W.rangeAt g (i * 32) (x.1.map byteV) := by
  have ho : OwnG 33 32 clD base l v W := by unfold OwnG; rw [hn]; exact h
  rcases ho.reads clD_size with ⟨rfl, rfl⟩ | ⟨g, cap, cur, h1, -, -, h4, h5⟩
  · cases hx
  · refine ⟨g, cap, by rw [h1, hn], blk_lt h4, fun j u hj => ?_⟩
    have hj32 : j < 32 := by have := (List.getElem?_eq_some_iff.1 hj).1; rw [List.length_map, x.2] at this; exact this
    rw [cell_of_heapN h4, h5 i x hx j hj32]
    show (encD x).toArray[j]? = _
    rw [List.getElem?_toArray]
    exact hj
theorem note_at : ∀ (b : List Ent) (i : Nat) (d : Dg) (a c : Bool) (e : Ent), (∀ j f, j < i → b[j]? = some f → f.dig ≠ d) → b[i]? = some e → e.dig = d → noteM b d a c = b.set i ⟨d, a, c⟩
  | [], _, _, _, _, _, _, h, _ => by cases h
  | f :: r, 0, d, a, c, e, _, h, he => by
    cases h
    unfold noteM
    rw [if_pos he]
    rfl
  | f :: r, i + 1, d, a, c, e, hn, h, he => by
    unfold noteM
    rw [if_neg (hn 0 f (by omega) rfl), note_at r i d a c e (fun j g hj hg => hn (j + 1) g (by omega) hg) h he]
    rfl
theorem note_none : ∀ (b : List Ent) (d : Dg) (a c : Bool), (∀ f ∈ b, f.dig ≠ d) → noteM b d a c = b ++ [⟨d, a, c⟩]
  | [], _, _, _, _ => rfl
  | f :: r, d, a, c, h => by
    unfold noteM
    rw [if_neg (h f List.mem_cons_self), note_none r d a c (fun g hg => h g (List.mem_cons_of_mem _ hg))]
    rfl
theorem set_same {α : Type} : ∀ (l : List α) (i : Nat) (x : α), l[i]? = some x → l.set i x = l
  | [], _, _, h => by cases h
  | y :: l, 0, x, h => by cases h; rfl
  | y :: l, i + 1, x, h => by rw [List.set_cons_succ, set_same l i x h]
theorem newB (w : World) (x : Value) (e : TypeId) : (w.alloc (.cells #[x] e)).heap[w.heap.size]? = some (.cells #[x] e (0, 0)) := heap_new _ _
theorem at0 {w : World} {b : Nat} {x : Value} {e : TypeId} (h : w.heap[b]? = some (.cells #[x] e (0, 0))) : ∀ (j : Nat) (u : Value), [x][j]? = some u → w.cell? ((⟨b, 0, none⟩ : Addr).add j) = some u := fun j u hj => by
  match j, hj with
  | 0, hj =>
    cases hj
    rw [show ((⟨b, 0, none⟩ : Addr).add 0) = ⟨b, 0, none⟩ by simp [Addr.add], cell_of_heapN h]
    rfl
theorem at32 {w : World} {b : Nat} {D : List UInt8} (h : w.heap[b]? = some (.cells (D.map byteV).toArray 33 (0, 0))) : ∀ (j : Nat) (u : Value), (D.map byteV)[j]? = some u → w.cell? ((⟨b, 0, none⟩ : Addr).add j) = some u := fun j u hj => by
  rw [show ((⟨b, 0, none⟩ : Addr).add j) = ⟨b, j, none⟩ by simp [Addr.add]; intro e; exact e.symm, cell_of_heapN h, List.getElem?_toArray]
  exact hj
theorem exec_load {ev : Operand → Value} {o : Oper} {x : Operand} {w : World} {b : Nat} {v : Value} {ty : TypeId} (ho : o.op = .load ty x) (hx : ev x = .pointer (some ⟨b, 0, none⟩)) (hlv : (loadVar ty ⟨b, 0, none⟩).run Tryz.prog w = .ok v w) : (execOp ev o).run Tryz.prog w = .ok (.value v) w := by
  unfold execOp
  simp only [ho, hx, Instr.loadAt, Instr.sureAddr, Sem.run_bind, Sem.run_pure, Result.andThen_ok, hlv]
theorem infoBl : (Tryz.prog.info? 4).map (fun i => (i.size, i.bytes)) = some (1, 1) := by kernel_rfl
theorem zeroBl : (Tryz.prog.info? 4).bind (·.zero) = some (.bool false) := by kernel_rfl
theorem bool_parts : ∃ i, Tryz.prog.info? 4 = some i ∧ i.zero = some (.bool false) ∧ i.size = 1 ∧ i.bytes = 1 := by
  have h1 := infoBl
  have h2 := zeroBl
  cases hi : Tryz.prog.info? 4 with
  | none => rw [hi] at h1; cases h1
  | some i =>
    rw [hi] at h1 h2
    have h3 := Option.some.inj h1
    exact ⟨i, rfl, h2, (Prod.mk.inj h3).1, (Prod.mk.inj h3).2⟩
/-- A book as it is known. -/
def BookAt (base bk : Nat) (dv mv gv pv : Value) (W : World) (b : List Ent) (T : List ByteArray) : Prop := BookR base bk dv mv gv pv W (b.map (·.dig)) (b.map (·.must)) (b.map (·.gone)) T
def NotePost (base bk : Nat) (dv mv gv pv : Value) (W : World) (b : List Ent) (T : List ByteArray) (W' : World) : Prop :=
  ∃ dv' mv' gv', BookAt base bk dv' mv' gv' pv W' b T ∧ Off (BkS bk dv mv gv pv) W W' ∧ ∀ k, BkS bk dv' mv' gv' pv k → BkS bk dv mv gv pv k ∨ W.heap.size ≤ k
set_option maxHeartbeats 12800000 in
set_option maxRecDepth 100000 in
theorem note_any {base bk : Nat} {dv mv gv pv : Value} {W : World} {b : List Ent} {T : List ByteArray} (h : BookAt base bk dv mv gv pv W b T) (hbase : base ≤ W.heap.size) (d : Dg) (a c : Bool) (hb : b.length ≤ 1000) :
    Calls Tryz.prog 24 #[.pointer (some ⟨bk, 0, none⟩), digV d.1, .bool a, .bool c] W fun e W' => e = .returned (.tuple #[]) ∧ NotePost base bk dv mv gv pv W (noteM b d a c) T W' := by
  obtain ⟨i0, hi, hz0, hz1, hz2⟩ := dig_parts
  obtain ⟨j0, hj, hy0, hy1, hy2⟩ := bool_parts
  obtain ⟨K, hK⟩ : ∃ K, b.length = K := ⟨_, rfl⟩
  have hKD : (b.map (·.dig)).length = K := by rw [List.length_map, hK]
  have hKM : (b.map (·.must)).length = K := by rw [List.length_map, hK]
  have hKG : (b.map (·.gone)).length = K := by rw [List.length_map, hK]
  unfold BookAt at h
  have hd0 := h.d
  have hm0 := h.m
  have hg0 := h.g
  rw [hKD] at hd0
  rw [hKM] at hm0
  rw [hKG] at hg0
  obtain ⟨dp, dc, rfl⟩ := row_slice hd0
  obtain ⟨mp, mc, rfl⟩ := row_slice hm0
  obtain ⟨gp, gc, rfl⟩ := row_slice hg0
  have HKK := Lib.hid hK
  have HKD := Lib.hid hKD
  have HKM := Lib.hid hKM
  have HKG := Lib.hid hKG
  have hKi : (K : Int) ≤ 1000 := by omega
  have H := Lib.hid h
  have HBA := Lib.hid hbase
  obtain ⟨D, hD⟩ : ∃ D, d.1 = D := ⟨_, rfl⟩
  have HDD := Lib.hid hD
  have HDL : Hid (D.length = 32) := Lib.hid (by rw [← hD]; exact d.2)
  rw [hD]
  have hI := dig_info HDL.out
  have hI2 := dig_info2 HDL.out
  have hU := dig_und
  unfold digV
  obtain ⟨W1, hW1⟩ : ∃ w, W.alloc (.cells (D.map byteV).toArray 33) = w := ⟨_, rfl⟩
  have HXD : Hid (W1.heap[W.heap.size]? = some (.cells (D.map byteV).toArray 33 (0, 0))) := Lib.hid (by rw [← hW1]; exact heap_new _ _)
  have HB1 : Hid (Below W.heap.size W W1) := Lib.hid (by rw [← hW1]; exact (Below.refl _ _).alloc (Nat.le_refl _) _)
  have H1 := Lib.hid (H.out.bel HB1.out)
  clear h hd0 hm0 hg0 hK hKD hKM hKG hbase hD hb
  go_enter Tryz.func24, Tryz.ntmps24
  go_wp2_with fail
  clear hW1
  go_loopw [8] (fun iv wr => ∃ k : Nat, (k : Int) ≤ K ∧ iv = .int .i64 k ∧ Hid (∀ j f, j < k → b[j]? = some f → f.dig ≠ d) ∧ Hid (Below W1.heap.size W1 wr)) (fun iv _ => K - (intOf iv).toNat)
  case atStart => exact ⟨0, by omega, rfl, Lib.hid (fun j f hj => by omega), Lib.hid (Below.refl _ _)⟩
  case round =>
    obtain ⟨k, hk, rfl, HN, HB⟩ := hrel
    have HR := Lib.hid (H1.out.bel HB.out)
    have c0 : wr.cell? ⟨bk, 0, none⟩ = some (.slice dp K dc) := by rw [cell_of_heapN HR.out.bx]; rfl
    have HX := Lib.hid ((HB.out.block _ (blk_lt HXD.out)).trans HXD.out)
    by_cases hlt : (k : Int) < K
    · obtain ⟨e, he⟩ : ∃ e, b[k]? = some e := ⟨_, List.getElem?_eq_getElem (i := k) (by rw [HKK.out]; omega)⟩
      have hed : (b.map (·.dig))[k]? = some e.dig := by rw [List.getElem?_map, he]; rfl
      have hem : (boolVs (b.map (·.must)))[k]? = some (.bool e.must) := by unfold boolVs; rw [List.getElem?_map, List.getElem?_map, he]; rfl
      have heg : (boolVs (b.map (·.gone)))[k]? = some (.bool e.gone) := by unfold boolVs; rw [List.getElem?_map, List.getElem?_map, he]; rfl
      obtain ⟨g, cap, h1, hgl, hgr⟩ := row_dig (by have := HR.out.d; rw [HKD.out] at this; exact this) HKD.out hed
      obtain ⟨rfl, rfl⟩ : dp = some ⟨g, 0, none⟩ ∧ dc = cap := by cases h1; exact ⟨rfl, rfl⟩
      obtain ⟨gm, cm, h2, -, -, -⟩ := row_nth (by have := HR.out.m; rw [HKM.out] at this; exact this) hem
      obtain ⟨rfl, rfl⟩ : mp = some ⟨gm, 0, none⟩ ∧ mc = cm := by cases h2; exact ⟨rfl, rfl⟩
      obtain ⟨gg, cg, h3, -, -, -⟩ := row_nth (by have := HR.out.g; rw [HKG.out] at this; exact this) heg
      obtain ⟨rfl, rfl⟩ : gp = some ⟨gg, 0, none⟩ ∧ gc = cg := by cases h3; exact ⟨rfl, rfl⟩
      obtain ⟨E, hE⟩ : ∃ E, e.dig.1 = E := ⟨_, rfl⟩
      have HEE := Lib.hid hE
      have HEL : Hid (E.length = 32) := Lib.hid (by rw [← hE]; exact e.dig.2)
      rw [hE] at hgr
      have HGR := Lib.hid hgr
      have HGL := Lib.hid hgl
      have HE := Lib.hid he
      have HEM := Lib.hid hem
      have HEG := Lib.hid heg
      have hIE := dig_info HEL.out
      clear h1 h2 h3 hgl hgr hed hem heg he hE
      go_wp2_with fail
      have hI0 : Below wr.heap.size wr wr.drew := ⟨rfl, rfl, rfl, Nat.le_refl _, fun _ _ => rfl⟩
      refine wp_region_flowG (fun _ : Unit => [.pointer (some ⟨bk, 0, none⟩), .pointer (some ⟨bk, 0, none⟩), .pointer (some ⟨bk, 0, none⟩), .slice (some ⟨g, 0, none⟩) K dc, .int .i64 k, .pointer (some ⟨g, k * 32, none⟩), .agg (E.map byteV).toArray, .agg (D.map byteV).toArray, .bool (E == D)]) (fun _ _ w0 => Below wr.heap.size wr w0)
        [[], [0], [1], [2], [], [3, 4], [5], [], [6, 7]] 71 () mixedD rfl (by kernel_rfl) (fun _ => rfl) hI0 ?_ ?_
      · refine ⟨?_, ?_, ?_, ?_, ?_, ?_, ?_, ?_, ?_, rfl⟩
        all_goals intro L γ w0 ev hL hd hW hc hf hg he h0
        · have e0 : ev (.tmp 0) = .pointer (some ⟨bk, 0, none⟩) := h0 0 rfl
          clear he h0 hc hf hg
          exact .inl ⟨rfl, .inl ⟨_, w0, (by go_simp <;> rfl), .still (hW) rfl⟩⟩
        · have e18 : ev (.tmp 18) = .pointer (some ⟨bk, 0, none⟩) := he 0 (by decide) _ 18 rfl rfl
          clear he h0 hc hf hg
          exact .inl ⟨rfl, .inl ⟨_, w0, (by go_simp <;> rfl), .still (hW) rfl⟩⟩
        · have e19 : ev (.tmp 19) = .pointer (some ⟨bk, 0, none⟩) := he 1 (by decide) _ 19 rfl rfl
          clear he h0 hc hf hg
          exact .inl ⟨rfl, .inl ⟨_, w0, (by go_simp <;> rfl), .still (hW) rfl⟩⟩
        · have e20 : ev (.tmp 20) = .pointer (some ⟨bk, 0, none⟩) := he 2 (by decide) _ 20 rfl rfl
          have cc : w0.cell? ⟨bk, 0, none⟩ = some (.slice (some ⟨g, 0, none⟩) K dc) := (hW.cell (p := ⟨bk, 0, none⟩) (blk_lt HR.out.bx)).trans (by rw [cell_of_heapN HR.out.bx]; rfl)
          clear he h0 hc hf hg
          exact .inl ⟨rfl, .inl ⟨_, w0, (by go_simp <;> rfl), .still (hW) rfl⟩⟩
        · have e8 : ev (.tmp 8) = .int .i64 k := h0 8 rfl
          clear he h0 hc hf hg
          exact .inl ⟨rfl, .inl ⟨_, w0, (by go_simp <;> rfl), .still (hW) rfl⟩⟩
        · have e21 : ev (.tmp 21) = .slice (some ⟨g, 0, none⟩) K dc := he 3 (by decide) _ 21 rfl rfl
          have e22 : ev (.tmp 22) = .int .i64 k := he 4 (by decide) _ 22 rfl rfl
          clear he h0 hc hf hg
          exact .inl ⟨rfl, .inl ⟨_, w0, (by go_simp <;> rfl), .still (hW) rfl⟩⟩
        · have e23 : ev (.tmp 23) = .pointer (some ⟨g, k * 32, none⟩) := he 5 (by decide) _ 23 rfl rfl
          clear he h0 hc hg
          have hlv := run_loadVar_mid (P := Tryz.prog) w0 g (k * 32) 33 (E.map byteV) _ (fun j u hj => (hW.cell (p := ⟨g, k * 32 + j, none⟩) HGL.out).trans (HGR.out j u hj)) hU rfl hIE
          refine .inl ⟨rfl, .inl ⟨_, w0, ?_, .still (hW) rfl⟩⟩
          unfold execOp
          simp only [e23, Instr.loadAt, Instr.sureAddr, Sem.run_bind, Sem.run_pure, Result.andThen_ok, hlv]
          try rfl
        · have e5 : ev (.tmp 5) = .pointer (some ⟨W.heap.size, 0, none⟩) := h0 5 rfl
          clear he h0 hc hg
          have hlv := run_loadVar_row (P := Tryz.prog) w0 W.heap.size 33 33 (D.map byteV).toArray (0, 0) _ ((hW.block _ (blk_lt HX.out)).trans HX.out) hU rfl hI2
          refine .inl ⟨rfl, .inl ⟨_, w0, ?_, .still (hW) rfl⟩⟩
          unfold execOp
          simp only [e5, Instr.loadAt, Instr.sureAddr, Sem.run_bind, Sem.run_pure, Result.andThen_ok, hlv]
          try rfl
        · have e24 : ev (.tmp 24) = .agg (E.map byteV).toArray := he 6 (by decide) _ 24 rfl rfl
          have e25 : ev (.tmp 25) = .agg (D.map byteV).toArray := he 7 (by decide) _ 25 rfl rfl
          clear he h0 hc hg
          have hq := dig_in w0 HEL.out HDL.out
          refine .inl ⟨rfl, .inl ⟨_, w0, (by go_simp <;> rfl), .still (hW) rfl⟩⟩
      intro γ L w2 hL hW
      have HB2 : Hid (Below W1.heap.size W1 w2) := Lib.hid (HB.out.trans (hW.mono HB.out.size))
      have HR2 := Lib.hid (H1.out.bel HB2.out)
      clear hL hW hI0 c0
      simp only [putAll, Act.put, List.setIfInBounds_toArray, List.set_cons_succ, List.set_cons_zero]
      by_cases hq : E = D
      · rw [show (E == D) = true by simp [hq]]
        have hed : e.dig = d := Subtype.ext (HEE.out.trans (hq.trans HDD.out.symm))
        have hkl : k < K := by omega
        obtain ⟨gm', cm', hm1, hm2, hm3, hm4⟩ := row_nth (by have := HR2.out.m; rw [HKM.out] at this; exact this) HEM.out
        cases hm1
        have hse := HR2.out.set (i := k) (a := a) (c := c) rfl rfl HKM.out HKG.out hkl
        have hgb : gm ≠ bk := fun e2 => by
          obtain ⟨-, -, cur, hc⟩ := row_blk HR2.out.m (b := gm) rfl
          rw [e2, HR2.out.bx] at hc
          exact bk_type (by decide) _ (Option.some.inj hc)
        have hgg : gm ≠ gg := fun e2 => HR2.out.mg gm rfl (by rw [e2]; rfl)
        have hx3 : (w2.setCell ⟨gm, k, none⟩ (.bool a)).heap[bk]? = w2.heap[bk]? := Below.heap_setCell _ _ _ _ (show bk ≠ gm from hgb.symm)
        have hx4 : (w2.setCell ⟨gm, k, none⟩ (.bool a)).heap[gg]? = w2.heap[gg]? := Below.heap_setCell _ _ _ _ (show gg ≠ gm from hgg.symm)
        obtain ⟨gg', cg', hg1, hg2, hg3, hg4⟩ := row_nth (by have := HR2.out.g; rw [HKG.out] at this; exact this) HEG.out
        cases hg1
        have d1 : w2.cell? ⟨bk, 1, none⟩ = some (.slice (some ⟨gm, 0, none⟩) K mc) := by rw [cell_of_heapN HR2.out.bx]; rfl
        have d2 : (w2.setCell ⟨gm, k, none⟩ (.bool a)).cell? ⟨bk, 2, none⟩ = some (.slice (some ⟨gg, 0, none⟩) K gc) := (cell_of_heap hx3).trans (by rw [cell_of_heapN HR2.out.bx]; rfl)
        have d3 : (w2.setCell ⟨gm, k, none⟩ (.bool a)).cell? ⟨gg, k, none⟩ = some (.bool e.gone) := (cell_of_heap hx4).trans hg3
        have d4 : (w2.setCell ⟨gm, k, none⟩ (.bool a)).frozen? ⟨gg, k, none⟩ = false := (World.frozen?_of_block (a := ⟨gg, k, none⟩) hx4).trans hg4
        have HSE := Lib.hid hse
        have HEE2 := HE
        have HED := Lib.hid hed
        clear hse hed hgb hgg hx3 hx4 hg2 hg3 hg4 hm2 hq HEM HEG
        go_wp2_with fail
        refine bodyPost_ret (results_none rfl _ _ _) rfl ?_
        refine ⟨rfl, _, _, _, ?_, (HB1.out.off2 HB2.out).trans HSE.out.2 (fun k2 hk2 hs => by
          rcases hs with hs | hs
          · exact .inr (.inr (.inl hs))
          · exact .inr (.inr (.inr (.inl hs)))), fun k2 hk2 => .inl hk2⟩
        have hna : noteM b d a c = b.set k ⟨d, a, c⟩ := note_at b k d a c e HN.out HEE2.out HED.out
        have h4 := HSE.out.1
        unfold BookAt
        rw [hna, List.map_set, List.map_set, List.map_set, set_same _ k d (by rw [List.getElem?_map, HEE2.out]; exact congrArg some HED.out)]
        exact h4
      · rw [show (E == D) = false by simp [hq]]
        have hnd : e.dig ≠ d := fun h2 => hq (HEE.out.symm.trans ((congrArg (·.1) h2).trans HDD.out))
        have HND := Lib.hid hnd
        clear hnd hq
        go_wp2_with fail
        refine ⟨⟨k + 1, by omega, by rw [Int.natCast_add]; rfl, Lib.hid (fun j f hj hf => ?_), HB2⟩, by simp [intOf]; omega⟩
        by_cases hjk : j = k
        · rw [hjk, HE.out] at hf
          cases hf
          exact HND.out
        · exact HN.out j f (by omega) hf
    · obtain rfl : k = K := by omega
      have hno : ∀ f ∈ b, f.dig ≠ d := fun f hf => by
        obtain ⟨j, hj, hjf⟩ := List.getElem_of_mem hf
        exact HN.out j f (by rw [← HKK.out]; exact hj) (by rw [List.getElem?_eq_getElem hj, hjf])
      have HNO := Lib.hid (note_none b d a c hno)
      clear hno
      have hfd := fold_dig HDL.out
      have hdl32 := HDL.out
      have hDo : ∀ u ∈ D.map byteV, u.oneCell' = true := fun u hu => by obtain ⟨x, _, rfl⟩ := List.mem_map.1 hu; rfl
      go_wp2_with fail
      have HWB : Hid (base ≤ wr.heap.size) := Lib.hid (Nat.le_trans HBA.out (Nat.le_trans HB1.out.size HB.out.size))
      have hI0 := AppW.start wr base bk 0 33 32 (.slice dp k dc) k (flatG clD (b.map (·.dig))) (D.map byteV) 5 4 6 7 10 (0, undef)
      refine wp_region_flowG (fun γ : Nat × Value => [.pointer (some ⟨bk, 0, none⟩), .pointer (some ⟨bk, 0, none⟩), .pointer (some ⟨bk, 0, none⟩), .pointer (some ⟨bk, 0, none⟩), .slice dp k dc, .agg (D.map byteV).toArray, .slice (some ⟨γ.1, 0, none⟩) 1 1, γ.2, .pointer (some ⟨bk, 0, none⟩), .pointer (some ⟨bk, 0, none⟩), undef]) (AppW wr base bk 0 33 32 (.slice dp k dc) k (flatG clD (b.map (·.dig))) (D.map byteV) 5 4 6 7 10)
        [[], [], [1], [2], [3], [], [5], [4, 6], [0, 0, 1, 2, 3, 4, 5, 6, 7], [8, 0, 1, 2, 3, 4, 5, 6, 7], [9, 7, 7, 0, 1, 2, 3, 4, 5, 6, 7]] 71 (0, undef) mixedD rfl (by kernel_rfl) (fun _ => rfl) hI0 ?_ ?_
      · refine ⟨?_, ?_, ?_, ?_, ?_, ?_, ?_, ?_, ?_, ?_, ?_, rfl⟩
        all_goals intro L γ w0 ev hL hd hW hc hf hg he h0
        · have e0 : ev (.tmp 0) = .pointer (some ⟨bk, 0, none⟩) := h0 0 rfl
          clear he h0 hc hf hg
          exact .inl ⟨rfl, .inl ⟨_, w0, (by go_simp <;> rfl), .still (hW.upd 0 (by decide) (by decide) (by decide)) rfl⟩⟩
        · have e0 : ev (.tmp 0) = .pointer (some ⟨bk, 0, none⟩) := h0 0 rfl
          clear he h0 hc hf hg
          exact .inl ⟨rfl, .inl ⟨_, w0, (by go_simp <;> rfl), .still (hW.upd 1 (by decide) (by decide) (by decide)) rfl⟩⟩
        · have e2 : ev (.tmp 42) = .pointer (some ⟨bk, 0, none⟩) := he 1 (by decide) _ 42 rfl rfl
          clear he h0 hc hf hg
          exact .inl ⟨rfl, .inl ⟨_, w0, (by go_simp <;> rfl), .still (hW.upd 2 (by decide) (by decide) (by decide)) rfl⟩⟩
        · have e3 : ev (.tmp 43) = .pointer (some ⟨bk, 0, none⟩) := he 2 (by decide) _ 43 rfl rfl
          clear he h0 hc hf hg
          exact .inl ⟨rfl, .inl ⟨_, w0, (by go_simp <;> rfl), .still (hW.upd 3 (by decide) (by decide) (by decide)) rfl⟩⟩
        · have e4 : ev (.tmp 44) = .pointer (some ⟨bk, 0, none⟩) := he 3 (by decide) _ 44 rfl rfl
          have cc : w0.cell? ⟨bk, 0, none⟩ = some (.slice dp k dc) := ((hW.bel (hW.low (.inr (.inl hL)))).cell (p := ⟨bk, 0, none⟩) (blk_lt HR.out.bx)).trans (by rw [cell_of_heapN HR.out.bx]; rfl)
          clear he h0 hc hf hg
          exact .inl ⟨rfl, .inl ⟨_, w0, (by go_simp <;> rfl), .still (hW.upd 4 (by decide) (by decide) (by decide)) rfl⟩⟩
        · have e5 : ev (.tmp 5) = .pointer (some ⟨W.heap.size, 0, none⟩) := h0 5 rfl
          have hlv := run_loadVar_row (P := Tryz.prog) w0 W.heap.size 33 33 (D.map byteV).toArray (0, 0) _ (((hW.bel (hW.low (.inl hL))).block _ (blk_lt HX.out)).trans HX.out) hU rfl hI2
          clear he h0 hc hf hg
          exact .inl ⟨rfl, .inl ⟨_, w0, exec_load (x := .tmp 5) rfl e5 hlv, .still (hW.upd 5 (by decide) (by decide) (by decide)) rfl⟩⟩
        · have e6 : ev (.tmp 46) = .agg (D.map byteV).toArray := he 5 (by decide) _ 46 rfl rfl
          clear he h0 hc hf hg
          refine .inl ⟨rfl, .inl ⟨_, w0.alloc (.cells (D.map byteV).toArray 33), (by go_simp <;> rfl), (w0.heap.size, γ.2), hW.made hL (hd 5 (by decide)) (by decide) (by decide), rfl, fun j hj => by
              have hj2 : j ≠ 6 := fun e => by subst e; rw [hL] at hj; cases hj
              match j, hj2 with
              | 0, _ | 1, _ | 2, _ | 3, _ | 4, _ | 5, _ | 7, _ | 8, _ | 9, _ | 10, _ => rfl
              | n + 11, _ => rfl⟩⟩
        · have e45 : ev (.tmp 45) = .slice dp k dc := he 4 (by decide) _ 45 rfl rfl
          have e47 : ev (.tmp 47) = .slice (some ⟨γ.1, 0, none⟩) 1 1 := he 6 (by decide) _ 47 rfl rfl
          clear he h0 hc hf hg
          have hb0 := hW.bel hL
          have hnw := hW.blk (hd 6 (by decide)) hL
          have hro : w0.ownsRow base 33 32 (.slice dp k dc) k (flatG clD (b.map (·.dig))) := by have h9 := (HR.out.bel hb0).d; rw [HKD.out] at h9; exact h9
          obtain ⟨v9, w9, hr9, ho9, hg9⟩ := run_app_to (P := Tryz.prog) w0 base 31 31 33 i0 (.agg z32) 32 32 Tryz.underlying31 hi hz0 hz1 hz2 rfl (by decide) (.slice dp k dc) k _ hro ⟨γ.1, 0, none⟩ 1 1 (D.map byteV) (by rw [List.length_map, hdl32]) (at32 hnw.1) hDo (by decide) (by unfold maxLen; omega) (by omega) (Nat.le_trans HWB.out hb0.size)
          exact .inl ⟨rfl, .inl ⟨v9, w9, exec_app2 (s := .tmp 45) (x := .tmp 47) rfl e45 e47 hr9, (γ.1, v9), hW.grown hL (hd 4 (by decide)) (hd 6 (by decide)) (by decide) ho9 hg9, rfl, fun j hj => by
              have hj2 : j ≠ 7 := fun e => by subst e; rw [hL] at hj; cases hj
              match j, hj2 with
              | 0, _ | 1, _ | 2, _ | 3, _ | 4, _ | 5, _ | 6, _ | 8, _ | 9, _ | 10, _ => rfl
              | n + 11, _ => rfl⟩⟩
        · have e8 : ev (.tmp 41) = .pointer (some ⟨bk, 0, none⟩) := he 0 (by decide) _ 41 rfl rfl
          clear he h0 hc hf hg
          exact .inl ⟨rfl, .inl ⟨_, w0, (by go_simp <;> rfl), .still (hW.upd 8 (by decide) (by decide) (by decide)) rfl⟩⟩
        · have e9 : ev (.tmp 49) = .pointer (some ⟨bk, 0, none⟩) := he 8 (by decide) _ 49 rfl rfl
          clear he h0 hc hf hg
          exact .inl ⟨rfl, .inl ⟨_, w0, (by go_simp <;> rfl), .still (hW.upd 9 (by decide) (by decide) (by decide)) rfl⟩⟩
        · obtain ⟨g1, g2⟩ := γ
          have e10 : ev (.tmp 50) = .pointer (some ⟨bk, 0, none⟩) := he 9 (by decide) _ 50 rfl rfl
          have e48 : ev (.tmp 48) = g2 := he 7 (by decide) _ 48 rfl rfl
          clear he h0 hc hg
          have h7 : L 7 = true := hd 7 (by decide)
          obtain ⟨ho9, W8, hb8, hg8⟩ := hW.app h7 hL
          obtain ⟨up, uc, hu⟩ := row_slice ho9
          have hbx := grew_keep hb8 HR.out.d (by decide) HR.out.bx hg8
          have cq : w0.cell? ⟨bk, 0, none⟩ = some (.slice dp k dc) := by rw [cell_of_heapN hbx]; rfl
          have cf : w0.frozen? ⟨bk, 0, none⟩ = false := frozen_blk hbx
          have hfin := hW.stored hL h7
          have hu2 : g2 = .slice up (k + 1) uc := hu
          subst hu2
          refine .inl ⟨rfl, .inr (.inl ⟨w0.setCell ⟨bk, 0, none⟩ (.slice up (k + 1) uc), ?_, .still hfin rfl⟩)⟩
          clear hf ho9 hg8 hb8 hbx hu hfin hW
          go_simp
      intro γ L w7 hL hW
      obtain ⟨W9, ho9, ⟨W8, hb8, hg8⟩, hw9⟩ := hW.fin (hL 10 (by decide))
      obtain ⟨g1, g2⟩ := γ
      obtain ⟨up0, uc0, hu⟩ := row_slice ho9
      have hu2 : g2 = .slice up0 (k + 1) uc0 := hu
      subst hu2
      have hap := (HR.out.bel hb8).appd (x := d) (by rw [HKD.out]; exact (by unfold encD; rw [HDD.out]; exact ho9)) hg8
      rw [← hw9] at hap
      have HR7 := Lib.hid hap.1
      have HO0 : Hid (Off (fun b => b = bk ∨ (Value.slice dp k dc).ownBlock = some b) wr w7) := Lib.hid ((Off.refl _ wr).below hb8 (Nat.le_refl _) |>.tr hap.2.1)
      have HNB0 : Hid (∀ b, (Value.slice up0 (k + 1) uc0).ownBlock = some b → (Value.slice dp k dc).ownBlock = some b ∨ wr.heap.size ≤ b) := Lib.hid (fun b hb => (hap.2.2 b hb).imp id (fun h => Nat.le_trans hb8.size h))
      clear hL hW hI0 ho9 hb8 hg8 hap hu hw9
      simp only [putAll, Act.put, List.setIfInBounds_toArray, List.set_cons_succ, List.set_cons_zero]
      have HWB7 : Hid (base ≤ w7.heap.size) := Lib.hid (Nat.le_trans HWB.out HO0.out.size)
      clear c0
      have c1 : w7.cell? ⟨bk, 1, none⟩ = some (.slice mp k mc) := by rw [cell_of_heapN HR7.out.bx]; rfl
      go_wp2_with (first | (at_builtin; first | (at_builtin; refine wpList_app_to rfl _ _ 47 rfl base 4 j0 (.bool false) 1 1 Tryz.underlying47 hj hy0 hy1 hy2 rfl (by decide) (.slice gp k gc) k _ rfl (by have h9 := (HR8.out.bel ((Below.refl (V1.setCell ⟨bk, 1, none⟩ (.slice up1 (k + 1) uc1)).heap.size (V1.setCell ⟨bk, 1, none⟩ (.slice up1 (k + 1) uc1))).alloc (Nat.le_refl _) (.cells #[.bool c] 4))).g; rw [HKG.out] at h9; exact h9) ⟨V1.heap.size, 0, none⟩ 1 1 [.bool c] rfl rfl (at0 (by have h9 := newB (V1.setCell ⟨bk, 1, none⟩ (.slice up1 (k + 1) uc1)) (.bool c) 4; rw [World.size_setCell] at h9; exact h9)) (fun u hu => by rw [List.mem_singleton.1 hu]; rfl) (by decide) (by unfold maxLen; omega) (by omega) (Nat.le_trans HWB8.out (by rw [World.size_alloc]; omega)) ?_; intro v2 V2 ho2 hl2; obtain ⟨up2, uc2, hu2⟩ := row_slice ho2; subst hu2; have hap := (HR8.out.bel ((Below.refl (V1.setCell ⟨bk, 1, none⟩ (.slice up1 (k + 1) uc1)).heap.size (V1.setCell ⟨bk, 1, none⟩ (.slice up1 (k + 1) uc1))).alloc (Nat.le_refl _) (.cells #[.bool c] 4))).appg (x := c) (by rw [HKG.out]; exact ho2) hl2; have hbx := grew_keep ((Below.refl (V1.setCell ⟨bk, 1, none⟩ (.slice up1 (k + 1) uc1)).heap.size (V1.setCell ⟨bk, 1, none⟩ (.slice up1 (k + 1) uc1))).alloc (Nat.le_refl _) (.cells #[.bool c] 4)) HR8.out.g (by decide) HR8.out.bx hl2; have cq2 : V2.cell? ⟨bk, 2, none⟩ = some (.slice gp k gc) := (by rw [cell_of_heapN hbx]; rfl); have cf2 : V2.frozen? ⟨bk, 2, none⟩ = false := frozen_blk hbx; have HR9 := Lib.hid hap.1; have HO2 : Hid (Off (fun b => b = bk ∨ (Value.slice gp k gc).ownBlock = some b) (V1.setCell ⟨bk, 1, none⟩ (.slice up1 (k + 1) uc1)) (V2.setCell ⟨bk, 2, none⟩ (.slice up2 (k + 1) uc2))) := Lib.hid (((Off.refl _ _).below ((Below.refl (V1.setCell ⟨bk, 1, none⟩ (.slice up1 (k + 1) uc1)).heap.size (V1.setCell ⟨bk, 1, none⟩ (.slice up1 (k + 1) uc1))).alloc (Nat.le_refl _) (.cells #[.bool c] 4)) (Nat.le_refl _)).tr hap.2.1); have HNB2 : Hid (∀ b, (Value.slice up2 (k + 1) uc2).ownBlock = some b → (Value.slice gp k gc).ownBlock = some b ∨ (V1.setCell ⟨bk, 1, none⟩ (.slice up1 (k + 1) uc1)).heap.size ≤ b) := Lib.hid (fun b hb => (hap.2.2 b hb).imp id (fun h => Nat.le_trans (by rw [World.size_alloc]; omega) h)); have HWB9 : Hid (base ≤ (V2.setCell ⟨bk, 2, none⟩ (.slice up2 (k + 1) uc2)).heap.size) := Lib.hid (Nat.le_trans HWB8.out HO2.out.size); clear ho2 hl2 hap hbx) | (at_builtin; refine wpList_app_to rfl _ _ 47 rfl base 4 j0 (.bool false) 1 1 Tryz.underlying47 hj hy0 hy1 hy2 rfl (by decide) (.slice mp k mc) k _ rfl (by have h9 := (HR7.out.bel ((Below.refl (w7).heap.size (w7)).alloc (Nat.le_refl _) (.cells #[.bool a] 4))).m; rw [HKM.out] at h9; exact h9) ⟨w7.heap.size, 0, none⟩ 1 1 [.bool a] rfl rfl (at0 (newB w7 (.bool a) 4)) (fun u hu => by rw [List.mem_singleton.1 hu]; rfl) (by decide) (by unfold maxLen; omega) (by omega) (Nat.le_trans HWB7.out (by rw [World.size_alloc]; omega)) ?_; intro v1 V1 ho1 hl1; obtain ⟨up1, uc1, hu1⟩ := row_slice ho1; subst hu1; have hap := (HR7.out.bel ((Below.refl (w7).heap.size (w7)).alloc (Nat.le_refl _) (.cells #[.bool a] 4))).appm (x := a) (by rw [HKM.out]; exact ho1) hl1; have hbx := grew_keep ((Below.refl (w7).heap.size (w7)).alloc (Nat.le_refl _) (.cells #[.bool a] 4)) HR7.out.m (by decide) HR7.out.bx hl1; have cq1 : V1.cell? ⟨bk, 1, none⟩ = some (.slice mp k mc) := (by rw [cell_of_heapN hbx]; rfl); have cf1 : V1.frozen? ⟨bk, 1, none⟩ = false := frozen_blk hbx; have cr2 : V1.cell? ⟨bk, 2, none⟩ = some (.slice gp k gc) := (by rw [cell_of_heapN hbx]; rfl); have cr3 : (V1.setCell ⟨bk, 1, none⟩ (.slice up1 (k + 1) uc1)).cell? ⟨bk, 2, none⟩ = some (.slice gp k gc) := (by rw [cell_of_heapN hap.1.bx]; rfl); have HR8 := Lib.hid hap.1; have HO1 : Hid (Off (fun b => b = bk ∨ (Value.slice mp k mc).ownBlock = some b) (w7) (V1.setCell ⟨bk, 1, none⟩ (.slice up1 (k + 1) uc1))) := Lib.hid (((Off.refl _ _).below ((Below.refl (w7).heap.size (w7)).alloc (Nat.le_refl _) (.cells #[.bool a] 4)) (Nat.le_refl _)).tr hap.2.1); have HNB1 : Hid (∀ b, (Value.slice up1 (k + 1) uc1).ownBlock = some b → (Value.slice mp k mc).ownBlock = some b ∨ (w7).heap.size ≤ b) := Lib.hid (fun b hb => (hap.2.2 b hb).imp id (fun h => Nat.le_trans (by rw [World.size_alloc]; omega) h)); have HWB8 : Hid (base ≤ (V1.setCell ⟨bk, 1, none⟩ (.slice up1 (k + 1) uc1)).heap.size) := Lib.hid (Nat.le_trans HWB7.out HO1.out.size); clear ho1 hl1 hap hbx)))
      go_end0
      refine ⟨rfl, .slice up0 (k + 1) uc0, .slice up1 (k + 1) uc1, .slice up2 (k + 1) uc2, ?_, ?_, ?_⟩
      · unfold BookAt
        rw [HNO.out, List.map_append, List.map_append, List.map_append]
        exact HR9.out
      · have o1 : Off (BkS bk (.slice dp k dc) (.slice mp k mc) (.slice gp k gc) pv) W wr := HB1.out.off2 HB.out
        have o2 := o1.trans HO0.out (fun i _ hs => hs.elim .inl (fun h => .inr (.inl h)))
        have o3 := o2.trans HO1.out (fun i _ hs => hs.elim .inl (fun h => .inr (.inr (.inl h))))
        exact o3.trans HO2.out (fun i _ hs => hs.elim .inl (fun h => .inr (.inr (.inr (.inl h)))))
      · have z1 := Nat.le_trans HB1.out.size HB.out.size
        have z2 := Nat.le_trans z1 HO0.out.size
        have z3 := Nat.le_trans z2 HO1.out.size
        intro x hx
        rcases hx with hx | hx | hx | hx | hx
        · exact .inl (.inl hx)
        · rcases HNB0.out x hx with h | h
          · exact .inl (.inr (.inl h))
          · exact .inr (Nat.le_trans z1 h)
        · rcases HNB1.out x hx with h | h
          · exact .inl (.inr (.inr (.inl h)))
          · exact .inr (Nat.le_trans z2 h)
        · rcases HNB2.out x hx with h | h
          · exact .inl (.inr (.inr (.inr (.inl h))))
          · exact .inr (Nat.le_trans z3 h)
        · exact .inl (.inr (.inr (.inr (.inr hx))))
end Go.Proofs.YtecgikanophonaaGreatDoor
/- book.holds, walked. -/
namespace Go.Proofs.YtecgikanophonaaGreatDoor
open Go Go.RowKit
theorem list_len {m : DM} {x : Int} {n : Nat} (h : m.Ok n) : (sortL (listM m x)).length ≤ n := by
  rw [sortL_len]
  unfold listM
  rw [List.length_map]
  refine Nat.le_trans (List.length_filter_le _ _) ?_
  unfold DM.lists
  split
  · exact Nat.zero_le _
  · rw [List.length_map]
    exact Nat.le_trans (List.length_filter_le _ _) h.nowN
theorem bytes_beq (s t : ByteArray) : (s.toList == t.toList) = decide (s = t) := by
  rw [Lib.toList_data, Lib.toList_data]
  by_cases h : s = t
  · rw [h, decide_eq_true rfl]; simp
  · rw [decide_eq_false h]
    exact beq_eq_false_iff_ne.2 (bytes_ne h)
theorem exec_load2 {ev : Operand → Value} {o : Oper} {x : Operand} {w : World} {b i : Nat} {v : Value} {ty : TypeId} (ho : o.op = .load ty x) (hx : ev x = .pointer (some ⟨b, i, none⟩)) (hlv : (loadVar ty ⟨b, i, none⟩).run Tryz.prog w = .ok v w) : (execOp ev o).run Tryz.prog w = .ok (.value v) w := by
  unfold execOp
  simp only [ho, hx, Instr.loadAt, Instr.sureAddr, Sem.run_bind, Sem.run_pure, Result.andThen_ok, hlv]
def wasB (T : List ByteArray) (t : ByteArray) (k : Nat) : Bool := (T.take k).any fun s => decide (s = t)
theorem was_next {T : List ByteArray} {t s : ByteArray} {k : Nat} (h : T[k]? = some s) : wasB T t (k + 1) = (wasB T t k || decide (s = t)) := by
  unfold wasB
  rw [List.take_add_one, h, List.any_append]
  simp
theorem was_all {T : List ByteArray} {t : ByteArray} (h : t ∈ T) : wasB T t T.length = true := by
  unfold wasB
  rw [List.take_of_length_le (Nat.le_refl _)]
  exact List.any_eq_true.2 ⟨t, h, decide_eq_true rfl⟩
set_option maxHeartbeats 12800000 in
set_option maxRecDepth 100000 in
theorem holds_any {base bk : Nat} {dv mv gv pv : Value} {W : World} {b : List Ent} {T : List ByteArray} (h : BookAt base bk dv mv gv pv W b T) {w : World} {P : Nat → Prop} {sb a n : Nat} {x : Int} {m : DM} (hs : Sto w (fun _ => False) P sb a x W n m)
    (hR : RoundsR W) (hB : BeginR W) (hm : Rest x T m) (hk : BookOk m b) (hn : n ≤ 1000000000) (hb : b.length ≤ 1000) (hT : T.length ≤ 1000) :
    Calls Tryz.prog 27 #[.pointer (some ⟨bk, 0, none⟩), .pointer (some ⟨sb, 0, none⟩), .int .i64 x] W fun e W' => e = .returned (.bool true) ∧ Below W.heap.size W W' := by
  have H := Lib.hid h
  have HS := Lib.hid hs
  have HRR := Lib.hid hR
  have HBR := Lib.hid hB
  have HM := Lib.hid hm
  have HK := Lib.hid hk
  have hli := listB_any hs hn (hm.sizes _)
  unfold ListPost at hli
  rw [hm.on, show errE (if (false = true) then 27 else 0) = .nilIface from rfl] at hli
  obtain ⟨l, hl⟩ : ∃ l, sortL (listM m x) = l := ⟨_, rfl⟩
  have hlm : ∀ e ∈ l, ∃ t ∈ T, getM m x e.1 = (t, 0) ∧ shaU x t = e.1 := fun e he => hm.list e ((sortL_perm _).mem_iff.1 (by rw [hl]; exact he))
  have hln : l.length ≤ n := by rw [← hl]; exact list_len hs.st.ok
  rw [hl] at hli
  obtain ⟨N, hN⟩ : ∃ N, l.length = N := ⟨_, rfl⟩
  have hNi : (N : Int) ≤ 1000000000 := by omega
  obtain ⟨K, hKe⟩ : ∃ K, b.length = K := ⟨_, rfl⟩
  obtain ⟨Q, hQe⟩ : ∃ Q, T.length = Q := ⟨_, rfl⟩
  have hKi : (K : Int) ≤ 1000 := by omega
  have hQi : (Q : Int) ≤ 1000 := by omega
  have HLI := Lib.hid hli
  have HLM := Lib.hid hlm
  have HNN := Lib.hid hN
  have HKK := Lib.hid hKe
  have HQQ := Lib.hid hQe
  have hd0 := h.d
  have hp0 := h.p
  rw [List.length_map, hKe] at hd0
  rw [hQe] at hp0
  obtain ⟨dp, dc, rfl⟩ := row_slice hd0
  obtain ⟨pp, pc, rfl⟩ := row_slice hp0
  have hm0 := h.m
  rw [List.length_map, hKe] at hm0
  obtain ⟨mp, mc, rfl⟩ := row_slice hm0
  have hg0 := h.g
  rw [List.length_map, hKe] at hg0
  obtain ⟨gp, gc, rfl⟩ := row_slice hg0
  clear h hs hR hB hm hk hn hb hT hli hl hlm hln hN hKe hQe hd0 hp0 hm0 hg0
  go_enter Tryz.func27, Tryz.ntmps27
  go_wp2_with fail
  refine HLI.out.mono ?_
  rintro e w1 ⟨v, rfl, hv, hb1⟩
  have hv2 : OwnG 33 32 clD W.heap.size l v w1 := hv
  have hv3 : w1.ownsRow W.heap.size 33 32 v N (flatG clD l) := by unfold OwnG at hv2; rw [HNN.out] at hv2; exact hv2
  obtain ⟨lp, lc, rfl⟩ := row_slice hv3
  have HV := Lib.hid hv3
  have HB1 := Lib.hid hb1
  clear hv hv2 hv3 hb1 HLI
  go_wp2_with fail
  go_loopw [9] (fun iv wr => ∃ k : Nat, (k : Int) ≤ N ∧ iv = .int .i64 k ∧ Hid (Below w1.heap.size w1 wr)) (fun iv _ => N - (intOf iv).toNat)
  case atStart => exact ⟨0, by omega, rfl, Lib.hid (Below.refl _ _)⟩
  case round =>
    obtain ⟨k, hk, rfl, HB⟩ := hrel
    by_cases hlt : (k : Int) < N
    · obtain ⟨e, he⟩ : ∃ e, l[k]? = some e := ⟨_, List.getElem?_eq_getElem (i := k) (by rw [HNN.out]; omega)⟩
      have HVr := row_same HV.out (fun b hb => HB.out.block b (row_blk HV.out hb).2.1)
      obtain ⟨g, cap, h1, hgl, hgr⟩ := row_dig HVr HNN.out he
      obtain ⟨rfl, rfl⟩ : lp = some ⟨g, 0, none⟩ ∧ lc = cap := by cases h1; exact ⟨rfl, rfl⟩
      obtain ⟨t, htT, hgm, hsh⟩ := HLM.out e (List.mem_of_getElem? he)
      have hts : t.size ≤ 268435456 := by
        have := reads_size HS.out.st.ok (fileN e.1)
        rcases HM.out.get e.1 with ⟨i, u, -, -, h4, h5⟩ | ⟨-, h5⟩
        · rw [h5] at this
          rw [getM_of h5 h4] at hgm
          rw [← (Prod.mk.inj hgm).1]
          exact this
        · rw [getM_none h5] at hgm
          exact absurd (Prod.mk.inj hgm).2 (by decide)
      obtain ⟨E, hE⟩ : ∃ E, e.1 = E := ⟨_, rfl⟩
      have HEL : Hid (E.length = 32) := Lib.hid (by rw [← hE]; exact e.2)
      rw [hE] at hgr hgm hsh
      have hsw := HS.out.bel (HB1.out.trans (HB.out.mono HB1.out.size))
      have hget := st_get hsw E HEL.out
      rw [hgm] at hget
      rw [show errE (t, (0 : Int)).2 = .nilIface from rfl] at hget
      have HGT := Lib.hid hget
      have HGR := Lib.hid hgr
      have HGL := Lib.hid hgl
      have HTS := Lib.hid hts
      have HSH := Lib.hid hsh
      have HTT := Lib.hid htT
      have hU := dig_und
      have hIE := dig_info HEL.out
      have hRG := hgr
      clear h1 hgl hgr he hE hget hgm hsh htT hts hsw HVr
      go_wp2_with (first | refine wpList_load_mid rfl _ _ rfl g (k * 32) rfl (E.map byteV) _ HGR.out hU rfl hIE ?_)
      refine HGT.out.mono ?_
      rintro e w2 ⟨rfl, hb2⟩
      have HB2 : Hid (Below w1.heap.size w1 w2) := Lib.hid (HB.out.trans (hb2.mono HB.out.size))
      have HBr : Hid (Below wr.heap.size wr w2) := Lib.hid hb2
      clear hb2 HGT hRG
      simp only
      go_wp2_with fail
      have hI0 : Below w2.heap.size w2 w2.drew := ⟨rfl, rfl, rfl, Nat.le_refl _, fun _ _ => rfl⟩
      refine wp_region_flowG (fun _ : Unit => [.nilIface, .bool false, .bool false, .int .i64 x, .string t, .agg (E.map byteV).toArray, .slice (some ⟨g, 0, none⟩) N lc, .int .i64 k, .pointer (some ⟨g, k * 32, none⟩), .agg (E.map byteV).toArray, .bool false, .bool false]) (fun _ _ w0 => Below w2.heap.size w2 w0)
        [[], [0], [1], [2], [2], [3, 4, 2, 2], [2], [2], [6, 7, 2], [8, 2], [5, 9, 2], [2, 10]] 122 () mixedD rfl (by kernel_rfl) (fun _ => rfl) hI0 ?_ ?_
      · refine ⟨?_, ?_, ?_, ?_, ?_, ?_, ?_, ?_, ?_, ?_, ?_, ?_, rfl⟩
        all_goals intro L γ w0 ev hL hd hW hc hf hg he h0
        · have e11 : ev (.tmp 11) = .nilIface := h0 11 rfl
          have hcc := hc
          clear he h0 hc hf hg
          exact .inl ⟨rfl, .inl ⟨_, w0, (by go_simp <;> rfl), .still (hW) rfl⟩⟩
        · have e39 : ev (.tmp 39) = .nilIface := he 0 (by decide) _ 39 rfl rfl
          have hcc := hc
          clear he h0 hc hf hg
          exact .inl ⟨rfl, .inl ⟨_, w0, (by go_simp <;> rfl), .still (hW) rfl⟩⟩
        · have e40 : ev (.tmp 40) = .bool false := he 1 (by decide) _ 40 rfl rfl
          have hcc := hc
          clear he h0 hc hf hg
          exact .inl ⟨rfl, .inl ⟨_, w0, (by go_simp <;> rfl), .still (hW) rfl⟩⟩
        · have e2 : ev (.tmp 2) = .int .i64 x := h0 2 rfl
          have hcc := hc
          clear he h0 hc hf hg
          exact .inl ⟨rfl, .inl ⟨_, w0, (by go_simp <;> rfl), .still (hW) rfl⟩⟩
        · have e10 : ev (.tmp 10) = .string t := h0 10 rfl
          have hcc := hc
          clear he h0 hc hf hg
          exact .inl ⟨rfl, .inl ⟨_, w0, (by go_simp <;> rfl), .still (hW) rfl⟩⟩
        · have e42 : ev (.tmp 42) = .int .i64 x := he 3 (by decide) _ 42 rfl rfl
          have e43 : ev (.tmp 43) = .string t := he 4 (by decide) _ 43 rfl rfl
          have hcc := hc
          clear he h0 hc hg
          have hbw := (HB1.out.trans ((HB2.out.trans (hW.mono HB2.out.size)).mono HB1.out.size))
          refine .inl ⟨rfl, .inr (.inr ⟨13, #[.int .i64 x, .string t], w0, (by have hff := hf 13; clear hf; go_simp <;> rfl), ?_⟩)⟩
          refine (refSum_any x t w0 (HRR.out.belowR2 hbw) (HBR.out.belowB hbw) (by have := HTS.out; omega)).mono ?_
          rintro e w' ⟨rfl, hb⟩
          exact ⟨_, rfl, .still (hW.trans (hb.mono hW.size)) (by rw [shaL_shaU, HSH.out]; rfl)⟩
        · have e7 : ev (.tmp 7) = .slice (some ⟨g, 0, none⟩) N lc := h0 7 rfl
          have hcc := hc
          clear he h0 hc hf hg
          exact .inl ⟨rfl, .inl ⟨_, w0, (by go_simp <;> rfl), .still (hW) rfl⟩⟩
        · have e9 : ev (.tmp 9) = .int .i64 k := h0 9 rfl
          have hcc := hc
          clear he h0 hc hf hg
          exact .inl ⟨rfl, .inl ⟨_, w0, (by go_simp <;> rfl), .still (hW) rfl⟩⟩
        · have e45 : ev (.tmp 45) = .slice (some ⟨g, 0, none⟩) N lc := he 6 (by decide) _ 45 rfl rfl
          have e46 : ev (.tmp 46) = .int .i64 k := he 7 (by decide) _ 46 rfl rfl
          have hcc := hc
          clear he h0 hc hf hg
          exact .inl ⟨rfl, .inl ⟨_, w0, (by go_simp <;> rfl), .still (hW) rfl⟩⟩
        · have e47 : ev (.tmp 47) = .pointer (some ⟨g, k * 32, none⟩) := he 8 (by decide) _ 47 rfl rfl
          have hcc := hc
          clear he h0 hc hg
          have hlv := run_loadVar_mid (P := Tryz.prog) w0 g (k * 32) 33 (E.map byteV) _ (fun j u hj => ((HBr.out.trans (hW.mono HBr.out.size)).cell (p := ⟨g, k * 32 + j, none⟩) HGL.out).trans (HGR.out j u hj)) hU rfl hIE
          exact .inl ⟨rfl, .inl ⟨_, w0, exec_load2 (x := .tmp 47) rfl e47 hlv, .still (hW) rfl⟩⟩
        · have e44 : ev (.tmp 44) = .agg (E.map byteV).toArray := he 5 (by decide) _ 44 rfl rfl
          have e48 : ev (.tmp 48) = .agg (E.map byteV).toArray := he 9 (by decide) _ 48 rfl rfl
          have hcc := hc
          clear he h0 hc hg
          have hq := dig_in w0 HEL.out HEL.out
          rw [show (E == E) = true by simp] at hq
          refine .inl ⟨rfl, .inl ⟨_, w0, (by go_simp <;> rfl), .still (hW) rfl⟩⟩
        · have e41 : ev (.tmp 41) = .bool false := he 2 (by decide) _ 41 rfl rfl
          have e49 : ev (.tmp 49) = .bool false := he 10 (by decide) _ 49 rfl rfl
          have hcc := hc
          clear he h0 hc hf hg
          exact .inl ⟨rfl, .inl ⟨_, w0, (by go_simp <;> rfl), .still (hW) rfl⟩⟩
      intro γ L w3 hL hW
      have HB3 : Hid (Below w1.heap.size w1 w3) := Lib.hid (HB2.out.trans (hW.mono HB2.out.size))
      clear hL hW hI0
      simp only [putAll, Act.put, List.setIfInBounds_toArray, List.set_cons_succ, List.set_cons_zero]
      have HA3 := Lib.hid (H.out.bel (HB1.out.trans (HB3.out.mono HB1.out.size)))
      go_wp2_with fail
      go_loopw [12, 13] (fun zv jv wz => ∃ j : Nat, (j : Int) ≤ Q ∧ jv = .int .i64 j ∧ zv = .bool (wasB T t j) ∧ w3 = wz) (fun _ jv _ => Q - (intOf jv).toNat)
      case atStart => exact ⟨0, by omega, rfl, rfl, rfl⟩
      case round =>
        obtain ⟨j, hj, rfl, rfl, rfl⟩ := hrel
        have c3 : w3.cell? ⟨bk, 3, none⟩ = some (.slice pp Q pc) := by rw [cell_of_heapN HA3.out.bx]; rfl
        by_cases hltj : (j : Int) < Q
        · obtain ⟨s, hsj⟩ : ∃ s, T[j]? = some s := ⟨_, List.getElem?_eq_getElem (i := j) (by rw [HQQ.out]; omega)⟩
          obtain ⟨gq, cq, hq1, -, hq3, -⟩ := row_nth (by have := HA3.out.p; rw [HQQ.out] at this; exact this) (show (T.map strV)[j]? = some (.string s) by rw [List.getElem?_map, hsj]; rfl)
          obtain ⟨rfl, rfl⟩ : pp = some ⟨gq, 0, none⟩ ∧ pc = cq := by cases hq1; exact ⟨rfl, rfl⟩
          have hwn := was_next (t := t) hsj
          have hbq := bytes_beq s t
          obtain ⟨wb, hwb⟩ : ∃ wb, wasB T t j = wb := ⟨_, rfl⟩
          rw [hwb] at hwn ⊢
          have HWN := Lib.hid hwn
          clear hwn hwb hsj hq1
          cases wb with
          | true =>
            clear hbq
            go_wp2_with fail
            refine ⟨⟨j + 1, by omega, by rw [Int.natCast_add]; rfl, by rw [HWN.out]; rfl, (by first | rfl | trivial)⟩, by simp [intOf]; omega⟩
          | false =>
            obtain ⟨db, hdb⟩ : ∃ db, decide (s = t) = db := ⟨_, rfl⟩
            rw [hdb] at hbq HWN
            clear hdb
            go_wp2_with fail
            refine ⟨⟨j + 1, by omega, by rw [Int.natCast_add]; rfl, by rw [HWN.out]; rfl, (by first | rfl | trivial)⟩, by simp [intOf]; omega⟩
        · obtain rfl : j = Q := by omega
          have hwa : wasB T t j = true := by rw [← HQQ.out]; exact was_all HTT.out
          rw [hwa]
          clear hwa
          go_wp2_with fail
          refine ⟨⟨k + 1, by omega, by rw [Int.natCast_add]; rfl, HB3⟩, by simp [intOf]; omega⟩
    · obtain rfl : k = N := by omega
      obtain ⟨w4, hw4⟩ : ∃ w4 : World, w4 = wr := ⟨_, rfl⟩
      have HBw : Hid (Below W.heap.size W w4) := Lib.hid (by rw [hw4]; exact HB1.out.trans (HB.out.mono HB1.out.size))
      rw [← hw4]
      clear hw4 HB
      go_wp2_with fail
      go_loopw [14] (fun iv wr => ∃ k : Nat, (k : Int) ≤ K ∧ iv = .int .i64 k ∧ Hid (Below W.heap.size W wr)) (fun iv _ => K - (intOf iv).toNat)
      case atStart => exact ⟨0, by omega, rfl, HBw⟩
      case round =>
        obtain ⟨k, hk, rfl, HB⟩ := hrel
        have HA := Lib.hid (H.out.bel HB.out)
        have c0 : wr.cell? ⟨bk, 0, none⟩ = some (.slice dp K dc) := by rw [cell_of_heapN HA.out.bx]; rfl
        by_cases hlt : (k : Int) < K
        · obtain ⟨e, he⟩ : ∃ e, b[k]? = some e := ⟨_, List.getElem?_eq_getElem (i := k) (by rw [HKK.out]; omega)⟩
          have hbe := List.mem_of_getElem? he
          obtain ⟨g, cap, h1, hgl, hgr⟩ := row_dig (by have := HA.out.d; rw [List.length_map, HKK.out] at this; exact this) (by rw [List.length_map, HKK.out]) (show (b.map (·.dig))[k]? = some e.dig by rw [List.getElem?_map, he]; rfl)
          obtain ⟨rfl, rfl⟩ : dp = some ⟨g, 0, none⟩ ∧ dc = cap := by cases h1; exact ⟨rfl, rfl⟩
          have hem : (boolVs (b.map (·.must)))[k]? = some (.bool e.must) := by unfold boolVs; rw [List.getElem?_map, List.getElem?_map, he]; rfl
          have heg : (boolVs (b.map (·.gone)))[k]? = some (.bool e.gone) := by unfold boolVs; rw [List.getElem?_map, List.getElem?_map, he]; rfl
          have hhas := st_has (HS.out.bel HB.out) e.dig.1 e.dig.2
          rw [HM.out.hasM] at hhas
          rw [show errE 0 = .nilIface from rfl] at hhas
          have hmu := HK.out.must e hbe
          have hgo := HK.out.gone e hbe
          have HEL := Lib.hid e.dig.2
          obtain ⟨E, hE⟩ : ∃ E, e.dig.1 = E := ⟨_, rfl⟩
          obtain ⟨q, hq⟩ : ∃ q, (tget m.now (fileK e.dig.1)).isSome = q := ⟨_, rfl⟩
          have hgo2 : e.gone = true → q = false := fun h => by rw [← hq, hgo h]; rfl
          rw [hq] at hmu hhas
          rw [hE] at hgr hhas HEL
          obtain ⟨M, hM⟩ : ∃ M, e.must = M := ⟨_, rfl⟩
          obtain ⟨G, hG⟩ : ∃ G, e.gone = G := ⟨_, rfl⟩
          rw [hM] at hem hmu
          rw [hG] at heg hgo2
          have hU := dig_und
          have hIE := dig_info HEL.out
          have HGR := Lib.hid hgr
          have HHS := Lib.hid hhas
          have HEM := Lib.hid hem
          have HEG := Lib.hid heg
          have HMU := Lib.hid hmu
          have HGO := Lib.hid hgo2
          clear h1 hgl hgr he hbe hE hq hgo hgo2 hM hG hhas hem heg hmu
          go_wp2_with (first | refine wpList_load_mid rfl _ _ rfl g (k * 32) rfl (E.map byteV) _ HGR.out hU rfl hIE ?_)
          refine HHS.out.mono ?_
          rintro e2 w5 ⟨rfl, hb5⟩
          have HB5 : Hid (Below W.heap.size W w5) := Lib.hid (HB.out.trans (hb5.mono HB.out.size))
          have HA5 := Lib.hid (H.out.bel HB5.out)
          obtain ⟨gm, cm, hm1, -, hm3, -⟩ := row_nth (by have := HA5.out.m; rw [List.length_map, HKK.out] at this; exact this) HEM.out
          obtain ⟨rfl, rfl⟩ : mp = some ⟨gm, 0, none⟩ ∧ mc = cm := by cases hm1; exact ⟨rfl, rfl⟩
          obtain ⟨gg, cg, hg1, -, hg3, -⟩ := row_nth (by have := HA5.out.g; rw [List.length_map, HKK.out] at this; exact this) HEG.out
          obtain ⟨rfl, rfl⟩ : gp = some ⟨gg, 0, none⟩ ∧ gc = cg := by cases hg1; exact ⟨rfl, rfl⟩
          have c1 : w5.cell? ⟨bk, 1, none⟩ = some (.slice (some ⟨gm, 0, none⟩) K mc) := by rw [cell_of_heapN HA5.out.bx]; rfl
          have c2 : w5.cell? ⟨bk, 2, none⟩ = some (.slice (some ⟨gg, 0, none⟩) K gc) := by rw [cell_of_heapN HA5.out.bx]; rfl
          have hmq := HMU.out
          have hgq := HGO.out
          clear hb5 hm1 hg1 c0 HHS HGR HEM HEG HMU HGO
          cases M with
          | true =>
            have hq1 := hmq rfl
            subst hq1
            cases G with
            | true => exact absurd (hgq rfl) (by decide)
            | false =>
              clear hmq hgq
              go_wp2_with fail
              refine ⟨⟨k + 1, by omega, by rw [Int.natCast_add]; rfl, HB5⟩, by simp [intOf]; omega⟩
          | false =>
            clear hmq
            cases G with
            | true =>
              have hq1 := hgq rfl
              subst hq1
              clear hgq
              go_wp2_with fail
              refine ⟨⟨k + 1, by omega, by rw [Int.natCast_add]; rfl, HB5⟩, by simp [intOf]; omega⟩
            | false =>
              clear hgq
              go_wp2_with fail
              refine ⟨⟨k + 1, by omega, by rw [Int.natCast_add]; rfl, HB5⟩, by simp [intOf]; omega⟩
        · go_wp2_with fail
          go_ret
          exact ⟨rfl, HB.out⟩
end Go.Proofs.YtecgikanophonaaGreatDoor
/- strataref0.CopyInts. -/
namespace Go.Proofs.YtecgikanophonaaGreatDoor
open Go Go.RowKit
def intCl (k : Int) : Array Value := #[.int .i64 k]
theorem infoIn : (Tryz.prog.info? 3).map (fun i => (i.zero, i.size, i.bytes)) = some (some (.int .i64 0), 1, 8) := by kernel_rfl
/-- The state of a loop that gathers numbers. -/
structure GathN (w wr : World) (ov : Value) (out : List Int) : Prop where
  row : wr.ownsRow w.heap.size 3 1 ov out.length (out.map (Value.int .i64))
  bel : Below w.heap.size w wr
theorem GathN.app {w wr w1 : World} {ov v' : Value} {out : List Int} {x : Int} {tmp : Obj} (h : GathN w wr ov out) (hown' : w1.ownsRow w.heap.size 3 1 v' (out.length + 1) (out.map (Value.int .i64) ++ [.int .i64 x])) (hg : (wr.alloc tmp).grownBy w1 ov.ownBlock) : GathN w w1 v' (out ++ [x]) := by
  refine ⟨by rw [List.length_append, List.map_append]; exact hown', ?_⟩
  refine h.bel.trans (((Below.refl w.heap.size wr).alloc h.bel.size tmp).grown hg (by rw [World.size_alloc]; have := h.bel.size; omega) fun j ej => ?_)
  rcases h.row.2 with ⟨rfl, _⟩ | ⟨g, cap, cur, rfl, hb', _, _⟩
  · simp [Value.ownBlock] at ej
  · obtain rfl : g = j := by simpa [Value.ownBlock] using ej
    exact hb'
set_option maxHeartbeats 1600000 in
set_option maxRecDepth 100000 in
theorem copyIs_any {S : Nat → Prop} {w : World} {kv : Value} {ks : List Int} (h : IntsRd S w kv ks) (hl : ks.length ≤ 17592186044416) :
    Calls Tryz.prog 21 #[kv] w fun e w' => ∃ u, e = .returned u ∧ GathN w w' u ks := by
  obtain ⟨p, c, rfl, -, hk⟩ := h
  obtain ⟨N, hN⟩ : ∃ N, ks.length = N := ⟨_, rfl⟩
  rw [hN] at hl ⊢
  have hNi : (N : Int) ≤ 17592186044416 := by omega
  have HK := Lib.hid hk
  have HN := Lib.hid hN
  clear hk hN hl
  obtain ⟨i0, hi, hz0, hz1, hz2⟩ := info_parts infoIn
  go_enter Tryz.func21, Tryz.ntmps21
  go_wp2_with fail
  go_loopw [3, 4] (fun ov iv wr => ∃ i : Nat, i ≤ N ∧ iv = .int .i64 i ∧ Hid (GathN w wr ov (ks.take i))) (fun _ iv _ => N - (intOf iv).toNat)
  case atStart => exact ⟨0, Nat.zero_le _, rfl, Lib.hid ⟨World.ownsRow_nil _ _ _ _, Below.refl _ _⟩⟩
  case round =>
    obtain ⟨i, hi', rfl, HGt⟩ := hrel
    have hsz := HGt.out.bel.size
    by_cases hlt : (i : Int) < (N : Int)
    · obtain ⟨q, hq⟩ : ∃ q, ks[i]? = some q := ⟨_, List.getElem?_eq_getElem (i := i) (by have := HN.out; omega)⟩
      obtain ⟨-, b, off, rfl, hc, hb, -⟩ := HK.out i q hq
      have d0 : wr.cell? ⟨b, off + i, none⟩ = some (.int .i64 q) := (HGt.out.bel.cell (p := ⟨b, off + i, none⟩) hb).trans hc
      have htk : ks.take (i + 1) = ks.take i ++ [q] := by
        obtain ⟨h1, rfl⟩ := List.getElem?_eq_some_iff.1 hq
        exact List.take_succ_eq_append_getElem h1
      have hln : (ks.take i).length ≤ i := by rw [List.length_take]; exact Nat.min_le_left _ _
      have HT := Lib.hid htk
      generalize ks.take i = out at HGt hln HT
      have HO := Lib.hid HGt.out.row
      clear hq hc hb htk
      go_wp2_with (at_builtin; refine wpList_append_own _ rfl _ _ 50 rfl w.heap.size 3 i0 (.int .i64 0) 1 8 Tryz.underlying50 hi hz0 hz1 hz2 rfl (by decide) _ _ _ rfl (HO.out.alloc _) ⟨wr.heap.size, 0, none⟩ 1 1 [.int .i64 q] rfl rfl (fun i u h => one_new i u h) (by simp [Value.oneCell']) (by unfold maxLen; omega) (by omega) (by rw [World.size_alloc]; omega) ?_; intro v' w1 hown' hgrow _; have HA := Lib.hid (HGt.out.app hown' hgrow); clear hown' hgrow)
      go_roundw
      case rel => exact ⟨i + 1, by omega, by rw [Int.natCast_add]; rfl, Lib.hid (by rw [HT.out]; exact HA.out)⟩
      case measure => simp [intOf]; omega
    · obtain rfl : i = N := by omega
      have hG := HGt.out
      rw [List.take_of_length_le (by rw [HN.out]; exact Nat.le_refl _)] at hG
      have HG2 := Lib.hid hG
      clear hG HGt
      go_wp2_with fail
      go_ret
      exact ⟨_, rfl, HG2.out⟩
end Go.Proofs.YtecgikanophonaaGreatDoor
/- BlobsSafe: what holds between the acts. -/
namespace Go.Proofs.YtecgikanophonaaGreatDoor
open Go Go.RowKit
theorem num_E (x : Int) (hx : x = 0 ∨ (1 ≤ x ∧ x ≤ 32)) (w : World) : Calls Tryz.prog 23 #[errE x] w fun e w' => e = .returned (.int .i64 x) ∧ Below w.heap.size w w' := by
  by_cases h0 : x = 0
  · subst h0
    refine (num_nil w).mono ?_
    rintro e w' ⟨rfl, rfl⟩
    exact ⟨rfl, Below.refl _ _⟩
  · rw [errE_nz h0]
    exact num_any _ _ x w (isNum_errno x) (by omega) (by omega)
/-- Blocks that the disk leaves alone are written by others. -/
theorem St.others {w w1 w2 : World} {S P Q R : Nat → Prop} {a n : Nat} {m : DM} (h : St w S P a w1 n m) (ho : Off R w1 w2) (hR : ∀ k, R k → P k ∧ w.heap.size ≤ k) (hQ : ∀ b, Q b → P b ∨ (w1.heap.size ≤ b ∧ b < w2.heap.size)) : St w S Q a w2 n m := by
  obtain ⟨⟨S1, h1, h2⟩, h3, h4, h5⟩ := h
  have hz := h4.size
  refine ⟨⟨S1, h1.frame (fun b hb => ho.block b (h1.lt b hb) (fun hr => (h2 b hb).2 (hR b hr).1)) ho.size, fun b hb => ⟨(h2 b hb).1, fun hq => ?_⟩⟩, fun b hb => ?_, ⟨ho.os.trans h4.os, ho.tape.trans h4.tape, ho.output.trans h4.output, Nat.le_trans hz ho.size, fun i hi hn => (ho.block i (by omega) (fun hr => by have := (hR i hr).2; omega)).trans (h4.block i hi hn)⟩, h5⟩
  · rcases hQ b hq with hp | ⟨hp, _⟩
    · exact (h2 b hb).2 hp
    · have := h1.lt b hb
      omega
  · rcases hQ b hb with hp | ⟨_, hp⟩
    · exact Nat.lt_of_lt_of_le (h3 b hp) ho.size
    · exact hp
theorem Sto.others {w w1 w2 : World} {S P Q R : Nat → Prop} {sb a n : Nat} {x : Int} {m : DM} (h : Sto w S P sb a x w1 n m) (ho : Off R w1 w2) (hR : ∀ k, R k → P k ∧ w.heap.size ≤ k) (hQ : ∀ b, Q b → P b ∨ (w1.heap.size ≤ b ∧ b < w2.heap.size)) (h1 : ¬ R sb) (h2 : ¬ R 3) (h3 : Q sb) (h4 : Q 3) : Sto w S Q sb a x w2 n m :=
  ⟨h.st.others ho hR hQ, (ho.block sb (h.st.pl sb h.pb) h1).trans h.box, h3, h.rnd.same (ho.block _ (h.st.pl _ h.pr) h2) (Nat.lt_of_lt_of_le h.rnd.2 ho.size), h4⟩
/-- The disk, the store and the book, beside blocks that are kept. -/
structure SafeP (w : World) (a : Nat) (x : Int) (bk sb : Nat) (dv mv gv pv : Value) (W : World) (n : Nat) (m : DM) (b : List Ent) (T : List ByteArray) (Ks : List (Nat × Obj)) : Prop where
  sto : ∃ P, Sto w (fun _ => False) P sb a x W n m ∧ (∀ k, BkS bk dv mv gv pv k → P k) ∧ ∀ q ∈ Ks, P q.1
  book : BookAt w.heap.size bk dv mv gv pv W b T
  kept : ∀ q ∈ Ks, W.heap[q.1]? = some q.2 ∧ ¬ BkS bk dv mv gv pv q.1
section
variable {w : World} {a bk sb n : Nat} {x : Int} {dv mv gv pv : Value} {W W' : World} {m : DM} {b : List Ent} {T : List ByteArray} {Ks : List (Nat × Obj)}
theorem SafeP.toB (h : SafeP w a x bk sb dv mv gv pv W n m b T Ks) : Below w.heap.size w W := by
  obtain ⟨P, h1, -⟩ := h.sto
  exact h1.st.toB
theorem SafeP.dok (h : SafeP w a x bk sb dv mv gv pv W n m b T Ks) : m.Ok n := by
  obtain ⟨P, h1, -⟩ := h.sto
  exact h1.st.ok
theorem SafeP.at (h : SafeP w a x bk sb dv mv gv pv W n m b T Ks) {q : Nat × Obj} (hq : q ∈ Ks) : W.heap[q.1]? = some q.2 := (h.kept q hq).1
theorem SafeP.drop (h : SafeP w a x bk sb dv mv gv pv W n m b T Ks) : SafeP w a x bk sb dv mv gv pv W n m b T [] := by
  obtain ⟨P, h1, h2, h3⟩ := h.sto
  exact ⟨⟨P, h1, h2, fun q hq => by cases hq⟩, h.book, fun q hq => by cases hq⟩
theorem SafeP.bel (h : SafeP w a x bk sb dv mv gv pv W n m b T Ks) (hb : Below W.heap.size W W') : SafeP w a x bk sb dv mv gv pv W' n m b T Ks := by
  obtain ⟨P, h1, h2, h3⟩ := h.sto
  exact ⟨⟨P, h1.bel hb, h2, h3⟩, BookR.bel h.book hb, fun q hq => ⟨(hb.block _ (blk_lt (h.kept q hq).1)).trans (h.kept q hq).1, (h.kept q hq).2⟩⟩
theorem SafeP.keep (h : SafeP w a x bk sb dv mv gv pv W n m b T Ks) (hb : Below W.heap.size W W') {k : Nat} {o : Obj} (h1 : W.heap.size ≤ k) (h2 : W'.heap[k]? = some o) : SafeP w a x bk sb dv mv gv pv W' n m b T ((k, o) :: Ks) := by
  obtain ⟨P, g1, g2, g3⟩ := h.sto
  refine ⟨⟨fun c => P c ∨ c = k, g1.more hb _ (fun c hc => .inl hc) (fun c hc => hc.elim .inl (fun e => .inr ⟨by omega, by rw [e]; exact blk_lt h2⟩)), fun c hc => .inl (g2 c hc), fun q hq => ?_⟩, BookR.bel h.book hb, fun q hq => ?_⟩
  · rcases List.mem_cons.1 hq with rfl | hq
    · exact .inr rfl
    · exact .inl (g3 q hq)
  · rcases List.mem_cons.1 hq with rfl | hq
    · exact ⟨h2, fun hs => by have := (BookR.own h.book _ hs).2; simp only at this; omega⟩
    · exact ⟨(hb.block _ (blk_lt (h.kept q hq).1)).trans (h.kept q hq).1, (h.kept q hq).2⟩
theorem SafeP.ne (h : SafeP w a x bk sb dv mv gv pv W n m b T Ks) : ¬ BkS bk dv mv gv pv sb := fun hs => by
  obtain ⟨P, h1, -⟩ := h.sto
  have hx := h1.box
  unfold storeO at hx
  rcases hs with hs | hs | hs | hs | hs
  · have := h.book.bx
    rw [← hs, hx] at this
    cases this
  · obtain ⟨-, -, c, hc⟩ := row_blk h.book.d hs
    rw [hx] at hc
    cases hc
  · obtain ⟨-, -, c, hc⟩ := row_blk h.book.m hs
    rw [hx] at hc
    cases hc
  · obtain ⟨-, -, c, hc⟩ := row_blk h.book.g hs
    rw [hx] at hc
    cases hc
  · obtain ⟨-, -, c, hc⟩ := row_blk h.book.p hs
    rw [hx] at hc
    cases hc
/-- The book's blocks have changed, by whatever keeps a book. -/
theorem SafeP.write (h : SafeP w a x bk sb dv mv gv pv W n m b T Ks) (hr : 3 < w.heap.size) {dv' mv' gv' pv' : Value} {b' : List Ent} {T' : List ByteArray} (h1 : BookAt w.heap.size bk dv' mv' gv' pv' W' b' T') (h2 : Off (BkS bk dv mv gv pv) W W') (h3 : ∀ k, BkS bk dv' mv' gv' pv' k → BkS bk dv mv gv pv k ∨ W.heap.size ≤ k) :
    SafeP w a x bk sb dv' mv' gv' pv' W' n m b' T' Ks := by
  obtain ⟨P, g1, g2, g3⟩ := h.sto
  have hown := fun k hk => BookR.own h.book k hk
  refine ⟨⟨fun k => P k ∨ BkS bk dv' mv' gv' pv' k, g1.others h2 (fun k hk => ⟨g2 k hk, (hown k hk).1⟩) (fun k hk => ?_) h.ne (fun hs => by have := (hown _ hs).1; omega) (.inl g1.pb) (.inl g1.pr), fun k hk => .inr hk, fun q hq => .inl (g3 q hq)⟩, h1, fun q hq => ⟨(h2.block _ (blk_lt (h.kept q hq).1) (h.kept q hq).2).trans (h.kept q hq).1, fun hs => ?_⟩⟩
  · rcases hk with hk | hk
    · exact .inl hk
    · rcases h3 k hk with h4 | h4
      · exact .inl (g2 k h4)
      · exact .inr ⟨h4, (BookR.own h1 k hk).2⟩
  · rcases h3 _ hs with h4 | h4
    · exact (h.kept q hq).2 h4
    · have := blk_lt (h.kept q hq).1
      omega
/-- The disk has changed. -/
theorem SafeP.step {P : Nat → Prop} {n' : Nat} {m' : DM} (h : SafeP w a x bk sb dv mv gv pv W n m b T Ks) (g1 : Sto w (fun _ => False) P sb a x W n m) (g2 : ∀ k, BkS bk dv mv gv pv k → P k) (g3 : ∀ q ∈ Ks, P q.1) (hs : St w (fun _ => False) P a W' n' m') (hk : SameP P W W') : SafeP w a x bk sb dv mv gv pv W' n' m' b T Ks :=
  ⟨⟨P, g1.step hs hk, g2, g3⟩, BookR.same h.book (fun k hb => hk k (g2 k hb)), fun q hq => ⟨(hk _ (g3 q hq)).trans (h.kept q hq).1, (h.kept q hq).2⟩⟩
theorem SafeP.put (h : SafeP w a x bk sb dv mv gv pv W n m b T Ks) (hn : n + 9 ≤ 4000000000) (t : ByteArray) (ht : t.size ≤ 140737488355328) :
    Calls Tryz.prog 10 #[.pointer (some ⟨sb, 0, none⟩), .string t] W fun e W' => e = .returned (.tuple #[digV (putM m x t).2.1, errE (putM m x t).2.2]) ∧ SafeP w a x bk sb dv mv gv pv W' (n + 9) (putM m x t).1 b T Ks := by
  obtain ⟨P, g1, g2, g3⟩ := h.sto
  refine (put_any g1 hn t ht).mono ?_
  rintro e W' ⟨rfl, hs, hk⟩
  exact ⟨rfl, h.step g1 g2 g3 hs hk⟩
theorem SafeP.take (h : SafeP w a x bk sb dv mv gv pv W n m b T Ks) (hn : n + 2 ≤ 4000000000) (D : List UInt8) (hD : D.length = 32) :
    Calls Tryz.prog 15 #[.pointer (some ⟨sb, 0, none⟩), digV D] W fun e W' => e = .returned (errE (takeM m D).2) ∧ SafeP w a x bk sb dv mv gv pv W' (n + 2) (takeM m D).1 b T Ks := by
  obtain ⟨P, g1, g2, g3⟩ := h.sto
  refine (take_any g1 hn D hD).mono ?_
  rintro e W' ⟨rfl, hs, hk⟩
  exact ⟨rfl, h.step g1 g2 g3 hs hk⟩
theorem SafeP.dir (h : SafeP w a x bk sb dv mv gv pv W n m b T Ks) (hn : n ≤ 4000000000) (hd : ByteArray) : Calls Tryz.prog 25 #[.pointer (some ⟨a, 0, none⟩), .string hd] W fun e w' => ∃ v, e = .returned (.tuple #[v, errE (if m.off then 27 else 0)]) ∧ OwnTexts W.heap.size w' v (m.lists hd) ∧ Below W.heap.size W w' := by
  obtain ⟨P, h1, -⟩ := h.sto
  exact st_list h1.st hd hn
theorem SafeP.revive (h : SafeP w a x bk sb dv mv gv pv W n m b T Ks) :
    Calls Tryz.prog 26 #[.pointer (some ⟨a, 0, none⟩)] W fun e W' => e = .returned (.tuple #[]) ∧ SafeP w a x bk sb dv mv gv pv W' n m.revive b T Ks := by
  obtain ⟨P, g1, g2, g3⟩ := h.sto
  refine (st_revive g1.st).mono ?_
  rintro e W' ⟨rfl, hs, hk⟩
  exact ⟨rfl, h.step g1 g2 g3 hs hk⟩
theorem SafeP.open (h : SafeP w a x bk sb dv mv gv pv W n m b T Ks) (hx : 1 ≤ x ∧ x ≤ 32) (hn : n ≤ 1000000000) (hsh : ∀ s ∈ m.lists ⟨blobHead.toArray⟩, s.size ≤ 200) (hbad : (badM m x).length ≤ 1) (h0 : (openM m x).2 = 0) :
    Calls Tryz.prog 8 #[.pointer (some ⟨a, 0, none⟩), .int .i64 x] W fun e W' => ∃ sc, e = .returned (.tuple #[.pointer (some ⟨sc, 0, none⟩), .nilIface]) ∧ SafeP w a x bk sc dv mv gv pv W' (n + 2) (openM m x).1 b T [] := by
  obtain ⟨P, h1, h2, h3⟩ := h.sto
  refine (open_any h1.st h1.rnd h1.pr hx hn hsh).mono ?_
  rintro e W' ⟨v, rfl, hp, hk⟩
  rcases hp with ⟨-, sc, rfl, hsb, hsto⟩ | ⟨hne, -⟩
  · exact ⟨sc, rfl, ⟨_, ⟨hsto.st.more (by omega), hsto.box, hsto.pb, hsto.rnd, hsto.pr⟩, fun k hb => .inl (h2 k hb), fun q hq => by cases hq⟩, BookR.same h.book (fun k hb => hk k (h2 k hb)), fun q hq => by cases hq⟩
  · exact absurd h0 hne
/-- Numbers that were just gathered. -/
theorem GathN.rd {W1 W2 : World} {kv : Value} {ks : List Int} (h : GathN W1 W2 kv ks) (hk : ∀ k ∈ ks, -9223372036854775808 ≤ k ∧ k ≤ 9223372036854775807) (hl : ks.length ≤ 17592186044416) {S : Nat → Prop} (hS : ∀ b, S b → b < W1.heap.size) : IntsRd S W2 kv ks := by
  have hr := h.row
  obtain ⟨p, c, rfl⟩ := row_slice hr
  rcases hr.2 with ⟨h1, h0⟩ | ⟨g, cap, cur, h1, h2, h3, h4, h5, h6, h7⟩
  · injection h1 with e1 e2 e3
    subst e1 e3
    refine ⟨none, 0, rfl, ⟨by omega, Nat.zero_le _⟩, fun j k hj => ?_⟩
    have := (List.getElem?_eq_some_iff.1 hj).1
    omega
  · injection h1 with e1 e2 e3
    subst e1 e3
    refine ⟨_, _, rfl, ⟨h4, h5⟩, fun j k hj => ⟨hk k (List.mem_of_getElem? hj), g, 0, rfl, ?_, blk_lt h3, .inl (fun hs => by have := hS g hs; omega)⟩⟩
    have hjl := (List.getElem?_eq_some_iff.1 hj).1
    rw [Nat.zero_add, cell_of_heapN h3, ← Array.getElem?_toList]
    have h8 : (ks.map (Value.int .i64))[j]? = some (.int .i64 k) := by rw [List.getElem?_map, hj]; rfl
    rw [← h7, List.getElem?_take, if_pos (by omega)] at h8
    exact h8
theorem SafeP.arm {W2 : World} {kv : Value} {ks : List Int} (h : SafeP w a x bk sb dv mv gv pv W n m b T Ks) (hg : GathN W W2 kv ks) (hk : ∀ k ∈ ks, -9223372036854775808 ≤ k ∧ k ≤ 9223372036854775807) (hl : ks.length * 8 ≤ 140737488355328) (z : Int) (hz : z ≤ 9223372036854775807) :
    Calls Tryz.prog 20 #[.pointer (some ⟨a, 0, none⟩), .int .i64 z, .agg #[kv]] W2 fun e W' => e = .returned (.tuple #[]) ∧ SafeP w a x bk sb dv mv gv pv W' n (m.arm z ks) b T Ks := by
  obtain ⟨P, h1, h2, h3⟩ := h.sto
  have hst := h1.st
  obtain ⟨⟨S1, g1, g2⟩, g3, g4, g5⟩ := hst
  refine (arm_any (g1.below hg.bel) z kv ks (hg.rd hk (by omega) g1.lt) hl hz).mono fun e W' hp => ?_
  obtain ⟨q1, q2⟩ := St.post (w1 := W2) g2 (fun k hk => Nat.lt_of_lt_of_le (g3 k hk) hg.bel.size) (g4.below hg.bel g4.size) g5 hp.2
  exact ⟨hp.1, h.step h1 h2 h3 q1 (fun k hk => (q2 k hk).trans (hg.bel.block k (g3 k hk)))⟩
theorem SafeP.crash {W2 : World} {kv : Value} {ks : List Int} (h : SafeP w a x bk sb dv mv gv pv W n m b T Ks) (hg : GathN W W2 kv ks) (hk : ∀ k ∈ ks, -9223372036854775808 ≤ k ∧ k ≤ 9223372036854775807) (hl : ks.length * 8 ≤ 140737488355328) (hn : n ≤ 4000000000) :
    Calls Tryz.prog 22 #[.pointer (some ⟨a, 0, none⟩), .agg #[kv]] W2 fun e W' => e = .returned (.tuple #[]) ∧ SafeP w a x bk sb dv mv gv pv W' n (m.crash ks) b T Ks := by
  obtain ⟨P, h1, h2, h3⟩ := h.sto
  have hst := h1.st
  obtain ⟨⟨S1, g1, g2⟩, g3, g4, g5⟩ := hst
  refine (crash_any (g1.below hg.bel) kv ks (hg.rd hk (by omega) g1.lt) (by omega)).mono fun e W' hp => ?_
  obtain ⟨q1, q2⟩ := St.post (w1 := W2) g2 (fun k hk => Nat.lt_of_lt_of_le (g3 k hk) hg.bel.size) (g4.below hg.bel g4.size) g5 hp.2
  exact ⟨hp.1, h.step h1 h2 h3 q1 (fun k hk => (q2 k hk).trans (hg.bel.block k (g3 k hk)))⟩
end
end Go.Proofs.YtecgikanophonaaGreatDoor
/- BlobsSafe, walked. -/
namespace Go.Proofs.YtecgikanophonaaGreatDoor
open Go Go.RowKit
/-- An act of the law. -/
structure ActM where
  kind : Int
  text : ByteArray
  num : Int
  keep : List Int
def ActM.cells (m : ActM) (kv : Value) : Array Value := #[.int .i64 m.kind, .string m.text, .int .i64 m.num, kv]
def bigI (x : Int) : Prop := -9223372036854775808 ≤ x ∧ x ≤ 9223372036854775807
def actO (k : Int) (t : ByteArray) (n : Int) (v : Value) : Obj := .cells #[.int .i64 k, .string t, .int .i64 n, v] 52 (0, 0)
def digO2 (D : List UInt8) : Obj := .cells (D.map byteV).toArray 33 (0, 0)
def ActM.Fits (m : ActM) : Prop := bigI m.kind ∧ bigI m.num ∧ m.text.size ≤ 140737488351232 ∧ m.keep.length * 8 ≤ 140737488351232
/-- Acts among the arguments. -/
def ActsAt (w : World) (v : Value) (l : List ActM) : Prop :=
  ∃ p cap, v = .slice p l.length cap ∧ ∀ i m, l[i]? = some m → ∃ b off kv, p = some ⟨b, off, none⟩ ∧ b < w.heap.size ∧ (∀ j, j < 4 → w.cell? ⟨b, off + (i * 4 + j), none⟩ = (m.cells kv)[j]?) ∧ IntsIn w kv m.keep
theorem SafeP.putT {w : World} {a bk sb n : Nat} {x : Int} {dv mv gv pv : Value} {W : World} {m : DM} {b : List Ent} {T : List ByteArray} {Ks : List (Nat × Obj)} (h : SafeP w a x bk sb dv mv gv pv W n m b T Ks) : ∃ vp vc, pv = .slice vp T.length vc := by
  obtain ⟨p, c, hp⟩ := row_slice h.book.p
  exact ⟨p, c, hp⟩
theorem IntsIn.bounds {w : World} {kv : Value} {ks : List Int} (h : IntsIn w kv ks) : ∀ k ∈ ks, -9223372036854775808 ≤ k ∧ k ≤ 9223372036854775807 := fun k hk => by
  obtain ⟨j, hj, hjk⟩ := List.getElem_of_mem hk
  obtain ⟨p, cap, -, -, h3⟩ := h
  exact (h3 j k (by rw [List.getElem?_eq_getElem hj, hjk])).1
theorem GathN.keepB {W1 W2 W3 : World} {kv : Value} {ks : List Int} (h : GathN W1 W2 kv ks) (hb : Below W2.heap.size W2 W3) : GathN W1 W3 kv ks := ⟨row_same h.row (fun b hv => hb.block b (row_blk h.row hv).2.1), h.bel.trans (hb.mono h.bel.size)⟩
/-- The region that arms the disk. -/
structure ArmW (w5 : World) (KL : Nat) (ks : List Int) (F : World → Prop) (L : Nat → Bool) (γ : Option Addr × Nat) (W : World) : Prop where
  bel : L 7 = false → Below w5.heap.size w5 W
  row : L 5 = true → L 7 = false → GathN w5 W (.slice γ.1 KL γ.2) ks
  fin : L 7 = true → F W
  c7 : L 7 = true → ∀ j, j < 7 → L j = true
  c2 : L 2 = true → L 1 = true
  c4 : L 4 = true → L 3 = true
  c5 : L 5 = true → L 4 = true
  c6 : L 6 = true → L 5 = true
section
variable {w5 W W' : World} {KL : Nat} {ks : List Int} {F : World → Prop} {L : Nat → Bool} {γ : Option Addr × Nat}
theorem ArmW.off (h : ArmW w5 KL ks F L γ W) {i : Nat} (hL : L i = false) (hi : i < 7) : L 7 = false := by
  cases hx : L 7 with
  | false => rfl
  | true => rw [h.c7 hx i hi] at hL; cases hL
theorem ArmW.upd (h : ArmW w5 KL ks F L γ W) (k : Nat) (h1 : k ≠ 5) (h2 : k ≠ 7) (d2 : k = 2 → L 1 = true) (d4 : k = 4 → L 3 = true) (d6 : k = 6 → L 5 = true) : ArmW w5 KL ks F (updL L k) γ W := by
  have e1 : updL L k 5 = L 5 := updL_ne h1.symm
  have e2 : updL L k 7 = L 7 := updL_ne h2.symm
  refine ⟨fun a => h.bel (e2 ▸ a), fun a b => h.row (e1 ▸ a) (e2 ▸ b), fun a => h.fin (e2 ▸ a), fun a j hj => upd_keep (h.c7 (e2 ▸ a) j hj), fun a => ?_, fun a => ?_, fun a => upd_keep (h.c5 (e1 ▸ a)), fun a => ?_⟩
  · by_cases e : k = 2
    · exact upd_keep (d2 e)
    · exact upd_keep (h.c2 (updL_of a (Ne.symm e)))
  · by_cases e : k = 4
    · exact upd_keep (d4 e)
    · exact upd_keep (h.c4 (updL_of a (Ne.symm e)))
  · by_cases e : k = 6
    · exact upd_keep (d6 e)
    · exact upd_keep (h.c6 (updL_of a (Ne.symm e)))
theorem ArmW.called (h : ArmW w5 KL ks F L γ W) (hL : L 5 = false) (h4 : L 4 = true) {u : Option Addr} {c : Nat} (hg : GathN W W' (.slice u KL c) ks) : ArmW w5 KL ks F (updL L 5) (u, c) W' := by
  have h7 := h.off hL (by decide)
  have e2 : updL L 5 7 = L 7 := updL_ne (by decide)
  have hb := h.bel h7
  have hb2 := hb.trans (hg.bel.mono hb.size)
  have hro : W'.ownsRow w5.heap.size 3 1 (.slice u KL c) ks.length (ks.map (Value.int .i64)) := by
    refine ⟨hg.row.1, ?_⟩
    rcases hg.row.2 with h1 | ⟨g, cap, cur, h1, h2, h3⟩
    · exact .inl h1
    · exact .inr ⟨g, cap, cur, h1, Nat.le_trans hb.size h2, h3⟩
  refine ⟨fun _ => hb2, fun _ _ => ⟨hro, hb2⟩, fun a => ?_, fun a => ?_, fun a => upd_keep (h.c2 (updL_of a (by decide))), fun a => upd_keep (h.c4 (updL_of a (by decide))), fun _ => upd_keep h4, fun a => upd_keep (h.c6 (updL_of a (by decide)))⟩
  · rw [e2, h7] at a; cases a
  · rw [e2, h7] at a; cases a
theorem ArmW.done (h : ArmW w5 KL ks F L γ W) (hall : ∀ j, j < 7 → L j = true) (hf : F W') : ArmW w5 KL ks F (updL L 7) γ W' := by
  refine ⟨fun a => ?_, fun _ a => ?_, fun _ => hf, fun _ j hj => upd_keep (hall j hj), fun _ => upd_keep (hall 1 (by decide)), fun _ => upd_keep (hall 3 (by decide)), fun _ => upd_keep (hall 4 (by decide)), fun _ => upd_keep (hall 5 (by decide))⟩
  · rw [updL_self] at a; cases a
  · rw [updL_self] at a; cases a
end
theorem note_len : ∀ (b : List Ent) (d : Dg) (a c : Bool), (noteM b d a c).length ≤ b.length + 1
  | [], _, _, _ => Nat.le_refl _
  | e :: r, d, a, c => by
    unfold noteM
    split
    · exact Nat.le_succ _
    · exact Nat.succ_le_succ (note_len r d a c)
theorem putM_len (m : DM) (x : Int) (t : ByteArray) : (putM m x t).2.1.length = 32 := by
  have h := shaU_len x t
  unfold putM
  split
  · rfl
  · split
    · split
      · exact h
      · rfl
    · split
      · exact h
      · rfl
theorem new_rest (r : Int) (x : Int) : Rest x [] (DM.new r) := ⟨rfl, rfl, rfl, fun p hp => by cases hp⟩
theorem SafeP.holds {w : World} {a bk sb n : Nat} {x : Int} {dv mv gv pv : Value} {W : World} {m : DM} {b : List Ent} {T : List ByteArray} {Ks : List (Nat × Obj)} (h : SafeP w a x bk sb dv mv gv pv W n m b T Ks) (hm : Rest x T m) (hk : BookOk m b) (hR : RoundsR w) (hB : BeginR w) (hn : n ≤ 1000000000) (hb : b.length ≤ 1000) (hT : T.length ≤ 1000) :
    Calls Tryz.prog 27 #[.pointer (some ⟨bk, 0, none⟩), .pointer (some ⟨sb, 0, none⟩), .int .i64 x] W fun e W' => e = .returned (.bool true) ∧ Below W.heap.size W W' := by
  obtain ⟨P, h1, -⟩ := h.sto
  exact holds_any h.book h1 (hR.belowR2 h.toB) (hB.belowB h.toB) hm hk hn hb hT
set_option maxHeartbeats 25600000 in
set_option maxRecDepth 100000 in
theorem safe_any (w : World) (hG : ErrT w) (hT : RoundsT w) (hR : RoundsR w) (hB : BeginR w) (rm wd : Int) (hr1 : -9223372036854775808 ≤ rm) (hr2 : rm ≤ 9223372036854775807) (hw1 : -9223372036854775808 ≤ wd) (hw2 : wd ≤ 9223372036854775807)
    (p : Option Addr) (cap : Nat) (l : List ActM) (hv : ActsAt w (.slice p l.length cap) l) (hl : l.length ≤ 8800000000000) (hs : ∀ a ∈ l, a.Fits) :
    Calls Tryz.prog 5 #[.int .i64 rm, .int .i64 wd, .slice p l.length cap] w fun e w' => e = .returned (.bool true) ∧ Below w.heap.size w w' := by
  have HG := Lib.hid hG
  have HTT := Lib.hid hT
  have HRR := Lib.hid hR
  have HBR := Lib.hid hB
  have HV := Lib.hid hv
  have HSZ := Lib.hid hs
  obtain ⟨L, hL⟩ : ∃ L, l.length = L := ⟨_, rfl⟩
  rw [hL] at HV hl ⊢
  have HL := Lib.hid hL
  have hli : (L : Int) ≤ 8800000000000 := by omega
  obtain ⟨q0, q1⟩ := pick_bd wd 32 (by decide)
  have hpk := fun W => pick_any wd 32 W (by decide) (by decide) hw1 hw2
  obtain ⟨pk, hpk2⟩ : ∃ k, pick wd 32 = k := ⟨_, rfl⟩
  rw [hpk2] at q0 q1 hpk
  have HX : Hid (1 ≤ 1 + pk ∧ 1 + pk ≤ 32) := Lib.hid ⟨by omega, by omega⟩
  have HRD : Hid (3 < w.heap.size) := Lib.hid hT.2
  clear hG hT hR hB hv hs hL hpk2 hw1 hw2
  go_enter Tryz.func5, Tryz.ntmps5
  go_wp2_with fail
  refine (st_new w w (Below.refl _ _) rm hr1 hr2).mono ?_
  rintro e w1 ⟨a, rfl, hst, hb1⟩
  have HST := Lib.hid hst
  clear hst hr1 hr2
  go_wp2_with fail
  refine (hpk _).mono ?_
  rintro e w0 ⟨rfl, rfl⟩
  clear hpk
  go_wp2_with fail
  refine (open_any (x := 1 + pk) HST.out (HTT.out.belowR hb1) HTT.out.2 HX.out (by decide) (fun s hs => by cases hs)).mono ?_
  rintro e w2 ⟨v, rfl, h, hk⟩
  rw [(open_new rm (1 + pk)).1, (open_new rm (1 + pk)).2] at h
  rcases h with ⟨-, sb, rfl, hsb, hsto⟩ | ⟨hne, -⟩
  case inr => exact absurd rfl hne
  have HS2 := Lib.hid hsto
  have HM2 := Lib.hid (new_rest rm (1 + pk))
  obtain ⟨m0, hm0⟩ : ∃ m, DM.new rm = m := ⟨_, rfl⟩
  rw [hm0] at HS2 HM2
  clear hsto hk hb1 HST hsb hm0
  go_wp2_with fail
  have hbk0 : ∀ k, BkS w2.heap.size (.slice none 0 0) (.slice none 0 0) (.slice none 0 0) (.slice none 0 0) k → k = w2.heap.size := fun k hk => by
    rcases hk with hk | hk | hk | hk | hk
    · exact hk
    all_goals cases hk
  have HP0 : Hid (SafeP w a (1 + pk) w2.heap.size sb (.slice none 0 0) (.slice none 0 0) (.slice none 0 0) (.slice none 0 0) (w2.alloc (.cells #[.slice none 0 0, .slice none 0 0, .slice none 0 0, .slice none 0 0] 49)) 1 m0 [] [] []) := Lib.hid
    ⟨⟨_, HS2.out.more ((Below.refl _ _).alloc (Nat.le_refl _) _) (fun k => (k < w.heap.size ∨ k = sb) ∨ k = w2.heap.size) (fun k hk => .inl hk) (fun k hk => hk.elim .inl (fun e => .inr ⟨by omega, by rw [e, World.size_alloc]; omega⟩)), fun k hk => .inr (hbk0 k hk), fun q hq => (by cases hq)⟩, ⟨heap_new _ _, HS2.out.st.toB.size, ⟨rfl, .inl ⟨rfl, rfl⟩⟩, ⟨rfl, .inl ⟨rfl, rfl⟩⟩, ⟨rfl, .inl ⟨rfl, rfl⟩⟩, ⟨rfl, .inl ⟨rfl, rfl⟩⟩, fun k hk => (by cases hk)⟩, fun q hq => (by cases hq)⟩
  clear hbk0
  obtain ⟨bk, hbk⟩ : ∃ bk, w2.heap.size = bk := ⟨_, rfl⟩
  rw [hbk] at HP0 ⊢
  clear HS2 hbk
  go_loopw [8, 11] (fun sv iv wr => ∃ (i s : Nat), (i : Int) ≤ L ∧ (i : Int) ≤ 120 ∧ iv = .int .i64 i ∧ sv = .pointer (some ⟨s, 0, none⟩) ∧ Hid (∃ n m b T dv mv gv pv, SafeP w a (1 + pk) bk s dv mv gv pv wr n m b T [] ∧ Rest (1 + pk) T m ∧ BookOk m b ∧ b.length ≤ i ∧ T.length ≤ i ∧ n ≤ 1 + 12 * i)) (fun _ iv _ => 120 - (intOf iv).toNat)
  case atStart => exact ⟨0, sb, by omega, by decide, rfl, rfl, Lib.hid ⟨1, m0, [], [], _, _, _, _, HP0.out, HM2.out, ⟨List.nodup_nil, fun e he => (by cases he), fun e he => (by cases he)⟩, Nat.le_refl _, Nat.le_refl _, by decide⟩⟩
  case round =>
    obtain ⟨i, s, hiL, hi1, rfl, rfl, HRel⟩ := hrel
    by_cases hlt : (i : Int) < L ∧ (i : Int) < 120
    · obtain ⟨hlt1, hlt2⟩ := hlt
      obtain ⟨n, m, b, T, dv, mv, gv, pv, hp, hrest, hbok, hbl, htl, hnn⟩ := HRel.out
      obtain ⟨act, ha⟩ : ∃ act, l[i]? = some act := ⟨_, List.getElem?_eq_getElem (i := i) (by rw [HL.out]; omega)⟩
      obtain ⟨p', c', he, hvv⟩ := HV.out
      obtain ⟨vb, vo, kv, hvp, hvl, hvc, hvk⟩ := hvv i act ha
      obtain ⟨f1, f2, f3, f4⟩ := HSZ.out act (List.mem_of_getElem? ha)
      have hpe : p = some ⟨vb, vo, none⟩ := by cases he; exact hvp
      subst hpe
      have HKI := Lib.hid hvk
      have HKB := Lib.hid hvk.bounds
      obtain ⟨kp, kc, rfl, -, -⟩ := hvk
      obtain ⟨KL, hKL⟩ : ∃ KL, act.keep.length = KL := ⟨_, rfl⟩
      rw [hKL] at HKI hvc
      have HKL := Lib.hid hKL
      have hcel : ∀ j, j < 4 → wr.cell? ⟨vb, vo + (i * 4 + j), none⟩ = (act.cells (.slice kp KL kc))[j]? := fun j hj => (hp.toB.cell (p := ⟨vb, vo + (i * 4 + j), none⟩) hvl).trans (hvc j hj)
      obtain ⟨kd0, txt, num, keep⟩ := act
      have c0 : wr.cell? ⟨vb, vo + i * 4, none⟩ = some (.int .i64 kd0) := hcel 0 (by decide)
      have c1 : wr.cell? ⟨vb, vo + i * 4 + 1, none⟩ = some (.string txt) := by rw [Nat.add_assoc]; exact hcel 1 (by decide)
      have c2 : wr.cell? ⟨vb, vo + i * 4 + 2, none⟩ = some (.int .i64 num) := by rw [Nat.add_assoc]; exact hcel 2 (by decide)
      have c3 : wr.cell? ⟨vb, vo + i * 4 + 3, none⟩ = some (.slice kp KL kc) := by rw [Nat.add_assoc]; exact hcel 3 (by decide)
      simp only at f1 f2 f3 f4 HKI HKB HKL
      obtain ⟨f1a, f1b⟩ := f1
      obtain ⟨f2a, f2b⟩ := f2
      have hf3 : (txt.size : Int) ≤ 140737488351232 := by omega
      have HF3 := Lib.hid f3
      have HF4 := Lib.hid f4
      have HP := Lib.hid hp
      have HM := Lib.hid hrest
      have HBO := Lib.hid hbok
      have HLE : Hid (b.length ≤ i ∧ T.length ≤ i ∧ n ≤ 1 + 12 * i) := Lib.hid ⟨hbl, htl, hnn⟩
      have hpk2 := fun W => pick_any kd0 12 W (by decide) (by decide) f1a f1b
      obtain ⟨r0, r1⟩ := pick_bd kd0 12 (by decide)
      obtain ⟨kd, hkd⟩ : ∃ k, pick kd0 12 = k := ⟨_, rfl⟩
      rw [hkd] at r0 r1 hpk2
      have HPK := Lib.hid hpk2
      clear hp hrest hbok hbl htl hnn ha he hvv hvp hvl hvc hKL hcel hkd hpk2 HRel f1a f1b f3 f4
      go_wp2_with fail
      obtain ⟨ab, hab⟩ : ∃ ab, wr.heap.size = ab := ⟨_, rfl⟩
      obtain ⟨W3, hW3⟩ : ∃ W, wr.alloc (.cells #[.int .i64 kd0, .string txt, .int .i64 num, .slice kp KL kc] 52) = W := ⟨_, rfl⟩
      have hba : Below wr.heap.size wr W3 := by rw [← hW3]; exact (Below.refl _ _).alloc (Nat.le_refl _) _
      have hxa : W3.heap[ab]? = some (.cells #[.int .i64 kd0, .string txt, .int .i64 num, .slice kp KL kc] 52 (0, 0)) := by rw [← hW3, ← hab]; exact heap_new _ _
      have HP3 : Hid (SafeP w a (1 + pk) bk s dv mv gv pv W3 n m b T [(ab, actO kd0 txt num (.slice kp KL kc))]) := Lib.hid (HP.out.keep hba (by rw [hab]; exact Nat.le_refl _) hxa)
      have HXA := Lib.hid hxa
      have HAB : Hid (w.heap.size ≤ ab) := Lib.hid (by rw [← hab]; exact HP.out.toB.size)
      have hsm := refSumB_any (1 + pk) txt W3 (HRR.out.belowR2 HP3.out.toB) (HBR.out.belowB HP3.out.toB) (by have := HF3.out; omega)
      rw [hW3, hab]
      have hDl := shaU_len (1 + pk) txt
      obtain ⟨D, hD⟩ : ∃ D, shaU (1 + pk) txt = D := ⟨_, rfl⟩
      rw [shaL_shaU, hD] at hsm
      rw [hD] at hDl
      have HD := Lib.hid hD
      have HDL := Lib.hid hDl
      have hI := dig_info HDL.out
      have hI2 := dig_info2 HDL.out
      have hd1 := dig_one D
      have hdz := dig_size HDL.out
      have hU := dig_und
      clear c0 c1 c2 c3 hba hxa hW3 hab hDl hD HP
      refine hsm.mono ?_
      rintro e w4 ⟨rfl, hb⟩
      have HP4 := Lib.hid (HP3.out.bel hb)
      have HXA4 := Lib.hid ((hb.block ab (blk_lt HXA.out)).trans HXA.out)
      clear hb hsm HP3 HXA
      go_wp2_with (first | (refine wpList_store_new rfl _ _ _ rfl _ (D.map byteV).toArray _ rfl rfl rfl hI2 hdz hd1 ?_; (obtain ⟨W5, hW5⟩ : ∃ W, w4.alloc (.cells (D.map byteV).toArray 33) = W := ⟨_, rfl⟩; have hb5 : Below w4.heap.size w4 W5 := (by rw [← hW5]; exact (Below.refl _ _).alloc (Nat.le_refl _) _); have hx5 : W5.heap[w4.heap.size]? = some (.cells (D.map byteV).toArray 33 (0, 0)) := (by rw [← hW5]; exact heap_new _ _); have HX5 := Lib.hid hx5; have HP5 : Hid (SafeP w a (1 + pk) bk s dv mv gv pv W5 n m b T [(w4.heap.size, digO2 D), (ab, actO kd0 txt num (.slice kp KL kc))]) := Lib.hid (HP4.out.keep hb5 (Nat.le_refl _) hx5); have hxa5 := (hb5.block ab (blk_lt HXA4.out)).trans HXA4.out; have HXA5 := Lib.hid hxa5; have a0 : W5.cell? ⟨ab, 0, none⟩ = some (.int .i64 kd0) := (by rw [cell_of_heapN hxa5]; rfl); have a1 : W5.cell? ⟨ab, 1, none⟩ = some (.string txt) := (by rw [cell_of_heapN hxa5]; rfl); have a2 : W5.cell? ⟨ab, 2, none⟩ = some (.int .i64 num) := (by rw [cell_of_heapN hxa5]; rfl); have a3 : W5.cell? ⟨ab, 3, none⟩ = some (.slice kp KL kc) := (by rw [cell_of_heapN hxa5]; rfl); rw [hW5]; clear hW5 hb5 hx5 hxa5)))
      refine (HPK.out _).mono ?_
      rintro e w5 ⟨rfl, rfl⟩
      obtain ⟨xb, hxb⟩ : ∃ xb, w4.heap.size = xb := ⟨_, rfl⟩
      rw [hxb] at HX5 HP5 ⊢
      have HRG5 := Lib.hid (dig_range HX5.out)
      clear hxb HPK HP4 HXA4
      by_cases h5 : kd = 5
      · subst h5
        go_wp2_with fail
        have hI0 : ArmW W5 KL keep (fun W => SafeP w a (1 + pk) bk s dv mv gv pv W n (m.arm num keep) b T [(xb, digO2 D), (ab, actO kd0 txt num (.slice kp KL kc))]) (fun _ => false) (none, 0) W5.drew := ⟨fun _ => ⟨rfl, rfl, rfl, Nat.le_refl _, fun _ _ => rfl⟩, fun h => (by cases h), fun h => (by cases h), fun h => (by cases h), fun h => (by cases h), fun h => (by cases h), fun h => (by cases h), fun h => (by cases h)⟩
        refine wp_region_flowG (fun γ : Option Addr × Nat => [.pointer (some ⟨a, 0, none⟩), .pointer (some ⟨ab, 2, none⟩), .int .i64 num, .pointer (some ⟨ab, 3, none⟩), .slice kp KL kc, .slice γ.1 KL γ.2, .agg #[.slice γ.1 KL γ.2], .tuple #[]]) (ArmW W5 KL keep (fun W => SafeP w a (1 + pk) bk s dv mv gv pv W n (m.arm num keep) b T [(xb, digO2 D), (ab, actO kd0 txt num (.slice kp KL kc))]))
          [[], [], [1], [], [3], [4], [5], [0, 2, 6, 5]] 156 (none, 0) mixedD rfl (by kernel_rfl) (fun _ => rfl) hI0 ?_ ?_
        · refine ⟨?_, ?_, ?_, ?_, ?_, ?_, ?_, ?_, rfl⟩
          all_goals intro L γ w0 ev hL hd hW hc hf hg he h0
          · have e7 : ev (.tmp 7) = .pointer (some ⟨a, 0, none⟩) := h0 7 rfl
            clear he h0 hc hf hg
            exact .inl ⟨rfl, .inl ⟨_, w0, (by go_simp <;> rfl), .still (hW.upd 0 (by decide) (by decide) (fun e => by cases e) (fun e => by cases e) (fun e => by cases e)) rfl⟩⟩
          · have e12 : ev (.tmp 12) = .pointer (some ⟨ab, 0, none⟩) := h0 12 rfl
            clear he h0 hc hf hg
            exact .inl ⟨rfl, .inl ⟨_, w0, (by go_simp <;> rfl), .still (hW.upd 1 (by decide) (by decide) (fun e => by cases e) (fun e => by cases e) (fun e => by cases e)) rfl⟩⟩
          · have e1 : ev (.tmp 94) = .pointer (some ⟨ab, 2, none⟩) := he 1 (by decide) _ 94 rfl rfl
            have cc : w0.cell? ⟨ab, 2, none⟩ = some (.int .i64 num) := ((hW.bel (hW.off hL (by decide))).cell (p := ⟨ab, 2, none⟩) (blk_lt HXA5.out)).trans (by rw [cell_of_heapN HXA5.out]; rfl)
            clear he h0 hc hf hg
            exact .inl ⟨rfl, .inl ⟨_, w0, (by go_simp <;> rfl), .still (hW.upd 2 (by decide) (by decide) (fun _ => hd 1 (by decide)) (fun e => by cases e) (fun e => by cases e)) rfl⟩⟩
          · have e12 : ev (.tmp 12) = .pointer (some ⟨ab, 0, none⟩) := h0 12 rfl
            clear he h0 hc hf hg
            exact .inl ⟨rfl, .inl ⟨_, w0, (by go_simp <;> rfl), .still (hW.upd 3 (by decide) (by decide) (fun e => by cases e) (fun e => by cases e) (fun e => by cases e)) rfl⟩⟩
          · have e3 : ev (.tmp 96) = .pointer (some ⟨ab, 3, none⟩) := he 3 (by decide) _ 96 rfl rfl
            have cc : w0.cell? ⟨ab, 3, none⟩ = some (.slice kp KL kc) := ((hW.bel (hW.off hL (by decide))).cell (p := ⟨ab, 3, none⟩) (blk_lt HXA5.out)).trans (by rw [cell_of_heapN HXA5.out]; rfl)
            clear he h0 hc hf hg
            exact .inl ⟨rfl, .inl ⟨_, w0, (by go_simp <;> rfl), .still (hW.upd 4 (by decide) (by decide) (fun e => by cases e) (fun _ => hd 3 (by decide)) (fun e => by cases e)) rfl⟩⟩
          · have e4 : ev (.tmp 97) = .slice kp KL kc := he 4 (by decide) _ 97 rfl rfl
            clear he h0 hc hg
            have hb := hW.bel (hW.off hL (by decide))
            have hki : IntsRd (fun _ => False) w0 (.slice kp KL kc) keep := HKI.out.rd (HP5.out.toB.trans (hb.mono HP5.out.toB.size)) (fun _ h => h.elim)
            refine .inl ⟨rfl, .inr (.inr ⟨21, #[.slice kp KL kc], w0, (by have hff := hf 21; clear hf; go_simp <;> rfl), ?_⟩)⟩
            refine (copyIs_any hki (by have := HF4.out; omega)).mono ?_
            rintro e w' ⟨u, rfl, hg⟩
            obtain ⟨up, uc, rfl⟩ := row_slice hg.row
            have hg2 : GathN w0 w' (.slice up KL uc) keep := by have h9 := hg; rw [HKL.out] at h9; exact h9
            refine ⟨_, rfl, (up, uc), hW.called hL (hd 4 (by decide)) hg2, by show Value.slice up KL uc = _; rw [HKL.out], fun j hj => ?_⟩
            have hj2 : j ≠ 5 ∧ j ≠ 6 := ⟨fun e => (by subst e; rw [hL] at hj; cases hj), fun e => (by subst e; have h9 := hW.c6 hj; rw [hL] at h9; cases h9)⟩
            match j, hj2 with
            | 0, _ | 1, _ | 2, _ | 3, _ | 4, _ | 7, _ => rfl
            | 5, h => exact absurd rfl h.1
            | 6, h => exact absurd rfl h.2
            | n + 8, _ => rfl
          · have e5 : ev (.tmp 98) = .slice γ.1 KL γ.2 := he 5 (by decide) _ 98 rfl rfl
            clear he h0 hc hf hg
            exact .inl ⟨rfl, .inl ⟨_, w0, (by go_simp <;> rfl), .still (hW.upd 6 (by decide) (by decide) (fun e => by cases e) (fun e => by cases e) (fun _ => hd 5 (by decide))) rfl⟩⟩
          · have e0 : ev (.tmp 93) = .pointer (some ⟨a, 0, none⟩) := he 0 (by decide) _ 93 rfl rfl
            have e2 : ev (.tmp 95) = .int .i64 num := he 2 (by decide) _ 95 rfl rfl
            have e6 : ev (.tmp 99) = .agg #[.slice γ.1 KL γ.2] := he 6 (by decide) _ 99 rfl rfl
            clear he h0 hc hg
            have hrow := hW.row (hd 5 (by decide)) hL
            have h5t : L 5 = true := hd 5 (by decide)
            have h4t := hW.c5 h5t
            have hall : ∀ j, j < 7 → L j = true := fun j hj => by
              rcases (show j = 0 ∨ j = 1 ∨ j = 2 ∨ j = 3 ∨ j = 4 ∨ j = 5 ∨ j = 6 by omega) with rfl | rfl | rfl | rfl | rfl | rfl | rfl
              · exact hd 0 (by decide)
              · exact hW.c2 (hd 2 (by decide))
              · exact hd 2 (by decide)
              · exact hW.c4 h4t
              · exact h4t
              · exact h5t
              · exact hd 6 (by decide)
            refine .inl ⟨rfl, .inr (.inr ⟨20, #[.pointer (some ⟨a, 0, none⟩), .int .i64 num, .agg #[.slice γ.1 KL γ.2]], w0, (by have hff := hf 20; clear hf; go_simp <;> rfl), ?_⟩)⟩
            refine (HP5.out.arm hrow HKB.out (by have := HF4.out; omega) num f2b).mono ?_
            rintro e w' ⟨rfl, hp6⟩
            exact ⟨_, rfl, .still (hW.done hall hp6) rfl⟩
        intro γ L w6 hL hW
        have HP6 := Lib.hid (hW.fin (hL 7 (by decide)))
        have HM6 := Lib.hid (HM.out.arm num keep)
        have HBO6 : Hid (BookOk (m.arm num keep) b) := Lib.hid (HBO.out.same (fun _ _ _ => rfl))
        clear hL hW hI0 a0 a1 a2 a3
        simp only [putAll, Act.put, List.setIfInBounds_toArray, List.set_cons_succ, List.set_cons_zero]
        have hdir := SafeP.dir HP6.out (by have := HLE.out; omega) ⟨#[110, 111, 110, 101, 47]⟩
        rw [HM6.out.on, show errE (if (false = true) then 27 else 0) = .nilIface from rfl] at hdir
        go_wp2_with fail
        refine hdir.mono ?_
        rintro e x1 ⟨v, rfl, -, hb⟩
        have HPx := Lib.hid (HP6.out.bel hb)
        clear hb hdir
        go_wp2_with fail
        refine (num_nil _).mono ?_
        rintro e x2 ⟨rfl, rfl⟩
        have hho := HPx.out.holds HM6.out HBO6.out HRR.out HBR.out (by have := HLE.out; omega) (by have := HLE.out; omega) (by have := HLE.out; omega)
        go_wp2_with fail
        refine hho.mono ?_
        rintro e x3 ⟨rfl, hb⟩
        have HPy := Lib.hid (HPx.out.bel hb)
        clear hb hho
        go_wp2_with fail
        exact ⟨⟨i + 1, s, by omega, by omega, by rw [Int.natCast_add]; rfl, rfl, Lib.hid ⟨_, _, _, _, _, _, _, _, HPy.out.drop, HM6.out, HBO6.out, by have := HLE.out; omega, by have := HLE.out; omega, by have := HLE.out; omega⟩⟩, by simp [intOf]; omega⟩
      · by_cases h6 : kd = 6
        · subst h6
          have hci := copyIs_any (HKI.out.rd (S := fun _ => False) HP5.out.toB (fun _ h => h.elim)) (by have := HF4.out; omega)
          go_wp2_with fail
          refine hci.mono ?_
          rintro e w6 ⟨u, rfl, hg⟩
          obtain ⟨up, uc, rfl⟩ := row_slice hg.row
          have hcr := HP5.out.crash hg HKB.out (by have := HF4.out; omega) (by have := HLE.out; omega)
          obtain ⟨z1, z2⟩ := HM.out.crash HP5.out.dok.now keep
          have HD6 := Lib.hid z1
          have HBO6 := Lib.hid (HBO.out.same z2)
          have HCR := Lib.hid hcr
          clear hci hg hcr z1 z2 a0 a1 a2 a3
          go_wp2_with fail
          refine HCR.out.mono ?_
          rintro e w7 ⟨rfl, hp7⟩
          have HP7 := Lib.hid hp7
          clear hp7 HCR
          have hdir := SafeP.dir HP7.out (by have := HLE.out; omega) ⟨#[110, 111, 110, 101, 47]⟩
          rw [HD6.out.off, show errE (if (true = true) then 27 else 0) = errE 27 from rfl] at hdir
          have hnu := fun W => num_E 27 (.inr ⟨by decide, by decide⟩) W
          rw [show errE 27 = .iface 76 (.int .i64 27) from rfl] at hdir hnu
          obtain ⟨o1, o2, o3, o4, o5⟩ := open_out HD6.out HP7.out.dok.now
          have HO2 := Lib.hid o2
          have HO3 := Lib.hid (HBO6.out.same o3)
          go_wp2_with fail
          refine hdir.mono ?_
          rintro e x1 ⟨v, rfl, -, hb⟩
          have HPx := Lib.hid (HP7.out.bel hb)
          clear hb hdir o2 o3
          go_wp2_with fail
          refine (hnu _).mono ?_
          rintro e x2 ⟨rfl, hb⟩
          have HPy := Lib.hid (HPx.out.bel hb)
          clear hb hnu HPx
          go_wp2_with fail
          refine HPy.out.revive.mono ?_
          rintro e x3 ⟨rfl, hp3⟩
          have HPz := Lib.hid hp3
          have hop := HPz.out.open HX.out (by have := HLE.out; omega) o5 o4 o1
          clear hp3 HPy o1 o4 o5
          go_wp2_with fail
          refine hop.mono ?_
          rintro e x4 ⟨sc, rfl, hp4⟩
          have HPu := Lib.hid hp4
          have hho := HPu.out.holds HO2.out HO3.out HRR.out HBR.out (by have := HLE.out; omega) (by have := HLE.out; omega) (by have := HLE.out; omega)
          clear hp4 hop HPz
          go_wp2_with fail
          refine hho.mono ?_
          rintro e x5 ⟨rfl, hb⟩
          have HPv := Lib.hid (HPu.out.bel hb)
          clear hb hho
          go_wp2_with fail
          exact ⟨⟨i + 1, sc, by omega, by omega, by rw [Int.natCast_add]; rfl, rfl, Lib.hid ⟨_, _, _, _, _, _, _, _, HPv.out.drop, HO2.out, HO3.out, by have := HLE.out; omega, by have := HLE.out; omega, by have := HLE.out; omega⟩⟩, by simp [intOf]; omega⟩
        · by_cases h4 : kd = 4 ∨ kd = 11
          · rcases h4 with rfl | rfl
            all_goals
              have hta := HP5.out.take (by have := HLE.out; omega) D HDL.out
              unfold digV at hta
              have HTA := Lib.hid hta
              clear hta
              go_wp2_with (first | refine wpList_load_mid rfl _ _ rfl xb 0 rfl (D.map byteV) _ HRG5.out hU rfl hI ?_)
              refine HTA.out.mono ?_
              rintro e w6 ⟨rfl, hp6⟩
              have HLE6 : Hid (b.length ≤ i ∧ b.length ≤ i + 1 ∧ T.length ≤ i + 1 ∧ n + 2 ≤ 1 + 12 * i + 9) := Lib.hid (by have := HLE.out; omega)
              clear HTA a0 a1 a2 a3
              rcases take_out HM.out HP5.out.dok.now D with ⟨t1, t2, -⟩ | ⟨t1, t2, t3⟩ | ⟨t1, t2, t3, t4⟩
              · rw [t2] at hp6
                have HP6 := Lib.hid hp6
                rw [t1, show errE 10 = .iface 76 (.int .i64 10) from rfl]
                clear t1 t2 hp6
                have hnu := fun W => num_E 10 (.inr ⟨by decide, by decide⟩) W
                rw [show errE 10 = .iface 76 (.int .i64 10) from rfl] at hnu
                go_wp2_with fail
                refine (hnu _).mono ?_
                rintro e w7 ⟨rfl, hb⟩
                have HP7 := Lib.hid (HP6.out.bel hb)
                clear hb hnu
                have hdir := SafeP.dir HP7.out (by have := HLE6.out; omega) ⟨#[110, 111, 110, 101, 47]⟩
                rw [HM.out.on, show errE (if (false = true) then 27 else 0) = .nilIface from rfl] at hdir
                go_wp2_with fail
                refine hdir.mono ?_
                rintro e x1 ⟨v, rfl, -, hb⟩
                have HPx := Lib.hid (HP7.out.bel hb)
                clear hb hdir
                go_wp2_with fail
                refine (num_nil _).mono ?_
                rintro e x2 ⟨rfl, rfl⟩
                have hho := HPx.out.holds HM.out HBO.out HRR.out HBR.out (by have := HLE6.out; omega) (by have := HLE6.out; omega) (by have := HLE6.out; omega)
                go_wp2_with fail
                refine hho.mono ?_
                rintro e x3 ⟨rfl, hb⟩
                have HPy := Lib.hid (HPx.out.bel hb)
                clear hb hho
                go_wp2_with fail
                exact ⟨⟨i + 1, s, by omega, by omega, by rw [Int.natCast_add]; rfl, rfl, Lib.hid ⟨_, _, _, _, _, _, _, _, HPy.out.drop, HM.out, HBO.out, by have := HLE6.out; omega, by have := HLE6.out; omega, by have := HLE6.out; omega⟩⟩, by simp [intOf]; omega⟩
              · have HP6 := Lib.hid hp6
                have HD6 := Lib.hid t2
                have HS3 := Lib.hid t3
                rw [t1, show errE 27 = .iface 76 (.int .i64 27) from rfl]
                clear t1 t2 t3 hp6
                have hnu := fun W => num_E 27 (.inr ⟨by decide, by decide⟩) W
                rw [show errE 27 = .iface 76 (.int .i64 27) from rfl] at hnu
                go_wp2_with fail
                refine (hnu _).mono ?_
                rintro e w7 ⟨rfl, hb⟩
                have HP7 := Lib.hid (HP6.out.bel hb)
                clear hb hnu
                have HRGn := Lib.hid (dig_range (HP7.out.at (q := (xb, digO2 D)) (by simp)))
                have hno := note_any HP7.out.book HP7.out.toB.size ⟨D, HDL.out⟩ false false (by have := HLE6.out; omega)
                unfold digV at hno
                have HNO := Lib.hid hno
                clear hno
                go_wp2_with (first | refine wpList_load_mid rfl _ _ rfl xb 0 rfl (D.map byteV) _ HRGn.out hU rfl hI ?_)
                refine HNO.out.mono ?_
                rintro e w9 ⟨rfl, dv', mv', gv', hn1, hn2, hn3⟩
                have HP9 := Lib.hid (HP7.out.write HRD.out hn1 hn2 hn3)
                have HBOn := Lib.hid (HBO.out.note (d := ⟨D, HDL.out⟩) (a := false) (g := false) HS3.out (fun h => (by cases h)) (fun h => (by cases h)))
                have HLE9 : Hid ((noteM b ⟨D, HDL.out⟩ false false).length ≤ i + 1 ∧ T.length ≤ i + 1 ∧ n + 2 ≤ 1 + 12 * i + 9) := Lib.hid (by have := HLE6.out; have := note_len b ⟨D, HDL.out⟩ false false; omega)
                clear hn1 hn2 hn3 HNO HRGn
                have hdir := SafeP.dir HP9.out (by have := HLE9.out; omega) ⟨#[110, 111, 110, 101, 47]⟩
                rw [HD6.out.off, show errE (if (true = true) then 27 else 0) = errE 27 from rfl] at hdir
                have hnu := fun W => num_E 27 (.inr ⟨by decide, by decide⟩) W
                rw [show errE 27 = .iface 76 (.int .i64 27) from rfl] at hdir hnu
                obtain ⟨o1, o2, o3, o4, o5⟩ := open_out HD6.out HP9.out.dok.now
                have HO2 := Lib.hid o2
                have HO3 := Lib.hid (HBOn.out.same o3)
                go_wp2_with fail
                refine hdir.mono ?_
                rintro e x1 ⟨v, rfl, -, hb⟩
                have HPx := Lib.hid (HP9.out.bel hb)
                clear hb hdir o2 o3
                go_wp2_with fail
                refine (hnu _).mono ?_
                rintro e x2 ⟨rfl, hb⟩
                have HPy := Lib.hid (HPx.out.bel hb)
                clear hb hnu HPx
                go_wp2_with fail
                refine HPy.out.revive.mono ?_
                rintro e x3 ⟨rfl, hp3⟩
                have HPz := Lib.hid hp3
                have hop := HPz.out.open HX.out (by have := HLE9.out; omega) o5 o4 o1
                clear hp3 HPy o1 o4 o5
                go_wp2_with fail
                refine hop.mono ?_
                rintro e x4 ⟨sc, rfl, hp4⟩
                have HPu := Lib.hid hp4
                have hho := HPu.out.holds HO2.out HO3.out HRR.out HBR.out (by have := HLE9.out; omega) (by have := HLE9.out; omega) (by have := HLE9.out; omega)
                clear hp4 hop HPz
                go_wp2_with fail
                refine hho.mono ?_
                rintro e x5 ⟨rfl, hb⟩
                have HPv := Lib.hid (HPu.out.bel hb)
                clear hb hho
                go_wp2_with fail
                exact ⟨⟨i + 1, sc, by omega, by omega, by rw [Int.natCast_add]; rfl, rfl, Lib.hid ⟨_, _, _, _, _, _, _, _, HPv.out.drop, HO2.out, HO3.out, by have := HLE9.out; omega, by have := HLE9.out; omega, by have := HLE9.out; omega⟩⟩, by simp [intOf]; omega⟩
              · have HP6 := Lib.hid hp6
                have HM6 := Lib.hid t2
                have HS3 := Lib.hid t3
                have HS4 := Lib.hid t4
                rw [t1, show errE 0 = .nilIface from rfl]
                clear t1 t2 t3 t4 hp6
                go_wp2_with fail
                refine (num_nil _).mono ?_
                rintro e w7 ⟨rfl, rfl⟩
                have HP7 := HP6
                have HRGn := Lib.hid (dig_range (HP7.out.at (q := (xb, digO2 D)) (by simp)))
                have hno := note_any HP7.out.book HP7.out.toB.size ⟨D, HDL.out⟩ false true (by have := HLE6.out; omega)
                unfold digV at hno
                have HNO := Lib.hid hno
                clear hno
                go_wp2_with (first | refine wpList_load_mid rfl _ _ rfl xb 0 rfl (D.map byteV) _ HRGn.out hU rfl hI ?_)
                refine HNO.out.mono ?_
                rintro e w9 ⟨rfl, dv', mv', gv', hn1, hn2, hn3⟩
                have HP9 := Lib.hid (HP7.out.write HRD.out hn1 hn2 hn3)
                have HBOn := Lib.hid (HBO.out.note (d := ⟨D, HDL.out⟩) (a := false) (g := true) HS3.out (fun h => (by cases h)) (fun _ => HS4.out))
                have HLE9 : Hid ((noteM b ⟨D, HDL.out⟩ false true).length ≤ i + 1 ∧ T.length ≤ i + 1 ∧ n + 2 ≤ 1 + 12 * i + 9) := Lib.hid (by have := HLE6.out; have := note_len b ⟨D, HDL.out⟩ false true; omega)
                clear hn1 hn2 hn3 HNO HRGn
                have hdir := SafeP.dir HP9.out (by have := HLE9.out; omega) ⟨#[110, 111, 110, 101, 47]⟩
                rw [HM6.out.on, show errE (if (false = true) then 27 else 0) = .nilIface from rfl] at hdir
                go_wp2_with fail
                refine hdir.mono ?_
                rintro e x1 ⟨v, rfl, -, hb⟩
                have HPx := Lib.hid (HP9.out.bel hb)
                clear hb hdir
                go_wp2_with fail
                refine (num_nil _).mono ?_
                rintro e x2 ⟨rfl, rfl⟩
                have hho := HPx.out.holds HM6.out HBOn.out HRR.out HBR.out (by have := HLE9.out; omega) (by have := HLE9.out; omega) (by have := HLE9.out; omega)
                go_wp2_with fail
                refine hho.mono ?_
                rintro e x3 ⟨rfl, hb⟩
                have HPy := Lib.hid (HPx.out.bel hb)
                clear hb hho
                go_wp2_with fail
                exact ⟨⟨i + 1, s, by omega, by omega, by rw [Int.natCast_add]; rfl, rfl, Lib.hid ⟨_, _, _, _, _, _, _, _, HPy.out.drop, HM6.out, HBOn.out, by have := HLE9.out; omega, by have := HLE9.out; omega, by have := HLE9.out; omega⟩⟩, by simp [intOf]; omega⟩
          · obtain ⟨h4a, h4b⟩ : ¬ kd = 4 ∧ ¬ kd = 11 := ⟨fun e => h4 (.inl e), fun e => h4 (.inr e)⟩
            clear h4
            obtain ⟨Q, hQ⟩ : ∃ Q, T.length = Q := ⟨_, rfl⟩
            obtain ⟨vp, vc, rfl⟩ := HP5.out.putT
            rw [hQ] at HP5
            have HQ := Lib.hid hQ
            have HQI : Hid (Q ≤ 200) := Lib.hid (by have := HLE.out; omega)
            obtain ⟨y0, hy, hy1, hy2, hy3⟩ := info_parts infoS
            clear hQ
            go_wp2_with fail
            have hI0 := AppW.start W5 w.heap.size bk 3 9 1 (.slice vp Q vc) Q (T.map strV) [Value.string txt] 6 4 7 8 11 (0, undef)
            refine wp_region_flowG (fun γ : Nat × Value => [.pointer (some ⟨bk, 0, none⟩), .pointer (some ⟨bk, 0, none⟩), .pointer (some ⟨bk, 0, none⟩), .pointer (some ⟨bk, 3, none⟩), .slice vp Q vc, .pointer (some ⟨ab, 1, none⟩), .string txt, .slice (some ⟨γ.1, 0, none⟩) 1 1, γ.2, .pointer (some ⟨bk, 0, none⟩), .pointer (some ⟨bk, 3, none⟩), undef]) (AppW W5 w.heap.size bk 3 9 1 (.slice vp Q vc) Q (T.map strV) [Value.string txt] 6 4 7 8 11)
              [[], [], [1], [2], [3], [], [5], [6], [4, 7], [0, 0, 1, 2, 3, 4, 5, 6, 7, 8], [9, 0, 1, 2, 3, 4, 5, 6, 7, 8], [10, 8, 8, 0, 1, 2, 3, 4, 5, 6, 7, 8]] 156 (0, undef) mixedD rfl (by kernel_rfl) (fun _ => rfl) hI0 ?_ ?_
            · refine ⟨?_, ?_, ?_, ?_, ?_, ?_, ?_, ?_, ?_, ?_, ?_, ?_, rfl⟩
              all_goals intro L γ w0 ev hL hd hW hc hf hg he h0
              · have e10 : ev (.tmp 10) = .pointer (some ⟨bk, 0, none⟩) := h0 10 rfl
                clear he h0 hc hf hg
                exact .inl ⟨rfl, .inl ⟨_, w0, (by go_simp <;> rfl), .still (hW.upd 0 (by decide) (by decide) (by decide)) rfl⟩⟩
              · have e10 : ev (.tmp 10) = .pointer (some ⟨bk, 0, none⟩) := h0 10 rfl
                clear he h0 hc hf hg
                exact .inl ⟨rfl, .inl ⟨_, w0, (by go_simp <;> rfl), .still (hW.upd 1 (by decide) (by decide) (by decide)) rfl⟩⟩
              · have e2 : ev (.tmp 62) = .pointer (some ⟨bk, 0, none⟩) := he 1 (by decide) _ 62 rfl rfl
                clear he h0 hc hf hg
                exact .inl ⟨rfl, .inl ⟨_, w0, (by go_simp <;> rfl), .still (hW.upd 2 (by decide) (by decide) (by decide)) rfl⟩⟩
              · have e3 : ev (.tmp 63) = .pointer (some ⟨bk, 0, none⟩) := he 2 (by decide) _ 63 rfl rfl
                clear he h0 hc hf hg
                exact .inl ⟨rfl, .inl ⟨_, w0, (by go_simp <;> rfl), .still (hW.upd 3 (by decide) (by decide) (by decide)) rfl⟩⟩
              · have e4 : ev (.tmp 64) = .pointer (some ⟨bk, 3, none⟩) := he 3 (by decide) _ 64 rfl rfl
                have cc : w0.cell? ⟨bk, 3, none⟩ = some (.slice vp Q vc) := ((hW.bel (hW.low (.inr (.inl hL)))).cell (p := ⟨bk, 3, none⟩) (blk_lt HP5.out.book.bx)).trans (by rw [cell_of_heapN HP5.out.book.bx]; rfl)
                clear he h0 hc hf hg
                exact .inl ⟨rfl, .inl ⟨_, w0, (by go_simp <;> rfl), .still (hW.upd 4 (by decide) (by decide) (by decide)) rfl⟩⟩
              · have e12 : ev (.tmp 12) = .pointer (some ⟨ab, 0, none⟩) := h0 12 rfl
                clear he h0 hc hf hg
                exact .inl ⟨rfl, .inl ⟨_, w0, (by go_simp <;> rfl), .still (hW.upd 5 (by decide) (by decide) (by decide)) rfl⟩⟩
              · have e5 : ev (.tmp 66) = .pointer (some ⟨ab, 1, none⟩) := he 5 (by decide) _ 66 rfl rfl
                have cc : w0.cell? ⟨ab, 1, none⟩ = some (.string txt) := ((hW.bel (hW.low (.inl hL))).cell (p := ⟨ab, 1, none⟩) (blk_lt HXA5.out)).trans (by rw [cell_of_heapN HXA5.out]; rfl)
                clear he h0 hc hf hg
                exact .inl ⟨rfl, .inl ⟨_, w0, (by go_simp <;> rfl), .still (hW.upd 6 (by decide) (by decide) (by decide)) rfl⟩⟩
              · have e6 : ev (.tmp 67) = .string txt := he 6 (by decide) _ 67 rfl rfl
                clear he h0 hc hf hg
                refine .inl ⟨rfl, .inl ⟨_, w0.alloc (.cells [Value.string txt].toArray 9), (by go_simp <;> rfl), (w0.heap.size, γ.2), hW.made hL (hd 6 (by decide)) (by decide) (by decide), rfl, fun j hj => by
                    have hj2 : j ≠ 7 := fun e => by subst e; rw [hL] at hj; cases hj
                    match j, hj2 with
                    | 0, _ | 1, _ | 2, _ | 3, _ | 4, _ | 5, _ | 6, _ | 8, _ | 9, _ | 10, _ | 11, _ => rfl
                    | n + 12, _ => rfl⟩⟩
              · have e45 : ev (.tmp 65) = .slice vp Q vc := he 4 (by decide) _ 65 rfl rfl
                have e47 : ev (.tmp 68) = .slice (some ⟨γ.1, 0, none⟩) 1 1 := he 7 (by decide) _ 68 rfl rfl
                clear he h0 hc hf hg
                have hb0 := hW.bel hL
                have hnw := hW.blk (hd 7 (by decide)) hL
                have hro : w0.ownsRow w.heap.size 9 1 (.slice vp Q vc) Q (T.map strV) := by have h9 := (BookR.bel HP5.out.book hb0).p; rw [HQ.out] at h9; exact h9
                obtain ⟨v9, w9, hr9, ho9, hg9⟩ := run_app_to (P := Tryz.prog) w0 w.heap.size 22 22 9 y0 (.string ⟨#[]⟩) 1 16 Tryz.underlying22 hy hy1 hy2 hy3 rfl (by decide) (.slice vp Q vc) Q _ hro ⟨γ.1, 0, none⟩ 1 1 [Value.string txt] rfl (at0 hnw.1) (fun u hu => by rw [List.mem_singleton.1 hu]; rfl) (by decide) (by have := HQI.out; unfold maxLen; omega) (by have := HQI.out; omega) (Nat.le_trans HP5.out.toB.size hb0.size)
                exact .inl ⟨rfl, .inl ⟨v9, w9, exec_app2 (s := .tmp 65) (x := .tmp 68) rfl e45 e47 hr9, (γ.1, v9), hW.grown hL (hd 4 (by decide)) (hd 7 (by decide)) (by decide) ho9 hg9, rfl, fun j hj => by
                    have hj2 : j ≠ 8 := fun e => by subst e; rw [hL] at hj; cases hj
                    match j, hj2 with
                    | 0, _ | 1, _ | 2, _ | 3, _ | 4, _ | 5, _ | 6, _ | 7, _ | 9, _ | 10, _ | 11, _ => rfl
                    | n + 12, _ => rfl⟩⟩
              · have e8 : ev (.tmp 61) = .pointer (some ⟨bk, 0, none⟩) := he 0 (by decide) _ 61 rfl rfl
                clear he h0 hc hf hg
                exact .inl ⟨rfl, .inl ⟨_, w0, (by go_simp <;> rfl), .still (hW.upd 9 (by decide) (by decide) (by decide)) rfl⟩⟩
              · have e9 : ev (.tmp 70) = .pointer (some ⟨bk, 0, none⟩) := he 9 (by decide) _ 70 rfl rfl
                clear he h0 hc hf hg
                exact .inl ⟨rfl, .inl ⟨_, w0, (by go_simp <;> rfl), .still (hW.upd 10 (by decide) (by decide) (by decide)) rfl⟩⟩
              · obtain ⟨g1, g2⟩ := γ
                have e1 : ev (.tmp 71) = .pointer (some ⟨bk, 3, none⟩) := he 10 (by decide) _ 71 rfl rfl
                have e48 : ev (.tmp 69) = g2 := he 8 (by decide) _ 69 rfl rfl
                clear he h0 hc hg
                have h8 : L 8 = true := hd 8 (by decide)
                obtain ⟨ho9, W8, hb8, hg8⟩ := hW.app h8 hL
                obtain ⟨up, uc, hu⟩ := row_slice ho9
                have hbx := grew_keep hb8 HP5.out.book.p (by decide) HP5.out.book.bx hg8
                have cq : w0.cell? ⟨bk, 3, none⟩ = some (.slice vp Q vc) := by rw [cell_of_heapN hbx]; rfl
                have cf : w0.frozen? ⟨bk, 3, none⟩ = false := frozen_blk hbx
                have hfin := hW.stored hL h8
                have hu2 : g2 = .slice up (Q + 1) uc := hu
                subst hu2
                refine .inl ⟨rfl, .inr (.inl ⟨w0.setCell ⟨bk, 3, none⟩ (.slice up (Q + 1) uc), ?_, .still hfin rfl⟩)⟩
                clear hf ho9 hg8 hb8 hbx hu hfin hW
                go_simp
            intro γ L w6 hL hW
            obtain ⟨W9, ho9, ⟨W8, hb8, hg8⟩, hw9⟩ := hW.fin (hL 11 (by decide))
            obtain ⟨g1, g2⟩ := γ
            obtain ⟨up, uc, hu⟩ := row_slice ho9
            have hu2 : g2 = .slice up (Q + 1) uc := hu
            subst hu2
            have hap := BookR.appp (BookR.bel HP5.out.book hb8) (x := txt) (by rw [HQ.out]; exact ho9) hg8
            rw [← hw9] at hap
            have hoff : Off (BkS bk dv mv gv (.slice vp Q vc)) W5 w6 := ((Off.refl _ W5).below hb8 (Nat.le_refl _)).trans hap.2.1 (fun k _ hk => hk.elim .inl (fun h => .inr (.inr (.inr (.inr h)))))
            have HP6 : Hid (SafeP w a (1 + pk) bk s dv mv gv (.slice up (Q + 1) uc) w6 n m b (T ++ [txt]) [(xb, digO2 D), (ab, actO kd0 txt num (.slice kp KL kc))]) := Lib.hid (HP5.out.write HRD.out hap.1 hoff (fun k hk => by
              rcases hk with hk | hk | hk | hk | hk
              · exact .inl (.inl hk)
              · exact .inl (.inr (.inl hk))
              · exact .inl (.inr (.inr (.inl hk)))
              · exact .inl (.inr (.inr (.inr (.inl hk))))
              · rcases hap.2.2 k hk with h | h
                · exact .inl (.inr (.inr (.inr (.inr h))))
                · exact .inr (Nat.le_trans hb8.size h)))
            clear hL hW hI0 ho9 hb8 hg8 hap hu hw9 hoff a0 a1 a2 a3
            simp only [putAll, Act.put, List.setIfInBounds_toArray, List.set_cons_succ, List.set_cons_zero]
            have HM6 := Lib.hid (HM.out.more (T' := T ++ [txt]) (fun t ht => List.mem_append_left _ ht))
            have hxa6 := HP6.out.at (q := (ab, actO kd0 txt num (.slice kp KL kc))) (by simp)
            have b1 : w6.cell? ⟨ab, 1, none⟩ = some (.string txt) := by rw [cell_of_heapN hxa6]; rfl
            have hpu := HP6.out.put (by have := HLE.out; omega) txt (by have := HF3.out; omega)
            have hpo := put_out HM6.out HP6.out.dok.now txt (List.mem_append_right _ (List.mem_singleton.2 rfl))
            have hEl := putM_len m (1 + pk) txt
            rw [HD.out] at hpo
            obtain ⟨M, hM⟩ : ∃ M, (putM m (1 + pk) txt).1 = M := ⟨_, rfl⟩
            obtain ⟨E, hE⟩ : ∃ E, (putM m (1 + pk) txt).2.1 = E := ⟨_, rfl⟩
            obtain ⟨y, hy⟩ : ∃ y, (putM m (1 + pk) txt).2.2 = y := ⟨_, rfl⟩
            rw [hM, hy] at hpo
            rw [hM, hE, hy] at hpu
            rw [hE] at hEl
            have HPU := Lib.hid hpu
            have HPO := Lib.hid hpo
            have HEL := Lib.hid hEl
            have hIE2 := dig_info2 HEL.out
            have hE1 := dig_one E
            have hEz := dig_size HEL.out
            have HLE6 : Hid (b.length ≤ i ∧ b.length ≤ i + 1 ∧ (T ++ [txt]).length ≤ i + 1 ∧ n + 9 ≤ 1 + 12 * i + 9) := Lib.hid (by have := HLE.out; rw [List.length_append, List.length_singleton]; omega)
            clear hxa6 hpu hpo hEl hM hE hy
            go_wp2_with fail
            refine HPU.out.mono ?_
            rintro e w7 ⟨rfl, hp7⟩
            have HP7 := Lib.hid hp7
            unfold digV
            clear hp7 HPU b1
            rcases HPO.out with ⟨rfl, t2, t3, t4⟩ | ⟨rfl, rfl⟩ | ⟨rfl, t2, t3⟩ | ⟨rfl, t2, t3⟩
            · have HM8 := Lib.hid t2
              have HS3 := Lib.hid t3
              have HS4 := Lib.hid t4
              clear t2 t3 t4 HPO
              rw [show errE 0 = .nilIface from rfl]
              go_wp2_with (first | (refine wpList_store_new rfl _ _ _ rfl _ (E.map byteV).toArray _ rfl rfl rfl hIE2 hEz hE1 ?_; (obtain ⟨W8, hW8⟩ : ∃ W, w7.alloc (.cells (E.map byteV).toArray 33) = W := ⟨_, rfl⟩; have hb8 : Below w7.heap.size w7 W8 := (by rw [← hW8]; exact (Below.refl _ _).alloc (Nat.le_refl _) _); have HP8 := Lib.hid (HP7.out.bel hb8); rw [hW8]; clear hW8 hb8)))
              go_wp2_with fail
              refine (num_nil _).mono ?_
              rintro e w9 ⟨rfl, rfl⟩
              have HPn := HP8
              have HRGn := Lib.hid (dig_range (HPn.out.at (q := (xb, digO2 D)) (by simp)))
              have hno := note_any HPn.out.book HPn.out.toB.size ⟨D, HDL.out⟩ true false (by have := HLE6.out; omega)
              unfold digV at hno
              have HNO := Lib.hid hno
              clear hno
              go_wp2_with (first | refine wpList_load_mid rfl _ _ rfl xb 0 rfl (D.map byteV) _ HRGn.out hU rfl hI ?_)
              refine HNO.out.mono ?_
              rintro e w9 ⟨rfl, dv', mv', gv', hn1, hn2, hn3⟩
              have HP9 := Lib.hid (HPn.out.write HRD.out hn1 hn2 hn3)
              have HBOn := Lib.hid (HBO.out.note (d := ⟨D, HDL.out⟩) (a := true) (g := false) HS3.out (fun _ => HS4.out) (fun h => (by cases h)))
              have HLE9 : Hid ((noteM b ⟨D, HDL.out⟩ true false).length ≤ i + 1 ∧ (T ++ [txt]).length ≤ i + 1 ∧ n + 9 ≤ 1 + 12 * i + 9) := Lib.hid (by have := HLE6.out; have := note_len b ⟨D, HDL.out⟩ true false; omega)
              clear hn1 hn2 hn3 HNO HRGn
              have hdir := SafeP.dir HP9.out (by have := HLE9.out; omega) ⟨#[110, 111, 110, 101, 47]⟩
              rw [HM8.out.on, show errE (if (false = true) then 27 else 0) = .nilIface from rfl] at hdir
              go_wp2_with fail
              refine hdir.mono ?_
              rintro e x1 ⟨v, rfl, -, hb⟩
              have HPx := Lib.hid (HP9.out.bel hb)
              clear hb hdir
              go_wp2_with fail
              refine (num_nil _).mono ?_
              rintro e x2 ⟨rfl, rfl⟩
              have hho := HPx.out.holds HM8.out HBOn.out HRR.out HBR.out (by have := HLE9.out; omega) (by have := HLE9.out; omega) (by have := HLE9.out; omega)
              go_wp2_with fail
              refine hho.mono ?_
              rintro e x3 ⟨rfl, hb⟩
              have HPy := Lib.hid (HPx.out.bel hb)
              clear hb hho
              go_wp2_with fail
              exact ⟨⟨i + 1, s, by omega, by omega, by rw [Int.natCast_add]; rfl, rfl, Lib.hid ⟨_, _, _, _, _, _, _, _, HPy.out.drop, HM8.out, HBOn.out, by have := HLE9.out; omega, by have := HLE9.out; omega, by have := HLE9.out; omega⟩⟩, by simp [intOf]; omega⟩
            · clear HPO
              rw [show errE 29 = .iface 76 (.int .i64 29) from rfl]
              go_wp2_with (first | (refine wpList_store_new rfl _ _ _ rfl _ (E.map byteV).toArray _ rfl rfl rfl hIE2 hEz hE1 ?_; (obtain ⟨W8, hW8⟩ : ∃ W, w7.alloc (.cells (E.map byteV).toArray 33) = W := ⟨_, rfl⟩; have hb8 : Below w7.heap.size w7 W8 := (by rw [← hW8]; exact (Below.refl _ _).alloc (Nat.le_refl _) _); have HP8 := Lib.hid (HP7.out.bel hb8); rw [hW8]; clear hW8 hb8)))
              have hnu := fun W => num_E 29 (.inr ⟨by decide, by decide⟩) W
              rw [show errE 29 = .iface 76 (.int .i64 29) from rfl] at hnu
              go_wp2_with fail
              refine (hnu _).mono ?_
              rintro e w9 ⟨rfl, hb⟩
              have HPn := Lib.hid (HP8.out.bel hb)
              clear hb hnu
              have hdir := SafeP.dir HPn.out (by have := HLE6.out; omega) ⟨#[110, 111, 110, 101, 47]⟩
              rw [HM6.out.on, show errE (if (false = true) then 27 else 0) = .nilIface from rfl] at hdir
              go_wp2_with fail
              refine hdir.mono ?_
              rintro e x1 ⟨v, rfl, -, hb⟩
              have HPx := Lib.hid (HPn.out.bel hb)
              clear hb hdir
              go_wp2_with fail
              refine (num_nil _).mono ?_
              rintro e x2 ⟨rfl, rfl⟩
              have hho := HPx.out.holds HM6.out HBO.out HRR.out HBR.out (by have := HLE6.out; omega) (by have := HLE6.out; omega) (by have := HLE6.out; omega)
              go_wp2_with fail
              refine hho.mono ?_
              rintro e x3 ⟨rfl, hb⟩
              have HPy := Lib.hid (HPx.out.bel hb)
              clear hb hho
              go_wp2_with fail
              exact ⟨⟨i + 1, s, by omega, by omega, by rw [Int.natCast_add]; rfl, rfl, Lib.hid ⟨_, _, _, _, _, _, _, _, HPy.out.drop, HM6.out, HBO.out, by have := HLE6.out; omega, by have := HLE6.out; omega, by have := HLE6.out; omega⟩⟩, by simp [intOf]; omega⟩
            · have HD8 := Lib.hid t2
              have HS3 := Lib.hid t3
              clear t2 t3 HPO
              rw [show errE 27 = .iface 76 (.int .i64 27) from rfl]
              go_wp2_with (first | (refine wpList_store_new rfl _ _ _ rfl _ (E.map byteV).toArray _ rfl rfl rfl hIE2 hEz hE1 ?_; (obtain ⟨W8, hW8⟩ : ∃ W, w7.alloc (.cells (E.map byteV).toArray 33) = W := ⟨_, rfl⟩; have hb8 : Below w7.heap.size w7 W8 := (by rw [← hW8]; exact (Below.refl _ _).alloc (Nat.le_refl _) _); have HP8 := Lib.hid (HP7.out.bel hb8); rw [hW8]; clear hW8 hb8)))
              have hnu := fun W => num_E 27 (.inr ⟨by decide, by decide⟩) W
              rw [show errE 27 = .iface 76 (.int .i64 27) from rfl] at hnu
              go_wp2_with fail
              refine (hnu _).mono ?_
              rintro e w9 ⟨rfl, hb⟩
              have HPn := Lib.hid (HP8.out.bel hb)
              clear hb hnu
              have HRGn := Lib.hid (dig_range (HPn.out.at (q := (xb, digO2 D)) (by simp)))
              have hno := note_any HPn.out.book HPn.out.toB.size ⟨D, HDL.out⟩ false false (by have := HLE6.out; omega)
              unfold digV at hno
              have HNO := Lib.hid hno
              clear hno
              go_wp2_with (first | refine wpList_load_mid rfl _ _ rfl xb 0 rfl (D.map byteV) _ HRGn.out hU rfl hI ?_)
              refine HNO.out.mono ?_
              rintro e w9 ⟨rfl, dv', mv', gv', hn1, hn2, hn3⟩
              have HP9 := Lib.hid (HPn.out.write HRD.out hn1 hn2 hn3)
              have HBOn := Lib.hid (HBO.out.note (d := ⟨D, HDL.out⟩) (a := false) (g := false) HS3.out (fun h => (by cases h)) (fun h => (by cases h)))
              have HLE9 : Hid ((noteM b ⟨D, HDL.out⟩ false false).length ≤ i + 1 ∧ (T ++ [txt]).length ≤ i + 1 ∧ n + 9 ≤ 1 + 12 * i + 9) := Lib.hid (by have := HLE6.out; have := note_len b ⟨D, HDL.out⟩ false false; omega)
              clear hn1 hn2 hn3 HNO HRGn
              have hdir := SafeP.dir HP9.out (by have := HLE9.out; omega) ⟨#[110, 111, 110, 101, 47]⟩
              rw [HD8.out.off, show errE (if (true = true) then 27 else 0) = errE 27 from rfl] at hdir
              have hnu := fun W => num_E 27 (.inr ⟨by decide, by decide⟩) W
              rw [show errE 27 = .iface 76 (.int .i64 27) from rfl] at hdir hnu
              obtain ⟨o1, o2, o3, o4, o5⟩ := open_out HD8.out HP9.out.dok.now
              have HO2 := Lib.hid o2
              have HO3 := Lib.hid (HBOn.out.same o3)
              go_wp2_with fail
              refine hdir.mono ?_
              rintro e x1 ⟨v, rfl, -, hb⟩
              have HPx := Lib.hid (HP9.out.bel hb)
              clear hb hdir o2 o3
              go_wp2_with fail
              refine (hnu _).mono ?_
              rintro e x2 ⟨rfl, hb⟩
              have HPy := Lib.hid (HPx.out.bel hb)
              clear hb hnu HPx
              go_wp2_with fail
              refine HPy.out.revive.mono ?_
              rintro e x3 ⟨rfl, hp3⟩
              have HPz := Lib.hid hp3
              have hop := HPz.out.open HX.out (by have := HLE9.out; omega) o5 o4 o1
              clear hp3 HPy o1 o4 o5
              go_wp2_with fail
              refine hop.mono ?_
              rintro e x4 ⟨sc, rfl, hp4⟩
              have HPu := Lib.hid hp4
              have hho := HPu.out.holds HO2.out HO3.out HRR.out HBR.out (by have := HLE9.out; omega) (by have := HLE9.out; omega) (by have := HLE9.out; omega)
              clear hp4 hop HPz
              go_wp2_with fail
              refine hho.mono ?_
              rintro e x5 ⟨rfl, hb⟩
              have HPv := Lib.hid (HPu.out.bel hb)
              clear hb hho
              go_wp2_with fail
              exact ⟨⟨i + 1, sc, by omega, by omega, by rw [Int.natCast_add]; rfl, rfl, Lib.hid ⟨_, _, _, _, _, _, _, _, HPv.out.drop, HO2.out, HO3.out, by have := HLE9.out; omega, by have := HLE9.out; omega, by have := HLE9.out; omega⟩⟩, by simp [intOf]; omega⟩
            · have HBOn := Lib.hid (HBO.out.same t3)
              rcases t2 with t2 | t2
              · have HD8 := Lib.hid t2
                clear t2 t3 HPO
                rw [show errE 28 = .iface 76 (.int .i64 28) from rfl]
                go_wp2_with (first | (refine wpList_store_new rfl _ _ _ rfl _ (E.map byteV).toArray _ rfl rfl rfl hIE2 hEz hE1 ?_; (obtain ⟨W8, hW8⟩ : ∃ W, w7.alloc (.cells (E.map byteV).toArray 33) = W := ⟨_, rfl⟩; have hb8 : Below w7.heap.size w7 W8 := (by rw [← hW8]; exact (Below.refl _ _).alloc (Nat.le_refl _) _); have HP8 := Lib.hid (HP7.out.bel hb8); rw [hW8]; clear hW8 hb8)))
                have hnu := fun W => num_E 28 (.inr ⟨by decide, by decide⟩) W
                rw [show errE 28 = .iface 76 (.int .i64 28) from rfl] at hnu
                go_wp2_with fail
                refine (hnu _).mono ?_
                rintro e w9 ⟨rfl, hb⟩
                have HPn := Lib.hid (HP8.out.bel hb)
                clear hb hnu
                have hdir := SafeP.dir HPn.out (by have := HLE6.out; omega) ⟨#[110, 111, 110, 101, 47]⟩
                rw [HD8.out.off, show errE (if (true = true) then 27 else 0) = errE 27 from rfl] at hdir
                have hnu := fun W => num_E 27 (.inr ⟨by decide, by decide⟩) W
                rw [show errE 27 = .iface 76 (.int .i64 27) from rfl] at hdir hnu
                obtain ⟨o1, o2, o3, o4, o5⟩ := open_out HD8.out HPn.out.dok.now
                have HO2 := Lib.hid o2
                have HO3 := Lib.hid (HBOn.out.same o3)
                go_wp2_with fail
                refine hdir.mono ?_
                rintro e x1 ⟨v, rfl, -, hb⟩
                have HPx := Lib.hid (HPn.out.bel hb)
                clear hb hdir o2 o3
                go_wp2_with fail
                refine (hnu _).mono ?_
                rintro e x2 ⟨rfl, hb⟩
                have HPy := Lib.hid (HPx.out.bel hb)
                clear hb hnu HPx
                go_wp2_with fail
                refine HPy.out.revive.mono ?_
                rintro e x3 ⟨rfl, hp3⟩
                have HPz := Lib.hid hp3
                have hop := HPz.out.open HX.out (by have := HLE6.out; omega) o5 o4 o1
                clear hp3 HPy o1 o4 o5
                go_wp2_with fail
                refine hop.mono ?_
                rintro e x4 ⟨sc, rfl, hp4⟩
                have HPu := Lib.hid hp4
                have hho := HPu.out.holds HO2.out HO3.out HRR.out HBR.out (by have := HLE6.out; omega) (by have := HLE6.out; omega) (by have := HLE6.out; omega)
                clear hp4 hop HPz
                go_wp2_with fail
                refine hho.mono ?_
                rintro e x5 ⟨rfl, hb⟩
                have HPv := Lib.hid (HPu.out.bel hb)
                clear hb hho
                go_wp2_with fail
                exact ⟨⟨i + 1, sc, by omega, by omega, by rw [Int.natCast_add]; rfl, rfl, Lib.hid ⟨_, _, _, _, _, _, _, _, HPv.out.drop, HO2.out, HO3.out, by have := HLE6.out; omega, by have := HLE6.out; omega, by have := HLE6.out; omega⟩⟩, by simp [intOf]; omega⟩
              · have HM8 := Lib.hid t2
                clear t2 t3 HPO
                rw [show errE 28 = .iface 76 (.int .i64 28) from rfl]
                go_wp2_with (first | (refine wpList_store_new rfl _ _ _ rfl _ (E.map byteV).toArray _ rfl rfl rfl hIE2 hEz hE1 ?_; (obtain ⟨W8, hW8⟩ : ∃ W, w7.alloc (.cells (E.map byteV).toArray 33) = W := ⟨_, rfl⟩; have hb8 : Below w7.heap.size w7 W8 := (by rw [← hW8]; exact (Below.refl _ _).alloc (Nat.le_refl _) _); have HP8 := Lib.hid (HP7.out.bel hb8); rw [hW8]; clear hW8 hb8)))
                have hnu := fun W => num_E 28 (.inr ⟨by decide, by decide⟩) W
                rw [show errE 28 = .iface 76 (.int .i64 28) from rfl] at hnu
                go_wp2_with fail
                refine (hnu _).mono ?_
                rintro e w9 ⟨rfl, hb⟩
                have HPn := Lib.hid (HP8.out.bel hb)
                clear hb hnu
                have hdir := SafeP.dir HPn.out (by have := HLE6.out; omega) ⟨#[110, 111, 110, 101, 47]⟩
                rw [HM8.out.on, show errE (if (false = true) then 27 else 0) = .nilIface from rfl] at hdir
                go_wp2_with fail
                refine hdir.mono ?_
                rintro e x1 ⟨v, rfl, -, hb⟩
                have HPx := Lib.hid (HPn.out.bel hb)
                clear hb hdir
                go_wp2_with fail
                refine (num_nil _).mono ?_
                rintro e x2 ⟨rfl, rfl⟩
                have hho := HPx.out.holds HM8.out HBOn.out HRR.out HBR.out (by have := HLE6.out; omega) (by have := HLE6.out; omega) (by have := HLE6.out; omega)
                go_wp2_with fail
                refine hho.mono ?_
                rintro e x3 ⟨rfl, hb⟩
                have HPy := Lib.hid (HPx.out.bel hb)
                clear hb hho
                go_wp2_with fail
                exact ⟨⟨i + 1, s, by omega, by omega, by rw [Int.natCast_add]; rfl, rfl, Lib.hid ⟨_, _, _, _, _, _, _, _, HPy.out.drop, HM8.out, HBOn.out, by have := HLE6.out; omega, by have := HLE6.out; omega, by have := HLE6.out; omega⟩⟩, by simp [intOf]; omega⟩
    · obtain ⟨n, m, b, T, dv, mv, gv, pv, hp, -⟩ := HRel.out
      have HBf := Lib.hid hp.toB
      clear hp
      by_cases hq : (i : Int) < L
      · have hq2 : ¬ (i : Int) < 120 := fun h => hlt ⟨hq, h⟩
        clear hlt
        go_wp2_with fail
        refine (works23 wr (HG.out.below HBf.out HG.out.2) (HTT.out.belowR HBf.out) (HRR.out.belowR2 HBf.out) (HBR.out.belowB HBf.out)).mono ?_
        rintro e w9 ⟨rfl, hb⟩
        have HB9 := Lib.hid (HBf.out.trans (hb.mono HBf.out.size))
        clear hb
        go_wp2_with fail
        go_ret
        exact ⟨rfl, HB9.out⟩
      · clear hlt
        go_wp2_with fail
        refine (works23 wr (HG.out.below HBf.out HG.out.2) (HTT.out.belowR HBf.out) (HRR.out.belowR2 HBf.out) (HBR.out.belowB HBf.out)).mono ?_
        rintro e w9 ⟨rfl, hb⟩
        have HB9 := Lib.hid (HBf.out.trans (hb.mono HBf.out.size))
        clear hb
        go_wp2_with fail
        go_ret
        exact ⟨rfl, HB9.out⟩
end Go.Proofs.YtecgikanophonaaGreatDoor
