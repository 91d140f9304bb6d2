/- Texts of the seat, one behind the other: Shown, DWorks. -/
import Derived.Test.YtlcompihcmhbiaaGreatDoorTexts
import Derived.Test.YtlcompihcmhbiaaGreatDoorM31
import Derived.Test.YtlcompihcmhbiaaGreatDoorM2
/- Contracts of operation, change, shown, same. -/
namespace Go.Proofs.YtlcompihcmhbiaaGreatDoor
open Go Go.RowKit Go.Maps Go.Shelf
/-- A step. -/
structure StepM where
  act : Int
  who : Int
  name : ByteArray
  data : ByteArray
  num : Int
  keep : List Int
def StepM.call (s : StepM) : DCall :=
  if s.act = 1 then .create s.name else if s.act = 2 then .write s.name s.data else if s.act = 3 then .sync s.name else if s.act = 4 then .rename s.name s.data else if s.act = 5 then .remove s.name else .flush
def StepM.cells (s : StepM) (kv : Value) : Array Value := #[.int .i64 s.act, .int .i64 s.who, .string s.name, .string s.data, .int .i64 s.num, kv]
set_option maxHeartbeats 3200000 in
set_option maxRecDepth 100000 in
theorem operation_any {w : World} {a n : Nat} {m : DM} {S : Nat → Prop} (h : DiskAt w a n m S) (s : StepM) (kv : Value) (hs : s.name.size ≤ 140737488355328) (hd : s.data.size ≤ 140737488355328) (hn : n + 1 ≤ 8000000000000) (hnr : n * m.room ≤ 4611686018427387904) :
    Calls Tryz.prog 37 #[.pointer (some ⟨a, 0, none⟩), .agg (s.cells kv)] w fun e w' => OpPost a n m s.call S w w' e := by
  obtain ⟨act, who, name, data, num, keep⟩ := s
  have hb0 : Below w.heap.size w (w.alloc (.cells #[.int .i64 act, .int .i64 who, .string name, .string data, .int .i64 num, kv] 36)) := (Below.refl _ _).alloc (Nat.le_refl _) _
  have hl := h.lt
  have hd1 := (h.below hb0)
  have hbx : ∀ {c : DCall} {e : Ending} {w' : World}, OpPost a n m c S (w.alloc (.cells #[.int .i64 act, .int .i64 who, .string name, .string data, .int .i64 num, kv] 36)) w' e → OpPost a n m c S w w' e := fun hp => hp.boxes hb0 (fun b hb => .inl hb) hl
  have hm : (140737488355328 : Nat) ≤ maxLen := by unfold maxLen; omega
  have hns : name.size ≤ maxLen := Nat.le_trans hs hm
  have hds : data.size ≤ maxLen := Nat.le_trans hd hm
  have k1 := create_any hd1 name hns hn
  have k2 := write_any hd1 name data hns hd hnr hn
  have k3 := sync_any hd1 name hns hn
  have k4 := rename_any hd1 name data hns hds hn
  have k5 := remove_any hd1 name hns hn
  have k6 := flush_any hd1 hn
  unfold StepM.call StepM.cells
  dsimp only
  clear h hd1 hb0
  by_cases h1 : act = 1
  · subst h1
    go_enter Tryz.func37, Tryz.ntmps37
    go_wp2_with (go_at_call 27; refine k1.mono ?_; intro e w1 hp; have HP := Lib.hid (hbx hp); obtain ⟨rfl, -⟩ := hp)
    go_ret
    exact HP.out
  by_cases h2 : act = 2
  · subst h2
    go_enter Tryz.func37, Tryz.ntmps37
    go_wp2_with (go_at_call 28; refine k2.mono ?_; intro e w1 hp; have HP := Lib.hid (hbx hp); obtain ⟨rfl, -⟩ := hp)
    go_ret
    exact HP.out
  by_cases h3 : act = 3
  · subst h3
    go_enter Tryz.func37, Tryz.ntmps37
    go_wp2_with (go_at_call 12; refine k3.mono ?_; intro e w1 hp; have HP := Lib.hid (hbx hp); obtain ⟨rfl, -⟩ := hp)
    go_ret
    exact HP.out
  by_cases h4 : act = 4
  · subst h4
    go_enter Tryz.func37, Tryz.ntmps37
    go_wp2_with (go_at_call 30; refine k4.mono ?_; intro e w1 hp; have HP := Lib.hid (hbx hp); obtain ⟨rfl, -⟩ := hp)
    go_ret
    exact HP.out
  by_cases h5 : act = 5
  · subst h5
    go_enter Tryz.func37, Tryz.ntmps37
    go_wp2_with (go_at_call 31; refine k5.mono ?_; intro e w1 hp; have HP := Lib.hid (hbx hp); obtain ⟨rfl, -⟩ := hp)
    go_ret
    exact HP.out
  go_enter Tryz.func37, Tryz.ntmps37
  go_wp2_with (go_at_call 13; refine k6.mono ?_; intro e w1 hp; have HP := Lib.hid (hbx hp); obtain ⟨rfl, -⟩ := hp)
  go_ret
  exact HP.out
set_option maxHeartbeats 3200000 in
set_option maxRecDepth 100000 in
theorem change_any {w : World} {a n : Nat} {m : DM} {S : Nat → Prop} (h : DiskAt w a n m S) (s : StepM) (kv : Value) (hs : s.name.size ≤ 140737488355328) (hd : s.data.size ≤ 140737488355328) (hn : n + 1 ≤ 8000000000000) (hnr : n * m.room ≤ 4611686018427387904) :
    Calls Tryz.prog 10 #[.pointer (some ⟨a, 0, none⟩), .agg (s.cells kv)] w fun e w' => OpPost a n m s.call S w w' e := by
  have hb0 : Below w.heap.size w (w.alloc (.cells (s.cells kv) 36)) := (Below.refl _ _).alloc (Nat.le_refl _) _
  have hl := h.lt
  have hc := operation_any (h.below hb0) s kv hs hd hn hnr
  have hbx : ∀ {e : Ending} {w' : World}, OpPost a n m s.call S (w.alloc (.cells (s.cells kv) 36)) w' e → OpPost a n m s.call S w w' e := fun hp => hp.boxes hb0 (fun b hb => .inl hb) hl
  clear h hb0
  unfold StepM.cells at hc hbx ⊢
  go_enter Tryz.func10, Tryz.ntmps10
  go_wp2_with (go_at_call 37; refine hc.mono ?_; intro e w1 hp; have HP := Lib.hid (hbx hp); obtain ⟨rfl, -⟩ := hp)
  go_ret
  exact HP.out
/-- What a disk shows. -/
def DM.datas (m : DM) : List ByteArray := m.now.map fun p => m.files[p.2]!.data
def DM.namesOf (m : DM) : List ByteArray := m.now.map nameB
theorem lists_all {m : DM} (ho : m.off = false) : m.lists ⟨#[]⟩ = m.namesOf := by
  unfold DM.lists DM.namesOf
  rw [ho]
  have : m.now.filter (hasHead ⟨#[]⟩) = m.now := List.filter_eq_self.2 (fun p _ => by show Lib.hasPrefix p.1 [] = true; cases p.1 <;> rfl)
  rw [this]
  rfl
theorem reads_at {m : DM} (ho : m.off = false) (hr : Rising m.now) {j : Nat} {p : Bs × Nat} (hp : m.now[j]? = some p) : m.reads (nameB p) = (m.files[p.2]!.data, 0) := by
  have h1 : tget m.now (nameB p).data.toList = some p.2 := tget_of_mem hr (List.mem_of_getElem? hp)
  unfold DM.reads DM.get
  rw [ho, h1]
  rfl
theorem OwnTexts.base {B B' : Nat} {w : World} {v : Value} {l : List ByteArray} (h : OwnTexts B w v l) (hB : B' ≤ B) : OwnTexts B' w v l := by
  refine ⟨h.1, ?_⟩
  rcases h.2 with h4 | ⟨g, cap, cur, e, h5, h6⟩
  · exact .inl h4
  · exact .inr ⟨g, cap, cur, e, Nat.le_trans hB h5, h6⟩
theorem OwnTexts.blk {B : Nat} {w : World} {v : Value} {l : List ByteArray} (h : OwnTexts B w v l) : ∀ b, v.ownBlock = some b → B ≤ b ∧ b < w.heap.size ∧ ∃ cs, w.heap[b]? = some (.cells cs 9 (0, 0)) := fun b hb => by
  rcases h.2 with ⟨rfl, _⟩ | ⟨g, cap, cur, rfl, h5, h6, _⟩
  · cases hb
  · cases hb; exact ⟨h5, blk_lt h6, _, h6⟩
theorem OwnTexts.keep {B : Nat} {w w' : World} {v : Value} {l : List ByteArray} (h : OwnTexts B w v l) (hb : ∀ b, v.ownBlock = some b → w'.heap[b]? = w.heap[b]?) : OwnTexts B w' v l := by
  refine ⟨h.1, ?_⟩
  rcases h.2 with h4 | ⟨g, cap, cur, rfl, h5, h6, h7⟩
  · exact .inl h4
  · exact .inr ⟨g, cap, cur, rfl, h5, (hb g rfl).trans h6, h7⟩
/-- The loop of shown: j texts are read; the variable x is in block k. -/
structure ShownR (w wr : World) (k : Nat) (m : DM) (v u : Value) (j : Nat) : Prop where
  res : wr.heap[w.heap.size]? = some (.cells #[.slice none 0 0, .slice none 0 0] 43 (0, 0))
  box : wr.heap[k]? = some (.cells #[v, u] 43 (0, 0))
  names : OwnTexts (w.heap.size + 1) wr v m.namesOf
  datas : OwnTexts (w.heap.size + 1) wr u (m.datas.take j)
  bel : Below w.heap.size w wr
  apart : ∀ b, u.ownBlock = some b → v.ownBlock ≠ some b
  ne : w.heap.size < k
theorem shown_start {w w1 : World} {m : DM} {v : Value} (hv : OwnTexts (w.heap.size + 1) w1 v m.namesOf) (hb : Below (w.heap.size + 1) (w.alloc (.cells #[.slice none 0 0, .slice none 0 0] 43)) w1) :
    ShownR w (w1.alloc (.cells #[v, .slice none 0 0] 43)) w1.heap.size m v (.slice none 0 0) 0 := by
  have hz := hb.size
  rw [World.size_alloc] at hz
  have hx : w1.heap[w.heap.size]? = some (.cells #[.slice none 0 0, .slice none 0 0] 43 (0, 0)) := (hb.block _ (by omega)).trans (heap_new w _)
  have hk : ∀ b, b < w1.heap.size → (w1.alloc (.cells #[v, .slice none 0 0] 43)).heap[b]? = w1.heap[b]? := fun b hb2 => Below.heap_alloc w1 _ b hb2
  exact ⟨(hk _ (by omega)).trans hx, heap_new w1 _, hv.keep (fun b hb2 => hk b (hv.blk b hb2).2.1), ⟨rfl, .inl ⟨rfl, rfl⟩⟩, (((Below.refl _ w).alloc (Nat.le_refl _) _).trans (hb.mono (by omega))).alloc (by omega) _, (fun b hb2 => by cases hb2), by omega⟩
/-- Behind an append. -/
theorem shown_next {w wr wA w2 : World} {k j : Nat} {m : DM} {v u u' : Value} {d : ByteArray} {o : Obj} (h : ShownR w wr k m v u j) (hd : m.datas[j]? = some d) (hA : wA = wr.alloc o)
    (hrow : w2.ownsRow (w.heap.size + 1) 9 1 u' (j + 1) ((m.datas.take j).map strV ++ [.string d]))
    (hloc : (u'.ownBlock = u.ownBlock ∧ wA.grownBy w2 u.ownBlock) ∨ (u'.ownBlock = some wA.heap.size ∧ wA.grownBy w2 none)) :
    w2.cell? ⟨k, 1, none⟩ = some u ∧ w2.frozen? ⟨k, 1, none⟩ = false ∧ ShownR w (w2.setCell ⟨k, 1, none⟩ u') k m v u' (j + 1) := by
  subst hA
  have hz := h.bel.size
  have hkz := blk_lt h.box
  have hne := h.ne
  have hzA : (wr.alloc o).heap.size = wr.heap.size + 1 := World.size_alloc _ _
  have hub := h.datas.blk
  have hk2 : ∀ b, b < wr.heap.size → u.ownBlock ≠ some b → w2.heap[b]? = wr.heap[b]? := fun b hb hn => by
    rcases hloc with ⟨_, hq⟩ | ⟨_, hq⟩
    · exact (hq.block b (by omega) (fun e => hn e.symm)).trans (Below.heap_alloc wr o b hb)
    · exact (hq.block b (by omega) (fun e => by cases e)).trans (Below.heap_alloc wr o b hb)
  have hbox : w2.heap[k]? = _ := (hk2 k hkz (fun e => by
    obtain ⟨_, _, cs, h1⟩ := hub k e
    rw [h.box] at h1
    cases h1)).trans h.box
  have h3 : ∀ b, b ≠ k → (w2.setCell ⟨k, 1, none⟩ u').heap[b]? = w2.heap[b]? := fun b hn => Below.heap_setCell _ _ _ _ hn
  refine ⟨cell_of_heapN hbox, frozen_blk hbox, ?_, ?_, ?_, ?_, ?_, ?_, hne⟩
  · refine (h3 _ (by omega)).trans ((hk2 _ (by omega) (fun e => ?_)).trans h.res)
    obtain ⟨h1, _⟩ := hub _ e
    omega
  · rw [setCell_blk hbox, setBlk_heap (blk_lt hbox)]
    rfl
  · refine h.names.keep (fun b hb => (h3 b (fun e => ?_)).trans (hk2 b (h.names.blk b hb).2.1 (fun e => h.apart b e hb)))
    obtain ⟨_, _, cs, h1⟩ := h.names.blk b hb
    rw [e, h.box] at h1
    cases h1
  · have h4 : OwnTexts (w.heap.size + 1) w2 u' (m.datas.take (j + 1)) := by
      unfold OwnTexts
      rw [List.take_add_one, hd, List.map_append]
      have hl : (m.datas.take j ++ (some d).toList).length = j + 1 := by
        have := (List.getElem?_eq_some_iff.1 hd).1
        rw [List.length_append, List.length_take, Nat.min_eq_left (by omega)]
        rfl
      rw [hl]
      exact hrow
    refine h4.keep (fun b hb => h3 b (fun e => ?_))
    obtain ⟨_, _, cs, h1⟩ := h4.blk b hb
    rw [e, hbox] at h1
    cases h1
  · refine Below.setCell ?_ (show w.heap.size ≤ k by omega) _
    have h1 : Below w.heap.size w (wr.alloc o) := h.bel.alloc hz o
    rcases hloc with ⟨_, hq⟩ | ⟨_, hq⟩
    · exact h1.trans ⟨hq.os, hq.tape, hq.output, hq.size, fun b hb => hq.block b (by omega) (fun e => by have := (hub b e.symm).1; omega)⟩
    · exact h1.trans ⟨hq.os, hq.tape, hq.output, hq.size, fun b hb => hq.block b (by omega) (fun e => by cases e)⟩
  · intro b hb e
    rcases hloc with ⟨h5, _⟩ | ⟨h5, _⟩
    · exact h.apart b (h5 ▸ hb) e
    · rw [h5] at hb
      cases hb
      have := (h.names.blk _ e).2.1
      omega
theorem shown_end {w wr : World} {k j : Nat} {m : DM} {v u : Value} (h : ShownR w wr k m v u j) :
    ((wr.setCell ⟨w.heap.size, 0, none⟩ v).setCell ⟨w.heap.size, 1, none⟩ u).cell? ⟨w.heap.size, 0, none⟩ = some v ∧ ((wr.setCell ⟨w.heap.size, 0, none⟩ v).setCell ⟨w.heap.size, 1, none⟩ u).cell? ⟨w.heap.size, 1, none⟩ = some u ∧
    OwnTexts w.heap.size ((wr.setCell ⟨w.heap.size, 0, none⟩ v).setCell ⟨w.heap.size, 1, none⟩ u) v m.namesOf ∧ OwnTexts w.heap.size ((wr.setCell ⟨w.heap.size, 0, none⟩ v).setCell ⟨w.heap.size, 1, none⟩ u) u (m.datas.take j) ∧ Below w.heap.size w ((wr.setCell ⟨w.heap.size, 0, none⟩ v).setCell ⟨w.heap.size, 1, none⟩ u) := by
  have e : (wr.setCell ⟨w.heap.size, 0, none⟩ v).setCell ⟨w.heap.size, 1, none⟩ u = setBlk wr w.heap.size (.cells #[v, u] 43 (0, 0)) := by
    rw [setCell_blk h.res, setBlk_setCell (blk_lt h.res)]
    rfl
  have hk : ∀ (x : Value) (l : List ByteArray), OwnTexts (w.heap.size + 1) wr x l → OwnTexts w.heap.size ((wr.setCell ⟨w.heap.size, 0, none⟩ v).setCell ⟨w.heap.size, 1, none⟩ u) x l := fun x l hx => by
    refine OwnTexts.base (hx.keep (fun b hb => ?_)) (Nat.le_succ _)
    rw [e]
    exact setBlk_other (by have := (hx.blk b hb).1; omega)
  refine ⟨by rw [e, cell_of_heapN (setBlk_heap (blk_lt h.res))]; rfl, by rw [e, cell_of_heapN (setBlk_heap (blk_lt h.res))]; rfl, hk _ _ h.names, hk _ _ h.datas, (h.bel.setCell (Nat.le_refl _) _).setCell (Nat.le_refl _) _⟩
set_option maxHeartbeats 3200000 in
set_option maxRecDepth 100000 in
theorem shown_any {w : World} {a n : Nat} {m : DM} {S : Nat → Prop} (h : DiskAt w a n m S) (hn : n ≤ 8000000000000) (ho : m.off = false) :
    Calls Tryz.prog 14 #[.pointer (some ⟨a, 0, none⟩)] w fun e w' => ∃ v u, e = .returned (.tuple #[.agg #[v, u], .bool true]) ∧ OwnTexts w.heap.size w' v m.namesOf ∧ OwnTexts w.heap.size w' u m.datas ∧ Below w.heap.size w w' := by
  have hok := h.ok
  have hb0 : Below w.heap.size w (w.alloc (.cells #[.slice none 0 0, .slice none 0 0] 43)) := (Below.refl _ _).alloc (Nat.le_refl _) _
  have hlc := list_any (h.below hb0) ⟨#[]⟩ hn
  rw [ho, lists_all ho, World.size_alloc] at hlc
  simp only [Bool.false_eq_true, if_false] at hlc
  rw [show errE 0 = Value.nilIface from rfl] at hlc
  have HD := Lib.hid h
  have HK := Lib.hid hok
  have hnl : m.now.length ≤ 8000000000000 := Nat.le_trans hok.nowN hn
  clear h hok hb0
  go_enter Tryz.func14, Tryz.ntmps14
  go_wp2_with (go_at_call 11; refine hlc.mono ?_; rintro e w1 ⟨v, rfl, hv, hb⟩; have HS0 := Lib.hid (shown_start hv hb); obtain ⟨p, cap, rfl⟩ := hv.rd.len; clear hv hb)
  have hnn : m.namesOf.length = m.now.length := List.length_map _
  have hdn : m.datas.length = m.now.length := List.length_map _
  rw [hnn]
  obtain ⟨N, hN⟩ : ∃ N, m.now.length = N := ⟨_, rfl⟩
  rw [hN]
  have HN := Lib.hid hN
  have HNN := Lib.hid hnn
  have HDN := Lib.hid hdn
  rw [hnn, hN] at HS0
  have hNi : (N : Int) ≤ 8000000000000 := by omega
  clear hnn hdn hN hnl hlc
  have hrd := fun (W : World) (hW : Below w.heap.size w W) (s : ByteArray) (hs : s.size ≤ maxLen) => read_any (HD.out.below hW) s hs
  obtain ⟨i0, hi, hz0, hz1, hz2⟩ := info_parts infoS
  go_loopw [7] (fun iv wr => ∃ (j : Nat) (u : Value), j ≤ N ∧ iv = .int .i64 j ∧ Hid (ShownR w wr w1.heap.size m (.slice p N cap) u j)) (fun iv _ => (N - intOf iv).toNat)
  case atStart => exact ⟨0, _, Nat.zero_le _, rfl, HS0⟩
  case round =>
    obtain ⟨j, u, hj, rfl, HL⟩ := hrel
    have b1 : wr.cell? ⟨w1.heap.size, 1, none⟩ = some u := cell_of_heapN HL.out.box
    by_cases hlt : (j : Int) < (N : Int)
    · obtain ⟨q, hq⟩ : ∃ q, m.now[j]? = some q := ⟨_, List.getElem?_eq_getElem (by have := HN.out; omega)⟩
      have hnj : m.namesOf[j]? = some (nameB q) := by unfold DM.namesOf; rw [List.getElem?_map, hq]; rfl
      have hdj : m.datas[j]? = some m.files[q.2]!.data := by unfold DM.datas; rw [List.getElem?_map, hq]; rfl
      obtain ⟨pp, cc, e, hrdn⟩ := HL.out.names.rd
      cases e
      obtain ⟨bb, oo, rfl, hbb, hcc⟩ := hrdn j _ hnj
      have hns : (nameB q).size ≤ maxLen := by
        have h1 := HK.out
        obtain ⟨bn, bs, pv, fv, loc, hd⟩ := HD.out
        have h2 := strKeys_le hd.now Tryz.underlying9 q.1 (by
          rw [strKeys_tab]
          exact List.mem_map.2 ⟨(q.1, loc q.2), List.mem_map.2 ⟨_, List.mem_of_getElem? hq, rfl⟩, rfl⟩)
        show q.1.toArray.size ≤ _
        rw [List.size_toArray]
        exact h2
      have hr := hrd wr HL.out.bel (nameB q) hns
      rw [reads_at ho HK.out.now hq] at hr
      simp only [] at hr
      rw [show errE 0 = Value.nilIface from rfl] at hr
      obtain ⟨D, hD⟩ : ∃ D, m.files[q.2]!.data = D := ⟨_, rfl⟩
      rw [hD] at hdj hr
      have HDJ := Lib.hid hdj
      have HO := Lib.hid HL.out.datas
      have hsz := HL.out.bel.size
      have hbz := blk_lt HL.out.box
      have hlen : (m.datas.take j).length = j := by rw [List.length_take, Nat.min_eq_left (by have := HN.out; have := HDN.out; omega)]
      have ho2 := HO.out
      unfold OwnTexts at ho2
      rw [hlen] at ho2
      have HO2 := Lib.hid ho2
      clear hq hnj hdj hrdn hbb hlen ho2 hD
      go_wp2_with (first
        | (go_at_call 18; refine hr.mono ?_; rintro e w2 ⟨rfl, hw2⟩; subst hw2)
        | (at_builtin; refine wpList_app_to rfl _ _ 37 rfl (w.heap.size + 1) 9 i0 (.string ⟨#[]⟩) 1 16 Tryz.underlying37 hi hz0 hz1 hz2 rfl (by decide) u j _ rfl (HO2.out.alloc _) ⟨wr.heap.size, 0, none⟩ 1 1 [.string D] rfl rfl (fun i u h => one_new i u h) (by simp [Value.oneCell']) (by decide) (by unfold maxLen; omega) (by omega) (by rw [World.size_alloc]; have := HL.out.ne; omega) ?_; intro v' w3 hrow hloc; obtain ⟨cb, fb, hnx⟩ := shown_next HL.out HDJ.out rfl hrow hloc; obtain ⟨vg, vc, rfl⟩ := row_shape hrow; have HX := Lib.hid hnx; clear hrow hloc hnx))
      go_roundw
      case rel => exact ⟨j + 1, _, by omega, rfl, HX⟩
      case measure => simp [intOf]; omega
    · obtain rfl : j = N := by omega
      have b0 : wr.cell? ⟨w1.heap.size, 0, none⟩ = some (.slice p j cap) := cell_of_heapN HL.out.box
      have r0 : wr.cell? ⟨w.heap.size, 0, none⟩ = some (.slice none 0 0) := cell_of_heapN HL.out.res
      have r1 : wr.cell? ⟨w.heap.size, 1, none⟩ = some (.slice none 0 0) := cell_of_heapN HL.out.res
      have fr : ∀ i : Nat, wr.frozen? ⟨w.heap.size, i, none⟩ = false := fun i => frozen_blk HL.out.res
      obtain ⟨up, ucap, hu0⟩ := HL.out.datas.rd.len
      have hend := shown_end HL.out
      have hfull : m.datas.take j = m.datas := List.take_of_length_le (by have := HN.out; have := HDN.out; omega)
      rw [hfull] at hend hu0
      subst hu0
      obtain ⟨e0, e1, hv, hu, hbw⟩ := hend
      have HV := Lib.hid hv
      have HU := Lib.hid hu
      have HBW := Lib.hid hbw
      clear hv hu hbw hfull
      go_wp2_with fail
      refine bodyPost_ret (v := .tuple #[.agg #[.slice p j cap, .slice up m.datas.length ucap], .bool true]) ?_ rfl ⟨_, _, rfl, HV.out, HU.out, HBW.out⟩
      simp [results, Tryz.f14, go_sem, e0, e1]
end Go.Proofs.YtlcompihcmhbiaaGreatDoor
/- Contracts of same, and of works: what each law of the chapter asks first. -/
namespace Go.Proofs.YtlcompihcmhbiaaGreatDoor
open Go Go.RowKit Go.Maps Go.Shelf
set_option maxHeartbeats 1600000 in
set_option maxRecDepth 100000 in
theorem same_any (w : World) (v1 u1 v2 u2 : Value) (n1 d1 n2 d2 : List ByteArray) (hv1 : TextsRd w v1 n1) (hu1 : TextsRd w u1 d1) (hv2 : TextsRd w v2 n2) (hu2 : TextsRd w u2 d2) (hn : n1.length ≤ 8000000000000) (hd : d1.length ≤ 8000000000000) :
    Calls Tryz.prog 17 #[.agg #[v1, u1], .agg #[v2, u2]] w fun e w' => e = .returned (.bool (sameT n1 n2 && sameT d1 d2)) ∧ Below w.heap.size w w' := by
  have k1 := fun (W : World) (hb : Below w.heap.size w W) => same_texts W v1 v2 n1 n2 (hv1.below hb) (hv2.below hb) hn
  have k2 := fun (W : World) (hb : Below w.heap.size w W) => same_texts W u1 u2 d1 d2 (hu1.below hb) (hu2.below hb) hd
  clear hv1 hu1 hv2 hu2
  obtain ⟨hbb, hz, g0, g1⟩ := box2 w (.cells #[v1, u1] 43) (.cells #[v2, u2] 43)
  generalize sameT n1 n2 = x at k1 ⊢
  generalize sameT d1 d2 = y at k2 ⊢
  have kk1 := k1 _ hbb
  have hmid : ∀ W, Below ((w.alloc (.cells #[v1, u1] 43)).alloc (.cells #[v2, u2] 43)).heap.size ((w.alloc (.cells #[v1, u1] 43)).alloc (.cells #[v2, u2] 43)) W → W.cell? ⟨w.heap.size, 1, none⟩ = some u1 ∧ W.cell? ⟨w.heap.size + 1, 1, none⟩ = some u2 ∧ Hid (Below w.heap.size w W) := fun W hb =>
    ⟨cell_of_heapN (box_below g0 hb), cell_of_heapN (box_below g1 hb), Lib.hid (hbb.trans (hb.mono (by omega)))⟩
  have HM := Lib.hid hmid
  clear hmid hbb hz g0 g1 k1
  cases x <;> cases y
  all_goals
    go_enter Tryz.func17, Tryz.ntmps17
    go_wp2_with fail
    refine kk1.mono ?_
    rintro e w3 ⟨rfl, hb⟩
    obtain ⟨q0, q1, HB⟩ := HM.out w3 hb
    clear hb
    go_wp2_with (go_at_call 49; refine (k2 _ HB.out).mono ?_; rintro e w4 ⟨rfl, hb⟩; have HB4 := Lib.hid (HB.out.trans (hb.mono HB.out.size)); clear hb)
    go_ret
    exact ⟨rfl, by first | exact HB4.out | exact HB.out⟩
/-- A disk of the call's own. -/
def Mine (w w' : World) (a n : Nat) (m : DM) : Prop := DiskAt w' a n m (fun b => w.heap.size ≤ b ∧ b < w'.heap.size) ∧ Below w.heap.size w w'
theorem Mine.post {w w1 w' : World} {a n n' : Nat} {m m' : DM} (h : Mine w w1 a n m) (hp : DiskPost a n' m' (fun b => w.heap.size ≤ b ∧ b < w1.heap.size) w1 w') : Mine w w' a n' m' := by
  have hz := h.2.size
  have hz2 := hp.2.size
  refine ⟨hp.1.sup ?_ (fun b hb => hb.2), h.2.trans (hp.2.toBelow (fun i hi => hi.1) hz)⟩
  rintro b (⟨h1, h2⟩ | ⟨h1, h2⟩)
  · exact ⟨h1, by omega⟩
  · exact ⟨by omega, h2⟩
theorem Mine.below {w w1 w' : World} {a n : Nat} {m : DM} (h : Mine w w1 a n m) (hb : Below w1.heap.size w1 w') : Mine w w' a n m := h.post (DiskPost.still h.1 hb)
theorem Mine.drews {w w1 : World} {a n q : Nat} {m : DM} (h : Mine w w1 a n m) : Mine w (w1.drewN q) a n m := ⟨h.1.frame (fun _ _ => rfl) (Nat.le_refl _), ⟨h.2.os, h.2.tape, h.2.output, h.2.size, h.2.block⟩⟩
def small (s : ByteArray) : Prop := s.size ≤ 140737488355328
theorem small_max {s : ByteArray} (h : small s) : s.size ≤ maxLen := Nat.le_trans h (by unfold maxLen; omega)
section
variable {w w1 : World} {a n : Nat} {m : DM}
theorem create_m (h : Mine w w1 a n m) (hn : n < 1000) (s : ByteArray) (hs : s.size ≤ 1000) {m' : DM} {x : Int} {v : Value} (he : m.op (.create s) = (m', x)) (hv : errE x = v) :
    Calls Tryz.prog 27 #[.pointer (some ⟨a, 0, none⟩), .string s] w1 fun e w' => e = .returned v ∧ Mine w w' a (n + 1) m' := by
  refine (create_any h.1 s (small_max (show s.size ≤ _ by omega)) (by omega)).mono ?_
  intro e w' hp
  have h1 := hp.2
  rw [he] at h1
  exact ⟨by rw [hp.1, he, hv], h.post h1⟩
theorem write_m (h : Mine w w1 a n m) (hn : n < 1000) (s d : ByteArray) (hs : s.size ≤ 1000) (hd : d.size ≤ 1000) {m' : DM} {x : Int} {v : Value} (he : m.op (.write s d) = (m', x)) (hv : errE x = v) :
    Calls Tryz.prog 28 #[.pointer (some ⟨a, 0, none⟩), .string s, .string d] w1 fun e w' => e = .returned v ∧ Mine w w' a (n + 1) m' := by
  have hr := h.1.ok.room
  refine (write_any h.1 s d (small_max (show s.size ≤ _ by omega)) (show d.size ≤ _ by omega) (Nat.le_trans (Nat.mul_le_mul (Nat.le_of_lt hn) hr) (by decide)) (by omega)).mono ?_
  intro e w' hp
  have h1 := hp.2
  rw [he] at h1
  exact ⟨by rw [hp.1, he, hv], h.post h1⟩
theorem sync_m (h : Mine w w1 a n m) (hn : n < 1000) (s : ByteArray) (hs : s.size ≤ 1000) {m' : DM} {x : Int} {v : Value} (he : m.op (.sync s) = (m', x)) (hv : errE x = v) :
    Calls Tryz.prog 12 #[.pointer (some ⟨a, 0, none⟩), .string s] w1 fun e w' => e = .returned v ∧ Mine w w' a (n + 1) m' := by
  refine (sync_any h.1 s (small_max (show s.size ≤ _ by omega)) (by omega)).mono ?_
  intro e w' hp
  have h1 := hp.2
  rw [he] at h1
  exact ⟨by rw [hp.1, he, hv], h.post h1⟩
theorem remove_m (h : Mine w w1 a n m) (hn : n < 1000) (s : ByteArray) (hs : s.size ≤ 1000) {m' : DM} {x : Int} {v : Value} (he : m.op (.remove s) = (m', x)) (hv : errE x = v) :
    Calls Tryz.prog 31 #[.pointer (some ⟨a, 0, none⟩), .string s] w1 fun e w' => e = .returned v ∧ Mine w w' a (n + 1) m' := by
  refine (remove_any h.1 s (small_max (show s.size ≤ _ by omega)) (by omega)).mono ?_
  intro e w' hp
  have h1 := hp.2
  rw [he] at h1
  exact ⟨by rw [hp.1, he, hv], h.post h1⟩
theorem rename_m (h : Mine w w1 a n m) (hn : n < 1000) (o s : ByteArray) (ho : o.size ≤ 1000) (hs : s.size ≤ 1000) {m' : DM} {x : Int} {v : Value} (he : m.op (.rename o s) = (m', x)) (hv : errE x = v) :
    Calls Tryz.prog 30 #[.pointer (some ⟨a, 0, none⟩), .string o, .string s] w1 fun e w' => e = .returned v ∧ Mine w w' a (n + 1) m' := by
  refine (rename_any h.1 o s (small_max (show o.size ≤ _ by omega)) (small_max (show s.size ≤ _ by omega)) (by omega)).mono ?_
  intro e w' hp
  have h1 := hp.2
  rw [he] at h1
  exact ⟨by rw [hp.1, he, hv], h.post h1⟩
theorem flush_m (h : Mine w w1 a n m) (hn : n < 1000) {m' : DM} {x : Int} {v : Value} (he : m.op .flush = (m', x)) (hv : errE x = v) :
    Calls Tryz.prog 13 #[.pointer (some ⟨a, 0, none⟩)] w1 fun e w' => e = .returned v ∧ Mine w w' a (n + 1) m' := by
  refine (flush_any h.1 (by omega)).mono ?_
  intro e w' hp
  have h1 := hp.2
  rw [he] at h1
  exact ⟨by rw [hp.1, he, hv], h.post h1⟩
theorem read_m (h : Mine w w1 a n m) (s : ByteArray) (hs : s.size ≤ 1000) {d : ByteArray} {x : Int} {v : Value} (he : m.reads s = (d, x)) (hv : errE x = v) :
    Calls Tryz.prog 18 #[.pointer (some ⟨a, 0, none⟩), .string s] w1 fun e w' => e = .returned (.tuple #[.string d, v]) ∧ w1 = w' := by
  refine (read_any h.1 s (small_max (show s.size ≤ _ by omega))).mono ?_
  rintro e w' ⟨rfl, hw⟩
  exact ⟨by rw [he, ← hv], hw⟩
theorem used_m (h : Mine w w1 a n m) (hn : n < 1000) {x : Nat} (he : m.used = x) :
    Calls Tryz.prog 26 #[.pointer (some ⟨a, 0, none⟩)] w1 fun e w' => e = .returned (.int .i64 x) ∧ Mine w w' a n m := by
  have hr := h.1.ok.room
  refine (used_any h.1 (Nat.le_trans (Nat.mul_le_mul (Nat.le_of_lt hn) hr) (by decide))).mono ?_
  rintro e w' ⟨rfl, hb⟩
  exact ⟨by rw [he], h.below hb⟩
theorem list_m (h : Mine w w1 a n m) (hn : n < 1000) (s : ByteArray) {l : List ByteArray} {v : Value} (he : m.lists s = l) (hv : errE (if m.off then 27 else 0) = v) :
    Calls Tryz.prog 11 #[.pointer (some ⟨a, 0, none⟩), .string s] w1 fun e w' => ∃ u, e = .returned (.tuple #[u, v]) ∧ OwnTexts w1.heap.size w' u l ∧ Mine w w' a n m := by
  refine (list_any h.1 s (by omega)).mono ?_
  rintro e w' ⟨u, rfl, hu, hb⟩
  rw [he] at hu
  exact ⟨u, by rw [hv], hu, h.below hb⟩
theorem revive_m (h : Mine w w1 a n m) : Calls Tryz.prog 16 #[.pointer (some ⟨a, 0, none⟩)] w1 fun e w' => e = .returned (.tuple #[]) ∧ Mine w w' a n m.revive :=
  (revive_any h.1).mono fun _ _ ⟨h1, h2⟩ => ⟨h1, h.post h2⟩
theorem crash_m (h : Mine w w1 a n m) (hn : n < 1000) (kv : Value) (ks : List Int) (hk : IntsRd (fun b => w.heap.size ≤ b ∧ b < w1.heap.size) w1 kv ks) : Calls Tryz.prog 15 #[.pointer (some ⟨a, 0, none⟩), .agg #[kv]] w1 fun e w' => e = .returned (.tuple #[]) ∧ Mine w w' a n (m.crash ks) :=
  (crash_any h.1 kv ks hk (by omega)).mono fun _ _ ⟨h1, h2⟩ => ⟨h1, h.post h2⟩
end
theorem ints_none (S : Nat → Prop) (w : World) : IntsRd S w (.slice none 0 0) [] := ⟨none, 0, rfl, ⟨Nat.le_refl _, Nat.zero_le _⟩, fun j k hj => by cases hj⟩
theorem new_m (w w1 : World) (hb : Below w.heap.size w w1) (r : Int) (h1 : -9223372036854775808 ≤ r) (h2 : r ≤ 9223372036854775807) : Calls Tryz.prog 8 #[.int .i64 r] w1 fun e w' => ∃ a, e = .returned (.pointer (some ⟨a, 0, none⟩)) ∧ Mine w w' a 0 (DM.new r) := by
  refine (new_any w1 r h1 h2).mono ?_
  rintro e w' ⟨a, rfl, hd, hb2⟩
  have hz := hb.size
  exact ⟨a, rfl, hd.sup (fun b hb3 => ⟨by omega, hb3.2⟩) (fun b hb3 => hb3.2), hb.trans (hb2.mono hz)⟩
def bA : ByteArray := ⟨#[97]⟩
def bB : ByteArray := ⟨#[98]⟩
def bXY : ByteArray := ⟨#[120, 121]⟩
def bZ : ByteArray := ⟨#[122]⟩
def wm0 : DM := DM.new 9
def wm1 : DM := (wm0.op (.create bA)).1
def wm2 : DM := (wm1.op (.create bA)).1
def wm3 : DM := (wm2.op (.write bA bXY)).1
def wm4 : DM := (wm3.op (.sync bA)).1
def wm5 : DM := (wm4.op .flush).1
def wm6 : DM := (wm5.op (.write bA bZ)).1
def wm7 : DM := (wm6.op (.create bB)).1
def wm8 : DM := wm7.crash []
theorem op_eq {m : DM} {c : DCall} {x : Int} (h : (m.op c).2 = x) : m.op c = ((m.op c).1, x) := by rw [← h]
theorem we1 : wm0.op (.create bA) = (wm1, 0) := op_eq (by kernel_rfl)
theorem we2 : wm1.op (.create bA) = (wm2, 11) := op_eq (by kernel_rfl)
theorem we3 : wm2.op (.write bA bXY) = (wm3, 0) := op_eq (by kernel_rfl)
theorem we4 : wm3.op (.sync bA) = (wm4, 0) := op_eq (by kernel_rfl)
theorem we5 : wm4.op .flush = (wm5, 0) := op_eq (by kernel_rfl)
theorem we6 : wm5.op (.write bA bZ) = (wm6, 0) := op_eq (by kernel_rfl)
theorem we7 : wm6.op (.create bB) = (wm7, 0) := op_eq (by kernel_rfl)
theorem wu7 : wm7.used = 3 := by kernel_rfl
theorem wr8 : wm8.reads bA = (⟨#[]⟩, 27) := by kernel_rfl
theorem wr9 : wm8.revive.reads bA = (⟨#[120, 121]⟩, 0) := by kernel_rfl
theorem wl9 : wm8.revive.lists ⟨#[]⟩ = [⟨#[97]⟩] := by kernel_rfl
set_option maxHeartbeats 3200000 in
set_option maxRecDepth 100000 in
theorem works_any (w : World) (hG : ErrT w) : Calls Tryz.prog 9 #[] w fun e w' => e = .returned (.bool true) ∧ Below w.heap.size w w' := by
  have HG := Lib.hid hG
  clear hG
  go_enter Tryz.func9, Tryz.ntmps9
  go_wp2_with fail
  refine (new_m w _ (Below.refl _ _) 9 (by decide) (by decide)).mono ?_
  rintro e w1 ⟨a, rfl, hm⟩
  have M1 := Lib.hid hm
  clear hm
  go_wp2_with fail
  refine (create_m M1.out (by decide) bA (by decide) (v := .nilIface) we1 rfl).mono ?_
  rintro e w2 ⟨rfl, hm⟩
  have M2 := Lib.hid hm
  clear hm M1
  go_wp2_with fail
  refine (create_m M2.out (by decide) bA (by decide) (v := errE 11) we2 rfl).mono ?_
  rintro e w3 ⟨rfl, hm⟩
  have M3 := Lib.hid hm
  clear hm M2
  go_wp2_with fail
  refine (plain_E 11 (.inr ⟨by decide, by decide⟩) 11 _ (HG.out.below M3.out.2 HG.out.2)).mono ?_
  rintro e w4 ⟨rfl, hb⟩
  have M4 := Lib.hid (M3.out.below hb)
  clear hb M3
  go_wp2_with fail
  refine (write_m M4.out (by decide) bA bXY (by decide) (by decide) (v := .nilIface) we3 rfl).mono ?_
  rintro e w5 ⟨rfl, hm⟩
  have M5 := Lib.hid hm
  clear hm M4
  go_wp2_with fail
  refine (sync_m M5.out (by decide) bA (by decide) (v := .nilIface) we4 rfl).mono ?_
  rintro e w6 ⟨rfl, hm⟩
  have M6 := Lib.hid hm
  clear hm M5
  go_wp2_with fail
  refine (flush_m M6.out (by decide) (v := .nilIface) we5 rfl).mono ?_
  rintro e w7 ⟨rfl, hm⟩
  have M7 := Lib.hid hm
  clear hm M6
  go_wp2_with fail
  refine (write_m M7.out (by decide) bA bZ (by decide) (by decide) (v := .nilIface) we6 rfl).mono ?_
  rintro e w8 ⟨rfl, hm⟩
  have M8 := Lib.hid hm
  clear hm M7
  go_wp2_with fail
  refine (create_m M8.out (by decide) bB (by decide) (v := .nilIface) we7 rfl).mono ?_
  rintro e w9 ⟨rfl, hm⟩
  have M9 := Lib.hid hm
  clear hm M8
  go_wp2_with fail
  refine (used_m M9.out (by decide) wu7).mono ?_
  rintro e w10 ⟨rfl, hm⟩
  have M10 := Lib.hid hm
  clear hm M9
  go_wp2_with fail
  refine (crash_m M10.out (by decide) (.slice none 0 0) [] (ints_none _ _)).mono ?_
  rintro e w11 ⟨rfl, hm⟩
  have M11 := Lib.hid (show Mine w w11 a _ wm8 from hm)
  clear hm M10
  go_wp2_with fail
  refine (read_m M11.out bA (by decide) (v := errE 27) wr8 rfl).mono ?_
  rintro e w12 ⟨rfl, hw⟩
  subst hw
  go_wp2_with fail
  refine (revive_m M11.out).mono ?_
  rintro e w12 ⟨rfl, hm⟩
  have M12 := Lib.hid hm
  clear hm M11
  go_wp2_with fail
  refine (read_m M12.out bA (by decide) (v := .nilIface) wr9 rfl).mono ?_
  rintro e w13 ⟨rfl, hw⟩
  subst hw
  go_wp2_with fail
  refine (list_m M12.out (by decide) ⟨#[]⟩ (v := .nilIface) wl9 rfl).mono ?_
  rintro e w13 ⟨u, rfl, hu, hm⟩
  have M13 := Lib.hid hm
  obtain ⟨up, uc, rfl, hu1⟩ := hu.rd
  obtain ⟨ub, uo, rfl, hub, huc⟩ := hu1 0 ⟨#[97]⟩ rfl
  rw [Nat.add_zero] at huc
  have HUC := Lib.hid huc
  clear hm M12 hu hu1 huc
  go_wp2_with fail
  refine (plain_E 27 (.inr ⟨by decide, by decide⟩) 27 _ (HG.out.below M13.out.2 HG.out.2)).mono ?_
  rintro e w14 ⟨rfl, hb⟩
  have M14 := Lib.hid (M13.out.below hb)
  have huc : w14.cell? ⟨ub, uo, none⟩ = some (.string ⟨#[97]⟩) := (hb.cell (p := ⟨ub, uo, none⟩) hub).trans HUC.out
  clear hb M13 HUC
  go_wp2_with fail
  go_ret
  exact ⟨rfl, M14.out.2⟩
end Go.Proofs.YtlcompihcmhbiaaGreatDoor
