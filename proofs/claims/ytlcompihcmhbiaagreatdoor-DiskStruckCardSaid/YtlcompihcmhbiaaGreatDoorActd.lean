/- Contracts of the closures that do an operation. -/
import Derived.Test.YtlcompihcmhbiaaGreatDoorOps
import Derived.Test.YtlcompihcmhbiaaGreatDoorKeys
namespace Go.Proofs.YtlcompihcmhbiaaGreatDoor
open Go Go.RowKit Go.Maps Go.Shelf
attribute [local go_sem] eql_file neq_file guard_eqlF guard_neqF
theorem DiskPost.selfS {w w' : World} {a n : Nat} {m : DM} {S : Nat → Prop} (h : DiskAt w' a n m S) (ho : Off S w w') : DiskPost a n m S w w' :=
  ⟨h.sup grow_sub (fun b hb => by
    rcases hb with hb | ⟨_, hb⟩
    · exact h.lt b hb
    · exact hb), ho⟩
theorem mk_func : ∀ (fn : Fn) (first cap : Array Value) (w : World), (Instr.makeFunc fn first cap).run Tryz.prog w = .ok (.func fn first cap) w := fun _ _ _ _ => rfl
set_option maxRecDepth 100000 in
theorem remove_act {W : World} {a n : Nat} {m : DM} {S : Nat → Prop} (h : DiskAt W a n m S) (b0 b1 : Nat) (s : ByteArray) (hs : s.size ≤ maxLen) (hn : n ≤ 8000000000000) (cd : W.cell? ⟨b0, 0, none⟩ = some (.pointer (some ⟨a, 0, none⟩))) (hb1 : W.heap[b1]? = some (.cells #[.string s] 9 (0, 0))) (hS : S b1) :
    Calls Tryz.prog 75 #[.pointer (some ⟨b0, 0, none⟩), .pointer (some ⟨b1, 0, none⟩)] W fun e w' => e = .returned (.tuple #[]) ∧ DiskPost a (n + 1) (m.act (.remove s)) S W w' := by
  obtain ⟨bn, bs, pv, fv, loc, h⟩ := h
  have hc := names_any (v := .func (.func 76) #[] #[.pointer (some ⟨b1, 0, none⟩)]) (o := .remove s) h ⟨b1, rfl, hS, hb1, hs⟩ (fun k i e => by cases e) (by omega)
  have hmf := mk_func
  clear h hb1
  go_enter Tryz.func75, Tryz.ntmps75
  go_wp2_with (go_at_call 67; refine hc.mono ?_; rintro e w1 ⟨rfl, hp⟩; have HP := Lib.hid hp; clear hp)
  go_end0
  exact ⟨rfl, HP.out⟩
set_option maxRecDepth 100000 in
theorem rename_act {W : World} {a n : Nat} {m : DM} {S : Nat → Prop} (h : DiskAt W a n m S) (b0 b1 b2 : Nat) (o s : ByteArray) (ho : o.size ≤ maxLen) (hs : s.size ≤ maxLen) (hn : n ≤ 8000000000000) (cd : W.cell? ⟨b0, 0, none⟩ = some (.pointer (some ⟨a, 0, none⟩))) (hb1 : W.heap[b1]? = some (.cells #[.string o] 9 (0, 0))) (hb2 : W.heap[b2]? = some (.cells #[.string s] 9 (0, 0))) (hS1 : S b1) (hS2 : S b2) :
    Calls Tryz.prog 72 #[.pointer (some ⟨b0, 0, none⟩), .pointer (some ⟨b1, 0, none⟩), .pointer (some ⟨b2, 0, none⟩)] W fun e w' => e = .returned (.tuple #[]) ∧ DiskPost a (n + 1) (m.act (.rename o s)) S W w' := by
  obtain ⟨bn, bs, pv, fv, loc, h⟩ := h
  have hc := names_any (v := .func (.func 73) #[] #[.pointer (some ⟨b1, 0, none⟩), .pointer (some ⟨b2, 0, none⟩)]) (o := .rename o s) h ⟨b1, b2, rfl, hS1, hS2, hb1, hb2, ho, hs⟩ (fun k i e => by cases e) (by omega)
  have hmf := mk_func
  clear h hb1 hb2
  go_enter Tryz.func72, Tryz.ntmps72
  go_wp2_with (go_at_call 67; refine hc.mono ?_; rintro e w1 ⟨rfl, hp⟩; have HP := Lib.hid hp; clear hp)
  go_end0
  exact ⟨rfl, HP.out⟩
/-- A file turned. -/
theorem DiskIn.setFile {w w' : World} {a n n' i : Nat} {m : DM} {S : Nat → Prop} {bn bs : Nat} {pv fv : Value} {loc : Nat → Nat} {f : Fil} (h : DiskIn w a n m S bn bs pv fv loc) (hi : i < m.files.length) (hb : ∀ b, b ≠ loc i → w'.heap[b]? = w.heap[b]?) (hf : w'.heap[loc i]? = some (.cells #[.string f.data, .int .i64 f.safe] 87 (0, 0))) (hz : w.heap.size ≤ w'.heap.size)
    (ho : ({ m with files := m.files.set i f } : DM).Ok n') : DiskIn w' a n' { m with files := m.files.set i f } S bn bs pv fv loc := by
  have hl := h.fileAt hi
  have hne : ∀ (b : Nat) (cs : Array Value) (t : TypeId), w.heap[b]? = some (.cells cs t (0, 0)) → t ≠ 87 → w'.heap[b]? = w.heap[b]? := fun b cs t hc ht => hb b (ne_blk hl.2 hc (cells_ne (Ne.symm ht)))
  exact {
    head := (hne _ _ _ h.head (by decide)).trans h.head
    sa := h.sa
    sn := h.sn
    ss := h.ss
    ne := h.ne
    now := h.now.keep (hb _ (h.now.ne hl.2))
    safe := h.safe.keep (hb _ (h.safe.ne hl.2))
    file := fun j g hj => by
      have hj' : (m.files.set i f)[j]? = some g := hj
      rw [List.getElem?_set] at hj'
      by_cases e : i = j
      · subst e
        rw [if_pos rfl, if_pos hi] at hj'
        cases hj'
        exact ⟨hl.1, hf⟩
      · rw [if_neg e] at hj'
        have h1 := h.file j g hj'
        have hjl := (List.getElem?_eq_some_iff.1 hj').1
        exact ⟨h1.1, (hb _ (fun e2 => e (h.inj i j hi hjl e2.symm))).trans h1.2⟩
    inj := fun j k hj hk => h.inj j k (by simpa using hj) (by simpa using hk)
    pend := h.pend.keep (fun b t cs _ hc ht => hne b cs t hc (by rcases ht with rfl | rfl | rfl <;> decide)) (fun _ x => x) (fun _ _ _ => rfl)
    fate := h.fate.keep (fun b cs _ hc => hne b cs _ hc (by decide)) (fun _ x => x)
    ok := ho
    lt := fun b hS => Nat.lt_of_lt_of_le (h.lt b hS) hz }
set_option maxHeartbeats 1600000 in
set_option maxRecDepth 100000 in
theorem sync_act {W : World} {a n : Nat} {m : DM} {S : Nat → Prop} (h : DiskAt W a n m S) (b0 b1 : Nat) (s : ByteArray) (hs : s.size ≤ maxLen) (ho : m.off = false) (hr : m.refused (.sync s) = 0) (cd : W.cell? ⟨b0, 0, none⟩ = some (.pointer (some ⟨a, 0, none⟩))) (cn : W.cell? ⟨b1, 0, none⟩ = some (.string s)) :
    Calls Tryz.prog 44 #[.pointer (some ⟨b0, 0, none⟩), .pointer (some ⟨b1, 0, none⟩)] W fun e w' => e = .returned (.tuple #[]) ∧ DiskPost a (n + 1) (m.act (.sync s)) S W w' := by
  obtain ⟨bn, bs, pv, fv, loc, h⟩ := h
  obtain ⟨-, -, c2, -⟩ := h.cells
  have hT := h.now
  have hk := keyB hs
  have hok := h.ok.act (.sync s) hr ho
  cases hg : tget m.now s.data.toList with
  | none =>
    simp [DM.refused, DM.get, hg] at hr
  | some i =>
    have hi := tget_lt h.ok.nowI hg
    have hf := h.fileAt hi
    have HG := look_some (loc := loc) hg
    have d0 : W.cell? ⟨loc i, 0, none⟩ = some (.string m.files[i]!.data) := cell_of_heapN hf.2
    have d1 : W.cell? ⟨loc i, 1, none⟩ = some (.int .i64 m.files[i]!.safe) := cell_of_heapN hf.2
    have f1 : W.frozen? ⟨loc i, 1, none⟩ = false := frozen_blk hf.2
    have e : m.act (.sync s) = { m with files := m.files.set i ⟨m.files[i]!.data, m.files[i]!.data.size⟩ } := by
      simp only [DM.act, DM.get, hg]
    rw [e] at hok ⊢
    have HE : DiskPost a (n + 1) { m with files := m.files.set i ⟨m.files[i]!.data, m.files[i]!.data.size⟩ } S W ((W.drewN 1).setCell ⟨loc i, 1, none⟩ (.int .i64 m.files[i]!.data.size)) := by
      refine DiskPost.selfS ⟨bn, bs, pv, fv, loc, h.setFile hi (fun b hb => (Below.heap_setCell (W.drewN 1) _ _ _ hb)) ?_ (by rw [World.size_setCell]; exact Nat.le_refl _) hok⟩ (((Off.refl S W).draws 1).setCell _ _ (fun _ => hf.1))
      rw [setCell_blk (show (W.drewN 1).heap[loc i]? = _ from hf.2), setBlk_heap (show loc i < (W.drewN 1).heap.size from blk_lt hf.2)]
      rfl
    have HE := Lib.hid HE
    clear h hf hok e
    generalize m.files[i]! = F at d0 d1 HE ⊢
    have hlk : (Instr.lookup 74 (.map (some bn)) (.string s) false).run Tryz.prog (W.drewN 1) = .ok (.pointer (some ⟨loc i, 0, none⟩)) (W.drewN 1) := by
      rw [TabAt.look (show TabM (W.drewN 1) bn _ from hT) key_string Tryz.underlying74 (zeroP _) hk, HG]
    clear hT hk HG
    go_enter Tryz.func44, Tryz.ntmps44
    go_wp2_with fail
    refine wp_region_tailD 16 mixedD (by kernel_rfl) ?_
    simp only [List.take_succ_cons, List.take_zero, List.drop_succ_cons, List.drop_zero]
    repeat still_step
    refine wpStill_nil ?_
    go_wp2_with fail
    go_end0
    exact ⟨rfl, HE.out⟩
set_option maxHeartbeats 1600000 in
set_option maxRecDepth 100000 in
theorem write_act {W : World} {a n : Nat} {m : DM} {S : Nat → Prop} (h : DiskAt W a n m S) (b0 b1 b2 : Nat) (s d : ByteArray) (hs : s.size ≤ maxLen) (hd : d.size ≤ 140737488355328) (ho : m.off = false) (hr : m.refused (.write s d) = 0) (cd : W.cell? ⟨b0, 0, none⟩ = some (.pointer (some ⟨a, 0, none⟩))) (cn : W.cell? ⟨b1, 0, none⟩ = some (.string s)) (cs : W.cell? ⟨b2, 0, none⟩ = some (.string d)) :
    Calls Tryz.prog 70 #[.pointer (some ⟨b0, 0, none⟩), .pointer (some ⟨b1, 0, none⟩), .pointer (some ⟨b2, 0, none⟩)] W fun e w' => e = .returned (.tuple #[]) ∧ DiskPost a (n + 1) (m.act (.write s d)) S W w' := by
  obtain ⟨bn, bs, pv, fv, loc, h⟩ := h
  obtain ⟨-, -, c2, -⟩ := h.cells
  have hT := h.now
  have hk := keyB hs
  have hok := h.ok.act (.write s d) hr ho
  cases hg : tget m.now s.data.toList with
  | none =>
    simp [DM.refused, DM.get, hg] at hr
  | some i =>
    have hi := tget_lt h.ok.nowI hg
    have hf := h.fileAt hi
    have HG := look_some (loc := loc) hg
    have d0 : W.cell? ⟨loc i, 0, none⟩ = some (.string m.files[i]!.data) := cell_of_heapN hf.2
    have f0 : W.frozen? ⟨loc i, 0, none⟩ = false := frozen_blk hf.2
    have hfd := (h.ok.file _ (get!_mem hi)).2
    have hroom := h.ok.room
    have e : m.act (.write s d) = { m with files := m.files.set i ⟨m.files[i]!.data ++ d, m.files[i]!.safe⟩ } := by
      simp only [DM.act, DM.get, hg]
    rw [e] at hok ⊢
    have HE : DiskPost a (n + 1) { m with files := m.files.set i ⟨m.files[i]!.data ++ d, m.files[i]!.safe⟩ } S W ((W.drewN 1).setCell ⟨loc i, 0, none⟩ (.string (m.files[i]!.data ++ d))) := by
      refine DiskPost.selfS ⟨bn, bs, pv, fv, loc, h.setFile hi (fun b hb => (Below.heap_setCell (W.drewN 1) _ _ _ hb)) ?_ (by rw [World.size_setCell]; exact Nat.le_refl _) hok⟩ (((Off.refl S W).draws 1).setCell _ _ (fun _ => hf.1))
      rw [setCell_blk (show (W.drewN 1).heap[loc i]? = _ from hf.2), setBlk_heap (show loc i < (W.drewN 1).heap.size from blk_lt hf.2)]
      rfl
    have HE := Lib.hid HE
    clear h hf hok e
    generalize m.files[i]! = F at d0 hfd HE ⊢
    have hcat : ¬ 9223372036854775807 < F.data.size + d.size := by omega
    have hlk : (Instr.lookup 74 (.map (some bn)) (.string s) false).run Tryz.prog (W.drewN 1) = .ok (.pointer (some ⟨loc i, 0, none⟩)) (W.drewN 1) := by
      rw [TabAt.look (show TabM (W.drewN 1) bn _ from hT) key_string Tryz.underlying74 (zeroP _) hk, HG]
    clear hT hk HG
    go_enter Tryz.func70, Tryz.ntmps70
    go_wp2_with fail
    refine wp_region_tailD 11 mixedD (by kernel_rfl) ?_
    simp only [List.take_succ_cons, List.take_zero, List.drop_succ_cons, List.drop_zero]
    repeat still_step
    refine wpStill_nil ?_
    go_wp2_with fail
    go_end0
    exact ⟨rfl, HE.out⟩
def InvF (W : World) (W' : World) : Prop := Below W.heap.size W W'
def InvFB (W : World) (t : Tab) (b : Nat) (W' : World) : Prop := Below W.heap.size W W' ∧ TabM W' b t ∧ W.heap.size ≤ b
theorem flush_end {W wc : World} {a n nb : Nat} {m : DM} {S : Nat → Prop} {bn bs : Nat} {pv fv : Value} {loc : Nat → Nat} (h : DiskIn W a n m S bn bs pv fv loc) (ho : m.off = false) (hc : Below W.heap.size W wc) (hnb : W.heap.size ≤ nb) (hT : TabM wc nb (locT loc m.now)) :
    DiskPost a (n + 1) (m.act .flush) S W ((wc.setCell ⟨a, 3, none⟩ (.map (some nb))).setCell ⟨a, 4, none⟩ (.slice none 0 0)) := by
  have hz := hc.size
  have hz3 := hT.lt
  have ha := blk_lt h.head
  have hha : wc.heap[a]? = some (.cells (diskV m bn bs pv fv) 77 (0, 0)) := (hc.block a ha).trans h.head
  have e1 : (wc.setCell ⟨a, 3, none⟩ (.map (some nb))).setCell ⟨a, 4, none⟩ (.slice none 0 0) = setBlk wc a (.cells (diskV (m.act .flush) bn nb (.slice none 0 0) fv) 77 (0, 0)) := by
    rw [setCell_blk hha]
    simp only [setBlk_setCell (blk_lt hha)]
    rfl
  rw [e1]
  have hk : ∀ b, b ≠ a → b < W.heap.size → (setBlk wc a (.cells (diskV (m.act .flush) bn nb (.slice none 0 0) fv) 77 (0, 0))).heap[b]? = W.heap[b]? := fun b hn hb => (setBlk_other hn).trans (hc.block b hb)
  have hsz : (setBlk wc a (.cells (diskV (m.act .flush) bn nb (.slice none 0 0) fv) 77 (0, 0))).heap.size = wc.heap.size := setBlk_size
  have hok := h.ok.act .flush rfl ho
  refine ⟨⟨bn, nb, .slice none 0 0, fv, loc, ?_⟩, ((Off.refl S W).below hc (Nat.le_refl _)).setBlk (fun _ => h.sa)⟩
  exact {
    head := setBlk_heap (by omega)
    sa := .inl h.sa
    sn := .inl h.sn
    ss := .inr ⟨hnb, by rw [hsz]; exact hz3⟩
    ne := fun e => by have := h.now.lt; omega
    now := h.now.keep (hk bn (h.now.ne h.head) h.now.lt)
    safe := hT.keep (setBlk_other (by omega))
    file := fun i f hf => by
      have h1 := h.file i f hf
      exact ⟨.inl h1.1, (hk _ (ne_blk h.head h1.2 (cells_ne (by decide))) (blk_lt h1.2)).trans h1.2⟩
    inj := h.inj
    pend := ops_nil _ _ _
    fate := h.fate.keep (fun b cs hS hcc => hk b (ne_blk h.head hcc (cells_ne (by decide))) (h.lt b hS)) grow_sub
    ok := hok
    lt := fun b hb => by
      rcases hb with hb | ⟨_, hb⟩
      · have := h.lt b hb; omega
      · exact hb }
set_option maxHeartbeats 1600000 in
set_option maxRecDepth 100000 in
theorem flush_act {W : World} {a n : Nat} {m : DM} {S : Nat → Prop} (h : DiskAt W a n m S) (b0 : Nat) (ho : m.off = false) (hb0 : b0 < W.heap.size) (cd : W.cell? ⟨b0, 0, none⟩ = some (.pointer (some ⟨a, 0, none⟩))) :
    Calls Tryz.prog 46 #[.pointer (some ⟨b0, 0, none⟩)] W fun e w' => e = .returned (.tuple #[]) ∧ DiskPost a (n + 1) (m.act .flush) S W w' := by
  obtain ⟨bn, bs, pv, fv, loc, h⟩ := h
  obtain ⟨-, -, c2, c3, c4, -⟩ := h.cells
  have hok := h.ok.act .flush rfl ho
  have H := Lib.hid h
  clear h
  go_enter Tryz.func46, Tryz.ntmps46
  go_wp2_with fail
  refine wp_region_make (InvF W) (InvFB W (locT loc m.now)) 6 (fun b => .map (some b)) 7 (fun _ _ hB => hB.1) (by kernel_rfl) (by kernel_rfl) ((Below.refl _ W).drew) ?_
  simp only [List.take_succ_cons, List.take_zero, List.drop_succ_cons, List.drop_zero]
  refine .inr ⟨by decide, _, yg_still rfl (fun W' hI => by have c := (hI.cell (p := ⟨b0, 0, none⟩) hb0).trans cd; go_simp; rfl), ?_⟩
  refine .inr ⟨by decide, _, yg_still rfl (fun W' hI => by have c := (hI.cell (p := ⟨b0, 0, none⟩) hb0).trans cd; go_simp; rfl), ?_⟩
  refine .inr ⟨by decide, _, yg_still rfl (fun W' hI => by have c := (hI.cell (p := ⟨b0, 0, none⟩) hb0).trans cd; go_simp; rfl), ?_⟩
  refine .inr ⟨by decide, _, yg_still rfl (fun W' hI => by go_simp; rfl), ?_⟩
  refine .inr ⟨by decide, _, yg_still rfl (fun W' hI => by go_simp; rfl), ?_⟩
  refine .inr ⟨by decide, _, yg_still rfl (fun W' hI => by have c := (hI.cell (p := ⟨a, 2, none⟩) (blk_lt H.out.head)).trans c2; go_simp; rfl), ?_⟩
  refine .inl ⟨rfl, ⟨rfl, fun W' hI => .inr ⟨_, _, by go_simp, (clone_call (H.out.now.keep (hI.block bn H.out.now.lt))).mono fun e W2 ⟨he, hT, hb⟩ => ⟨W'.heap.size, he, hI.trans (hb.mono hI.size), hT, hI.size⟩⟩⟩, ?_⟩
  rintro b W7 ⟨hb', hT, hnb⟩
  change wpList _ _ _ _ _ W7
  have hhc := (hb'.block a (blk_lt H.out.head)).trans H.out.head
  have q3 : W7.cell? ⟨a, 3, none⟩ = some (.map (some bs)) := cell_of_heapN hhc
  have q4 : W7.cell? ⟨a, 4, none⟩ = some pv := cell_of_heapN hhc
  have fq : ∀ i : Nat, W7.frozen? ⟨a, i, none⟩ = false := fun i => frozen_blk hhc
  have HE := Lib.hid (flush_end H.out ho hb' hnb hT)
  clear hb' hT hhc
  go_wp2_with fail
  go_end0
  exact ⟨rfl, HE.out⟩
/-- A new file. -/
theorem create_mid {W : World} {a n b1 : Nat} {m : DM} {S : Nat → Prop} {bn bs : Nat} {pv fv : Value} {loc : Nat → Nat} {s : ByteArray} (h : DiskIn W a n m S bn bs pv fv loc) (hs : s.size ≤ maxLen) (hb1 : W.heap[b1]? = some (.cells #[.string s] 9 (0, 0))) (hS : S b1) (W2 : World) (hW : W2 = (W.alloc (.cells #[.string ⟨#[]⟩, .int .i64 0] 87)).alloc (.cells #[.pointer (some ⟨W.heap.size, 0, none⟩)] 83)) :
    ∃ loc2 : Nat → Nat, DiskIn W2 a n { m with files := m.files ++ [⟨⟨#[]⟩, 0⟩] } (grow S W W2) bn bs pv fv loc2 ∧ OpAt (grow S W W2) W2 loc2 (.func (.func 68) #[] #[.pointer (some ⟨W.heap.size + 1, 0, none⟩), .pointer (some ⟨b1, 0, none⟩)]) (.create s m.files.length) ∧ Below W.heap.size W W2 := by
  have hb : Below W.heap.size W W2 := by rw [hW]; exact below2 W _ _
  have hz : W2.heap.size = W.heap.size + 2 := by rw [hW]; exact size2 W _ _
  have g0 : W2.heap[W.heap.size]? = some (.cells #[.string ⟨#[]⟩, .int .i64 0] 87 (0, 0)) := by rw [hW]; exact (Below.heap_alloc _ _ _ (by rw [World.size_alloc]; omega)).trans (heap_new W _)
  have g1 : W2.heap[W.heap.size + 1]? = some (.cells #[.pointer (some ⟨W.heap.size, 0, none⟩)] 83 (0, 0)) := by rw [hW]; exact heap_new2 W _ _
  have h2 := h.frame (w' := W2) (fun b hS => hb.block b (h.lt b hS)) hb.size
  have hloc : ∀ i, i < m.files.length → (if i = m.files.length then W.heap.size else loc i) = loc i := fun i hi => if_neg (by omega)
  have hfl : ∀ i, i < m.files.length → loc i < W.heap.size := fun i hi => blk_lt (h.fileAt hi).2
  refine ⟨fun i => if i = m.files.length then W.heap.size else loc i, ?_, ?_, hb⟩
  · exact {
      head := h2.head
      sa := .inl h.sa
      sn := .inl h.sn
      ss := .inl h.ss
      ne := h.ne
      now := by rw [locT_congr (loc' := loc) (fun p hp => hloc _ (h.ok.nowI p hp))]; exact h2.now
      safe := by rw [locT_congr (loc' := loc) (fun p hp => hloc _ (h.ok.safeI p hp))]; exact h2.safe
      file := fun i f hf => by
        have hf' : (m.files ++ [⟨⟨#[]⟩, 0⟩])[i]? = some f := hf
        by_cases hi : i < m.files.length
        · rw [List.getElem?_append_left hi] at hf'
          rw [hloc i hi]
          exact ⟨.inl (h2.file i f hf').1, (h2.file i f hf').2⟩
        · have hl := (List.getElem?_eq_some_iff.1 hf').1
          rw [List.length_append, List.length_singleton] at hl
          obtain rfl : i = m.files.length := by omega
          rw [List.getElem?_append_right (Nat.le_refl _), Nat.sub_self] at hf'
          cases hf'
          rw [if_pos rfl]
          exact ⟨.inr ⟨Nat.le_refl _, by omega⟩, g0⟩
      inj := fun i j hi hj e => by
        have hi' : i < (m.files ++ [(⟨⟨#[]⟩, 0⟩ : Fil)]).length := hi
        have hj' : j < (m.files ++ [(⟨⟨#[]⟩, 0⟩ : Fil)]).length := hj
        rw [List.length_append, List.length_singleton] at hi' hj'
        by_cases h3 : i < m.files.length
        · rw [hloc i h3] at e
          by_cases h4 : j < m.files.length
          · rw [hloc j h4] at e
            exact h.inj i j h3 h4 e
          · rw [if_pos (by omega)] at e
            have := hfl i h3
            omega
        · rw [if_pos (by omega)] at e
          by_cases h4 : j < m.files.length
          · rw [hloc j h4] at e
            have := hfl j h4
            omega
          · omega
      pend := h2.pend.keep (fun _ _ _ _ _ _ => rfl) grow_sub (fun k i hk => hloc i (h.ok.pendI k i hk))
      fate := h2.fate.keep (fun _ _ _ _ => rfl) grow_sub
      ok := { h.ok with
        nowI := fun p hp => by show _ < (m.files ++ [_]).length; rw [List.length_append]; exact Nat.lt_of_lt_of_le (h.ok.nowI p hp) (Nat.le_add_right _ _)
        safeI := fun p hp => by show _ < (m.files ++ [_]).length; rw [List.length_append]; exact Nat.lt_of_lt_of_le (h.ok.safeI p hp) (Nat.le_add_right _ _)
        pendI := fun k i hk => by show _ < (m.files ++ [_]).length; rw [List.length_append]; exact Nat.lt_of_lt_of_le (h.ok.pendI k i hk) (Nat.le_add_right _ _)
        file := fun f hf => by
          rcases List.mem_append.1 hf with hf | hf
          · exact h.ok.file f hf
          · rw [List.mem_singleton.1 hf]
            exact ⟨Nat.le_refl _, Nat.zero_le _⟩ }
      lt := fun b hb2 => by
        rcases hb2 with hb2 | ⟨_, hb2⟩
        · have := h.lt b hb2; omega
        · exact hb2 }
  · refine ⟨W.heap.size + 1, b1, rfl, .inr ⟨by omega, by omega⟩, .inl hS, ?_, (hb.block b1 (blk_lt hb1)).trans hb1, hs⟩
    show W2.heap[W.heap.size + 1]? = some (.cells #[.pointer (some ⟨if m.files.length = m.files.length then W.heap.size else loc m.files.length, 0, none⟩)] 83 (0, 0))
    rw [if_pos rfl]
    exact g1
set_option maxHeartbeats 1600000 in
set_option maxRecDepth 100000 in
theorem create_act {W : World} {a n : Nat} {m : DM} {S : Nat → Prop} (h : DiskAt W a n m S) (b0 b1 : Nat) (s : ByteArray) (hs : s.size ≤ maxLen) (hn : n ≤ 8000000000000) (hb0 : b0 < W.heap.size) (cd : W.cell? ⟨b0, 0, none⟩ = some (.pointer (some ⟨a, 0, none⟩))) (hb1 : W.heap[b1]? = some (.cells #[.string s] 9 (0, 0))) (hS : S b1) :
    Calls Tryz.prog 66 #[.pointer (some ⟨b0, 0, none⟩), .pointer (some ⟨b1, 0, none⟩)] W fun e w' => e = .returned (.tuple #[]) ∧ DiskPost a (n + 1) (m.act (.create s)) S W w' := by
  have hmf := mk_func
  have hl := h.lt
  obtain ⟨bn, bs, pv, fv, loc, h⟩ := h
  obtain ⟨loc2, h2, hO, hb⟩ := create_mid h hs hb1 hS _ rfl
  have hc := names_any h2 hO (fun k i e => by cases e; show m.files.length < (m.files ++ [_]).length; rw [List.length_append, List.length_singleton]; omega) (by omega)
  have hz := hb.size
  have HE := Lib.hid (fun w' (hp : DiskPost a (n + 1) (({ m with files := m.files ++ [⟨⟨#[]⟩, 0⟩] } : DM).names (.create s m.files.length)) _ _ w') => DiskPost.boxes hp hb (fun b hb => hb) hl)
  clear h h2 hO hb1 hb hl
  go_enter Tryz.func66, Tryz.ntmps66
  go_wp2_with (go_at_call 67; refine hc.mono ?_; rintro e w1 ⟨rfl, hp⟩; have HP := Lib.hid (HE.out _ hp); clear hp)
  go_end0
  exact ⟨rfl, HP.out⟩
end Go.Proofs.YtlcompihcmhbiaaGreatDoor
