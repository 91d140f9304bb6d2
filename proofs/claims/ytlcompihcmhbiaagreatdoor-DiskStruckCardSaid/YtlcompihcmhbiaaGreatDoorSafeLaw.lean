/- Plain: what DiskSafe and DiskStill lean on: runs of steps, all files synced, what no step touches. -/
import Derived.Test.YtlcompihcmhbiaaGreatDoorDmLaw
import Derived.Test.YtlcompihcmhbiaaGreatDoorShown
namespace Go.Proofs.YtlcompihcmhbiaaGreatDoor
def runs (m : DM) (l : List StepM) : DM := l.foldl (fun m s => (m.op s.call).1) m
def syncs (m : DM) (l : List ByteArray) : DM := l.foldl (fun m s => (m.op (.sync s)).1) m
theorem runs_next {m : DM} {l : List StepM} {k : Nat} {s : StepM} (h : l[k]? = some s) : runs m (l.take (k + 1)) = ((runs m (l.take k)).op s.call).1 := by
  obtain ⟨hk, rfl⟩ := List.getElem?_eq_some_iff.1 h
  rw [List.take_succ_eq_append_getElem hk]
  unfold runs
  rw [List.foldl_append]
  rfl
theorem syncs_next {m : DM} {l : List ByteArray} {k : Nat} {s : ByteArray} (h : l[k]? = some s) : syncs m (l.take (k + 1)) = ((syncs m (l.take k)).op (.sync s)).1 := by
  obtain ⟨hk, rfl⟩ := List.getElem?_eq_some_iff.1 h
  rw [List.take_succ_eq_append_getElem hk]
  unfold syncs
  rw [List.foldl_append]
  rfl
/-- What an operation leaves alone. -/
theorem op_room (m : DM) (c : DCall) : (m.op c).1.room = m.room := by
  have ha : ∀ (q : DM), (q.act c).room = q.room := fun q => by cases c <;> simp only [DM.act] <;> first | rfl | (split <;> rfl)
  unfold DM.op
  split
  · rfl
  split
  · rfl
  split
  · show (if c.late then m.tick else m.tick.act c).room = m.room
    split
    · rfl
    · exact ha _
  · exact ha _
theorem actKeep (m : DM) (c : DCall) : (m.act c).keep = m.keep := by cases c <;> simp only [DM.act] <;> first | rfl | (split <;> rfl)
theorem calm_keep {m : DM} (h : m.Calm) (c : DCall) : (m.op c).1.keep = m.keep := by
  rw [h.op_eq]
  split
  · rfl
  · exact actKeep m c
theorem runs_inv : ∀ (l : List StepM) (m : DM), m.Calm → (runs m l).Calm ∧ (runs m l).room = m.room ∧ (runs m l).keep = m.keep
  | [], m, h => ⟨h, rfl, rfl⟩
  | s :: r, m, h => by
    obtain ⟨h1, h2, h3⟩ := runs_inv r (m.op s.call).1 (h.op _)
    exact ⟨h1, h2.trans (op_room m _), h3.trans (calm_keep h _)⟩
theorem runs_room : ∀ (l : List StepM) (m : DM), (runs m l).room = m.room
  | [], _ => rfl
  | s :: r, m => (runs_room r (m.op s.call).1).trans (op_room m _)
/-- A sync of a name that is there. -/
theorem sync_op {m : DM} (h : m.Calm) {s : ByteArray} {i : Nat} (hg : m.get s = some i) : m.op (.sync s) = ({ m with files := m.files.set i ⟨m.files[i]!.data, m.files[i]!.data.size⟩ }, 0) := by
  have hr : m.refused (.sync s) = 0 := by simp only [DM.refused, hg, Option.isSome_some, if_true]
  rw [h.op_eq, if_neg (by rw [hr]; decide)]
  simp only [DM.act, hg]
structure Synced (m m' : DM) (l : List ByteArray) : Prop where
  calm : m'.Calm
  now : m'.now = m.now
  safe : m'.safe = m.safe
  pend : m'.pend = m.pend
  room : m'.room = m.room
  keep : m'.keep = m.keep
  len : m'.files.length = m.files.length
  was : ∀ i, i < m.files.length → m.files[i]!.whole → m'.files[i]!.whole
  whole : ∀ s ∈ l, ∀ i, m.get s = some i → i < m.files.length → m'.files[i]!.whole
theorem syncs_inv : ∀ (l : List ByteArray) (m : DM), m.Calm → (∀ s ∈ l, ∃ i, m.get s = some i) → Synced m (syncs m l) l
  | [], m, h, _ => ⟨h, rfl, rfl, rfl, rfl, rfl, rfl, fun _ _ hw => hw, fun s hs => by cases hs⟩
  | s :: r, m, h, hl => by
    obtain ⟨i, hi⟩ := hl s List.mem_cons_self
    have e : syncs m (s :: r) = syncs { m with files := m.files.set i ⟨m.files[i]!.data, m.files[i]!.data.size⟩ } r := by
      show syncs (m.op (.sync s)).1 r = _
      rw [sync_op h hi]
    rw [e]
    have ih := syncs_inv r { m with files := m.files.set i ⟨m.files[i]!.data, m.files[i]!.data.size⟩ } h (fun t ht => hl t (List.mem_cons_of_mem _ ht))
    have hlen : (m.files.set i ⟨m.files[i]!.data, m.files[i]!.data.size⟩).length = m.files.length := List.length_set
    have hwh : ∀ j, j < m.files.length → (i = j ∨ m.files[j]!.whole) → (m.files.set i ⟨m.files[i]!.data, m.files[i]!.data.size⟩)[j]!.whole := fun j hj hw => by
      rw [fail_set_len hj]
      split
      · rfl
      · rename_i hne
        exact hw.resolve_left hne
    refine ⟨ih.calm, ih.now, ih.safe, ih.pend, ih.room, ih.keep, ih.len.trans hlen, fun j hj hw => ih.was j (by show j < _; rw [hlen]; exact hj) (hwh j hj (.inr hw)), fun t ht j hg hj => ?_⟩
    rcases List.mem_cons.1 ht with rfl | ht
    · have : i = j := Option.some.inj (hi.symm.trans hg)
      exact ih.was j (by show j < _; rw [hlen]; exact hj) (hwh j hj (.inl this))
    · exact ih.whole t ht j hg (by show j < _; rw [hlen]; exact hj)
theorem names_get {m : DM} (hr : Rising m.now) {s : ByteArray} (hs : s ∈ m.namesOf) : ∃ i, m.get s = some i := by
  obtain ⟨p, hp, rfl⟩ := List.mem_map.1 hs
  exact ⟨p.2, tget_of_mem hr hp⟩
theorem flush_op {m : DM} (h : m.Calm) : m.op .flush = ({ m with safe := m.now, pend := [] }, 0) := by
  rw [h.op_eq, if_neg (by show ¬ (0 : Int) ≠ 0; decide)]
  rfl
/-- All files synced, and the names flushed: nothing is in hand. -/
theorem flushed_still {m : DM} {n : Nat} (h : m.Calm) (ho : m.Ok n) : ((syncs m m.namesOf).op .flush).1.Still := by
  have hs := syncs_inv m.namesOf m h (fun s hs => names_get ho.now hs)
  rw [flush_op hs.calm]
  refine ⟨hs.calm, rfl, rfl, fun p hp => ?_⟩
  have hp' : p ∈ m.now := by rw [← hs.now]; exact hp
  exact hs.whole (nameB p) (List.mem_map.2 ⟨p, hp', rfl⟩) p.2 (tget_of_mem ho.now hp') (ho.nowI p hp')
/-! ### what no step touches -/
theorem Still_keeps {m : DM} {n : Nat} (h : m.Still) (ho : m.Ok n) {p : Bs × Nat} (hp : p ∈ m.now) : m.Keeps p.1 p.2 m.files[p.2]!.data := by
  have hw := h.whole p hp
  refine ⟨tget_of_mem ho.now hp, by rw [h.safe]; exact tget_of_mem ho.now hp, by rw [h.pend]; exact fun o ho => absurd ho List.not_mem_nil, ?_, ?_, ?_⟩
  · rw [hw]; exact Nat.le_refl _
  · rw [hw]; exact Nat.le_refl _
  · exact extract_all _
/-- Does a step name this file? -/
def touchB (s : StepM) (nm : ByteArray) : Bool := decide (nm = s.name) || (decide (s.act = 4) && decide (nm = s.data))
theorem nameB_ne {p : Bs × Nat} {s : ByteArray} (h : nameB p ≠ s) : p.1 ≠ s.data.toList := fun e => h (by
  apply ByteArray.ext
  show p.1.toArray = s.data
  rw [e])
theorem keeps_step {m : DM} {n : Nat} (h : m.Calm) (ho : m.Ok n) {p : Bs × Nat} {i : Nat} {d : ByteArray} (hk : m.Keeps p.1 i d) (s : StepM) (ht : (m.op s.call).2 = 0 → s.act ≠ 2 → s.act ≠ 3 → touchB s (nameB p) = false) : (m.op s.call).1.Keeps p.1 i d := by
  have hop := h.op_eq s.call
  by_cases hr : m.refused s.call ≠ 0
  · rw [if_pos hr] at hop
    rw [hop]
    exact hk
  · rw [if_neg hr] at hop
    rw [hop] at ht ⊢
    refine hk.act ho s.call ?_
    have ht := ht rfl
    unfold StepM.call
    split
    · rename_i h1
      have := ht (by omega) (by omega)
      simp only [touchB, Bool.or_eq_false_iff, decide_eq_false_iff_not] at this
      simp only [DCall.touch, List.mem_singleton]
      exact nameB_ne this.1
    split
    · simp [DCall.touch]
    split
    · simp [DCall.touch]
    split
    · rename_i h2 h3 h4
      have := ht h2 h3
      simp only [touchB, Bool.or_eq_false_iff, Bool.and_eq_false_iff, decide_eq_false_iff_not] at this
      simp only [DCall.touch, List.mem_cons, List.not_mem_nil, or_false, not_or]
      exact ⟨nameB_ne this.1, nameB_ne (this.2.resolve_left (fun hn => hn h4))⟩
    split
    · rename_i h2 h3 h4 h5
      have := ht h2 h3
      simp only [touchB, Bool.or_eq_false_iff, decide_eq_false_iff_not] at this
      simp only [DCall.touch, List.mem_singleton]
      exact nameB_ne this.1
    · simp [DCall.touch]
/-- Behind the failure: what is read of a name that no step touched. -/
theorem keeps_read {m : DM} {n : Nat} (ho : m.Ok n) (hoff : m.off = false) {p : Bs × Nat} {i : Nat} {d : ByteArray} (hk : m.Keeps p.1 i d) (ks : List Int) :
    ∃ s, (m.crash ks).revive.reads (nameB p) = (s, 0) ∧ d.size ≤ s.size ∧ s.extract 0 d.size = d := by
  obtain ⟨h1, h2⟩ := hk.fail ho ks
  refine ⟨(m.fail ks).files[i]!.data, ?_, Nat.le_trans h2.1 h2.2.1, h2.2.2⟩
  unfold DM.crash
  rw [hoff]
  show DM.reads { m.fail ks with off := false } (nameB p) = _
  have h3 : tget (m.fail ks).now (nameB p).data.toList = some i := h1
  unfold DM.reads DM.get
  simp only [h3, Bool.false_eq_true, if_false]
end Go.Proofs.YtlcompihcmhbiaaGreatDoor
