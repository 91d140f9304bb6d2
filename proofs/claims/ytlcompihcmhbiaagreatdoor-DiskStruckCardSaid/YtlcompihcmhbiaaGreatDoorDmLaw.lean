/- Plain laws on disks: what is safe stays; a failure behind a failure changes nothing. -/
import Derived.Test.YtlcompihcmhbiaaGreatDoorDm
namespace Go.Proofs.YtlcompihcmhbiaaGreatDoor
/-- The power is on, and nothing is armed. -/
def DM.Calm (m : DM) : Prop := m.off = false ∧ m.armed = 0
theorem DM.Calm.names {m : DM} (h : m.Calm) (o : DOp) : (m.names o).Calm := h
theorem DM.Calm.tick {m : DM} (h : m.Calm) : m.tick = m := by
  unfold DM.tick
  rw [if_neg (by rw [h.2]; decide)]
  obtain ⟨off, room, files, now, safe, pend, armed, keep⟩ := m
  obtain ⟨_, rfl⟩ := h
  rfl
theorem DM.Calm.act {m : DM} (h : m.Calm) (c : DCall) : (m.act c).Calm := by
  cases c with
  | create k => exact h
  | write k s => simp only [DM.act]; split <;> exact h
  | sync k => simp only [DM.act]; split <;> exact h
  | rename o k => exact h
  | remove k => exact h
  | flush => exact h
theorem DM.Calm.op_eq {m : DM} (h : m.Calm) (c : DCall) : m.op c = if m.refused c ≠ 0 then (m, m.refused c) else (m.act c, 0) := by
  unfold DM.op
  rw [if_neg (by rw [h.1]; decide), h.tick]
  by_cases hr : m.refused c ≠ 0
  · rw [if_pos hr, if_pos hr]
  · rw [if_neg hr, if_neg (by rw [h.2]; decide), if_neg hr]
theorem DM.Calm.op {m : DM} (h : m.Calm) (c : DCall) : (m.op c).1.Calm := by
  rw [h.op_eq]
  split
  · exact h
  · exact h.act c
def DM.revive (m : DM) : DM := { m with off := false }
def DM.crash (m : DM) (ks : List Int) : DM := if m.off then m else m.fail ks
theorem crash_calm {m : DM} (h : m.off = false) (ks : List Int) : (m.crash ks).revive.Calm := by
  unfold DM.crash
  rw [h]
  exact ⟨rfl, rfl⟩
/-- All of a file is safe. -/
def Fil.whole (f : Fil) : Prop := f.safe = f.data.size
theorem extract_all (s : ByteArray) : s.extract 0 s.size = s := by
  ext1
  show (s.extract 0 s.size).data = s.data
  rw [ByteArray.data_extract]
  show s.data.extract 0 s.data.size = _
  simp
theorem Fil.whole.cut {f : Fil} (h : f.whole) (k : Int) : f.cut k = f := by
  have h2 : f.left k = f.data := by
    unfold Fil.left
    rw [h]
    split
    · exact extract_all _
    split
    · rfl
    split
    · rw [Nat.sub_self]; exact extract_all _
    · rw [Nat.sub_self, extract_all]
      show f.data ++ (⟨#[]⟩ : ByteArray) = f.data
      exact ByteArray.append_empty
  unfold Fil.cut
  rw [h2, ← h]
theorem failFiles_whole : ∀ (t : Tab) (ks : List Int) (fs : List Fil), (∀ p ∈ t, p.2 < fs.length ∧ fs[p.2]!.whole) → failFiles t ks fs = fs
  | [], _, _, _ => rfl
  | p :: r, ks, fs, h => by
    have h1 := h p List.mem_cons_self
    have e : fs.set p.2 (fs[p.2]!.cut (ks.headD 0)) = fs := by
      rw [h1.2.cut, getElem!_pos fs p.2 h1.1]
      exact List.set_getElem_self _
    rw [failFiles, e]
    exact failFiles_whole r _ _ (fun q hq => h q (List.mem_cons_of_mem _ hq))
/-- Nothing is in hand, and what is there is safe. -/
structure DM.Still (m : DM) : Prop where
  calm : m.Calm
  pend : m.pend = []
  safe : m.safe = m.now
  whole : ∀ p ∈ m.now, m.files[p.2]!.whole
/-- A failure leaves it as it is. -/
theorem DM.Still.fail {m : DM} {n : Nat} (h : m.Still) (ho : m.Ok n) (hk : m.keep = []) (ks : List Int) : (m.crash ks).revive = m := by
  have e1 : failPend m.pend ks m.safe = m.now := by rw [h.pend, h.safe]; rfl
  have e2 : failFiles m.now (ks.drop m.pend.length) m.files = m.files := failFiles_whole _ _ _ (fun p hp => ⟨ho.nowI p hp, h.whole p hp⟩)
  unfold DM.crash
  rw [h.calm.1]
  show (m.fail ks).revive = m
  unfold DM.fail DM.revive
  rw [e1]
  simp only [e2]
  obtain ⟨off, room, files, now, safe, pend, armed, keep⟩ := m
  obtain ⟨⟨h1, h2⟩, h3, h4, h5⟩ := h
  simp only at h1 h2 h3 h4 hk
  subst h1 h2 h3 h4 hk
  rfl
theorem fail_set_len {fs : List Fil} {i j : Nat} {f : Fil} (h : j < fs.length) : (fs.set i f)[j]! = if i = j then f else fs[j]! := by
  rw [getElem!_pos _ j (by rw [List.length_set]; exact h), getElem!_pos fs j h, List.getElem_set]
theorem cut_whole (f : Fil) (k : Int) : (f.cut k).whole := rfl
theorem failFiles_get {Q : Fil → Prop} (hc : ∀ f k, Q f → Q (f.cut k)) {j : Nat} : ∀ (t : Tab) (ks : List Int) (fs : List Fil), j < fs.length → Q fs[j]! → Q (failFiles t ks fs)[j]!
  | [], _, _, _, h => h
  | p :: r, ks, fs, hj, h => by
    rw [failFiles]
    refine failFiles_get hc r _ _ (by rw [List.length_set]; exact hj) ?_
    rw [fail_set_len hj]
    split
    · rename_i e; rw [e]; exact hc _ _ h
    · exact h
theorem failFiles_named {j : Nat} : ∀ (t : Tab) (ks : List Int) (fs : List Fil), j < fs.length → (∃ p ∈ t, p.2 = j) → (failFiles t ks fs)[j]!.whole
  | [], _, _, _, h => by obtain ⟨p, hp, _⟩ := h; cases hp
  | p :: r, ks, fs, hj, h => by
    rw [failFiles]
    by_cases e : p.2 = j
    · refine failFiles_get (Q := Fil.whole) (fun f k _ => cut_whole f k) r _ _ (by rw [List.length_set]; exact hj) ?_
      rw [fail_set_len hj, if_pos e]
      exact cut_whole _ _
    · refine failFiles_named r _ _ (by rw [List.length_set]; exact hj) ?_
      obtain ⟨q, hq, hqe⟩ := h
      rcases List.mem_cons.1 hq with rfl | hq
      · exact absurd hqe e
      · exact ⟨q, hq, hqe⟩
theorem fail_still {m : DM} {n : Nat} (ho : m.Ok n) (h : m.off = false) (ks : List Int) : (m.crash ks).revive.Still := by
  have hi : ∀ p ∈ failPend m.pend ks m.safe, p.2 < m.files.length := failPend_all (Q := fun t => ∀ p ∈ t, p.2 < m.files.length) m.pend (fun o h2 t ht => act_ids o ht (fun k i e => ho.pendI k i (e ▸ h2))) ks _ ho.safeI
  refine ⟨crash_calm h ks, ?_, ?_, ?_⟩
  · unfold DM.crash; rw [h]; rfl
  · unfold DM.crash; rw [h]; rfl
  · unfold DM.crash
    rw [h]
    intro p hp
    exact failFiles_named _ _ _ (hi p hp) ⟨p, hp, rfl⟩
theorem fail_keep {m : DM} (h : m.off = false) (ks : List Int) : (m.crash ks).revive.keep = [] := by
  unfold DM.crash; rw [h]; rfl
/-! ### what is safe stays -/
/-- The file holds these bytes at its beginning, and they are safe. -/
def Fil.Has (d : ByteArray) (f : Fil) : Prop := d.size ≤ f.safe ∧ f.safe ≤ f.data.size ∧ f.data.extract 0 d.size = d
theorem extract_extract0 (s : ByteArray) (a b : Nat) (h : a ≤ b) : (s.extract 0 b).extract 0 a = s.extract 0 a := by
  ext1
  simp only [ByteArray.data_extract, Array.extract_extract, Nat.zero_add, Nat.add_zero]
  rw [Nat.min_eq_left h]
theorem extract_append0 (s t : ByteArray) (a : Nat) (h : a ≤ s.size) : (s ++ t).extract 0 a = s.extract 0 a := by
  ext1
  simp only [ByteArray.data_extract, ByteArray.data_append]
  rw [Array.extract_append]
  have : (a - s.data.size : Nat) = 0 := by have : s.size = s.data.size := rfl; omega
  rw [this]
  simp
theorem Fil.Has.cut {d : ByteArray} {f : Fil} (h : f.Has d) (k : Int) : (f.cut k).Has d := by
  have h1 := left_size f k h.2.1
  refine ⟨Nat.le_trans h.1 h1.1, Nat.le_refl _, ?_⟩
  show (f.left k).extract 0 d.size = d
  have h2 := h.1
  have h3 := h.2.1
  unfold Fil.left
  split
  · rw [extract_extract0 _ _ _ h.1]; exact h.2.2
  split
  · exact h.2.2
  split
  · rw [extract_extract0 _ _ _ (by omega)]; exact h.2.2
  · rw [extract_append0 _ _ _ (by rw [extract_sz _ _ h3]; exact h2), extract_extract0 _ _ _ h.1]; exact h.2.2
/-- Nothing that is in hand touches the name. -/
def DOp.leaves (o : DOp) (n : Bs) : Prop := ∀ t : Tab, Rising t → tget (o.act t) n = tget t n
structure DM.Keeps (m : DM) (n : Bs) (i : Nat) (d : ByteArray) : Prop where
  now : tget m.now n = some i
  safe : tget m.safe n = some i
  pend : ∀ o ∈ m.pend, o.leaves n
  file : m.files[i]!.Has d
/-- Which names an operation touches. -/
def DCall.touch : DCall → List Bs
  | .create k => [k.data.toList]
  | .rename o k => [o.data.toList, k.data.toList]
  | .remove k => [k.data.toList]
  | _ => []
theorem leaves_create {k : ByteArray} {i : Nat} {n : Bs} (h : n ≠ k.data.toList) : (DOp.create k i).leaves n := fun t ht => by
  show tget (tput t k.data.toList i) n = _
  rw [tget_put ht, if_neg h]
theorem leaves_remove {k : ByteArray} {n : Bs} (h : n ≠ k.data.toList) : (DOp.remove k).leaves n := fun t ht => by
  show tget (tdel t k.data.toList) n = _
  rw [tget_del ht, if_neg h]
theorem leaves_rename {o k : ByteArray} {n : Bs} (h : n ≠ o.data.toList) (h2 : n ≠ k.data.toList) : (DOp.rename o k).leaves n := fun t ht => by
  simp only [DOp.act]
  split
  · rw [tget_put (tdel_rising ht), if_neg h2, tget_del ht, if_neg h]
  · rfl
theorem DM.Keeps.names {m : DM} {n : Bs} {i : Nat} {d : ByteArray} (h : m.Keeps n i d) (hr : Rising m.now) {o : DOp} (ho : o.leaves n) : (m.names o).Keeps n i d :=
  ⟨(ho _ hr).trans h.now, h.safe, fun q hq => by
    rcases List.mem_append.1 hq with hq | hq
    · exact h.pend q hq
    · rw [List.mem_singleton.1 hq]; exact ho, h.file⟩
theorem Fil.Has.app {d : ByteArray} {f : Fil} (h : f.Has d) (s : ByteArray) : (⟨f.data ++ s, f.safe⟩ : Fil).Has d :=
  ⟨h.1, by show f.safe ≤ (f.data ++ s).size; rw [ByteArray.size_append]; have := h.2.1; omega, by show (f.data ++ s).extract 0 d.size = d; rw [extract_append0 _ _ _ (Nat.le_trans h.1 h.2.1)]; exact h.2.2⟩
theorem Fil.Has.sync {d : ByteArray} {f : Fil} (h : f.Has d) : (⟨f.data, f.data.size⟩ : Fil).Has d := ⟨Nat.le_trans h.1 h.2.1, Nat.le_refl _, h.2.2⟩
theorem DM.Keeps.act {m : DM} {N : Nat} {n : Bs} {i : Nat} {d : ByteArray} (h : m.Keeps n i d) (ho : m.Ok N) (c : DCall) (ht : n ∉ c.touch) : (m.act c).Keeps n i d := by
  have hi := tget_lt ho.nowI h.now
  cases c with
  | create k =>
    have h2 : n ≠ k.data.toList := fun e => ht (by rw [e]; exact List.mem_cons_self)
    refine DM.Keeps.names (m := { m with files := m.files ++ [⟨⟨#[]⟩, 0⟩] }) ⟨h.now, h.safe, h.pend, ?_⟩ ho.now (leaves_create h2)
    show (m.files ++ [_])[i]!.Has d
    rw [getElem!_pos _ i (by rw [List.length_append]; omega), List.getElem_append_left hi, ← getElem!_pos m.files i hi]
    exact h.file
  | write k s =>
    simp only [DM.act]
    split
    · refine ⟨h.now, h.safe, h.pend, ?_⟩
      show (m.files.set _ _)[i]!.Has d
      rw [fail_set_len hi]
      split
      · rename_i e; rw [e]; exact h.file.app s
      · exact h.file
    · exact h
  | sync k =>
    simp only [DM.act]
    split
    · refine ⟨h.now, h.safe, h.pend, ?_⟩
      show (m.files.set _ _)[i]!.Has d
      rw [fail_set_len hi]
      split
      · rename_i e; rw [e]; exact h.file.sync
      · exact h.file
    · exact h
  | rename o k =>
    have h2 : n ≠ o.data.toList := fun e => ht (by rw [e]; exact List.mem_cons_self)
    have h3 : n ≠ k.data.toList := fun e => ht (by rw [e]; exact List.mem_cons_of_mem _ List.mem_cons_self)
    exact h.names ho.now (leaves_rename h2 h3)
  | remove k =>
    have h2 : n ≠ k.data.toList := fun e => ht (by rw [e]; exact List.mem_cons_self)
    exact h.names ho.now (leaves_remove h2)
  | flush => exact ⟨h.now, h.now, (fun q hq => by cases hq), h.file⟩
theorem failPend_get {n : Bs} : ∀ (ps : List DOp) (ks : List Int) (t : Tab), (∀ o ∈ ps, o.leaves n) → Rising t → tget (failPend ps ks t) n = tget t n
  | [], _, _, _, _ => rfl
  | o :: r, ks, t, h, hr => by
    rw [failPend]
    split
    · rw [failPend_get r _ _ (fun q hq => h q (List.mem_cons_of_mem _ hq)) (act_rising o hr)]
      exact h o List.mem_cons_self t hr
    · exact failPend_get r _ _ (fun q hq => h q (List.mem_cons_of_mem _ hq)) hr
/-- Whatever is kept: the name leads to a file with these bytes at its beginning. -/
theorem DM.Keeps.fail {m : DM} {N : Nat} {n : Bs} {i : Nat} {d : ByteArray} (h : m.Keeps n i d) (ho : m.Ok N) (ks : List Int) : tget (m.fail ks).now n = some i ∧ (m.fail ks).files[i]!.Has d :=
  ⟨(failPend_get _ _ _ h.pend ho.safe).trans h.safe, failFiles_get (Q := Fil.Has d) (fun f k hf => hf.cut k) _ _ _ (tget_lt ho.nowI h.now) h.file⟩
/-! ### no name comes from nowhere -/
def inNames (N : List Bs) (t : Tab) : Prop := ∀ p ∈ t, p.1 ∈ N
def DOp.within (N : List Bs) : DOp → Prop
  | .create n _ => n.data.toList ∈ N
  | .rename _ n => n.data.toList ∈ N
  | .remove _ => True
theorem within_act {N : List Bs} {o : DOp} (h : o.within N) {t : Tab} (ht : inNames N t) : inNames N (o.act t) := by
  intro p hp
  cases o with
  | create n i =>
    rcases tput_mem.1 hp with rfl | ⟨hp, _⟩
    · exact h
    · exact ht p hp
  | rename o n =>
    simp only [DOp.act] at hp
    split at hp
    · rcases tput_mem.1 hp with rfl | ⟨hp, _⟩
      · exact h
      · exact ht p (tdel_mem.1 hp).1
    · exact ht p hp
  | remove n => exact ht p (tdel_mem.1 hp).1
structure DM.Named (m : DM) (N : List Bs) : Prop where
  now : inNames N m.now
  safe : inNames N m.safe
  pend : ∀ o ∈ m.pend, o.within N
theorem DOp.within.mono {N M : List Bs} (hs : ∀ x ∈ N, x ∈ M) {o : DOp} (h : o.within N) : o.within M := by
  cases o with
  | create n i => exact hs _ h
  | rename o n => exact hs _ h
  | remove n => trivial
theorem DM.Named.fail {m : DM} {N : List Bs} (h : m.Named N) (ks : List Int) : inNames N (m.fail ks).now :=
  failPend_all (Q := inNames N) m.pend (fun o ho t ht => within_act (h.pend o ho) ht) ks _ h.safe
/-- Behind an operation that was done, with the names that are there then. -/
theorem DM.Named.act {m : DM} {N : List Bs} (h : m.Named N) (c : DCall) (hr : m.refused c = 0) : (m.act c).Named (N ++ (m.act c).now.map (·.1)) := by
  have hsub : ∀ x ∈ N, x ∈ N ++ (m.act c).now.map (·.1) := fun x hx => List.mem_append.2 (.inl hx)
  have hall : inNames (N ++ (m.act c).now.map (·.1)) (m.act c).now := fun p hp => List.mem_append.2 (.inr (List.mem_map.2 ⟨p, hp, rfl⟩))
  have hsf : inNames (N ++ (m.act c).now.map (·.1)) m.safe := fun p hp => hsub _ (h.safe p hp)
  have hpd : ∀ o ∈ m.pend, o.within (N ++ (m.act c).now.map (·.1)) := fun o ho => (h.pend o ho).mono hsub
  have hin : ∀ (k : ByteArray) (t : Tab), (∃ i, (k.data.toList, i) ∈ t) → k.data.toList ∈ N ++ t.map (·.1) := fun k t hk => by
    obtain ⟨i, hi⟩ := hk
    exact List.mem_append.2 (.inr (List.mem_map.2 ⟨_, hi, rfl⟩))
  cases c with
  | create k =>
    refine ⟨hall, hsf, fun o ho => ?_⟩
    rcases List.mem_append.1 ho with ho | ho
    · exact hpd o ho
    · rw [List.mem_singleton.1 ho]
      exact hin k _ ⟨_, tput_mem.2 (.inl rfl)⟩
  | write k s =>
    have e1 : (m.act (.write k s)).now = m.now := by simp only [DM.act]; split <;> rfl
    have e2 : (m.act (.write k s)).safe = m.safe := by simp only [DM.act]; split <;> rfl
    have e3 : (m.act (.write k s)).pend = m.pend := by simp only [DM.act]; split <;> rfl
    exact ⟨hall, by rw [e2]; exact hsf, by rw [e3]; exact hpd⟩
  | sync k =>
    have e1 : (m.act (.sync k)).now = m.now := by simp only [DM.act]; split <;> rfl
    have e2 : (m.act (.sync k)).safe = m.safe := by simp only [DM.act]; split <;> rfl
    have e3 : (m.act (.sync k)).pend = m.pend := by simp only [DM.act]; split <;> rfl
    exact ⟨hall, by rw [e2]; exact hsf, by rw [e3]; exact hpd⟩
  | rename o k =>
    refine ⟨hall, hsf, fun q hq => ?_⟩
    rcases List.mem_append.1 hq with hq | hq
    · exact hpd q hq
    · rw [List.mem_singleton.1 hq]
      have h2 : (m.get o).isSome = true := by
        simp only [DM.refused] at hr
        by_cases h3 : (m.get o).isSome = true
        · exact h3
        · rw [if_neg h3] at hr; cases hr
      obtain ⟨i, hi⟩ := Option.isSome_iff_exists.1 h2
      have hi' : tget m.now o.data.toList = some i := hi
      refine hin k _ ⟨i, ?_⟩
      show _ ∈ DOp.act (.rename o k) m.now
      simp only [DOp.act, hi']
      exact tput_mem.2 (.inl rfl)
  | remove k =>
    refine ⟨hall, hsf, fun q hq => ?_⟩
    rcases List.mem_append.1 hq with hq | hq
    · exact hpd q hq
    · rw [List.mem_singleton.1 hq]; trivial
  | flush => exact ⟨hall, hall, fun q hq => by cases hq⟩
end Go.Proofs.YtlcompihcmhbiaaGreatDoor
