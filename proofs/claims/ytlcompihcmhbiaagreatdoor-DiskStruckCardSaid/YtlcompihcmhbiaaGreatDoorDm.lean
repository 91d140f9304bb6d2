/- Plain: a disk whose power may fail: its state, and its operations. -/
import Derived.Test.YtlcompihcmhbiaaGreatDoorTab
namespace Go.Proofs.YtlcompihcmhbiaaGreatDoor
/-- A file: its bytes, of which the first are safe. -/
structure Fil where
  data : ByteArray
  safe : Nat
instance : Inhabited Fil := ⟨⟨⟨#[]⟩, 0⟩⟩
/-- An operation on names. -/
inductive DOp where
  | create (n : ByteArray) (i : Nat)
  | rename (o n : ByteArray)
  | remove (n : ByteArray)
def DOp.act : DOp → Tab → Tab
  | .create n i, t => tput t n.data.toList i
  | .rename o n, t => match tget t o.data.toList with
    | some i => tput (tdel t o.data.toList) n.data.toList i
    | none => t
  | .remove n, t => tdel t n.data.toList
/-- A disk. Tables lead to numbers of files. -/
structure DM where
  off : Bool
  room : Nat
  files : List Fil
  now : Tab
  safe : Tab
  pend : List DOp
  armed : Int
  keep : List Int
def zerosB (n : Nat) : ByteArray := ⟨Array.replicate n 0⟩
/-- What a file has behind a failure. -/
def Fil.left (f : Fil) (k : Int) : ByteArray :=
  if k % 4 = 0 then f.data.extract 0 f.safe
  else if k % 4 = 1 then f.data
  else if k % 4 = 2 then f.data.extract 0 (f.safe + (f.data.size - f.safe) / 2)
  else f.data.extract 0 f.safe ++ zerosB (f.data.size - f.safe)
def Fil.cut (f : Fil) (k : Int) : Fil := ⟨f.left k, (f.left k).size⟩
/-- The operations on names that a failure keeps. -/
def failPend : List DOp → List Int → Tab → Tab
  | [], _, t => t
  | o :: r, ks, t => failPend r ks.tail (if ks.headD 0 % 2 = 1 then o.act t else t)
/-- What is left of the files that are named. -/
def failFiles : Tab → List Int → List Fil → List Fil
  | [], _, fs => fs
  | p :: r, ks, fs => failFiles r ks.tail (fs.set p.2 (fs[p.2]!.cut (ks.headD 0)))
def DM.fail (m : DM) (ks : List Int) : DM :=
  { off := true, room := m.room, files := failFiles (failPend m.pend ks m.safe) (ks.drop m.pend.length) m.files, now := failPend m.pend ks m.safe, safe := failPend m.pend ks m.safe, pend := [], armed := 0, keep := [] }
def sizeOfTab (fs : List Fil) : Tab → Nat
  | [] => 0
  | p :: r => fs[p.2]!.data.size + sizeOfTab fs r
def DM.used (m : DM) : Nat := if m.off then 0 else sizeOfTab m.files m.now
def rightB (n : ByteArray) : Bool := decide (1 ≤ n.size) && decide (n.size ≤ 200)
/-- What an operation is. -/
inductive DCall where
  | create (n : ByteArray)
  | write (n s : ByteArray)
  | sync (n : ByteArray)
  | rename (o n : ByteArray)
  | remove (n : ByteArray)
  | flush
def DM.get (m : DM) (n : ByteArray) : Option Nat := tget m.now n.data.toList
def DM.refused (m : DM) : DCall → Int
  | .create n => if rightB n then if (m.get n).isSome then 11 else 0 else 8
  | .write n s => if (m.get n).isSome then if m.used + s.size > m.room then 28 else 0 else 10
  | .sync n => if (m.get n).isSome then 0 else 10
  | .rename o n => if (m.get o).isSome then if rightB n then 0 else 8 else 10
  | .remove n => if (m.get n).isSome then 0 else 10
  | .flush => 0
def DM.names (m : DM) (o : DOp) : DM := { m with now := o.act m.now, pend := m.pend ++ [o] }
def DM.act (m : DM) : DCall → DM
  | .create n => ({ m with files := m.files ++ [⟨⟨#[]⟩, 0⟩] } : DM).names (.create n m.files.length)
  | .write n s => match m.get n with
    | some i => { m with files := m.files.set i ⟨m.files[i]!.data ++ s, m.files[i]!.safe⟩ }
    | none => m
  | .sync n => match m.get n with
    | some i => { m with files := m.files.set i ⟨m.files[i]!.data, m.files[i]!.data.size⟩ }
    | none => m
  | .rename o n => m.names (.rename o n)
  | .remove n => m.names (.remove n)
  | .flush => { m with safe := m.now, pend := [] }
def DCall.late : DCall → Bool
  | .sync _ | .flush => true
  | _ => false
def DM.tick (m : DM) : DM := { m with armed := if 1 ≤ m.armed then m.armed - 1 else 0 }
/-- An operation: the disk behind it, and the error's number (0: none). -/
def DM.op (m : DM) (c : DCall) : DM × Int :=
  if m.off then (m, 27)
  else if m.refused c ≠ 0 then (m, m.refused c)
  else if m.armed = 1 then ((if c.late then m.tick else m.tick.act c).fail m.keep, 27)
  else (m.tick.act c, 0)
def DM.new (room : Int) : DM := ⟨false, (min (max room 0) 268435456).toNat, [], [], [], [], 0, []⟩
/-- What holds of a disk on which at most n operations were done. -/
structure DM.Ok (m : DM) (n : Nat) : Prop where
  now : Rising m.now
  safe : Rising m.safe
  nowI : ∀ p ∈ m.now, p.2 < m.files.length
  safeI : ∀ p ∈ m.safe, p.2 < m.files.length
  pendI : ∀ k i, DOp.create k i ∈ m.pend → i < m.files.length
  file : ∀ f ∈ m.files, f.safe ≤ f.data.size ∧ f.data.size ≤ m.room
  nowN : m.now.length ≤ n
  safeN : m.safe.length + m.pend.length ≤ n
  room : m.room ≤ 268435456
  arm0 : 0 ≤ m.armed
  arm1 : m.armed ≤ 9223372036854775807
  keepI : ∀ k ∈ m.keep, -9223372036854775808 ≤ k ∧ k ≤ 9223372036854775807
theorem tdel_len (l : Tab) (k : Bs) : (tdel l k).length ≤ l.length := List.length_filter_le _ _
theorem tins_len (x : Bs × Nat) : ∀ l : Tab, (tins x l).length = l.length + 1
  | [] => rfl
  | y :: r => by
    unfold tins
    split
    · rfl
    · rw [List.length_cons, tins_len x r, List.length_cons]
theorem tput_len (l : Tab) (k : Bs) (b : Nat) : (tput l k b).length ≤ l.length + 1 := by
  unfold tput
  rw [tins_len]
  have := tdel_len l k
  omega
theorem act_len (o : DOp) (t : Tab) : (o.act t).length ≤ t.length + 1 := by
  cases o with
  | create n i => exact tput_len _ _ _
  | rename o n =>
    simp only [DOp.act]
    split
    · have := tput_len (tdel t o.data.toList) n.data.toList ‹Nat›
      have := tdel_len t o.data.toList
      omega
    · omega
  | remove n => have := tdel_len t n.data.toList; simp only [DOp.act]; omega
theorem act_rising (o : DOp) {t : Tab} (h : Rising t) : Rising (o.act t) := by
  cases o with
  | create n i => exact tput_rising h
  | rename o n =>
    simp only [DOp.act]
    split
    · exact tput_rising (tdel_rising h)
    · exact h
  | remove n => exact tdel_rising h
theorem act_ids (o : DOp) {t : Tab} {N : Nat} (h : ∀ p ∈ t, p.2 < N) (ho : ∀ k i, o = .create k i → i < N) : ∀ p ∈ o.act t, p.2 < N := by
  intro p hp
  cases o with
  | create n i =>
    rcases tput_mem.1 hp with rfl | ⟨hp, _⟩
    · exact ho n i rfl
    · exact h p hp
  | rename o n =>
    simp only [DOp.act] at hp
    split at hp
    · rename_i i hi
      rcases tput_mem.1 hp with e | ⟨hp, _⟩
      · rw [e]; have h2 := h _ (tget_mem hi); exact h2
      · exact h p (tdel_mem.1 hp).1
    · exact h p hp
  | remove n => exact h p (tdel_mem.1 hp).1
theorem failPend_all {Q : Tab → Prop} (ps : List DOp) (h : ∀ o ∈ ps, ∀ t, Q t → Q (o.act t)) : ∀ (ks : List Int) (t : Tab), Q t → Q (failPend ps ks t) := by
  induction ps with
  | nil => exact fun _ _ h => h
  | cons o r ih =>
    intro ks t ht
    rw [failPend]
    refine ih (fun o ho => h o (List.mem_cons_of_mem _ ho)) _ _ ?_
    split
    · exact h o List.mem_cons_self t ht
    · exact ht
theorem failPend_len : ∀ (ps : List DOp) (ks : List Int) (t : Tab), (failPend ps ks t).length ≤ t.length + ps.length
  | [], _, t => Nat.le_refl _
  | o :: r, ks, t => by
    rw [failPend]
    have := failPend_len r ks.tail (if ks.headD 0 % 2 = 1 then o.act t else t)
    have h2 : (if ks.headD 0 % 2 = 1 then o.act t else t).length ≤ t.length + 1 := by
      split
      · exact act_len o t
      · omega
    rw [List.length_cons]
    omega
theorem failFiles_length : ∀ (t : Tab) (ks : List Int) (fs : List Fil), (failFiles t ks fs).length = fs.length
  | [], _, _ => rfl
  | p :: r, ks, fs => by rw [failFiles, failFiles_length, List.length_set]
theorem extract_sz (s : ByteArray) (n : Nat) (h : n ≤ s.size) : (s.extract 0 n).size = n := by
  rw [ByteArray.size_extract]
  omega
theorem zerosB_size (n : Nat) : (zerosB n).size = n := by
  show (Array.replicate n (0 : UInt8)).size = n
  rw [Array.size_replicate]
theorem left_size (f : Fil) (k : Int) (h : f.safe ≤ f.data.size) : f.safe ≤ (f.left k).size ∧ (f.left k).size ≤ f.data.size := by
  unfold Fil.left
  split
  · rw [extract_sz _ _ h]; omega
  split
  · omega
  split
  · rw [extract_sz _ _ (by omega)]; omega
  · rw [ByteArray.size_append, extract_sz _ _ h, zerosB_size]; omega
theorem cut_ok (f : Fil) (k : Int) {R : Nat} (h : f.safe ≤ f.data.size ∧ f.data.size ≤ R) : (f.cut k).safe ≤ (f.cut k).data.size ∧ (f.cut k).data.size ≤ R :=
  ⟨Nat.le_refl _, Nat.le_trans (left_size f k h.1).2 h.2⟩
theorem get!_mem {fs : List Fil} {i : Nat} (h : i < fs.length) : fs[i]! ∈ fs := by
  rw [getElem!_pos fs i h]
  exact List.getElem_mem h
theorem failFiles_ok {R : Nat} : ∀ (t : Tab) (ks : List Int) (fs : List Fil), (∀ p ∈ t, p.2 < fs.length) → (∀ f ∈ fs, f.safe ≤ f.data.size ∧ f.data.size ≤ R) → ∀ f ∈ failFiles t ks fs, f.safe ≤ f.data.size ∧ f.data.size ≤ R
  | [], _, _, _, h => h
  | p :: r, ks, fs, hp, h => by
    rw [failFiles]
    refine failFiles_ok r _ _ (fun q hq => by rw [List.length_set]; exact hp q (List.mem_cons_of_mem _ hq)) (fun f hf => ?_)
    rcases List.mem_or_eq_of_mem_set hf with hf | rfl
    · exact h f hf
    · exact cut_ok _ _ (h _ (get!_mem (hp p List.mem_cons_self)))
theorem DM.Ok.mono {m : DM} {n n' : Nat} (h : m.Ok n) (hn : n ≤ n') : m.Ok n' :=
  { h with nowN := Nat.le_trans h.nowN hn, safeN := Nat.le_trans h.safeN hn }
theorem DM.Ok.fail {m : DM} {n : Nat} (h : m.Ok n) (ks : List Int) : (m.fail ks).Ok n := by
  have h1 : Rising (failPend m.pend ks m.safe) := failPend_all (Q := Rising) m.pend (fun o _ t ht => act_rising o ht) ks _ h.safe
  have h2 : ∀ p ∈ failPend m.pend ks m.safe, p.2 < m.files.length := failPend_all (Q := fun t => ∀ p ∈ t, p.2 < m.files.length) m.pend (fun o ho t ht => act_ids o ht (fun k i e => h.pendI k i (e ▸ ho))) ks _ h.safeI
  have h3 := failPend_len m.pend ks m.safe
  have h4 := h.safeN
  refine ⟨h1, h1, ?_, ?_, (fun k i hk => by cases hk), ?_, ?_, ?_, h.room, Int.le_refl _, (show (0 : Int) ≤ 9223372036854775807 by omega), (fun k hk => by cases hk)⟩
  · unfold DM.fail; rw [failFiles_length]; exact h2
  · unfold DM.fail; rw [failFiles_length]; exact h2
  · exact failFiles_ok _ _ _ h2 h.file
  · show (failPend m.pend ks m.safe).length ≤ n; omega
  · show (failPend m.pend ks m.safe).length + 0 ≤ n; omega
theorem DM.Ok.names {m : DM} {n : Nat} (h : m.Ok n) (o : DOp) (ho : ∀ k i, o = .create k i → i < m.files.length) : (m.names o).Ok (n + 1) := by
  have h1 := act_len o m.now
  have h2 := h.nowN
  have h3 := h.safeN
  exact { h with
    now := act_rising o h.now
    nowI := act_ids o h.nowI ho
    pendI := fun k i hk => by
      rcases List.mem_append.1 hk with hk | hk
      · exact h.pendI k i hk
      · exact ho k i (List.mem_singleton.1 hk).symm
    nowN := by show (o.act m.now).length ≤ _; omega
    safeN := by show m.safe.length + (m.pend ++ [o]).length ≤ _; rw [List.length_append]; simp only [List.length_cons, List.length_nil]; omega }
theorem DM.Ok.tick {m : DM} {n : Nat} (h : m.Ok n) : m.tick.Ok n := by
  have h1 := h.arm0
  have h2 := h.arm1
  exact { h with
    arm0 := by show 0 ≤ if 1 ≤ m.armed then m.armed - 1 else 0; split <;> omega
    arm1 := by show (if 1 ≤ m.armed then m.armed - 1 else 0) ≤ _; split <;> omega }
theorem tget_lt {t : Tab} {N : Nat} (h : ∀ p ∈ t, p.2 < N) {k : Bs} {i : Nat} (hg : tget t k = some i) : i < N := h _ (tget_mem hg)
theorem DM.Ok.act {m : DM} {n : Nat} (h : m.Ok n) (c : DCall) (hr : m.refused c = 0) (ho : m.off = false) : (m.act c).Ok (n + 1) := by
  have hn := h.nowN
  have hs := h.safeN
  cases c with
  | create k =>
    unfold DM.act
    refine DM.Ok.names (m := { m with files := m.files ++ [⟨⟨#[]⟩, 0⟩] }) { h with nowI := ?_, safeI := ?_, pendI := ?_, file := ?_ } _ ?_
    · intro p hp; show _ < (m.files ++ [_]).length; rw [List.length_append]; exact Nat.lt_of_lt_of_le (h.nowI p hp) (Nat.le_add_right _ _)
    · intro p hp; show _ < (m.files ++ [_]).length; rw [List.length_append]; exact Nat.lt_of_lt_of_le (h.safeI p hp) (Nat.le_add_right _ _)
    · intro k i hk; show _ < (m.files ++ [_]).length; rw [List.length_append]; exact Nat.lt_of_lt_of_le (h.pendI k i hk) (Nat.le_add_right _ _)
    · intro f hf
      rcases List.mem_append.1 hf with hf | hf
      · exact h.file f hf
      · rw [List.mem_singleton.1 hf]
        exact ⟨Nat.le_refl _, Nat.zero_le _⟩
    · rintro k i e
      cases e
      show _ < (m.files ++ [_]).length
      rw [List.length_append, List.length_singleton]
      omega
  | write k s =>
    simp only [DM.act]
    split
    · rename_i i hi
      have hil := tget_lt h.nowI hi
      refine DM.Ok.mono (n := n) { h with nowI := ?_, safeI := ?_, pendI := ?_, file := ?_ } (by omega)
      · intro p hp; show _ < (m.files.set _ _).length; rw [List.length_set]; exact h.nowI p hp
      · intro p hp; show _ < (m.files.set _ _).length; rw [List.length_set]; exact h.safeI p hp
      · intro k i hk; show _ < (m.files.set _ _).length; rw [List.length_set]; exact h.pendI k i hk
      · intro f hf
        rcases List.mem_or_eq_of_mem_set hf with hf | rfl
        · exact h.file f hf
        · have h1 := h.file _ (get!_mem hil)
          have h2 : m.files[i]!.data.size ≤ m.used := by
            unfold DM.used
            rw [ho]
            have : ∀ t : Tab, (∃ q ∈ t, q.2 = i) → m.files[i]!.data.size ≤ sizeOfTab m.files t := by
              intro t
              induction t with
              | nil => rintro ⟨q, hq, _⟩; cases hq
              | cons x r ih =>
                rintro ⟨q, hq, rfl⟩
                rw [sizeOfTab]
                rcases List.mem_cons.1 hq with rfl | hq
                · omega
                · have := ih ⟨q, hq, rfl⟩; omega
            exact this _ ⟨_, tget_mem hi, rfl⟩
          have h3 : m.used + s.size ≤ m.room := by
            simp only [DM.refused] at hr
            have e : (m.get k).isSome = true := by rw [hi]; rfl
            rw [if_pos e] at hr
            split at hr
            · cases hr
            · omega
          constructor
          · show m.files[i]!.safe ≤ (m.files[i]!.data ++ s).size
            rw [ByteArray.size_append]; omega
          · show (m.files[i]!.data ++ s).size ≤ m.room
            rw [ByteArray.size_append]; omega
    · exact h.mono (by omega)
  | sync k =>
    simp only [DM.act]
    split
    · rename_i i hi
      have hil := tget_lt h.nowI hi
      refine DM.Ok.mono (n := n) { h with nowI := ?_, safeI := ?_, pendI := ?_, file := ?_ } (by omega)
      · intro p hp; show _ < (m.files.set _ _).length; rw [List.length_set]; exact h.nowI p hp
      · intro p hp; show _ < (m.files.set _ _).length; rw [List.length_set]; exact h.safeI p hp
      · intro k i hk; show _ < (m.files.set _ _).length; rw [List.length_set]; exact h.pendI k i hk
      · intro f hf
        rcases List.mem_or_eq_of_mem_set hf with hf | rfl
        · exact h.file f hf
        · exact ⟨Nat.le_refl _, (h.file _ (get!_mem hil)).2⟩
    · exact h.mono (by omega)
  | rename o k => exact h.names _ (fun k i e => by cases e)
  | remove k => exact h.names _ (fun k i e => by cases e)
  | flush =>
    exact { h with safe := h.now, safeI := h.nowI, pendI := fun k i hk => (by cases hk), nowN := by show m.now.length ≤ _; omega, safeN := by show m.now.length + 0 ≤ _; omega }
theorem tick_refused (m : DM) (c : DCall) : m.tick.refused c = m.refused c := by cases c <;> rfl
theorem DM.Ok.op {m : DM} {n : Nat} (h : m.Ok n) (c : DCall) : (m.op c).1.Ok (n + 1) := by
  unfold DM.op
  split
  · exact h.mono (by omega)
  rename_i ho
  have ho' : m.off = false := by cases hm : m.off <;> simp_all
  split
  · exact h.mono (by omega)
  rename_i hr
  have hr' : m.tick.refused c = 0 := by rw [tick_refused]; exact Decidable.not_not.1 hr
  split
  · refine DM.Ok.fail ?_ _
    split
    · exact h.tick.mono (by omega)
    · exact h.tick.act c hr' ho'
  · exact h.tick.act c hr' ho'
end Go.Proofs.YtlcompihcmhbiaaGreatDoor
