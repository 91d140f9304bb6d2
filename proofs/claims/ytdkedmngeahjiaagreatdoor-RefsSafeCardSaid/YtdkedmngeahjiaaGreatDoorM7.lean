/- Texts of the seat, one behind the other: Tab, Dm, DmLaw. -/
import Derived.Test.YtdkedmngeahjiaaGreatDoorM1
import Derived.Maps.Ext
import Derived.Maps.OwnSet
import Derived.WideAt
import Derived.WideShapes
/- Plain: tables from names to blocks: sorted lists, and as a map's datum. -/
namespace Go.Proofs.YtdkedmngeahjiaaGreatDoor
open Go Go.Maps
/-- A table: rising names, and the number of the block to which each leads. -/
abbrev Tab := List (Bs × Nat)
def tget (l : Tab) (k : Bs) : Option Nat := (l.find? (fun p => p.1 == k)).map (·.2)
def tdel (l : Tab) (k : Bs) : Tab := l.filter fun p => !(p.1 == k)
def tins (x : Bs × Nat) : Tab → Tab
  | [] => [x]
  | y :: r => if bytesBefore x.1 y.1 then x :: y :: r else y :: tins x r
def tput (l : Tab) (k : Bs) (b : Nat) : Tab := tins (k, b) (tdel l k)
def Rising (l : Tab) : Prop := l.Pairwise (fun p q => bytesBefore p.1 q.1 = true)
def tentry (p : Bs × Nat) : Lit × DataW Unit := (.string p.1, .lit (.int .i64 (p.2 : Int)))
def tabD (l : Tab) : DataW Unit := .map (l.map tentry)
theorem tabD_del (l : Tab) (k : Bs) : (tabD l).del (.string k) = tabD (tdel l k) := by
  unfold tabD DataW.del tdel
  simp only [List.filter_map]
  rfl
theorem tabD_ins (x : Bs × Nat) : ∀ l : Tab, DataW.insert (tentry x) (l.map tentry) = (tins x l).map tentry
  | [] => rfl
  | y :: r => by
    unfold tins
    rw [List.map_cons, DataW.insert]
    have e : (tentry x).1.before (tentry y).1 = bytesBefore x.1 y.1 := rfl
    rw [e]
    split
    · rfl
    · rw [tabD_ins x r]; rfl
theorem tabD_put (l : Tab) (k : Bs) (b : Nat) : (tabD l).put (.string k) (.lit (.int .i64 (b : Int))) = tabD (tput l k b) := by
  show DataW.map (DataW.insert (tentry (k, b)) ((l.map tentry).filter fun p => !p.1.sameKey (.string k))) = _
  have e : ((l.map tentry).filter fun p => !p.1.sameKey (.string k)) = (tdel l k).map tentry := by
    unfold tdel
    rw [List.filter_map]
    rfl
  rw [e, tabD_ins]
  rfl
theorem tabD_at (l : Tab) (k : Bs) (z : DataW Unit) : (tabD l).atKey (.string k) z = match tget l k with | some b => .lit (.int .i64 (b : Int)) | none => z := by
  unfold tabD DataW.atKey tget
  simp only [List.find?_map]
  have e : ((fun p : Lit × DataW Unit => p.1.sameKey (.string k)) ∘ tentry) = fun p => p.1 == k := rfl
  rw [e]
  cases l.find? (fun p => p.1 == k) <;> rfl
theorem tabD_canon {D : DataW Unit} {l : Tab} (h : Canon D) (hD : D = tabD l) : Rising l := by
  obtain ⟨es, rfl, hp, -⟩ := h
  have e : es = l.map tentry := by unfold tabD at hD; exact DataW.map.inj hD
  subst e
  unfold Rising
  rw [List.pairwise_map] at hp
  exact hp
theorem bb_ne {a b : Bs} (h : bytesBefore a b = true) : a ≠ b := by
  rintro rfl
  rw [WideAt.bytes_irrefl] at h
  cases h
theorem tins_mem (x : Bs × Nat) : ∀ (l : Tab) (p : Bs × Nat), p ∈ tins x l ↔ p = x ∨ p ∈ l
  | [], p => by simp [tins]
  | y :: r, p => by
    unfold tins
    split
    · simp
    · rw [List.mem_cons, tins_mem x r, List.mem_cons]
      constructor
      · rintro (h | h | h)
        · exact .inr (.inl h)
        · exact .inl h
        · exact .inr (.inr h)
      · rintro (h | h | h)
        · exact .inr (.inl h)
        · exact .inl h
        · exact .inr (.inr h)
theorem tdel_mem {l : Tab} {k : Bs} {p : Bs × Nat} : p ∈ tdel l k ↔ p ∈ l ∧ p.1 ≠ k := by
  unfold tdel
  rw [List.mem_filter]
  simp
theorem tput_mem {l : Tab} {k : Bs} {b : Nat} {p : Bs × Nat} : p ∈ tput l k b ↔ p = (k, b) ∨ (p ∈ l ∧ p.1 ≠ k) := by
  unfold tput
  rw [tins_mem, tdel_mem]
theorem tdel_rising {l : Tab} {k : Bs} (h : Rising l) : Rising (tdel l k) := h.sublist (List.filter_sublist)
theorem tins_rising {x : Bs × Nat} : ∀ {l : Tab}, Rising l → (∀ p ∈ l, p.1 ≠ x.1) → Rising (tins x l)
  | [], _, _ => by unfold tins Rising; exact List.pairwise_singleton _ _
  | y :: r, h, hn => by
    unfold Rising at h ⊢
    rw [List.pairwise_cons] at h
    unfold tins
    split
    · rename_i hb
      rw [List.pairwise_cons]
      refine ⟨fun p hp => ?_, List.pairwise_cons.2 h⟩
      rcases List.mem_cons.1 hp with rfl | hp
      · exact hb
      · exact WideShapes.bytes_trans _ _ _ hb (h.1 p hp)
    · rename_i hb
      rw [List.pairwise_cons]
      refine ⟨fun p hp => ?_, tins_rising h.2 (fun p hp => hn p (List.mem_cons_of_mem _ hp))⟩
      rcases (tins_mem x r p).1 hp with rfl | hp
      · rcases WideAt.bytes_total y.1 p.1 (hn y List.mem_cons_self) with h1 | h1
        · exact h1
        · exact absurd h1 hb
      · exact h.1 p hp
theorem tput_rising {l : Tab} {k : Bs} {b : Nat} (h : Rising l) : Rising (tput l k b) :=
  tins_rising (tdel_rising h) (fun _ hp => (tdel_mem.1 hp).2)
theorem tget_mem {l : Tab} {k : Bs} {b : Nat} (h : tget l k = some b) : (k, b) ∈ l := by
  unfold tget at h
  obtain ⟨p, hp, rfl⟩ := Option.map_eq_some_iff.1 h
  have h1 := List.find?_some hp
  have h2 := List.mem_of_find?_eq_some hp
  have : p.1 = k := by simpa using h1
  rw [← this]
  exact h2
theorem tget_of_mem {l : Tab} (hr : Rising l) {k : Bs} {b : Nat} (h : (k, b) ∈ l) : tget l k = some b := by
  induction l with
  | nil => cases h
  | cons y r ih =>
    unfold Rising at hr
    rw [List.pairwise_cons] at hr
    unfold tget
    rw [List.find?_cons]
    rcases List.mem_cons.1 h with rfl | h
    · simp
    · have hne : (y.1 == k) = false := by rw [beq_eq_false_iff_ne]; exact bb_ne (hr.1 _ h)
      rw [hne]
      exact ih hr.2 h
theorem tget_none {l : Tab} {k : Bs} : tget l k = none ↔ ∀ p ∈ l, p.1 ≠ k := by
  unfold tget
  rw [Option.map_eq_none_iff, List.find?_eq_none]
  simp
theorem tget_put {l : Tab} {k j : Bs} {b : Nat} (hr : Rising l) : tget (tput l k b) j = if j = k then some b else tget l j := by
  by_cases e : j = k
  · rw [if_pos e, e]
    exact tget_of_mem (tput_rising hr) (tput_mem.2 (.inl rfl))
  · rw [if_neg e]
    cases h : tget l j with
    | none =>
      rw [tget_none] at h ⊢
      intro p hp
      rcases tput_mem.1 hp with rfl | ⟨hp, _⟩
      · exact fun h' => e h'.symm
      · exact h p hp
    | some c => exact tget_of_mem (tput_rising hr) (tput_mem.2 (.inr ⟨tget_mem h, e⟩))
theorem tget_del {l : Tab} {k j : Bs} (hr : Rising l) : tget (tdel l k) j = if j = k then none else tget l j := by
  by_cases e : j = k
  · rw [if_pos e, e, tget_none]
    exact fun p hp => (tdel_mem.1 hp).2
  · rw [if_neg e]
    cases h : tget l j with
    | none =>
      rw [tget_none] at h ⊢
      exact fun p hp => h p (tdel_mem.1 hp).1
    | some c => exact tget_of_mem (tdel_rising hr) (tdel_mem.2 ⟨tget_mem h, e⟩)
theorem tab_ext {l m : Tab} (hl : Rising l) (hm : Rising m) (h : ∀ k, tget l k = tget m k) : l = m := by
  have hp : ∀ p : Bs × Nat, p ∈ l ↔ p ∈ m := fun p => ⟨fun hp => tget_mem (by rw [← h]; exact tget_of_mem hl hp), fun hp => tget_mem (by rw [h]; exact tget_of_mem hm hp)⟩
  induction l generalizing m with
  | nil =>
    cases m with
    | nil => rfl
    | cons y r => exact absurd ((hp y).2 List.mem_cons_self) (by simp)
  | cons x xs ih =>
    cases m with
    | nil => exact absurd ((hp x).1 List.mem_cons_self) (by simp)
    | cons y ys =>
      unfold Rising at hl hm
      have hl' := List.pairwise_cons.1 hl
      have hm' := List.pairwise_cons.1 hm
      have e : x = y := by
        rcases List.mem_cons.1 ((hp x).1 List.mem_cons_self) with h1 | h1
        · exact h1
        · rcases List.mem_cons.1 ((hp y).2 List.mem_cons_self) with h2 | h2
          · exact h2.symm
          · have a := hm'.1 x h1
            have b := hl'.1 y h2
            exact absurd (WideShapes.bytes_trans _ _ _ a b) (by rw [WideAt.bytes_irrefl]; simp)
      subst e
      have hne : ∀ p ∈ xs, p ≠ x := fun p hp2 e => by
        have := hl'.1 p hp2
        rw [e, WideAt.bytes_irrefl] at this
        cases this
      have hne2 : ∀ p ∈ ys, p ≠ x := fun p hp2 e => by
        have := hm'.1 p hp2
        rw [e, WideAt.bytes_irrefl] at this
        cases this
      have hp' : ∀ p : Bs × Nat, p ∈ xs ↔ p ∈ ys := fun p => ⟨fun h1 => by
        rcases List.mem_cons.1 ((hp p).1 (List.mem_cons_of_mem _ h1)) with h2 | h2
        · exact absurd h2 (hne p h1)
        · exact h2, fun h1 => by
        rcases List.mem_cons.1 ((hp p).2 (List.mem_cons_of_mem _ h1)) with h2 | h2
        · exact absurd h2 (hne2 p h1)
        · exact h2⟩
      rw [ih hl'.2 hm'.2 (fun k => by
        cases h1 : tget xs k with
        | none =>
          cases h2 : tget ys k with
          | none => rfl
          | some c =>
            have := (hp' (k, c)).2 (tget_mem h2)
            rw [tget_of_mem hl'.2 this] at h1
            cases h1
        | some c =>
          have := (hp' (k, c)).1 (tget_mem h1)
          rw [tget_of_mem hm'.2 this]) hp']
/-- How a pointer to a file reads. -/
def ptrElem : Value → Option (DataW Unit × List MemPlace)
  | .pointer (some ⟨b, 0, none⟩) => some (.lit (.int .i64 (b : Int)), [])
  | .pointer none => some (.nil, [])
  | _ => none
def ptrV : Option Nat → Value
  | some b => .pointer (some ⟨b, 0, none⟩)
  | none => .pointer none
theorem ptrElem_inv {v : Value} {b : Nat} {ps : List MemPlace} (h : ptrElem v = some (.lit (.int .i64 (b : Int)), ps)) : v = .pointer (some ⟨b, 0, none⟩) := by
  unfold ptrElem at h
  split at h
  · rename_i c
    have h1 := (Prod.mk.inj (Option.some.inj h)).1
    have h2 := DataW.lit.inj h1
    have h3 := (Lit.int.inj h2).2
    have : c = b := by exact_mod_cast h3
    rw [this]
  · have h1 := (Prod.mk.inj (Option.some.inj h)).1
    cases h1
  · cases h
theorem ptrElem_nil {v : Value} {ps : List MemPlace} (h : ptrElem v = some (.nil, ps)) : v = .pointer none := by
  unfold ptrElem at h
  split at h
  · have h1 := (Prod.mk.inj (Option.some.inj h)).1
    cases h1
  · rfl
  · cases h
end Go.Proofs.YtdkedmngeahjiaaGreatDoor
/- Plain: a disk whose power may fail: its state, and its operations. -/
namespace Go.Proofs.YtdkedmngeahjiaaGreatDoor
/-- A file: its bytes, of which the first are safe. -/
structure Fil where
  data : ByteArray
  safe : Nat
instance : Inhabited Fil := ⟨⟨⟨#[]⟩, 0⟩⟩
/-- An operation on names. -/
inductive DOp where
  | create (n : ByteArray) (i : Nat)
  | rename (o n : ByteArray)
  | remove (n : ByteArray)
def DOp.act : DOp → Tab → Tab
  | .create n i, t => tput t n.data.toList i
  | .rename o n, t => match tget t o.data.toList with
    | some i => tput (tdel t o.data.toList) n.data.toList i
    | none => t
  | .remove n, t => tdel t n.data.toList
/-- A disk. Tables lead to numbers of files. -/
structure DM where
  off : Bool
  room : Nat
  files : List Fil
  now : Tab
  safe : Tab
  pend : List DOp
  armed : Int
  keep : List Int
def zerosB (n : Nat) : ByteArray := ⟨Array.replicate n 0⟩
/-- What a file has behind a failure. -/
def Fil.left (f : Fil) (k : Int) : ByteArray :=
  if k % 4 = 0 then f.data.extract 0 f.safe
  else if k % 4 = 1 then f.data
  else if k % 4 = 2 then f.data.extract 0 (f.safe + (f.data.size - f.safe) / 2)
  else f.data.extract 0 f.safe ++ zerosB (f.data.size - f.safe)
def Fil.cut (f : Fil) (k : Int) : Fil := ⟨f.left k, (f.left k).size⟩
/-- The operations on names that a failure keeps. -/
def failPend : List DOp → List Int → Tab → Tab
  | [], _, t => t
  | o :: r, ks, t => failPend r ks.tail (if ks.headD 0 % 2 = 1 then o.act t else t)
/-- What is left of the files that are named. -/
def failFiles : Tab → List Int → List Fil → List Fil
  | [], _, fs => fs
  | p :: r, ks, fs => failFiles r ks.tail (fs.set p.2 (fs[p.2]!.cut (ks.headD 0)))
def DM.fail (m : DM) (ks : List Int) : DM :=
  { off := true, room := m.room, files := failFiles (failPend m.pend ks m.safe) (ks.drop m.pend.length) m.files, now := failPend m.pend ks m.safe, safe := failPend m.pend ks m.safe, pend := [], armed := 0, keep := [] }
def sizeOfTab (fs : List Fil) : Tab → Nat
  | [] => 0
  | p :: r => fs[p.2]!.data.size + sizeOfTab fs r
def DM.used (m : DM) : Nat := if m.off then 0 else sizeOfTab m.files m.now
def rightB (n : ByteArray) : Bool := decide (1 ≤ n.size) && decide (n.size ≤ 200)
/-- What an operation is. -/
inductive DCall where
  | create (n : ByteArray)
  | write (n s : ByteArray)
  | sync (n : ByteArray)
  | rename (o n : ByteArray)
  | remove (n : ByteArray)
  | flush
def DM.get (m : DM) (n : ByteArray) : Option Nat := tget m.now n.data.toList
def DM.refused (m : DM) : DCall → Int
  | .create n => if rightB n then if (m.get n).isSome then 11 else 0 else 8
  | .write n s => if (m.get n).isSome then if m.used + s.size > m.room then 28 else 0 else 10
  | .sync n => if (m.get n).isSome then 0 else 10
  | .rename o n => if (m.get o).isSome then if rightB n then 0 else 8 else 10
  | .remove n => if (m.get n).isSome then 0 else 10
  | .flush => 0
def DM.names (m : DM) (o : DOp) : DM := { m with now := o.act m.now, pend := m.pend ++ [o] }
def DM.act (m : DM) : DCall → DM
  | .create n => ({ m with files := m.files ++ [⟨⟨#[]⟩, 0⟩] } : DM).names (.create n m.files.length)
  | .write n s => match m.get n with
    | some i => { m with files := m.files.set i ⟨m.files[i]!.data ++ s, m.files[i]!.safe⟩ }
    | none => m
  | .sync n => match m.get n with
    | some i => { m with files := m.files.set i ⟨m.files[i]!.data, m.files[i]!.data.size⟩ }
    | none => m
  | .rename o n => m.names (.rename o n)
  | .remove n => m.names (.remove n)
  | .flush => { m with safe := m.now, pend := [] }
def DCall.late : DCall → Bool
  | .sync _ | .flush => true
  | _ => false
def DM.tick (m : DM) : DM := { m with armed := if 1 ≤ m.armed then m.armed - 1 else 0 }
/-- An operation: the disk behind it, and the error's number (0: none). -/
def DM.op (m : DM) (c : DCall) : DM × Int :=
  if m.off then (m, 27)
  else if m.refused c ≠ 0 then (m, m.refused c)
  else if m.armed = 1 then ((if c.late then m.tick else m.tick.act c).fail m.keep, 27)
  else (m.tick.act c, 0)
def DM.new (room : Int) : DM := ⟨false, (min (max room 0) 268435456).toNat, [], [], [], [], 0, []⟩
/-- What holds of a disk on which at most n operations were done. -/
structure DM.Ok (m : DM) (n : Nat) : Prop where
  now : Rising m.now
  safe : Rising m.safe
  nowI : ∀ p ∈ m.now, p.2 < m.files.length
  safeI : ∀ p ∈ m.safe, p.2 < m.files.length
  pendI : ∀ k i, DOp.create k i ∈ m.pend → i < m.files.length
  file : ∀ f ∈ m.files, f.safe ≤ f.data.size ∧ f.data.size ≤ m.room
  nowN : m.now.length ≤ n
  safeN : m.safe.length + m.pend.length ≤ n
  room : m.room ≤ 268435456
  arm0 : 0 ≤ m.armed
  arm1 : m.armed ≤ 9223372036854775807
  keepI : ∀ k ∈ m.keep, -9223372036854775808 ≤ k ∧ k ≤ 9223372036854775807
theorem tdel_len (l : Tab) (k : Bs) : (tdel l k).length ≤ l.length := List.length_filter_le _ _
theorem tins_len (x : Bs × Nat) : ∀ l : Tab, (tins x l).length = l.length + 1
  | [] => rfl
  | y :: r => by
    unfold tins
    split
    · rfl
    · rw [List.length_cons, tins_len x r, List.length_cons]
theorem tput_len (l : Tab) (k : Bs) (b : Nat) : (tput l k b).length ≤ l.length + 1 := by
  unfold tput
  rw [tins_len]
  have := tdel_len l k
  omega
theorem act_len (o : DOp) (t : Tab) : (o.act t).length ≤ t.length + 1 := by
  cases o with
  | create n i => exact tput_len _ _ _
  | rename o n =>
    simp only [DOp.act]
    split
    · have := tput_len (tdel t o.data.toList) n.data.toList ‹Nat›
      have := tdel_len t o.data.toList
      omega
    · omega
  | remove n => have := tdel_len t n.data.toList; simp only [DOp.act]; omega
theorem act_rising (o : DOp) {t : Tab} (h : Rising t) : Rising (o.act t) := by
  cases o with
  | create n i => exact tput_rising h
  | rename o n =>
    simp only [DOp.act]
    split
    · exact tput_rising (tdel_rising h)
    · exact h
  | remove n => exact tdel_rising h
theorem act_ids (o : DOp) {t : Tab} {N : Nat} (h : ∀ p ∈ t, p.2 < N) (ho : ∀ k i, o = .create k i → i < N) : ∀ p ∈ o.act t, p.2 < N := by
  intro p hp
  cases o with
  | create n i =>
    rcases tput_mem.1 hp with rfl | ⟨hp, _⟩
    · exact ho n i rfl
    · exact h p hp
  | rename o n =>
    simp only [DOp.act] at hp
    split at hp
    · rename_i i hi
      rcases tput_mem.1 hp with e | ⟨hp, _⟩
      · rw [e]; have h2 := h _ (tget_mem hi); exact h2
      · exact h p (tdel_mem.1 hp).1
    · exact h p hp
  | remove n => exact h p (tdel_mem.1 hp).1
theorem failPend_all {Q : Tab → Prop} (ps : List DOp) (h : ∀ o ∈ ps, ∀ t, Q t → Q (o.act t)) : ∀ (ks : List Int) (t : Tab), Q t → Q (failPend ps ks t) := by
  induction ps with
  | nil => exact fun _ _ h => h
  | cons o r ih =>
    intro ks t ht
    rw [failPend]
    refine ih (fun o ho => h o (List.mem_cons_of_mem _ ho)) _ _ ?_
    split
    · exact h o List.mem_cons_self t ht
    · exact ht
theorem failPend_len : ∀ (ps : List DOp) (ks : List Int) (t : Tab), (failPend ps ks t).length ≤ t.length + ps.length
  | [], _, t => Nat.le_refl _
  | o :: r, ks, t => by
    rw [failPend]
    have := failPend_len r ks.tail (if ks.headD 0 % 2 = 1 then o.act t else t)
    have h2 : (if ks.headD 0 % 2 = 1 then o.act t else t).length ≤ t.length + 1 := by
      split
      · exact act_len o t
      · omega
    rw [List.length_cons]
    omega
theorem failFiles_length : ∀ (t : Tab) (ks : List Int) (fs : List Fil), (failFiles t ks fs).length = fs.length
  | [], _, _ => rfl
  | p :: r, ks, fs => by rw [failFiles, failFiles_length, List.length_set]
theorem extract_sz (s : ByteArray) (n : Nat) (h : n ≤ s.size) : (s.extract 0 n).size = n := by
  rw [ByteArray.size_extract]
  omega
theorem zerosB_size (n : Nat) : (zerosB n).size = n := by
  show (Array.replicate n (0 : UInt8)).size = n
  rw [Array.size_replicate]
theorem left_size (f : Fil) (k : Int) (h : f.safe ≤ f.data.size) : f.safe ≤ (f.left k).size ∧ (f.left k).size ≤ f.data.size := by
  unfold Fil.left
  split
  · rw [extract_sz _ _ h]; omega
  split
  · omega
  split
  · rw [extract_sz _ _ (by omega)]; omega
  · rw [ByteArray.size_append, extract_sz _ _ h, zerosB_size]; omega
theorem cut_ok (f : Fil) (k : Int) {R : Nat} (h : f.safe ≤ f.data.size ∧ f.data.size ≤ R) : (f.cut k).safe ≤ (f.cut k).data.size ∧ (f.cut k).data.size ≤ R :=
  ⟨Nat.le_refl _, Nat.le_trans (left_size f k h.1).2 h.2⟩
theorem get!_mem {fs : List Fil} {i : Nat} (h : i < fs.length) : fs[i]! ∈ fs := by
  rw [getElem!_pos fs i h]
  exact List.getElem_mem h
theorem failFiles_ok {R : Nat} : ∀ (t : Tab) (ks : List Int) (fs : List Fil), (∀ p ∈ t, p.2 < fs.length) → (∀ f ∈ fs, f.safe ≤ f.data.size ∧ f.data.size ≤ R) → ∀ f ∈ failFiles t ks fs, f.safe ≤ f.data.size ∧ f.data.size ≤ R
  | [], _, _, _, h => h
  | p :: r, ks, fs, hp, h => by
    rw [failFiles]
    refine failFiles_ok r _ _ (fun q hq => by rw [List.length_set]; exact hp q (List.mem_cons_of_mem _ hq)) (fun f hf => ?_)
    rcases List.mem_or_eq_of_mem_set hf with hf | rfl
    · exact h f hf
    · exact cut_ok _ _ (h _ (get!_mem (hp p List.mem_cons_self)))
theorem DM.Ok.mono {m : DM} {n n' : Nat} (h : m.Ok n) (hn : n ≤ n') : m.Ok n' :=
  { h with nowN := Nat.le_trans h.nowN hn, safeN := Nat.le_trans h.safeN hn }
theorem DM.Ok.fail {m : DM} {n : Nat} (h : m.Ok n) (ks : List Int) : (m.fail ks).Ok n := by
  have h1 : Rising (failPend m.pend ks m.safe) := failPend_all (Q := Rising) m.pend (fun o _ t ht => act_rising o ht) ks _ h.safe
  have h2 : ∀ p ∈ failPend m.pend ks m.safe, p.2 < m.files.length := failPend_all (Q := fun t => ∀ p ∈ t, p.2 < m.files.length) m.pend (fun o ho t ht => act_ids o ht (fun k i e => h.pendI k i (e ▸ ho))) ks _ h.safeI
  have h3 := failPend_len m.pend ks m.safe
  have h4 := h.safeN
  refine ⟨h1, h1, ?_, ?_, (fun k i hk => by cases hk), ?_, ?_, ?_, h.room, Int.le_refl _, (show (0 : Int) ≤ 9223372036854775807 by omega), (fun k hk => by cases hk)⟩
  · unfold DM.fail; rw [failFiles_length]; exact h2
  · unfold DM.fail; rw [failFiles_length]; exact h2
  · exact failFiles_ok _ _ _ h2 h.file
  · show (failPend m.pend ks m.safe).length ≤ n; omega
  · show (failPend m.pend ks m.safe).length + 0 ≤ n; omega
theorem DM.Ok.names {m : DM} {n : Nat} (h : m.Ok n) (o : DOp) (ho : ∀ k i, o = .create k i → i < m.files.length) : (m.names o).Ok (n + 1) := by
  have h1 := act_len o m.now
  have h2 := h.nowN
  have h3 := h.safeN
  exact { h with
    now := act_rising o h.now
    nowI := act_ids o h.nowI ho
    pendI := fun k i hk => by
      rcases List.mem_append.1 hk with hk | hk
      · exact h.pendI k i hk
      · exact ho k i (List.mem_singleton.1 hk).symm
    nowN := by show (o.act m.now).length ≤ _; omega
    safeN := by show m.safe.length + (m.pend ++ [o]).length ≤ _; rw [List.length_append]; simp only [List.length_cons, List.length_nil]; omega }
theorem DM.Ok.tick {m : DM} {n : Nat} (h : m.Ok n) : m.tick.Ok n := by
  have h1 := h.arm0
  have h2 := h.arm1
  exact { h with
    arm0 := by show 0 ≤ if 1 ≤ m.armed then m.armed - 1 else 0; split <;> omega
    arm1 := by show (if 1 ≤ m.armed then m.armed - 1 else 0) ≤ _; split <;> omega }
theorem tget_lt {t : Tab} {N : Nat} (h : ∀ p ∈ t, p.2 < N) {k : Bs} {i : Nat} (hg : tget t k = some i) : i < N := h _ (tget_mem hg)
theorem DM.Ok.act {m : DM} {n : Nat} (h : m.Ok n) (c : DCall) (hr : m.refused c = 0) (ho : m.off = false) : (m.act c).Ok (n + 1) := by
  have hn := h.nowN
  have hs := h.safeN
  cases c with
  | create k =>
    unfold DM.act
    refine DM.Ok.names (m := { m with files := m.files ++ [⟨⟨#[]⟩, 0⟩] }) { h with nowI := ?_, safeI := ?_, pendI := ?_, file := ?_ } _ ?_
    · intro p hp; show _ < (m.files ++ [_]).length; rw [List.length_append]; exact Nat.lt_of_lt_of_le (h.nowI p hp) (Nat.le_add_right _ _)
    · intro p hp; show _ < (m.files ++ [_]).length; rw [List.length_append]; exact Nat.lt_of_lt_of_le (h.safeI p hp) (Nat.le_add_right _ _)
    · intro k i hk; show _ < (m.files ++ [_]).length; rw [List.length_append]; exact Nat.lt_of_lt_of_le (h.pendI k i hk) (Nat.le_add_right _ _)
    · intro f hf
      rcases List.mem_append.1 hf with hf | hf
      · exact h.file f hf
      · rw [List.mem_singleton.1 hf]
        exact ⟨Nat.le_refl _, Nat.zero_le _⟩
    · rintro k i e
      cases e
      show _ < (m.files ++ [_]).length
      rw [List.length_append, List.length_singleton]
      omega
  | write k s =>
    simp only [DM.act]
    split
    · rename_i i hi
      have hil := tget_lt h.nowI hi
      refine DM.Ok.mono (n := n) { h with nowI := ?_, safeI := ?_, pendI := ?_, file := ?_ } (by omega)
      · intro p hp; show _ < (m.files.set _ _).length; rw [List.length_set]; exact h.nowI p hp
      · intro p hp; show _ < (m.files.set _ _).length; rw [List.length_set]; exact h.safeI p hp
      · intro k i hk; show _ < (m.files.set _ _).length; rw [List.length_set]; exact h.pendI k i hk
      · intro f hf
        rcases List.mem_or_eq_of_mem_set hf with hf | rfl
        · exact h.file f hf
        · have h1 := h.file _ (get!_mem hil)
          have h2 : m.files[i]!.data.size ≤ m.used := by
            unfold DM.used
            rw [ho]
            have : ∀ t : Tab, (∃ q ∈ t, q.2 = i) → m.files[i]!.data.size ≤ sizeOfTab m.files t := by
              intro t
              induction t with
              | nil => rintro ⟨q, hq, _⟩; cases hq
              | cons x r ih =>
                rintro ⟨q, hq, rfl⟩
                rw [sizeOfTab]
                rcases List.mem_cons.1 hq with rfl | hq
                · omega
                · have := ih ⟨q, hq, rfl⟩; omega
            exact this _ ⟨_, tget_mem hi, rfl⟩
          have h3 : m.used + s.size ≤ m.room := by
            simp only [DM.refused] at hr
            have e : (m.get k).isSome = true := by rw [hi]; rfl
            rw [if_pos e] at hr
            split at hr
            · cases hr
            · omega
          constructor
          · show m.files[i]!.safe ≤ (m.files[i]!.data ++ s).size
            rw [ByteArray.size_append]; omega
          · show (m.files[i]!.data ++ s).size ≤ m.room
            rw [ByteArray.size_append]; omega
    · exact h.mono (by omega)
  | sync k =>
    simp only [DM.act]
    split
    · rename_i i hi
      have hil := tget_lt h.nowI hi
      refine DM.Ok.mono (n := n) { h with nowI := ?_, safeI := ?_, pendI := ?_, file := ?_ } (by omega)
      · intro p hp; show _ < (m.files.set _ _).length; rw [List.length_set]; exact h.nowI p hp
      · intro p hp; show _ < (m.files.set _ _).length; rw [List.length_set]; exact h.safeI p hp
      · intro k i hk; show _ < (m.files.set _ _).length; rw [List.length_set]; exact h.pendI k i hk
      · intro f hf
        rcases List.mem_or_eq_of_mem_set hf with hf | rfl
        · exact h.file f hf
        · exact ⟨Nat.le_refl _, (h.file _ (get!_mem hil)).2⟩
    · exact h.mono (by omega)
  | rename o k => exact h.names _ (fun k i e => by cases e)
  | remove k => exact h.names _ (fun k i e => by cases e)
  | flush =>
    exact { h with safe := h.now, safeI := h.nowI, pendI := fun k i hk => (by cases hk), nowN := by show m.now.length ≤ _; omega, safeN := by show m.now.length + 0 ≤ _; omega }
theorem tick_refused (m : DM) (c : DCall) : m.tick.refused c = m.refused c := by cases c <;> rfl
theorem DM.Ok.op {m : DM} {n : Nat} (h : m.Ok n) (c : DCall) : (m.op c).1.Ok (n + 1) := by
  unfold DM.op
  split
  · exact h.mono (by omega)
  rename_i ho
  have ho' : m.off = false := by cases hm : m.off <;> simp_all
  split
  · exact h.mono (by omega)
  rename_i hr
  have hr' : m.tick.refused c = 0 := by rw [tick_refused]; exact Decidable.not_not.1 hr
  split
  · refine DM.Ok.fail ?_ _
    split
    · exact h.tick.mono (by omega)
    · exact h.tick.act c hr' ho'
  · exact h.tick.act c hr' ho'
end Go.Proofs.YtdkedmngeahjiaaGreatDoor
/- Plain laws on disks: what is safe stays; a failure behind a failure changes nothing. -/
namespace Go.Proofs.YtdkedmngeahjiaaGreatDoor
/-- The power is on, and nothing is armed. -/
def DM.Calm (m : DM) : Prop := m.off = false ∧ m.armed = 0
theorem DM.Calm.names {m : DM} (h : m.Calm) (o : DOp) : (m.names o).Calm := h
theorem DM.Calm.tick {m : DM} (h : m.Calm) : m.tick = m := by
  unfold DM.tick
  rw [if_neg (by rw [h.2]; decide)]
  obtain ⟨off, room, files, now, safe, pend, armed, keep⟩ := m
  obtain ⟨_, rfl⟩ := h
  rfl
theorem DM.Calm.act {m : DM} (h : m.Calm) (c : DCall) : (m.act c).Calm := by
  cases c with
  | create k => exact h
  | write k s => simp only [DM.act]; split <;> exact h
  | sync k => simp only [DM.act]; split <;> exact h
  | rename o k => exact h
  | remove k => exact h
  | flush => exact h
theorem DM.Calm.op_eq {m : DM} (h : m.Calm) (c : DCall) : m.op c = if m.refused c ≠ 0 then (m, m.refused c) else (m.act c, 0) := by
  unfold DM.op
  rw [if_neg (by rw [h.1]; decide), h.tick]
  by_cases hr : m.refused c ≠ 0
  · rw [if_pos hr, if_pos hr]
  · rw [if_neg hr, if_neg (by rw [h.2]; decide), if_neg hr]
theorem DM.Calm.op {m : DM} (h : m.Calm) (c : DCall) : (m.op c).1.Calm := by
  rw [h.op_eq]
  split
  · exact h
  · exact h.act c
def DM.revive (m : DM) : DM := { m with off := false }
def DM.crash (m : DM) (ks : List Int) : DM := if m.off then m else m.fail ks
theorem crash_calm {m : DM} (h : m.off = false) (ks : List Int) : (m.crash ks).revive.Calm := by
  unfold DM.crash
  rw [h]
  exact ⟨rfl, rfl⟩
/-- All of a file is safe. -/
def Fil.whole (f : Fil) : Prop := f.safe = f.data.size
theorem extract_all (s : ByteArray) : s.extract 0 s.size = s := by
  ext1
  show (s.extract 0 s.size).data = s.data
  rw [ByteArray.data_extract]
  show s.data.extract 0 s.data.size = _
  simp
theorem Fil.whole.cut {f : Fil} (h : f.whole) (k : Int) : f.cut k = f := by
  have h2 : f.left k = f.data := by
    unfold Fil.left
    rw [h]
    split
    · exact extract_all _
    split
    · rfl
    split
    · rw [Nat.sub_self]; exact extract_all _
    · rw [Nat.sub_self, extract_all]
      show f.data ++ (⟨#[]⟩ : ByteArray) = f.data
      exact ByteArray.append_empty
  unfold Fil.cut
  rw [h2, ← h]
theorem failFiles_whole : ∀ (t : Tab) (ks : List Int) (fs : List Fil), (∀ p ∈ t, p.2 < fs.length ∧ fs[p.2]!.whole) → failFiles t ks fs = fs
  | [], _, _, _ => rfl
  | p :: r, ks, fs, h => by
    have h1 := h p List.mem_cons_self
    have e : fs.set p.2 (fs[p.2]!.cut (ks.headD 0)) = fs := by
      rw [h1.2.cut, getElem!_pos fs p.2 h1.1]
      exact List.set_getElem_self _
    rw [failFiles, e]
    exact failFiles_whole r _ _ (fun q hq => h q (List.mem_cons_of_mem _ hq))
/-- Nothing is in hand, and what is there is safe. -/
structure DM.Still (m : DM) : Prop where
  calm : m.Calm
  pend : m.pend = []
  safe : m.safe = m.now
  whole : ∀ p ∈ m.now, m.files[p.2]!.whole
/-- A failure leaves it as it is. -/
theorem DM.Still.fail {m : DM} {n : Nat} (h : m.Still) (ho : m.Ok n) (hk : m.keep = []) (ks : List Int) : (m.crash ks).revive = m := by
  have e1 : failPend m.pend ks m.safe = m.now := by rw [h.pend, h.safe]; rfl
  have e2 : failFiles m.now (ks.drop m.pend.length) m.files = m.files := failFiles_whole _ _ _ (fun p hp => ⟨ho.nowI p hp, h.whole p hp⟩)
  unfold DM.crash
  rw [h.calm.1]
  show (m.fail ks).revive = m
  unfold DM.fail DM.revive
  rw [e1]
  simp only [e2]
  obtain ⟨off, room, files, now, safe, pend, armed, keep⟩ := m
  obtain ⟨⟨h1, h2⟩, h3, h4, h5⟩ := h
  simp only at h1 h2 h3 h4 hk
  subst h1 h2 h3 h4 hk
  rfl
theorem fail_set_len {fs : List Fil} {i j : Nat} {f : Fil} (h : j < fs.length) : (fs.set i f)[j]! = if i = j then f else fs[j]! := by
  rw [getElem!_pos _ j (by rw [List.length_set]; exact h), getElem!_pos fs j h, List.getElem_set]
theorem cut_whole (f : Fil) (k : Int) : (f.cut k).whole := rfl
theorem failFiles_get {Q : Fil → Prop} (hc : ∀ f k, Q f → Q (f.cut k)) {j : Nat} : ∀ (t : Tab) (ks : List Int) (fs : List Fil), j < fs.length → Q fs[j]! → Q (failFiles t ks fs)[j]!
  | [], _, _, _, h => h
  | p :: r, ks, fs, hj, h => by
    rw [failFiles]
    refine failFiles_get hc r _ _ (by rw [List.length_set]; exact hj) ?_
    rw [fail_set_len hj]
    split
    · rename_i e; rw [e]; exact hc _ _ h
    · exact h
theorem failFiles_named {j : Nat} : ∀ (t : Tab) (ks : List Int) (fs : List Fil), j < fs.length → (∃ p ∈ t, p.2 = j) → (failFiles t ks fs)[j]!.whole
  | [], _, _, _, h => by obtain ⟨p, hp, _⟩ := h; cases hp
  | p :: r, ks, fs, hj, h => by
    rw [failFiles]
    by_cases e : p.2 = j
    · refine failFiles_get (Q := Fil.whole) (fun f k _ => cut_whole f k) r _ _ (by rw [List.length_set]; exact hj) ?_
      rw [fail_set_len hj, if_pos e]
      exact cut_whole _ _
    · refine failFiles_named r _ _ (by rw [List.length_set]; exact hj) ?_
      obtain ⟨q, hq, hqe⟩ := h
      rcases List.mem_cons.1 hq with rfl | hq
      · exact absurd hqe e
      · exact ⟨q, hq, hqe⟩
theorem fail_still {m : DM} {n : Nat} (ho : m.Ok n) (h : m.off = false) (ks : List Int) : (m.crash ks).revive.Still := by
  have hi : ∀ p ∈ failPend m.pend ks m.safe, p.2 < m.files.length := failPend_all (Q := fun t => ∀ p ∈ t, p.2 < m.files.length) m.pend (fun o h2 t ht => act_ids o ht (fun k i e => ho.pendI k i (e ▸ h2))) ks _ ho.safeI
  refine ⟨crash_calm h ks, ?_, ?_, ?_⟩
  · unfold DM.crash; rw [h]; rfl
  · unfold DM.crash; rw [h]; rfl
  · unfold DM.crash
    rw [h]
    intro p hp
    exact failFiles_named _ _ _ (hi p hp) ⟨p, hp, rfl⟩
theorem fail_keep {m : DM} (h : m.off = false) (ks : List Int) : (m.crash ks).revive.keep = [] := by
  unfold DM.crash; rw [h]; rfl
/-! ### what is safe stays -/
/-- The file holds these bytes at its beginning, and they are safe. -/
def Fil.Has (d : ByteArray) (f : Fil) : Prop := d.size ≤ f.safe ∧ f.safe ≤ f.data.size ∧ f.data.extract 0 d.size = d
theorem extract_extract0 (s : ByteArray) (a b : Nat) (h : a ≤ b) : (s.extract 0 b).extract 0 a = s.extract 0 a := by
  ext1
  simp only [ByteArray.data_extract, Array.extract_extract, Nat.zero_add, Nat.add_zero]
  rw [Nat.min_eq_left h]
theorem extract_append0 (s t : ByteArray) (a : Nat) (h : a ≤ s.size) : (s ++ t).extract 0 a = s.extract 0 a := by
  ext1
  simp only [ByteArray.data_extract, ByteArray.data_append]
  rw [Array.extract_append]
  have : (a - s.data.size : Nat) = 0 := by have : s.size = s.data.size := rfl; omega
  rw [this]
  simp
theorem Fil.Has.cut {d : ByteArray} {f : Fil} (h : f.Has d) (k : Int) : (f.cut k).Has d := by
  have h1 := left_size f k h.2.1
  refine ⟨Nat.le_trans h.1 h1.1, Nat.le_refl _, ?_⟩
  show (f.left k).extract 0 d.size = d
  have h2 := h.1
  have h3 := h.2.1
  unfold Fil.left
  split
  · rw [extract_extract0 _ _ _ h.1]; exact h.2.2
  split
  · exact h.2.2
  split
  · rw [extract_extract0 _ _ _ (by omega)]; exact h.2.2
  · rw [extract_append0 _ _ _ (by rw [extract_sz _ _ h3]; exact h2), extract_extract0 _ _ _ h.1]; exact h.2.2
/-- Nothing that is in hand touches the name. -/
def DOp.leaves (o : DOp) (n : Bs) : Prop := ∀ t : Tab, Rising t → tget (o.act t) n = tget t n
structure DM.Keeps (m : DM) (n : Bs) (i : Nat) (d : ByteArray) : Prop where
  now : tget m.now n = some i
  safe : tget m.safe n = some i
  pend : ∀ o ∈ m.pend, o.leaves n
  file : m.files[i]!.Has d
/-- Which names an operation touches. -/
def DCall.touch : DCall → List Bs
  | .create k => [k.data.toList]
  | .rename o k => [o.data.toList, k.data.toList]
  | .remove k => [k.data.toList]
  | _ => []
theorem leaves_create {k : ByteArray} {i : Nat} {n : Bs} (h : n ≠ k.data.toList) : (DOp.create k i).leaves n := fun t ht => by
  show tget (tput t k.data.toList i) n = _
  rw [tget_put ht, if_neg h]
theorem leaves_remove {k : ByteArray} {n : Bs} (h : n ≠ k.data.toList) : (DOp.remove k).leaves n := fun t ht => by
  show tget (tdel t k.data.toList) n = _
  rw [tget_del ht, if_neg h]
theorem leaves_rename {o k : ByteArray} {n : Bs} (h : n ≠ o.data.toList) (h2 : n ≠ k.data.toList) : (DOp.rename o k).leaves n := fun t ht => by
  simp only [DOp.act]
  split
  · rw [tget_put (tdel_rising ht), if_neg h2, tget_del ht, if_neg h]
  · rfl
theorem DM.Keeps.names {m : DM} {n : Bs} {i : Nat} {d : ByteArray} (h : m.Keeps n i d) (hr : Rising m.now) {o : DOp} (ho : o.leaves n) : (m.names o).Keeps n i d :=
  ⟨(ho _ hr).trans h.now, h.safe, fun q hq => by
    rcases List.mem_append.1 hq with hq | hq
    · exact h.pend q hq
    · rw [List.mem_singleton.1 hq]; exact ho, h.file⟩
theorem Fil.Has.app {d : ByteArray} {f : Fil} (h : f.Has d) (s : ByteArray) : (⟨f.data ++ s, f.safe⟩ : Fil).Has d :=
  ⟨h.1, by show f.safe ≤ (f.data ++ s).size; rw [ByteArray.size_append]; have := h.2.1; omega, by show (f.data ++ s).extract 0 d.size = d; rw [extract_append0 _ _ _ (Nat.le_trans h.1 h.2.1)]; exact h.2.2⟩
theorem Fil.Has.sync {d : ByteArray} {f : Fil} (h : f.Has d) : (⟨f.data, f.data.size⟩ : Fil).Has d := ⟨Nat.le_trans h.1 h.2.1, Nat.le_refl _, h.2.2⟩
theorem DM.Keeps.act {m : DM} {N : Nat} {n : Bs} {i : Nat} {d : ByteArray} (h : m.Keeps n i d) (ho : m.Ok N) (c : DCall) (ht : n ∉ c.touch) : (m.act c).Keeps n i d := by
  have hi := tget_lt ho.nowI h.now
  cases c with
  | create k =>
    have h2 : n ≠ k.data.toList := fun e => ht (by rw [e]; exact List.mem_cons_self)
    refine DM.Keeps.names (m := { m with files := m.files ++ [⟨⟨#[]⟩, 0⟩] }) ⟨h.now, h.safe, h.pend, ?_⟩ ho.now (leaves_create h2)
    show (m.files ++ [_])[i]!.Has d
    rw [getElem!_pos _ i (by rw [List.length_append]; omega), List.getElem_append_left hi, ← getElem!_pos m.files i hi]
    exact h.file
  | write k s =>
    simp only [DM.act]
    split
    · refine ⟨h.now, h.safe, h.pend, ?_⟩
      show (m.files.set _ _)[i]!.Has d
      rw [fail_set_len hi]
      split
      · rename_i e; rw [e]; exact h.file.app s
      · exact h.file
    · exact h
  | sync k =>
    simp only [DM.act]
    split
    · refine ⟨h.now, h.safe, h.pend, ?_⟩
      show (m.files.set _ _)[i]!.Has d
      rw [fail_set_len hi]
      split
      · rename_i e; rw [e]; exact h.file.sync
      · exact h.file
    · exact h
  | rename o k =>
    have h2 : n ≠ o.data.toList := fun e => ht (by rw [e]; exact List.mem_cons_self)
    have h3 : n ≠ k.data.toList := fun e => ht (by rw [e]; exact List.mem_cons_of_mem _ List.mem_cons_self)
    exact h.names ho.now (leaves_rename h2 h3)
  | remove k =>
    have h2 : n ≠ k.data.toList := fun e => ht (by rw [e]; exact List.mem_cons_self)
    exact h.names ho.now (leaves_remove h2)
  | flush => exact ⟨h.now, h.now, (fun q hq => by cases hq), h.file⟩
theorem failPend_get {n : Bs} : ∀ (ps : List DOp) (ks : List Int) (t : Tab), (∀ o ∈ ps, o.leaves n) → Rising t → tget (failPend ps ks t) n = tget t n
  | [], _, _, _, _ => rfl
  | o :: r, ks, t, h, hr => by
    rw [failPend]
    split
    · rw [failPend_get r _ _ (fun q hq => h q (List.mem_cons_of_mem _ hq)) (act_rising o hr)]
      exact h o List.mem_cons_self t hr
    · exact failPend_get r _ _ (fun q hq => h q (List.mem_cons_of_mem _ hq)) hr
/-- Whatever is kept: the name leads to a file with these bytes at its beginning. -/
theorem DM.Keeps.fail {m : DM} {N : Nat} {n : Bs} {i : Nat} {d : ByteArray} (h : m.Keeps n i d) (ho : m.Ok N) (ks : List Int) : tget (m.fail ks).now n = some i ∧ (m.fail ks).files[i]!.Has d :=
  ⟨(failPend_get _ _ _ h.pend ho.safe).trans h.safe, failFiles_get (Q := Fil.Has d) (fun f k hf => hf.cut k) _ _ _ (tget_lt ho.nowI h.now) h.file⟩
/-! ### no name comes from nowhere -/
def inNames (N : List Bs) (t : Tab) : Prop := ∀ p ∈ t, p.1 ∈ N
def DOp.within (N : List Bs) : DOp → Prop
  | .create n _ => n.data.toList ∈ N
  | .rename _ n => n.data.toList ∈ N
  | .remove _ => True
theorem within_act {N : List Bs} {o : DOp} (h : o.within N) {t : Tab} (ht : inNames N t) : inNames N (o.act t) := by
  intro p hp
  cases o with
  | create n i =>
    rcases tput_mem.1 hp with rfl | ⟨hp, _⟩
    · exact h
    · exact ht p hp
  | rename o n =>
    simp only [DOp.act] at hp
    split at hp
    · rcases tput_mem.1 hp with rfl | ⟨hp, _⟩
      · exact h
      · exact ht p (tdel_mem.1 hp).1
    · exact ht p hp
  | remove n => exact ht p (tdel_mem.1 hp).1
structure DM.Named (m : DM) (N : List Bs) : Prop where
  now : inNames N m.now
  safe : inNames N m.safe
  pend : ∀ o ∈ m.pend, o.within N
theorem DOp.within.mono {N M : List Bs} (hs : ∀ x ∈ N, x ∈ M) {o : DOp} (h : o.within N) : o.within M := by
  cases o with
  | create n i => exact hs _ h
  | rename o n => exact hs _ h
  | remove n => trivial
theorem DM.Named.fail {m : DM} {N : List Bs} (h : m.Named N) (ks : List Int) : inNames N (m.fail ks).now :=
  failPend_all (Q := inNames N) m.pend (fun o ho t ht => within_act (h.pend o ho) ht) ks _ h.safe
/-- Behind an operation that was done, with the names that are there then. -/
theorem DM.Named.act {m : DM} {N : List Bs} (h : m.Named N) (c : DCall) (hr : m.refused c = 0) : (m.act c).Named (N ++ (m.act c).now.map (·.1)) := by
  have hsub : ∀ x ∈ N, x ∈ N ++ (m.act c).now.map (·.1) := fun x hx => List.mem_append.2 (.inl hx)
  have hall : inNames (N ++ (m.act c).now.map (·.1)) (m.act c).now := fun p hp => List.mem_append.2 (.inr (List.mem_map.2 ⟨p, hp, rfl⟩))
  have hsf : inNames (N ++ (m.act c).now.map (·.1)) m.safe := fun p hp => hsub _ (h.safe p hp)
  have hpd : ∀ o ∈ m.pend, o.within (N ++ (m.act c).now.map (·.1)) := fun o ho => (h.pend o ho).mono hsub
  have hin : ∀ (k : ByteArray) (t : Tab), (∃ i, (k.data.toList, i) ∈ t) → k.data.toList ∈ N ++ t.map (·.1) := fun k t hk => by
    obtain ⟨i, hi⟩ := hk
    exact List.mem_append.2 (.inr (List.mem_map.2 ⟨_, hi, rfl⟩))
  cases c with
  | create k =>
    refine ⟨hall, hsf, fun o ho => ?_⟩
    rcases List.mem_append.1 ho with ho | ho
    · exact hpd o ho
    · rw [List.mem_singleton.1 ho]
      exact hin k _ ⟨_, tput_mem.2 (.inl rfl)⟩
  | write k s =>
    have e1 : (m.act (.write k s)).now = m.now := by simp only [DM.act]; split <;> rfl
    have e2 : (m.act (.write k s)).safe = m.safe := by simp only [DM.act]; split <;> rfl
    have e3 : (m.act (.write k s)).pend = m.pend := by simp only [DM.act]; split <;> rfl
    exact ⟨hall, by rw [e2]; exact hsf, by rw [e3]; exact hpd⟩
  | sync k =>
    have e1 : (m.act (.sync k)).now = m.now := by simp only [DM.act]; split <;> rfl
    have e2 : (m.act (.sync k)).safe = m.safe := by simp only [DM.act]; split <;> rfl
    have e3 : (m.act (.sync k)).pend = m.pend := by simp only [DM.act]; split <;> rfl
    exact ⟨hall, by rw [e2]; exact hsf, by rw [e3]; exact hpd⟩
  | rename o k =>
    refine ⟨hall, hsf, fun q hq => ?_⟩
    rcases List.mem_append.1 hq with hq | hq
    · exact hpd q hq
    · rw [List.mem_singleton.1 hq]
      have h2 : (m.get o).isSome = true := by
        simp only [DM.refused] at hr
        by_cases h3 : (m.get o).isSome = true
        · exact h3
        · rw [if_neg h3] at hr; cases hr
      obtain ⟨i, hi⟩ := Option.isSome_iff_exists.1 h2
      have hi' : tget m.now o.data.toList = some i := hi
      refine hin k _ ⟨i, ?_⟩
      show _ ∈ DOp.act (.rename o k) m.now
      simp only [DOp.act, hi']
      exact tput_mem.2 (.inl rfl)
  | remove k =>
    refine ⟨hall, hsf, fun q hq => ?_⟩
    rcases List.mem_append.1 hq with hq | hq
    · exact hpd q hq
    · rw [List.mem_singleton.1 hq]; trivial
  | flush => exact ⟨hall, hall, fun q hq => by cases hq⟩
end Go.Proofs.YtdkedmngeahjiaaGreatDoor
