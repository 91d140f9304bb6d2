/- A disk in memory. -/
import Derived.Test.YtdkedmngeahjiaaGreatDoorM7
import Derived.Test.YtdkedmngeahjiaaGreatDoorTabAt
import Derived.Test.YtdkedmngeahjiaaGreatDoorWorld
import Derived.Test.YtdkedmngeahjiaaGreatDoorProg
import Derived.StringKeys
namespace Go.Proofs.YtdkedmngeahjiaaGreatDoor
open Go Go.RowKit Go.Maps
/-- A table of numbers of files as one of blocks. -/
def locT (loc : Nat → Nat) (t : Tab) : Tab := t.map fun p => (p.1, loc p.2)
theorem locT_get (loc : Nat → Nat) (t : Tab) (k : Bs) : tget (locT loc t) k = (tget t k).map loc := by
  unfold tget locT
  rw [List.find?_map, Option.map_map, Option.map_map]
  rfl
theorem locT_del (loc : Nat → Nat) (t : Tab) (k : Bs) : tdel (locT loc t) k = locT loc (tdel t k) := by
  unfold tdel locT
  rw [List.filter_map]
  rfl
theorem tins_cons (x y : Bs × Nat) (r : Tab) : tins x (y :: r) = if bytesBefore x.1 y.1 then x :: y :: r else y :: tins x r := rfl
theorem locT_cons (loc : Nat → Nat) (y : Bs × Nat) (r : Tab) : locT loc (y :: r) = (y.1, loc y.2) :: locT loc r := rfl
theorem locT_ins (loc : Nat → Nat) (k : Bs) (i : Nat) : ∀ t : Tab, tins (k, loc i) (locT loc t) = locT loc (tins (k, i) t)
  | [] => rfl
  | y :: r => by
    rw [locT_cons, tins_cons, tins_cons]
    show (if bytesBefore k y.1 then _ else _) = locT loc (if bytesBefore k y.1 then _ else _)
    split
    · rfl
    · rw [locT_ins loc k i r]
      rfl
theorem locT_put (loc : Nat → Nat) (t : Tab) (k : Bs) (i : Nat) : tput (locT loc t) k (loc i) = locT loc (tput t k i) := by
  unfold tput
  rw [locT_del, locT_ins]
theorem locT_len (loc : Nat → Nat) (t : Tab) : (locT loc t).length = t.length := List.length_map _
theorem locT_congr {loc loc' : Nat → Nat} {t : Tab} (h : ∀ p ∈ t, loc p.2 = loc' p.2) : locT loc t = locT loc' t := List.map_congr_left fun p hp => by rw [h p hp]
theorem locT_rising {loc : Nat → Nat} {t : Tab} : Rising (locT loc t) ↔ Rising t := by
  unfold Rising locT
  rw [List.pairwise_map]
theorem key_string : Keyed Tryz.prog 9 := string_keyed Tryz.underlying9
theorem keyB {s : ByteArray} (h : s.size ≤ maxLen) : keyOf Tryz.prog 9 (.string s) = some (.string s.data.toList) := WideMaps.keyOf_string_mk Tryz.underlying9 h
theorem zeroP (w : World) : (zeroValue 93).run Tryz.prog w = .ok (.pointer none) w := by kernel_rfl
abbrev TabM (w : World) (b : Nat) (l : Tab) : Prop := TabAt Tryz.prog 9 w b l
def ptr (b : Nat) : Value := .pointer (some ⟨b, 0, none⟩)
/-- A function value that does an operation on names. -/
def OpAt (S : Nat → Prop) (w : World) (loc : Nat → Nat) (v : Value) : DOp → Prop
  | .create n i => ∃ bf bn, v = .func (.func 101) #[] #[.pointer (some ⟨bf, 0, none⟩), .pointer (some ⟨bn, 0, none⟩)] ∧ S bf ∧ S bn ∧
      w.heap[bf]? = some (.cells #[.pointer (some ⟨loc i, 0, none⟩)] 93 (0, 0)) ∧ w.heap[bn]? = some (.cells #[.string n] 9 (0, 0)) ∧ n.size ≤ maxLen
  | .rename o n => ∃ bo bn, v = .func (.func 111) #[] #[.pointer (some ⟨bo, 0, none⟩), .pointer (some ⟨bn, 0, none⟩)] ∧ S bo ∧ S bn ∧
      w.heap[bo]? = some (.cells #[.string o] 9 (0, 0)) ∧ w.heap[bn]? = some (.cells #[.string n] 9 (0, 0)) ∧ o.size ≤ maxLen ∧ n.size ≤ maxLen
  | .remove n => ∃ bn, v = .func (.func 94) #[] #[.pointer (some ⟨bn, 0, none⟩)] ∧ S bn ∧
      w.heap[bn]? = some (.cells #[.string n] 9 (0, 0)) ∧ n.size ≤ maxLen
def OpsAt (S : Nat → Prop) (w : World) (loc : Nat → Nat) : List Value → List DOp → Prop
  | [], [] => True
  | v :: vs, o :: os => OpAt S w loc v o ∧ OpsAt S w loc vs os
  | _, _ => False
/-- The block of a slice is in S. -/
def InS (S : Nat → Prop) (v : Value) : Prop := ∀ b, v.ownBlock = some b → S b
def PendAt (S : Nat → Prop) (w : World) (loc : Nat → Nat) (pv : Value) (os : List DOp) : Prop :=
  ∃ vs : List Value, w.ownsRow 0 152 1 pv os.length vs ∧ OpsAt S w loc vs os ∧ InS S pv
def IntsOwn (S : Nat → Prop) (w : World) (fv : Value) (ks : List Int) : Prop := w.ownsRow 0 3 1 fv ks.length (ks.map (Value.int .i64)) ∧ InS S fv
def diskV (m : DM) (bn bs : Nat) (pv fv : Value) : Array Value := #[.bool m.off, .int .i64 m.room, .map (some bn), .map (some bs), pv, .int .i64 m.armed, fv]
structure DiskIn (w : World) (a n : Nat) (m : DM) (S : Nat → Prop) (bn bs : Nat) (pv fv : Value) (loc : Nat → Nat) : Prop where
  head : w.heap[a]? = some (.cells (diskV m bn bs pv fv) 88 (0, 0))
  sa : S a
  sn : S bn
  ss : S bs
  ne : bn ≠ bs
  now : TabM w bn (locT loc m.now)
  safe : TabM w bs (locT loc m.safe)
  file : ∀ i f, m.files[i]? = some f → S (loc i) ∧ w.heap[loc i]? = some (.cells #[.string f.data, .int .i64 f.safe] 95 (0, 0))
  inj : ∀ i j, i < m.files.length → j < m.files.length → loc i = loc j → i = j
  pend : PendAt S w loc pv m.pend
  fate : IntsOwn S w fv m.keep
  ok : m.Ok n
  lt : ∀ b, S b → b < w.heap.size
/-- Block a is a disk that is m, on which at most n operations were done; all that it has is in S. -/
def DiskAt (w : World) (a n : Nat) (m : DM) (S : Nat → Prop) : Prop := ∃ bn bs pv fv loc, DiskIn w a n m S bn bs pv fv loc
/-! ### what stays -/
theorem OpAt.keep {S S' : Nat → Prop} {w w' : World} {loc loc' : Nat → Nat} {v : Value} {o : DOp} (h : OpAt S w loc v o) (hb : ∀ b t cs, S b → w.heap[b]? = some (.cells cs t (0, 0)) → (t = 9 ∨ t = 93) → w'.heap[b]? = w.heap[b]?) (hs : ∀ b, S b → S' b)
    (hl : ∀ k i, o = .create k i → loc' i = loc i) : OpAt S' w' loc' v o := by
  cases o with
  | create n i =>
    obtain ⟨bf, bn, hv, h1, h2, h3, h4, h5⟩ := h
    exact ⟨bf, bn, hv, hs _ h1, hs _ h2, by rw [hl n i rfl]; exact (hb _ _ _ h1 h3 (.inr rfl)).trans h3, (hb _ _ _ h2 h4 (.inl rfl)).trans h4, h5⟩
  | rename o n =>
    obtain ⟨bf, bn, hv, h1, h2, h3, h4, h5⟩ := h
    exact ⟨bf, bn, hv, hs _ h1, hs _ h2, (hb _ _ _ h1 h3 (.inl rfl)).trans h3, (hb _ _ _ h2 h4 (.inl rfl)).trans h4, h5⟩
  | remove n =>
    obtain ⟨bn, hv, h2, h4, h5⟩ := h
    exact ⟨bn, hv, hs _ h2, (hb _ _ _ h2 h4 (.inl rfl)).trans h4, h5⟩
theorem OpsAt.keep {S S' : Nat → Prop} {w w' : World} {loc loc' : Nat → Nat} (hb : ∀ b t cs, S b → w.heap[b]? = some (.cells cs t (0, 0)) → (t = 9 ∨ t = 93) → w'.heap[b]? = w.heap[b]?) (hs : ∀ b, S b → S' b) :
    ∀ {vs : List Value} {os : List DOp}, OpsAt S w loc vs os → (∀ k i, DOp.create k i ∈ os → loc' i = loc i) → OpsAt S' w' loc' vs os
  | [], [], _, _ => trivial
  | _ :: _, _ :: _, h, hl => ⟨h.1.keep hb hs (fun k i e => hl k i (e ▸ List.mem_cons_self)), OpsAt.keep hb hs h.2 (fun k i e => hl k i (List.mem_cons_of_mem _ e))⟩
  | [], _ :: _, h, _ => h.elim
  | _ :: _, [], h, _ => h.elim
theorem OpsAt.snoc {S : Nat → Prop} {w : World} {loc : Nat → Nat} {v : Value} {o : DOp} (h : OpAt S w loc v o) : ∀ {vs : List Value} {os : List DOp}, OpsAt S w loc vs os → OpsAt S w loc (vs ++ [v]) (os ++ [o])
  | [], [], _ => ⟨h, trivial⟩
  | _ :: _, _ :: _, hh => ⟨hh.1, OpsAt.snoc h hh.2⟩
  | [], _ :: _, hh => hh.elim
  | _ :: _, [], hh => hh.elim
theorem OpsAt.len {S : Nat → Prop} {w : World} {loc : Nat → Nat} : ∀ {vs : List Value} {os : List DOp}, OpsAt S w loc vs os → vs.length = os.length
  | [], [], _ => rfl
  | _ :: _, _ :: _, h => by rw [List.length_cons, List.length_cons, OpsAt.len h.2]
  | [], _ :: _, h => h.elim
  | _ :: _, [], h => h.elim
theorem row_keep {S : Nat → Prop} {w w' : World} {base n : Nat} {t : TypeId} {v : Value} {xs : List Value} (h : w.ownsRow base t 1 v n xs) (hS : InS S v) (hb : ∀ b cs, S b → w.heap[b]? = some (.cells cs t (0, 0)) → w'.heap[b]? = w.heap[b]?) : w'.ownsRow base t 1 v n xs := by
  refine ⟨h.1, ?_⟩
  rcases h.2 with h2 | ⟨g, cap, cur, rfl, h3, h4, h5⟩
  · exact .inl h2
  · exact .inr ⟨g, cap, cur, rfl, h3, (hb g cur (hS g rfl) h4).trans h4, h5⟩
/-- All of the disk's blocks are as they were. -/
theorem DiskIn.frame {w w' : World} {a n : Nat} {m : DM} {S : Nat → Prop} {bn bs : Nat} {pv fv : Value} {loc : Nat → Nat} (h : DiskIn w a n m S bn bs pv fv loc) (hb : ∀ b, S b → w'.heap[b]? = w.heap[b]?) (hz : w.heap.size ≤ w'.heap.size) : DiskIn w' a n m S bn bs pv fv loc :=
  { h with
    head := (hb _ h.sa).trans h.head
    now := h.now.keep (hb _ h.sn)
    safe := h.safe.keep (hb _ h.ss)
    file := fun i f hf => ⟨(h.file i f hf).1, (hb _ (h.file i f hf).1).trans (h.file i f hf).2⟩
    pend := by
      obtain ⟨vs, h1, h2, h3⟩ := h.pend
      exact ⟨vs, row_keep h1 h3 (fun b _ hS _ => hb b hS), h2.keep (fun b _ _ hS _ _ => hb b hS) (fun _ x => x) (fun _ _ _ => rfl), h3⟩
    fate := ⟨row_keep h.fate.1 h.fate.2 (fun b _ hS _ => hb b hS), h.fate.2⟩
    lt := fun b hS => Nat.lt_of_lt_of_le (h.lt b hS) hz }
theorem DiskAt.frame {w w' : World} {a n : Nat} {m : DM} {S : Nat → Prop} (h : DiskAt w a n m S) (hb : ∀ b, S b → w'.heap[b]? = w.heap[b]?) (hz : w.heap.size ≤ w'.heap.size) : DiskAt w' a n m S := by
  obtain ⟨bn, bs, pv, fv, loc, h⟩ := h
  exact ⟨bn, bs, pv, fv, loc, h.frame hb hz⟩
theorem DiskAt.lt {w : World} {a n : Nat} {m : DM} {S : Nat → Prop} (h : DiskAt w a n m S) : ∀ b, S b → b < w.heap.size := by
  obtain ⟨bn, bs, pv, fv, loc, h⟩ := h
  exact h.lt
theorem DiskAt.ok {w : World} {a n : Nat} {m : DM} {S : Nat → Prop} (h : DiskAt w a n m S) : m.Ok n := by
  obtain ⟨bn, bs, pv, fv, loc, h⟩ := h
  exact h.ok
theorem DiskAt.mine {w : World} {a n : Nat} {m : DM} {S : Nat → Prop} (h : DiskAt w a n m S) : S a := by
  obtain ⟨bn, bs, pv, fv, loc, h⟩ := h
  exact h.sa
/-- Nothing that lay before turned. -/
theorem DiskAt.below {w w' : World} {a n : Nat} {m : DM} {S : Nat → Prop} (h : DiskAt w a n m S) (hb : Below w.heap.size w w') : DiskAt w' a n m S :=
  h.frame (fun b hS => hb.block b (h.lt b hS)) hb.size
/-- Another disk's operation. -/
theorem DiskAt.off {w w' : World} {a n : Nat} {m : DM} {S T : Nat → Prop} (h : DiskAt w a n m S) (hb : Off T w w') (hd : ∀ b, S b → ¬ T b) : DiskAt w' a n m S :=
  h.frame (fun b hS => hb.block b (h.lt b hS) (hd b hS)) hb.size
theorem DiskIn.bigger {w : World} {a n : Nat} {m : DM} {S S' : Nat → Prop} {bn bs : Nat} {pv fv : Value} {loc : Nat → Nat} (h : DiskIn w a n m S bn bs pv fv loc) (hs : ∀ b, S b → S' b) (hl : ∀ b, S' b → b < w.heap.size) : DiskIn w a n m S' bn bs pv fv loc :=
  { h with
    sa := hs _ h.sa
    sn := hs _ h.sn
    ss := hs _ h.ss
    file := fun i f hf => ⟨hs _ (h.file i f hf).1, (h.file i f hf).2⟩
    pend := by
      obtain ⟨vs, h1, h2, h3⟩ := h.pend
      exact ⟨vs, h1, h2.keep (fun _ _ _ _ _ _ => rfl) hs (fun _ _ _ => rfl), fun b hb => hs b (h3 b hb)⟩
    fate := ⟨h.fate.1, fun b hb => hs b (h.fate.2 b hb)⟩
    lt := hl }
theorem setCell_blk {w : World} {b i : Nat} {c : Array Value} {t : TypeId} {v : Value} (h : w.heap[b]? = some (.cells c t (0, 0))) : w.setCell ⟨b, i, none⟩ v = setBlk w b (.cells (c.setIfInBounds i v) t (0, 0)) := by
  refine heap_ext (fun k => ?_) rfl rfl rfl rfl
  rw [setBlk_at]
  simp only [World.setCell, Array.getElem?_modify]
  by_cases e : b = k
  · subst e
    rw [if_pos rfl, if_pos rfl, if_pos (blk_lt h), h]
    simp
  · rw [if_neg e, if_neg e]
theorem setBlk_setCell {w : World} {b i : Nat} {c : Array Value} {t : TypeId} {v : Value} (hb : b < w.heap.size) : (setBlk w b (.cells c t (0, 0))).setCell ⟨b, i, none⟩ v = setBlk w b (.cells (c.setIfInBounds i v) t (0, 0)) := by
  rw [setCell_blk (setBlk_heap hb), setBlk_setBlk]
theorem frozen_blk {w : World} {b i : Nat} {c : Array Value} {t : TypeId} (h : w.heap[b]? = some (.cells c t (0, 0))) : w.frozen? ⟨b, i, none⟩ = false := by
  simp [World.frozen?, h]
theorem ne_blk {w : World} {a b : Nat} {o o' : Obj} (h : w.heap[a]? = some o) (h' : w.heap[b]? = some o') (hne : o ≠ o') : b ≠ a := by
  rintro rfl
  rw [h] at h'
  exact hne (Option.some.inj h')
theorem cells_ne {c c' : Array Value} {t t' : TypeId} {f f' : Nat × Nat} (h : t ≠ t') : Obj.cells c t f ≠ Obj.cells c' t' f' := fun e => by cases e; exact h rfl
theorem TabAt.ne {P : Program} {k : TypeId} {w : World} {b a : Nat} {l : Tab} (h : TabAt P k w b l) {c : Array Value} {t : TypeId} {f : Nat × Nat} (ha : w.heap[a]? = some (.cells c t f)) : b ≠ a := by
  obtain ⟨es, clock, h1, _⟩ := h
  exact ne_blk ha h1 (fun e => by cases e)
theorem PendAt.keep {S S' : Nat → Prop} {w w' : World} {loc loc' : Nat → Nat} {pv : Value} {os : List DOp} (h : PendAt S w loc pv os)
    (hb : ∀ b t cs, S b → w.heap[b]? = some (.cells cs t (0, 0)) → (t = 9 ∨ t = 93 ∨ t = 152) → w'.heap[b]? = w.heap[b]?) (hs : ∀ b, S b → S' b) (hl : ∀ k i, DOp.create k i ∈ os → loc' i = loc i) : PendAt S' w' loc' pv os := by
  obtain ⟨vs, h1, h2, h3⟩ := h
  refine ⟨vs, row_keep h1 h3 (fun b cs hS hc => hb b _ cs hS hc (.inr (.inr rfl))), h2.keep (fun b t cs hS hc ht => hb b t cs hS hc (ht.elim .inl (fun e => .inr (.inl e)))) hs hl, fun b hb => hs b (h3 b hb)⟩
theorem IntsOwn.keep {S S' : Nat → Prop} {w w' : World} {fv : Value} {ks : List Int} (h : IntsOwn S w fv ks) (hb : ∀ b cs, S b → w.heap[b]? = some (.cells cs 3 (0, 0)) → w'.heap[b]? = w.heap[b]?) (hs : ∀ b, S b → S' b) : IntsOwn S' w' fv ks :=
  ⟨row_keep h.1 h.2 hb, fun b hb => hs b (h.2 b hb)⟩
/-- Another head; tables and files as they were. -/
theorem DiskIn.other {w w' : World} {a n n' : Nat} {m m' : DM} {S : Nat → Prop} {bn bs : Nat} {pv fv pv' fv' : Value} {loc : Nat → Nat} (h : DiskIn w a n m S bn bs pv fv loc) (hb : ∀ b, b ≠ a → S b → w'.heap[b]? = w.heap[b]?)
    (ha : w'.heap[a]? = some (.cells (diskV m' bn bs pv' fv') 88 (0, 0))) (hz : w.heap.size ≤ w'.heap.size) (e1 : m'.now = m.now) (e2 : m'.safe = m.safe) (e3 : m'.files = m.files) (hp : PendAt S w' loc pv' m'.pend) (hf : IntsOwn S w' fv' m'.keep) (ho : m'.Ok n') :
    DiskIn w' a n' m' S bn bs pv' fv' loc where
  head := ha
  sa := h.sa
  sn := h.sn
  ss := h.ss
  ne := h.ne
  now := by rw [e1]; exact h.now.keep (hb _ (h.now.ne h.head) h.sn)
  safe := by rw [e2]; exact h.safe.keep (hb _ (h.safe.ne h.head) h.ss)
  file := fun i f hi => by
    rw [e3] at hi
    have h1 := h.file i f hi
    exact ⟨h1.1, (hb _ (ne_blk h.head h1.2 (cells_ne (by decide))) h1.1).trans h1.2⟩
  inj := by rw [e3]; exact h.inj
  pend := hp
  fate := hf
  ok := ho
  lt := fun b hS => Nat.lt_of_lt_of_le (h.lt b hS) hz
theorem DiskIn.pendO {w w' : World} {a n : Nat} {m : DM} {S : Nat → Prop} {bn bs : Nat} {pv fv : Value} {loc : Nat → Nat} (h : DiskIn w a n m S bn bs pv fv loc) (hb : ∀ b, b ≠ a → S b → w'.heap[b]? = w.heap[b]?) : PendAt S w' loc pv m.pend :=
  h.pend.keep (fun b t cs hS hc ht => hb b (ne_blk h.head hc (cells_ne (by rcases ht with rfl | rfl | rfl <;> decide))) hS) (fun _ x => x) (fun _ _ _ => rfl)
theorem DiskIn.fateO {w w' : World} {a n : Nat} {m : DM} {S : Nat → Prop} {bn bs : Nat} {pv fv : Value} {loc : Nat → Nat} (h : DiskIn w a n m S bn bs pv fv loc) (hb : ∀ b, b ≠ a → S b → w'.heap[b]? = w.heap[b]?) : IntsOwn S w' fv m.keep :=
  h.fate.keep (fun b cs hS hc => hb b (ne_blk h.head hc (cells_ne (by decide))) hS) (fun _ x => x)
theorem ops_nil (S : Nat → Prop) (w : World) (loc : Nat → Nat) : PendAt S w loc (.slice none 0 0) [] := ⟨[], ⟨rfl, .inl ⟨rfl, rfl⟩⟩, trivial, fun b hb => by cases hb⟩
theorem ints_nil (S : Nat → Prop) (w : World) : IntsOwn S w (.slice none 0 0) [] := ⟨⟨rfl, .inl ⟨rfl, rfl⟩⟩, fun b hb => by cases hb⟩
theorem Off.setBlk {S : Nat → Prop} {a b : World} (h : Off S a b) {k : Nat} {o : Obj} (hk : k < a.heap.size → S k) : Off S a (Go.Proofs.YtdkedmngeahjiaaGreatDoor.setBlk b k o) :=
  ⟨h.os, h.tape, h.output, by rw [setBlk_size]; exact h.size, fun i hi hn => (setBlk_other (fun e => hn (by rw [e] at hi ⊢; exact hk hi))).trans (h.block i hi hn)⟩
theorem grow_sub {S : Nat → Prop} {w w' : World} : ∀ b, S b → grow S w w' b := fun _ h => .inl h
/-- How an operation ends. -/
def DiskPost (a n : Nat) (m : DM) (S : Nat → Prop) (w w' : World) : Prop := DiskAt w' a n m (grow S w w') ∧ Off S w w'
theorem diskV_cell {w : World} {a n : Nat} {m : DM} {S : Nat → Prop} {bn bs : Nat} {pv fv : Value} {loc : Nat → Nat} (h : DiskIn w a n m S bn bs pv fv loc) (i : Nat) : w.cell? ⟨a, i, none⟩ = (diskV m bn bs pv fv)[i]? := cell_of_heapN h.head
end Go.Proofs.YtdkedmngeahjiaaGreatDoor
