/- A disk of the call's own, beside blocks that it leaves alone. -/
import Derived.Test.YtlcompihcmhbiaaGreatDoorDWorks
import Derived.Test.YtlcompihcmhbiaaGreatDoorOpenS
namespace Go.Proofs.YtlcompihcmhbiaaGreatDoor
open Go Go.RowKit Go.Maps Go.Shelf
/-- Block a is a disk that is m; what it has lies above all that was there when the call began, and none of it is in P. -/
def Held (w w' : World) (P : Nat → Prop) (a n : Nat) (m : DM) : Prop := ∃ S : Nat → Prop, DiskAt w' a n m S ∧ (∀ b, S b → w.heap.size ≤ b ∧ ¬ P b) ∧ Below w.heap.size w w' ∧ (∀ b, P b → b < w'.heap.size)
/-- P's blocks are as they were. -/
def Same (P : Nat → Prop) (w w' : World) : Prop := ∀ b, P b → w'.heap[b]? = w.heap[b]?
/-- Texts that lie in P. -/
def TextsIn (P : Nat → Prop) (w : World) (v : Value) (l : List ByteArray) : Prop :=
  ∃ p cap, v = .slice p l.length cap ∧ ∀ (i : Nat) (s : ByteArray), l[i]? = some s → ∃ b off, p = some ⟨b, off, none⟩ ∧ P b ∧ w.cell? ⟨b, off + i, none⟩ = some (.string s)
theorem TextsIn.keep {P : Nat → Prop} {w w' : World} {v : Value} {l : List ByteArray} (h : TextsIn P w v l) (hs : Same P w w') : TextsIn P w' v l := by
  obtain ⟨p, cap, rfl, h1⟩ := h
  refine ⟨p, cap, rfl, fun i s hi => ?_⟩
  obtain ⟨b, off, e, hb, hc⟩ := h1 i s hi
  exact ⟨b, off, e, hb, (cell_of_heap (hs b hb)).trans hc⟩
theorem TextsIn.mono {P Q : Nat → Prop} {w : World} {v : Value} {l : List ByteArray} (h : TextsIn P w v l) (hs : ∀ b, P b → Q b) : TextsIn Q w v l := by
  obtain ⟨p, cap, rfl, h1⟩ := h
  refine ⟨p, cap, rfl, fun i s hi => ?_⟩
  obtain ⟨b, off, e, hb, hc⟩ := h1 i s hi
  exact ⟨b, off, e, hs b hb, hc⟩
theorem TextsIn.rd {P : Nat → Prop} {w : World} {v : Value} {l : List ByteArray} (h : TextsIn P w v l) : TextsRd w v l := by
  obtain ⟨p, cap, rfl, h1⟩ := h
  refine ⟨p, cap, rfl, fun i s hi => ?_⟩
  obtain ⟨b, off, e, hb, hc⟩ := h1 i s hi
  refine ⟨b, off, e, ?_, hc⟩
  unfold World.cell? at hc
  split at hc
  · rename_i hh
    exact blk_lt hh
  · cases hc
theorem TextsIn.at {P : Nat → Prop} {w : World} {p : Option Addr} {K c : Nat} {l : List ByteArray} (h : TextsIn P w (.slice p K c) l) {i : Nat} {s : ByteArray} (hi : l[i]? = some s) : ∃ b off, p = some ⟨b, off, none⟩ ∧ P b ∧ w.cell? ⟨b, off + i, none⟩ = some (.string s) := by
  obtain ⟨p', c', e, h1⟩ := h
  cases e
  exact h1 i s hi
theorem OwnTexts.within {B : Nat} {w : World} {v : Value} {l : List ByteArray} (h : OwnTexts B w v l) : TextsIn (fun b => B ≤ b ∧ b < w.heap.size) w v l := by
  have h2 := h.blk
  obtain ⟨p, cap, rfl, h1⟩ := row_at h
  refine ⟨p, cap, rfl, fun i s hs => ?_⟩
  obtain ⟨g, cs, e, hg, hc⟩ := h1 i (strV s) (by rw [List.getElem?_map, hs]; rfl)
  subst e
  exact ⟨g, 0, rfl, ⟨(h2 g rfl).1, (h2 g rfl).2.1⟩, by rw [Nat.zero_add, cell_of_heapN hg]; exact hc⟩
section
variable {w w1 w' : World} {P : Nat → Prop} {a n n' : Nat} {m m' : DM}
theorem Mine.held (h : Mine w w1 a n m) : Held w w1 (fun _ => False) a n m := ⟨_, h.1, fun _ hb => ⟨hb.1, fun hf => hf⟩, h.2, fun _ hb => hb.elim⟩
theorem Held.ok (h : Held w w1 P a n m) : m.Ok n := by obtain ⟨S, h1, -⟩ := h; exact h1.ok
theorem Held.bel (h : Held w w1 P a n m) : Below w.heap.size w w1 := by obtain ⟨S, h1, h2, h3, -⟩ := h; exact h3
theorem Held.lt (h : Held w w1 P a n m) : ∀ b, P b → b < w1.heap.size := by obtain ⟨S, h1, h2, h3, h4⟩ := h; exact h4
theorem Held.more (h : Held w w1 P a n m) (hn : n ≤ n') : Held w w1 P a n' m := by
  obtain ⟨S, h1, h2⟩ := h
  exact ⟨S, h1.more hn, h2⟩
theorem Held.fit (h : Held w w1 P a n m) (k : Nat) (h1 : m.now.length ≤ k) (h2 : m.safe.length + m.pend.length ≤ k) : Held w w1 P a k m := by
  obtain ⟨S, ⟨bn, bs, pv, fv, loc, hd⟩, hr⟩ := h
  exact ⟨S, ⟨bn, bs, pv, fv, loc, { hd with ok := { hd.ok with nowN := h1, safeN := h2 } }⟩, hr⟩
theorem Held.post {S : Nat → Prop} (h1 : ∀ b, S b → w.heap.size ≤ b ∧ ¬ P b) (h2 : Below w.heap.size w w1) (h3 : ∀ b, P b → b < w1.heap.size) (hp : DiskPost a n m S w1 w') : Held w w' P a n m ∧ Same P w1 w' := by
  have hz := h2.size
  have hz2 := hp.2.size
  refine ⟨⟨_, hp.1, ?_, h2.trans (hp.2.toBelow (fun b hb => (h1 b hb).1) hz), fun b hb => Nat.lt_of_lt_of_le (h3 b hb) hz2⟩, fun b hb => hp.2.block b (h3 b hb) (fun hS => (h1 b hS).2 hb)⟩
  rintro b (hb | ⟨hb, hb2⟩)
  · exact h1 b hb
  · exact ⟨by omega, fun hPb => absurd (h3 b hPb) (by omega)⟩
theorem Held.call {S : Nat → Prop} {c : DCall} {e : Ending} (h1 : ∀ b, S b → w.heap.size ≤ b ∧ ¬ P b) (h2 : Below w.heap.size w w1) (h3 : ∀ b, P b → b < w1.heap.size) (hp : OpPost a n m c S w1 w' e) : e = .returned (errE (m.op c).2) ∧ Held w w' P a (n + 1) (m.op c).1 ∧ Same P w1 w' := ⟨hp.1, Held.post h1 h2 h3 hp.2⟩
/-- Behind something that makes new blocks only: these may be left alone from now on. -/
theorem Held.below (h : Held w w1 P a n m) (hb : Below w1.heap.size w1 w') : Held w w' P a n m := by
  obtain ⟨S, h1, h2, h3, h4⟩ := h
  exact ⟨S, h1.below hb, h2, h3.trans (hb.mono h3.size), fun b hP => Nat.lt_of_lt_of_le (h4 b hP) hb.size⟩
theorem Held.same (h : Held w w1 P a n m) (hb : Below w1.heap.size w1 w') : Same P w1 w' := fun b hP => hb.block b (h.lt b hP)
theorem Held.keeps (h : Held w w1 P a n m) (hb : Below w1.heap.size w1 w') : Held w w' (fun b => P b ∨ (w1.heap.size ≤ b ∧ b < w'.heap.size)) a n m := by
  obtain ⟨S, h1, h2, h3, h4⟩ := h
  refine ⟨S, h1.below hb, fun b hS => ⟨(h2 b hS).1, ?_⟩, h3.trans (hb.mono h3.size), ?_⟩
  · rintro (hP | ⟨hP, -⟩)
    · exact (h2 b hS).2 hP
    · exact absurd (h1.lt b hS) (by omega)
  · rintro b (hP | ⟨-, hP⟩)
    · exact Nat.lt_of_lt_of_le (h4 b hP) hb.size
    · exact hP
/-- A cell of a block in P is set. -/
theorem Held.setP (h : Held w w1 P a n m) {p : Addr} (hp : P p.block) (hw : w.heap.size ≤ p.block) (v : Value) : Held w (w1.setCell p v) P a n m := by
  obtain ⟨S, h1, h2, h3, h4⟩ := h
  refine ⟨S, h1.frame (fun b hS => Below.heap_setCell _ _ _ _ (fun e => (h2 b hS).2 (e ▸ hp))) (by rw [World.size_setCell]; exact Nat.le_refl _), h2, h3.setCell hw v, fun b hP => by rw [World.size_setCell]; exact h4 b hP⟩
theorem Held.drews {q : Nat} (h : Held w w1 P a n m) : Held w (w1.drewN q) P a n m := by
  obtain ⟨S, h1, h2, h3, h4⟩ := h
  exact ⟨S, h1.frame (fun _ _ => rfl) (Nat.le_refl _), h2, ⟨h3.os, h3.tape, h3.output, h3.size, h3.block⟩, h4⟩
theorem Held.sub (h : Held w w1 P a n m) {Q : Nat → Prop} (hs : ∀ b, Q b → P b) : Held w w1 Q a n m := by
  obtain ⟨S, h1, h2, h3, h4⟩ := h
  exact ⟨S, h1, fun b hS => ⟨(h2 b hS).1, fun hQ => (h2 b hS).2 (hs b hQ)⟩, h3, fun b hQ => h4 b (hs b hQ)⟩
theorem Held.name_le (h : Held w w1 P a n m) {s : ByteArray} (hs : s ∈ m.namesOf) : s.size ≤ maxLen := by
  obtain ⟨S, ⟨bn, bs, pv, fv, loc, hd⟩, -⟩ := h
  obtain ⟨q, hq, rfl⟩ := List.mem_map.1 hs
  have h2 := strKeys_le hd.now Tryz.underlying9 q.1 (by
    rw [strKeys_tab]
    exact List.mem_map.2 ⟨(q.1, loc q.2), List.mem_map.2 ⟨_, hq, rfl⟩, rfl⟩)
  show q.1.toArray.size ≤ _
  rw [List.size_toArray]
  exact h2
theorem held_new (hb : Below w.heap.size w w1) (hP : ∀ b, P b → b < w1.heap.size) (r : Int) (h1 : -9223372036854775808 ≤ r) (h2 : r ≤ 9223372036854775807) :
    Calls Tryz.prog 8 #[.int .i64 r] w1 fun e w' => ∃ a, e = .returned (.pointer (some ⟨a, 0, none⟩)) ∧ Held w w' P a 0 (DM.new r) ∧ Same P w1 w' := by
  refine (new_any w1 r h1 h2).mono ?_
  rintro e w' ⟨a, rfl, hd, hb2⟩
  have hz := hb.size
  exact ⟨a, rfl, ⟨_, hd, fun b hS => ⟨by omega, fun hPb => absurd (hP b hPb) (by omega)⟩, hb.trans (hb2.mono hz), fun b hPb => Nat.lt_of_lt_of_le (hP b hPb) hb2.size⟩, fun b hPb => hb2.block b (hP b hPb)⟩
theorem held_change (h : Held w w1 P a n m) (s : StepM) (kv : Value) (hs : s.Fits) (hn : n + 1 ≤ 8000000000000) (hnr : n * m.room ≤ 4611686018427387904) :
    Calls Tryz.prog 10 #[.pointer (some ⟨a, 0, none⟩), .agg (s.cells kv)] w1 fun e w' => e = .returned (errE (m.op s.call).2) ∧ Held w w' P a (n + 1) (m.op s.call).1 ∧ Same P w1 w' := by
  obtain ⟨S, h1, h2, h3, h4⟩ := h
  exact (change_any h1 s kv (Nat.le_trans hs.2.2.2.1 (by omega)) (Nat.le_trans hs.2.2.2.2.1 (by omega)) hn hnr).mono fun e w' hp => Held.call h2 h3 h4 hp
theorem held_sync (h : Held w w1 P a n m) (s : ByteArray) (hs : s.size ≤ maxLen) (hn : n + 1 ≤ 8000000000000) :
    Calls Tryz.prog 12 #[.pointer (some ⟨a, 0, none⟩), .string s] w1 fun e w' => e = .returned (errE (m.op (.sync s)).2) ∧ Held w w' P a (n + 1) (m.op (.sync s)).1 ∧ Same P w1 w' := by
  obtain ⟨S, h1, h2, h3, h4⟩ := h
  exact (sync_any h1 s hs hn).mono fun e w' hp => Held.call h2 h3 h4 hp
theorem held_flush (h : Held w w1 P a n m) (hn : n + 1 ≤ 8000000000000) :
    Calls Tryz.prog 13 #[.pointer (some ⟨a, 0, none⟩)] w1 fun e w' => e = .returned (errE (m.op .flush).2) ∧ Held w w' P a (n + 1) (m.op .flush).1 ∧ Same P w1 w' := by
  obtain ⟨S, h1, h2, h3, h4⟩ := h
  exact (flush_any h1 hn).mono fun e w' hp => Held.call h2 h3 h4 hp
theorem held_crash (h : Held w w1 P a n m) (kv : Value) (ks : List Int) (hk : IntsRd (fun b => w.heap.size ≤ b) w kv ks) (hn : n ≤ 8000000000000) :
    Calls Tryz.prog 15 #[.pointer (some ⟨a, 0, none⟩), .agg #[kv]] w1 fun e w' => e = .returned (.tuple #[]) ∧ Held w w' P a n (m.crash ks) ∧ Same P w1 w' := by
  obtain ⟨S, h1, h2, h3, h4⟩ := h
  have hk1 : IntsRd S w1 kv ks := hk.keep h3.size (fun b hS _ => (h2 b hS).1) (fun b hb _ => h3.block b hb)
  exact (crash_any h1 kv ks hk1 hn).mono fun e w' hp => ⟨hp.1, Held.post h2 h3 h4 hp.2⟩
theorem held_revive (h : Held w w1 P a n m) :
    Calls Tryz.prog 16 #[.pointer (some ⟨a, 0, none⟩)] w1 fun e w' => e = .returned (.tuple #[]) ∧ Held w w' P a n m.revive ∧ Same P w1 w' := by
  obtain ⟨S, h1, h2, h3, h4⟩ := h
  exact (revive_any h1).mono fun e w' hp => ⟨hp.1, Held.post h2 h3 h4 hp.2⟩
theorem held_read (h : Held w w1 P a n m) (s : ByteArray) (hs : s.size ≤ maxLen) :
    Calls Tryz.prog 18 #[.pointer (some ⟨a, 0, none⟩), .string s] w1 fun e w' => e = .returned (.tuple #[.string (m.reads s).1, errE (m.reads s).2]) ∧ w1 = w' := by
  obtain ⟨S, h1, -⟩ := h
  exact read_any h1 s hs
theorem held_list (h : Held w w1 P a n m) (hn : n ≤ 8000000000000) (ho : m.off = false) :
    Calls Tryz.prog 11 #[.pointer (some ⟨a, 0, none⟩), .string ⟨#[]⟩] w1 fun e w' => ∃ u, e = .returned (.tuple #[u, .nilIface]) ∧ TextsIn (fun b => w1.heap.size ≤ b ∧ b < w'.heap.size) w' u m.namesOf ∧ Below w1.heap.size w1 w' := by
  obtain ⟨S, h1, -⟩ := h
  refine (list_any h1 ⟨#[]⟩ hn).mono fun e w' hp => ?_
  obtain ⟨u, rfl, hu, hb⟩ := hp
  rw [lists_all ho] at hu
  exact ⟨u, by rw [ho]; rfl, hu.within, hb⟩
theorem held_shown (h : Held w w1 P a n m) (hn : n ≤ 8000000000000) (ho : m.off = false) :
    Calls Tryz.prog 14 #[.pointer (some ⟨a, 0, none⟩)] w1 fun e w' => ∃ v u, e = .returned (.tuple #[.agg #[v, u], .bool true]) ∧ TextsIn (fun b => w1.heap.size ≤ b ∧ b < w'.heap.size) w' v m.namesOf ∧ TextsIn (fun b => w1.heap.size ≤ b ∧ b < w'.heap.size) w' u m.datas ∧ Below w1.heap.size w1 w' := by
  obtain ⟨S, h1, -⟩ := h
  refine (shown_any h1 hn ho).mono fun e w' hp => ?_
  obtain ⟨v, u, rfl, hv, hu, hb⟩ := hp
  exact ⟨v, u, rfl, hv.within, hu.within, hb⟩
theorem held_shownK (h : Held w w1 P a n m) (hn : n ≤ 8000000000000) (ho : m.off = false) {K : Nat} (hK : m.now.length = K) :
    Calls Tryz.prog 14 #[.pointer (some ⟨a, 0, none⟩)] w1 fun e w' => ∃ vp vc up uc, e = .returned (.tuple #[.agg #[.slice vp K vc, .slice up K uc], .bool true]) ∧ TextsIn (fun b => w1.heap.size ≤ b ∧ b < w'.heap.size) w' (.slice vp K vc) m.namesOf ∧ TextsIn (fun b => w1.heap.size ≤ b ∧ b < w'.heap.size) w' (.slice up K uc) m.datas ∧ Below w1.heap.size w1 w' := by
  have e1 : m.namesOf.length = K := by unfold DM.namesOf; rw [List.length_map]; exact hK
  have e2 : m.datas.length = K := by unfold DM.datas; rw [List.length_map]; exact hK
  refine (held_shown h hn ho).mono fun e w' hp => ?_
  obtain ⟨v, u, rfl, hv, hu, hb⟩ := hp
  obtain ⟨vp, vc, rfl, hv1⟩ := hv
  obtain ⟨up, uc, rfl, hu1⟩ := hu
  rw [e1, e2]
  exact ⟨vp, vc, up, uc, rfl, ⟨vp, vc, by rw [e1], hv1⟩, ⟨up, uc, by rw [e2], hu1⟩, hb⟩
/-- What was shown is laid into a box; the texts and the box are left alone from now on. -/
theorem held_was (h : Held w w1 P a n m) (hb : Below w1.heap.size w1 w') {v u : Value} {l r : List ByteArray} (hv : TextsIn (fun b => w1.heap.size ≤ b ∧ b < w'.heap.size) w' v l) (hu : TextsIn (fun b => w1.heap.size ≤ b ∧ b < w'.heap.size) w' u r) (o : Obj) :
    ∃ PT : Nat → Prop, Held w (w'.alloc o) PT a n m ∧ TextsIn PT (w'.alloc o) v l ∧ TextsIn PT (w'.alloc o) u r ∧ PT w'.heap.size ∧ (w'.alloc o).heap[w'.heap.size]? = some o ∧ Same P w1 (w'.alloc o) ∧ (∀ b, P b → PT b) ∧ w.heap.size ≤ w'.heap.size := by
  have hb7 : Below w1.heap.size w1 (w'.alloc o) := hb.alloc hb.size _
  have hz : (w'.alloc o).heap.size = w'.heap.size + 1 := World.size_alloc _ _
  have hsub : ∀ b, (w1.heap.size ≤ b ∧ b < w'.heap.size) → P b ∨ (w1.heap.size ≤ b ∧ b < (w'.alloc o).heap.size) := fun b hb => .inr ⟨hb.1, by omega⟩
  have hsm : Same (fun b => w1.heap.size ≤ b ∧ b < w'.heap.size) w' (w'.alloc o) := fun b hb => Below.heap_alloc w' _ b hb.2
  have := h.bel.size
  have := hb.size
  exact ⟨_, h.keeps hb7, (hv.keep hsm).mono hsub, (hu.keep hsm).mono hsub, .inr ⟨hb.size, by omega⟩, heap_new _ _, h.same hb7, fun b => .inl, by omega⟩
end
end Go.Proofs.YtlcompihcmhbiaaGreatDoor
