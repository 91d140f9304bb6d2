/- Texts of the seat, one behind the other: Pair, PairLaw, Alike, StepA, StepB, StepC, StepD, StepE, StepF, StepG, PlaysA, Plays. -/
import Derived.Test.YtlcompihcmhbiaaGreatDoorM33
import Derived.Test.YtlcompihcmhbiaaGreatDoorM36
import Derived.Test.YtlcompihcmhbiaaGreatDoorM32
import Derived.Test.YtlcompihcmhbiaaGreatDoorM17
import Derived.Test.YtlcompihcmhbiaaGreatDoorApartT
import Derived.Test.YtlcompihcmhbiaaGreatDoorM34
/- A disk of the program's beside one of the reference's; two such pairs. -/
namespace Go.Proofs.YtlcompihcmhbiaaGreatDoor
open Go Go.RowKit Go.Maps Go.Shelf
theorem RefAt.frameS {w w' : World} {r n : Nat} {m : DM} {S : Nat → Prop} (h : RefAt w r n m S) (hb : ∀ b, S b → w'.heap[b]? = w.heap[b]?) : RefAt w' r n m S := by
  obtain ⟨⟨fv, nv, sv, pv, kv, ro, hr⟩, k2, k3⟩ := h
  refine ⟨⟨fv, nv, sv, pv, kv, ro, { hr with
    head := (hb _ hr.sr).trans hr.head
    files := hr.files.keep (fun b _ hS _ => hb b hS)
    now := hr.now.keep (fun b _ hS _ => hb b hS)
    safe := hr.safe.keep (fun b _ hS _ => hb b hS)
    pend := hr.pend.keep (fun b _ hS _ => hb b hS)
    keep := hr.keep.keep (fun b cs hS _ => hb b hS) (fun _ h => h)
    lt := fun b hS => by
      have h1 := hb b hS
      rw [Array.getElem?_eq_getElem (hr.lt b hS)] at h1
      exact blk_lt h1 }⟩, k2, k3⟩
/-- Blocks a and r are disks, the program's and the reference's; P's blocks they leave alone. -/
def Pair (w w1 : World) (P : Nat → Prop) (a n : Nat) (m : DM) (r k : Nat) (mr : DM) : Prop :=
  ∃ SA SR : Nat → Prop, DiskAt w1 a n m SA ∧ RefAt w1 r k mr SR ∧ (∀ x, SA x → w.heap.size ≤ x ∧ ¬ P x ∧ ¬ SR x) ∧ (∀ x, SR x → w.heap.size ≤ x ∧ ¬ P x) ∧ Below w.heap.size w w1 ∧ ∀ b, P b → b < w1.heap.size
/-- A pair whose blocks are S. -/
def PairIn (w1 : World) (a n : Nat) (m : DM) (r k : Nat) (mr : DM) (S : Nat → Prop) : Prop :=
  ∃ SA SR : Nat → Prop, DiskAt w1 a n m SA ∧ RefAt w1 r k mr SR ∧ (∀ x, SA x → ¬ SR x) ∧ ∀ x, (SA x ∨ SR x) ↔ S x
section
variable {w w1 w' : World} {P Q : Nat → Prop} {a n r k : Nat} {m mr : DM}
theorem Pair.bel (h : Pair w w1 P a n m r k mr) : Below w.heap.size w w1 := by obtain ⟨SA, SR, h1, h2, h3, h4, h5, h6⟩ := h; exact h5
theorem Pair.lt (h : Pair w w1 P a n m r k mr) : ∀ b, P b → b < w1.heap.size := by obtain ⟨SA, SR, h1, h2, h3, h4, h5, h6⟩ := h; exact h6
theorem Pair.ok (h : Pair w w1 P a n m r k mr) : m.Ok n := by obtain ⟨SA, SR, h1, h2, h3, h4, h5, h6⟩ := h; exact h1.ok
theorem Pair.okR (h : Pair w w1 P a n m r k mr) : mr.Ok k := by obtain ⟨SA, SR, h1, h2, h3, h4, h5, h6⟩ := h; exact h2.ok
theorem Pair.below (h : Pair w w1 P a n m r k mr) (hb : Below w1.heap.size w1 w') : Pair w w' P a n m r k mr := by
  obtain ⟨SA, SR, h1, h2, h3, h4, h5, h6⟩ := h
  exact ⟨SA, SR, h1.below hb, h2.below hb, h3, h4, h5.trans (hb.mono h5.size), fun b hP => Nat.lt_of_lt_of_le (h6 b hP) hb.size⟩
theorem Pair.same (h : Pair w w1 P a n m r k mr) (hb : Below w1.heap.size w1 w') : Same P w1 w' := fun b hP => hb.block b (h.lt b hP)
theorem Pair.drews {q : Nat} (h : Pair w w1 P a n m r k mr) : Pair w (w1.drewN q) P a n m r k mr := h.below ⟨rfl, rfl, rfl, Nat.le_refl _, fun _ _ => rfl⟩
theorem Pair.keeps (h : Pair w w1 P a n m r k mr) (hb : Below w1.heap.size w1 w') : Pair w w' (fun b => P b ∨ (w1.heap.size ≤ b ∧ b < w'.heap.size)) a n m r k mr := by
  obtain ⟨SA, SR, h1, h2, h3, h4, h5, h6⟩ := h
  refine ⟨SA, SR, h1.below hb, h2.below hb, fun x hx => ⟨(h3 x hx).1, ?_, (h3 x hx).2.2⟩, fun x hx => ⟨(h4 x hx).1, ?_⟩, h5.trans (hb.mono h5.size), ?_⟩
  · rintro (hP | ⟨hP, -⟩)
    · exact (h3 x hx).2.1 hP
    · exact absurd (h1.lt x hx) (by omega)
  · rintro (hP | ⟨hP, -⟩)
    · exact (h4 x hx).2 hP
    · exact absurd (h2.lt x hx) (by omega)
  · rintro b (hP | ⟨-, hP⟩)
    · exact Nat.lt_of_lt_of_le (h6 b hP) hb.size
    · exact hP
theorem Pair.sub (h : Pair w w1 P a n m r k mr) (hs : ∀ b, Q b → P b) : Pair w w1 Q a n m r k mr := by
  obtain ⟨SA, SR, h1, h2, h3, h4, h5, h6⟩ := h
  exact ⟨SA, SR, h1, h2, fun x hx => ⟨(h3 x hx).1, fun hQ => (h3 x hx).2.1 (hs x hQ), (h3 x hx).2.2⟩, fun x hx => ⟨(h4 x hx).1, fun hQ => (h4 x hx).2 (hs x hQ)⟩, h5, fun b hQ => h6 b (hs b hQ)⟩
theorem Pair.more {n' k' : Nat} (h : Pair w w1 P a n m r k mr) (hn : n ≤ n') (hk : k ≤ k') : Pair w w1 P a n' m r k' mr := by
  obtain ⟨SA, SR, h1, h2, h3⟩ := h
  exact ⟨SA, SR, h1.more hn, h2.more hk, h3⟩
/-- A cell of a block in P is set. -/
theorem Pair.setP (h : Pair w w1 P a n m r k mr) {p : Addr} (hp : P p.block) (hw : w.heap.size ≤ p.block) (v : Value) : Pair w (w1.setCell p v) P a n m r k mr := by
  obtain ⟨SA, SR, h1, h2, h3, h4, h5, h6⟩ := h
  have hz : w1.heap.size ≤ (w1.setCell p v).heap.size := by rw [World.size_setCell]; exact Nat.le_refl _
  exact ⟨SA, SR, h1.frame (fun b hS => Below.heap_setCell _ _ _ _ (fun e => (h3 b hS).2.1 (e ▸ hp))) hz, h2.frame (fun b hS => Below.heap_setCell _ _ _ _ (fun e => (h4 b hS).2 (e ▸ hp))) hz, h3, h4, h5.setCell hw v, fun b hP => by rw [World.size_setCell]; exact h6 b hP⟩
/-- The program's, with the reference's among what is left alone. -/
theorem Pair.fst (h : Pair w w1 P a n m r k mr) : Held w w1 P a n m := by
  obtain ⟨SA, SR, h1, h2, h3, h4, h5, h6⟩ := h
  exact ⟨SA, h1, fun x hx => ⟨(h3 x hx).1, (h3 x hx).2.1⟩, h5, h6⟩
theorem Pair.snd (h : Pair w w1 P a n m r k mr) : ∃ S, RefAt w1 r k mr S := by
  obtain ⟨SA, SR, h1, h2, h3⟩ := h
  exact ⟨SR, h2⟩
/-- An operation of the program's. -/
theorem Pair.lift {f : FuncId} {args : Array Value} (R : Ending → Prop) {n' : Nat} {m' : DM} (h : Pair w w1 P a n m r k mr)
    (hc : ∀ P', Held w w1 P' a n m → Calls Tryz.prog f args w1 fun e w' => R e ∧ Held w w' P' a n' m' ∧ Same P' w1 w') : Calls Tryz.prog f args w1 fun e w' => R e ∧ Pair w w' P a n' m' r k mr ∧ Same P w1 w' := by
  obtain ⟨SA, SR, h1, h2, h3, h4, h5, h6⟩ := h
  refine (hc (fun x => P x ∨ SR x) ⟨SA, h1, fun x hx => ⟨(h3 x hx).1, fun hx2 => hx2.elim (h3 x hx).2.1 (h3 x hx).2.2⟩, h5, fun b hb => hb.elim (h6 b) (h2.lt b)⟩).mono fun e w' hp => ?_
  obtain ⟨hR, ⟨SA', g1, g2, g3, g4⟩, hs⟩ := hp
  exact ⟨hR, ⟨SA', SR, g1, h2.frameS (fun b hS => hs b (.inr hS)), fun x hx => ⟨(g2 x hx).1, fun hP => (g2 x hx).2 (.inl hP), fun hS => (g2 x hx).2 (.inr hS)⟩, h4, g3, fun b hP => g4 b (.inl hP)⟩, fun x hx => hs x (.inl hx)⟩
/-- An operation of the reference's. -/
theorem Pair.lift2 {f : FuncId} {args : Array Value} (R : Ending → Prop) {k' : Nat} {mr' : DM} (h : Pair w w1 P a n m r k mr)
    (hc : ∀ S, (∀ x, S x → w.heap.size ≤ x ∧ ¬ P x) → RefAt w1 r k mr S → Calls Tryz.prog f args w1 fun e w' => R e ∧ RefPost r k' mr' S w1 w') : Calls Tryz.prog f args w1 fun e w' => R e ∧ Pair w w' P a n m r k' mr' ∧ Same P w1 w' := by
  obtain ⟨SA, SR, h1, h2, h3, h4, h5, h6⟩ := h
  refine (hc SR h4 h2).mono fun e w' hp => ?_
  obtain ⟨hR, g1, g2⟩ := hp
  have hz := h5.size
  refine ⟨hR, ⟨SA, grow SR w1 w', ?_, g1, fun x hx => ⟨(h3 x hx).1, (h3 x hx).2.1, ?_⟩, ?_, ?_, fun b hP => Nat.lt_of_lt_of_le (h6 b hP) g2.size⟩, fun x hx => g2.block x (h6 x hx) (fun hS => (h4 x hS).2 hx)⟩
  · exact h1.frameS (fun b hS => g2.block b (h1.lt b hS) (h3 b hS).2.2)
  · rintro (hS | ⟨hS, -⟩)
    · exact (h3 x hx).2.2 hS
    · exact absurd (h1.lt x hx) (by omega)
  · rintro x (hS | ⟨hS, -⟩)
    · exact h4 x hS
    · exact ⟨by omega, fun hP => absurd (h6 x hP) (by omega)⟩
  · exact h5.trans (g2.toBelow (fun i hi => (h4 i hi).1) hz)
theorem Pair.inn (h : Pair w w1 P a n m r k mr) : ∃ S, PairIn w1 a n m r k mr S ∧ ∀ x, S x → w.heap.size ≤ x ∧ ¬ P x := by
  obtain ⟨SA, SR, h1, h2, h3, h4, h5, h6⟩ := h
  exact ⟨fun x => SA x ∨ SR x, ⟨SA, SR, h1, h2, fun x hx => (h3 x hx).2.2, fun x => Iff.rfl⟩, fun x hx => hx.elim (fun hx => ⟨(h3 x hx).1, (h3 x hx).2.1⟩) (h4 x)⟩
theorem PairIn.frameS {S : Nat → Prop} (h : PairIn w1 a n m r k mr S) (hb : ∀ b, S b → w'.heap[b]? = w1.heap[b]?) : PairIn w' a n m r k mr S := by
  obtain ⟨SA, SR, h1, h2, h3, h4⟩ := h
  exact ⟨SA, SR, h1.frameS (fun b hS => hb b ((h4 b).1 (.inl hS))), h2.frameS (fun b hS => hb b ((h4 b).1 (.inr hS))), h3, h4⟩
theorem PairIn.lt {S : Nat → Prop} (h : PairIn w1 a n m r k mr S) : ∀ b, S b → b < w1.heap.size := by
  obtain ⟨SA, SR, h1, h2, h3, h4⟩ := h
  exact fun b hb => ((h4 b).2 hb).elim (h1.lt b) (h2.lt b)
theorem PairIn.pair {S : Nat → Prop} (h : PairIn w1 a n m r k mr S) (hS : ∀ x, S x → w.heap.size ≤ x ∧ ¬ P x) (hb : Below w.heap.size w w1) (hP : ∀ b, P b → b < w1.heap.size) : Pair w w1 P a n m r k mr := by
  obtain ⟨SA, SR, h1, h2, h3, h4⟩ := h
  exact ⟨SA, SR, h1, h2, fun x hx => ⟨(hS x ((h4 x).1 (.inl hx))).1, (hS x ((h4 x).1 (.inl hx))).2, h3 x hx⟩, fun x hx => hS x ((h4 x).1 (.inr hx)), hb, hP⟩
end
/-- Two pairs that have nothing in common. -/
def Duo (w w1 : World) (P : Nat → Prop) (a n : Nat) (m : DM) (r : Nat) (b : Nat) (k : Nat) (l : DM) (s : Nat) : Prop :=
  ∃ S : Nat → Prop, Pair w w1 (fun x => P x ∨ S x) a n m r n m ∧ PairIn w1 b k l s k l S ∧ ∀ x, S x → w.heap.size ≤ x ∧ ¬ P x
section
variable {w w1 w' : World} {P Q : Nat → Prop} {a n r b k s : Nat} {m l : DM}
theorem Duo.swap (h : Duo w w1 P a n m r b k l s) : Duo w w1 P b k l s a n m r := by
  obtain ⟨S, h1, h2, h3⟩ := h
  obtain ⟨T, t1, t2⟩ := h1.inn
  refine ⟨T, h2.pair (fun x hx => ⟨(h3 x hx).1, ?_⟩) h1.bel ?_, t1, fun x hx => ⟨(t2 x hx).1, fun hP => (t2 x hx).2 (.inl hP)⟩⟩
  · rintro (hP | hT)
    · exact (h3 x hx).2 hP
    · exact (t2 x hT).2 (.inr hx)
  · rintro x (hP | hT)
    · exact h1.lt x (.inl hP)
    · exact t1.lt x hT
theorem Duo.fst (h : Duo w w1 P a n m r b k l s) : Pair w w1 P a n m r n m := by
  obtain ⟨S, h1, h2, h3⟩ := h
  exact h1.sub (fun _ => .inl)
theorem Duo.snd (h : Duo w w1 P a n m r b k l s) : Pair w w1 P b k l s k l := h.swap.fst
theorem Duo.below (h : Duo w w1 P a n m r b k l s) (hb : Below w1.heap.size w1 w') : Duo w w' P a n m r b k l s := by
  obtain ⟨S, h1, h2, h3⟩ := h
  exact ⟨S, h1.below hb, h2.frameS (fun x hx => hb.block x (h2.lt x hx)), h3⟩
theorem Duo.more (h : Duo w w1 P a n m r b k l s) {n' k' : Nat} (h1 : n ≤ n') (h2 : k ≤ k') : Duo w w1 P a n' m r b k' l s := by
  obtain ⟨S, g1, ⟨SA, SR, g2, g3, g4⟩, g5⟩ := h
  exact ⟨S, g1.more h1 h1, ⟨SA, SR, g2.more h2, g3.more h2, g4⟩, g5⟩
theorem Duo.sub (h : Duo w w1 P a n m r b k l s) (hs : ∀ x, Q x → P x) : Duo w w1 Q a n m r b k l s := by
  obtain ⟨S, h1, h2, h3⟩ := h
  exact ⟨S, h1.sub (fun x hx => hx.imp (hs x) id), h2, fun x hx => ⟨(h3 x hx).1, fun hQ => (h3 x hx).2 (hs x hQ)⟩⟩
theorem Duo.lift {f : FuncId} {args : Array Value} (R : Ending → Prop) {n' : Nat} {m' : DM} (h : Duo w w1 P a n m r b k l s)
    (hc : ∀ P', Pair w w1 P' a n m r n m → Calls Tryz.prog f args w1 fun e w' => R e ∧ Pair w w' P' a n' m' r n' m' ∧ Same P' w1 w') : Calls Tryz.prog f args w1 fun e w' => R e ∧ Duo w w' P a n' m' r b k l s ∧ Same P w1 w' := by
  obtain ⟨S, h1, h2, h3⟩ := h
  refine (hc _ h1).mono fun e w' hp => ?_
  obtain ⟨hR, hd, hs⟩ := hp
  exact ⟨hR, ⟨S, hd, h2.frameS (fun x hx => hs x (.inr hx)), h3⟩, fun x hx => hs x (.inl hx)⟩
theorem Duo.lift2 {f : FuncId} {args : Array Value} (R : Ending → Prop) {k' : Nat} {l' : DM} (h : Duo w w1 P a n m r b k l s)
    (hc : ∀ P', Pair w w1 P' b k l s k l → Calls Tryz.prog f args w1 fun e w' => R e ∧ Pair w w' P' b k' l' s k' l' ∧ Same P' w1 w') : Calls Tryz.prog f args w1 fun e w' => R e ∧ Duo w w' P a n m r b k' l' s ∧ Same P w1 w' :=
  (h.swap.lift R hc).mono fun _ _ ⟨h1, h2, h3⟩ => ⟨h1, h2.swap, h3⟩
end
end Go.Proofs.YtlcompihcmhbiaaGreatDoor
/- Plain: names are short; what a step of DiskPlays does. -/
namespace Go.Proofs.YtlcompihcmhbiaaGreatDoor
def short (t : Tab) : Prop := ∀ p ∈ t, p.1.length ≤ 200
def DOp.short : DOp → Prop
  | .create n _ => n.data.toList.length ≤ 200
  | .rename _ n => n.data.toList.length ≤ 200
  | .remove _ => True
/-- All names are short. -/
def DM.Short (m : DM) : Prop := short m.now ∧ short m.safe ∧ ∀ o ∈ m.pend, o.short
theorem act_short {o : DOp} (ho : o.short) {t : Tab} (h : short t) : short (o.act t) := by
  intro p hp
  cases o with
  | create n i =>
    rcases tput_mem.1 hp with rfl | ⟨hp, _⟩
    · exact ho
    · exact h p hp
  | rename o n =>
    simp only [DOp.act] at hp
    split at hp
    · rcases tput_mem.1 hp with rfl | ⟨hp, _⟩
      · exact ho
      · exact h p (tdel_mem.1 hp).1
    · exact h p hp
  | remove n => exact h p (tdel_mem.1 hp).1
theorem failPend_short : ∀ (l : List DOp) (ks : List Int) (t : Tab), (∀ o ∈ l, o.short) → short t → short (failPend l ks t)
  | [], _, _, _, h => h
  | o :: r, ks, t, hl, h => by
    rw [failPend]
    refine failPend_short r _ _ (fun x hx => hl x (List.mem_cons_of_mem _ hx)) ?_
    split
    · exact act_short (hl o (List.mem_cons_self ..)) h
    · exact h
theorem fail_short {m : DM} (h : m.Short) (ks : List Int) : (m.fail ks).Short := by
  have := failPend_short m.pend ks m.safe h.2.2 h.2.1
  exact ⟨this, this, fun o ho => by cases ho⟩
theorem crash_short {m : DM} (h : m.Short) (ks : List Int) : (m.crash ks).Short := by
  unfold DM.crash
  split
  · exact h
  · exact fail_short h ks
theorem names_short {m : DM} (h : m.Short) {o : DOp} (ho : o.short) : (m.names o).Short :=
  ⟨act_short ho h.1, h.2.1, fun x hx => by
    rcases List.mem_append.1 hx with hx | hx
    · exact h.2.2 x hx
    · rw [List.mem_singleton.1 hx]; exact ho⟩
theorem right_short {n : ByteArray} (h : rightB n = true) : n.data.toList.length ≤ 200 := by
  unfold rightB at h
  rw [Bool.and_eq_true] at h
  have := of_decide_eq_true h.2
  rw [Array.length_toList]
  exact this
theorem act_shortM {m : DM} (h : m.Short) {c : DCall} (hr : m.refused c = 0) : (m.act c).Short := by
  cases c with
  | create n =>
    refine names_short (m := { m with files := m.files ++ [⟨⟨#[]⟩, 0⟩] }) h ?_
    unfold DM.refused at hr
    cases hb : rightB n with
    | true => exact right_short hb
    | false => simp [hb] at hr
  | write n s =>
    cases hg : m.get n with
    | none => simp only [DM.act, hg]; exact h
    | some i => simp only [DM.act, hg]; exact h
  | sync n =>
    cases hg : m.get n with
    | none => simp only [DM.act, hg]; exact h
    | some i => simp only [DM.act, hg]; exact h
  | rename o n =>
    refine names_short h ?_
    unfold DM.refused at hr
    cases hg : (m.get o).isSome with
    | false => simp [hg] at hr
    | true =>
      cases hb : rightB n with
      | true => exact right_short hb
      | false => simp [hg, hb] at hr
  | remove n => exact names_short h True.intro
  | flush => exact ⟨h.1, h.1, fun o ho => by cases ho⟩
theorem op_short {m : DM} (h : m.Short) (c : DCall) : (m.op c).1.Short := by
  unfold DM.op
  split
  · exact h
  · split
    · exact h
    · rename_i hr
      have hr0 : m.refused c = 0 := by omega
      have ht : m.tick.Short := h
      have ha : (m.tick.act c).Short := act_shortM ht hr0
      split
      · refine fail_short ?_ _
        split
        · exact ht
        · exact ha
      · exact ha
/-- What a step does. -/
def DM.step (m : DM) (s : StepM) : DM :=
  if 1 ≤ s.act ∧ s.act ≤ 6 then (m.op s.call).1 else if s.act = 9 then m.arm s.num s.keep else if s.act = 10 then m.crash s.keep else if s.act = 11 then m.revive else m
theorem step_short {m : DM} (h : m.Short) (s : StepM) : (m.step s).Short := by
  unfold DM.step
  split
  · exact op_short h _
  · split
    · exact h
    · split
      · exact crash_short h _
      · split
        · exact h
        · exact h
theorem new_short (r : Int) : (DM.new r).Short := ⟨fun p hp => (by cases hp), fun p hp => (by cases hp), fun o ho => (by cases ho)⟩
theorem short_name {t : Tab} (h : short t) : ∀ p ∈ t, (nameB p).size ≤ 140737488355328 := fun p hp => by
  have := h p hp
  show p.1.toArray.size ≤ _
  rw [List.size_toArray]
  omega
/-- A step's operation, as the reference's. -/
def StepM.named (s : StepM) : ROp := if s.act = 4 then ⟨s.act, s.name, s.data, 0⟩ else ⟨s.act, ⟨#[]⟩, s.name, 0⟩
theorem named_call (s : StepM) : rcall s.named s.data = s.call := by
  unfold StepM.named
  split
  · rename_i h
    unfold rcall StepM.call
    simp [h]
  · rename_i h
    unfold rcall StepM.call
    simp [h]
end Go.Proofs.YtlcompihcmhbiaaGreatDoor
/- Contracts of named and (pair).alike. -/
namespace Go.Proofs.YtlcompihcmhbiaaGreatDoor
open Go Go.RowKit Go.Maps Go.Shelf Go.WideAt Go.WideShapes
def opZ : Array Value := #[.int .i64 0, .string ⟨#[]⟩, .string ⟨#[]⟩, .int .i64 0]
set_option maxHeartbeats 1600000 in
set_option maxRecDepth 100000 in
theorem named_any (s : StepM) (kv : Value) (w : World) :
    Calls Tryz.prog 51 #[.agg (s.cells kv)] w fun e w' => e = .returned (.agg (ropCl s.named)) ∧ Below w.heap.size w w' := by
  obtain ⟨act, who, name, data, num, keep⟩ := s
  unfold StepM.cells
  go_enter Tryz.func51, Tryz.ntmps51
  have hfin : ∀ (cs : Array Value) (x0 x1 x2 x3 : Value), cs = #[x0, x1, x2, x3] → ∀ i : Nat, ((w.alloc (.cells #[.int .i64 act, .int .i64 who, .string name, .string data, .int .i64 num, kv] 36)).alloc (.cells cs 98)).cell? ⟨w.heap.size + 1, i, none⟩ = cs[i]? := fun cs x0 x1 x2 x3 e i => cell_of_heapN (heap_new2 w _ _)
  have HF := Lib.hid hfin
  clear hfin
  by_cases h4 : act = 4
  · subst h4
    go_wp2_with fail
    have hc := HF.out _ (.int .i64 4) (.string name) (.string data) (.int .i64 0) rfl
    exact bodyPost_ret (v := .agg #[.int .i64 4, .string name, .string data, .int .i64 0]) (by simp [results, Tryz.f51, go_sem, hc]) rfl ⟨by unfold StepM.named ropCl; rw [if_pos rfl]; rfl, below2 w _ _⟩
  · go_wp2_with fail
    have hc := HF.out _ (.int .i64 act) (.string ⟨#[]⟩) (.string name) (.int .i64 0) rfl
    exact bodyPost_ret (v := .agg #[.int .i64 act, .string ⟨#[]⟩, .string name, .int .i64 0]) (by simp [results, Tryz.f51, go_sem, hc]) rfl ⟨by unfold StepM.named ropCl; rw [if_neg h4]; rfl, below2 w _ _⟩
theorem lists_le {m : DM} {n : Nat} (h : m.Ok n) (s : ByteArray) : (m.lists s).length ≤ n := by
  unfold DM.lists
  split
  · exact Nat.zero_le _
  · rw [List.length_map]
    exact Nat.le_trans (List.length_filter_le _ _) h.nowN
theorem lists_read {m : DM} {n : Nat} (h : m.Ok n) (hs : m.Short) (t : ByteArray) : ∀ s ∈ m.lists t, (m.reads s).2 = 0 ∧ s.size ≤ 200 := by
  intro s hm
  unfold DM.lists at hm
  cases ho : m.off with
  | true => rw [ho] at hm; cases hm
  | false =>
    rw [ho] at hm
    obtain ⟨p, hp, rfl⟩ := List.mem_map.1 hm
    have hp := (List.mem_filter.1 hp).1
    obtain ⟨j, hj⟩ := List.getElem?_of_mem hp
    rw [reads_at ho h.now hj]
    refine ⟨rfl, ?_⟩
    have := hs.1 p hp
    show p.1.toArray.size ≤ _
    rw [List.size_toArray]
    exact this
set_option maxHeartbeats 3200000 in
set_option maxRecDepth 100000 in
theorem alike_any {w w1 : World} {P : Nat → Prop} {a n r k : Nat} {m : DM} (h : Pair w w1 P a n m r k m) (hs : m.Short) (hG : ErrT w1) (hn : n ≤ 20000000) (hk : k ≤ 20000000) :
    Calls Tryz.prog 21 #[.agg #[.pointer (some ⟨a, 0, none⟩), .pointer (some ⟨r, 0, none⟩)]] w1 fun e w' => e = .returned (.bool true) ∧ Below w1.heap.size w1 w' := by
  obtain ⟨SA, SR, h1, h2, -⟩ := h
  have hb0 := (Below.refl w1.heap.size w1).alloc (Nat.le_refl _) (.cells #[.pointer (some ⟨a, 0, none⟩), .pointer (some ⟨r, 0, none⟩)] 58)
  have hbx := heap_new w1 (.cells #[.pointer (some ⟨a, 0, none⟩), .pointer (some ⟨r, 0, none⟩)] 58)
  have hroom := h1.ok.room
  have hnl := lists_le h1.ok
  have HD := Lib.hid h1
  have HR := Lib.hid h2
  have HB0 := Lib.hid hb0
  have HBX := Lib.hid hbx
  have HG := Lib.hid hG
  have HS := Lib.hid (short_name hs.1)
  clear h1 h2 hb0 hbx hG
  have hls := lists_read HD.out.ok hs ⟨#[]⟩
  have hlc := list_any (HD.out.below HB0.out) ⟨#[]⟩ (by omega)
  have hrl : ∀ w2, Below w1.heap.size w1 w2 → _ := fun w2 hb => refList_any (HR.out.below hb) ⟨#[]⟩ (by omega) HS.out (by show 0 ≤ _; omega)
  obtain ⟨x, hx⟩ : ∃ x : Int, (if m.off = true then 27 else 0) = x := ⟨_, rfl⟩
  have hx2 : x = 0 ∨ (1 ≤ x ∧ x ≤ 32) := by rw [← hx]; split <;> omega
  have hll := hnl ⟨#[]⟩
  rw [hx] at hlc hrl
  generalize m.lists ⟨#[]⟩ = L0 at hlc hrl hll hls
  obtain ⟨N, hN⟩ : ∃ N, L0.length = N := ⟨_, rfl⟩
  have HL8 := Lib.hid (show L0.length ≤ 8000000000000 by omega)
  have HLR := Lib.hid hls
  have HLC := Lib.hid hlc
  have HRL := Lib.hid hrl
  have HX := Lib.hid hx2
  have HN := Lib.hid hN
  have hNi : (N : Int) ≤ 20000000 := by omega
  have HNR := Lib.hid (show n * m.room ≤ 4611686018427387904 ∧ k * m.room ≤ 4611686018427387904 from ⟨Nat.le_trans (Nat.mul_le_mul hn hroom) (by decide), Nat.le_trans (Nat.mul_le_mul hk hroom) (by decide)⟩)
  have hkk : (k : Int) ≤ 20000000 := by omega
  clear hs hls hlc hrl hx hx2 hN hll hnl hroom
  go_enter Tryz.func21, Tryz.ntmps21
  go_wp2_with fail
  refine HLC.out.mono ?_
  rintro e w2 ⟨v, rfl, hv, hb2⟩
  obtain ⟨vp, vc, rfl⟩ := hv.rd.len
  rw [HN.out] at hv ⊢
  have hb2' := HB0.out.trans (hb2.mono HB0.out.size)
  have HB2 := Lib.hid hb2'
  have r2 := box_below HBX.out hb2
  have HR2 := Lib.hid r2
  have c0 : w2.cell? ⟨w1.heap.size, 0, none⟩ = some (.pointer (some ⟨a, 0, none⟩)) := by rw [cell_of_heapN r2]; rfl
  have c1 : w2.cell? ⟨w1.heap.size, 1, none⟩ = some (.pointer (some ⟨r, 0, none⟩)) := by rw [cell_of_heapN r2]; rfl
  have HV2 := Lib.hid hv.rd
  clear hv hb2 hb2' r2
  go_wp2_with fail
  refine (HRL.out w2 HB2.out).mono ?_
  rintro e w3 ⟨u, rfl, hg⟩
  obtain ⟨up, uc, rfl⟩ := hg.row.rd.len
  have hgr := hg.row.rd
  have hb3 := hg.bel
  rw [HN.out] at hgr ⊢
  have hb3' := HB2.out.trans (hb3.mono HB2.out.size)
  have HB3 := Lib.hid hb3'
  have HV := Lib.hid (HV2.out.below hb3)
  have HU := Lib.hid hgr
  have r3 := box_below HR2.out hb3
  have HR3 := Lib.hid r3
  have HD3 := Lib.hid (HD.out.below hb3')
  have HRR3 := Lib.hid (HR.out.below hb3')
  have HG3 := Lib.hid (HG.out.below hb3' HG.out.2)
  clear c0 c1 HV2 HR2 HB2 hgr hg hb3 hb3' r3 HLC HRL
  go_wp2_with fail
--FLOW3
  have hI0 : Below w3.heap.size w3 w3.drew := ⟨rfl, rfl, rfl, Nat.le_refl _, fun _ _ => rfl⟩
  refine wp_region_flowG (fun _ : Unit => [.slice vp N vc, .slice up N uc, .bool true, .bool false, .bool false, errE x, .int .i64 x, .bool true, .bool false, .bool false, .bool false, .pointer (some ⟨w1.heap.size, 0, none⟩), .pointer (some ⟨a, 0, none⟩), .int .i64 m.used, .pointer (some ⟨w1.heap.size, 1, none⟩), .pointer (some ⟨r, 0, none⟩), .int .i64 m.used, .bool false, .bool false]) (fun _ _ W => Below w3.heap.size w3 W)
    [[], [], [0, 1], [2], [3, 2], [4], [4], [5, 6, 4, 4], [7, 4], [4, 8], [9, 7], [10], [11, 10], [12, 10, 10], [10], [14, 10], [15, 13, 10], [13, 16, 10], [10, 17]] 76 () mixedD rfl (by kernel_rfl) (fun _ => rfl) hI0 ?_ ?_
  · refine ⟨?_, ?_, ?_, ?_, ?_, ?_, ?_, ?_, ?_, ?_, ?_, ?_, ?_, ?_, ?_, ?_, ?_, ?_, ?_, rfl⟩
    all_goals intro L γ W ev hL hd hW hc hf hg he h0
    · have e3 : ev (.tmp 3) = .slice vp N vc := h0 3 rfl
      clear he h0 hc hf hg
      exact .inl ⟨rfl, .inl ⟨_, W, (by go_simp <;> rfl), .still (hW) rfl⟩⟩
    · have e5 : ev (.tmp 5) = .slice up N uc := h0 5 rfl
      clear he h0 hc hf hg
      exact .inl ⟨rfl, .inl ⟨_, W, (by go_simp <;> rfl), .still (hW) rfl⟩⟩
    · have e24 : ev (.tmp 24) = .slice vp N vc := he 0 (by decide) _ 24 rfl rfl
      have e25 : ev (.tmp 25) = .slice up N uc := he 1 (by decide) _ 25 rfl rfl
      clear he h0 hc hg
      refine .inl ⟨rfl, .inr (.inr ⟨49, #[.slice vp N vc, .slice up N uc], W, (by have hff := hf 49; clear hf; go_simp <;> rfl), ?_⟩)⟩
      refine (same_texts W (.slice vp N vc) (.slice up N uc) L0 L0 (HV.out.below hW) (HU.out.below hW) HL8.out).mono ?_
      rintro e w4 ⟨rfl, hb⟩
      exact ⟨_, rfl, .still (hW.trans (hb.mono hW.size)) (by unfold sameT; rw [decide_eq_true rfl]; rfl)⟩
    · have e26 : ev (.tmp 26) = .bool true := he 2 (by decide) _ 26 rfl rfl
      clear he h0 hc hf hg
      exact .inl ⟨rfl, .inl ⟨_, W, (by go_simp <;> rfl), .still (hW) rfl⟩⟩
    · have e27 : ev (.tmp 27) = .bool false := he 3 (by decide) _ 27 rfl rfl
      clear he h0 hc hf hg
      exact .inl ⟨rfl, .inl ⟨_, W, (by go_simp <;> rfl), .still (hW) rfl⟩⟩
    · have e4 : ev (.tmp 4) = errE x := h0 4 rfl
      clear he h0 hc hf hg
      exact .inl ⟨rfl, .inl ⟨_, W, (by go_simp <;> rfl), .still (hW) rfl⟩⟩
    · have e6 : ev (.tmp 6) = .int .i64 x := h0 6 rfl
      clear he h0 hc hf hg
      exact .inl ⟨rfl, .inl ⟨_, W, (by go_simp <;> rfl), .still (hW) rfl⟩⟩
    · have e29 : ev (.tmp 29) = errE x := he 5 (by decide) _ 29 rfl rfl
      have e30 : ev (.tmp 30) = .int .i64 x := he 6 (by decide) _ 30 rfl rfl
      clear he h0 hc hg
      refine .inl ⟨rfl, .inr (.inr ⟨25, #[errE x, .int .i64 x], W, (by have hff := hf 25; clear hf; go_simp <;> rfl), ?_⟩)⟩
      refine (plain_E x HX.out x W (HG3.out.below hW HG3.out.2)).mono ?_
      rintro e w4 ⟨rfl, hb⟩
      exact ⟨_, rfl, .still (hW.trans (hb.mono hW.size)) (by rw [beq_self_eq_true]; rfl)⟩
    · have e31 : ev (.tmp 31) = .bool true := he 7 (by decide) _ 31 rfl rfl
      clear he h0 hc hf hg
      exact .inl ⟨rfl, .inl ⟨_, W, (by go_simp <;> rfl), .still (hW) rfl⟩⟩
    · have e28 : ev (.tmp 28) = .bool false := he 4 (by decide) _ 28 rfl rfl
      have e32 : ev (.tmp 32) = .bool false := he 8 (by decide) _ 32 rfl rfl
      clear he h0 hc hf hg
      exact .inl ⟨rfl, .inl ⟨_, W, (by go_simp <;> rfl), .still (hW) rfl⟩⟩
    · have e33 : ev (.tmp 33) = .bool false := he 9 (by decide) _ 33 rfl rfl
      clear he h0 hc hf hg
      exact .inl ⟨rfl, .inl ⟨_, W, (by go_simp <;> rfl), .still (hW) rfl⟩⟩
    · have e1 : ev (.tmp 1) = .pointer (some ⟨w1.heap.size, 0, none⟩) := h0 1 rfl
      clear he h0 hc hf hg
      exact .inl ⟨rfl, .inl ⟨_, W, (by go_simp <;> rfl), .still (hW) rfl⟩⟩
    · have e35 : ev (.tmp 35) = .pointer (some ⟨w1.heap.size, 0, none⟩) := he 11 (by decide) _ 35 rfl rfl
      have c : W.cell? ⟨w1.heap.size, 0, none⟩ = some (.pointer (some ⟨a, 0, none⟩)) := by rw [cell_of_heapN ((hW.block _ (blk_lt HR3.out)).trans HR3.out)]; rfl
      clear he h0 hc hf hg
      exact .inl ⟨rfl, .inl ⟨_, W, (by go_simp <;> rfl), .still (hW) rfl⟩⟩
    · have e36 : ev (.tmp 36) = .pointer (some ⟨a, 0, none⟩) := he 12 (by decide) _ 36 rfl rfl
      clear he h0 hc hg
      refine .inl ⟨rfl, .inr (.inr ⟨26, #[.pointer (some ⟨a, 0, none⟩)], W, (by have hff := hf 26; clear hf; go_simp <;> rfl), ?_⟩)⟩
      refine (used_any (HD3.out.below hW) HNR.out.1).mono ?_
      rintro e w4 ⟨rfl, hb⟩
      exact ⟨_, rfl, .still (hW.trans (hb.mono hW.size)) rfl⟩
    · have e1 : ev (.tmp 1) = .pointer (some ⟨w1.heap.size, 0, none⟩) := h0 1 rfl
      clear he h0 hc hf hg
      exact .inl ⟨rfl, .inl ⟨_, W, (by go_simp <;> rfl), .still (hW) rfl⟩⟩
    · have e38 : ev (.tmp 38) = .pointer (some ⟨w1.heap.size, 1, none⟩) := he 14 (by decide) _ 38 rfl rfl
      have c : W.cell? ⟨w1.heap.size, 1, none⟩ = some (.pointer (some ⟨r, 0, none⟩)) := by rw [cell_of_heapN ((hW.block _ (blk_lt HR3.out)).trans HR3.out)]; rfl
      clear he h0 hc hf hg
      exact .inl ⟨rfl, .inl ⟨_, W, (by go_simp <;> rfl), .still (hW) rfl⟩⟩
    · have e39 : ev (.tmp 39) = .pointer (some ⟨r, 0, none⟩) := he 15 (by decide) _ 39 rfl rfl
      clear he h0 hc hg
      refine .inl ⟨rfl, .inr (.inr ⟨60, #[.pointer (some ⟨r, 0, none⟩)], W, (by have hff := hf 60; clear hf; go_simp <;> rfl), ?_⟩)⟩
      refine (refUsed_any (HRR3.out.below hW) HNR.out.2 (by omega)).mono ?_
      rintro e w4 ⟨rfl, q, rfl⟩
      exact ⟨_, rfl, .still ⟨hW.os, hW.tape, hW.output, hW.size, hW.block⟩ rfl⟩
    · have e37 : ev (.tmp 37) = .int .i64 m.used := he 13 (by decide) _ 37 rfl rfl
      have e40 : ev (.tmp 40) = .int .i64 m.used := he 16 (by decide) _ 40 rfl rfl
      clear he h0 hc hf hg
      exact .inl ⟨rfl, .inl ⟨_, W, (by go_simp <;> rfl), .still (hW) rfl⟩⟩
    · have e34 : ev (.tmp 34) = .bool false := he 10 (by decide) _ 34 rfl rfl
      have e41 : ev (.tmp 41) = .bool false := he 17 (by decide) _ 41 rfl rfl
      clear he h0 hc hf hg
      exact .inl ⟨rfl, .inl ⟨_, W, (by go_simp <;> rfl), .still (hW) rfl⟩⟩
--END3
  intro _ L W hL hW
  simp only [putAll, Act.put, List.setIfInBounds_toArray, List.set_cons_succ, List.set_cons_zero]
  clear hL hI0
  have HW := Lib.hid hW
  clear hW
  go_wp2_with fail
  go_loopw [7] (fun iv wr => ∃ i : Nat, i ≤ N ∧ iv = .int .i64 i ∧ Hid (Below w3.heap.size w3 wr)) (fun iv _ => N - (intOf iv).toNat)
  case atStart => exact ⟨0, Nat.zero_le _, rfl, HW⟩
  case round =>
    obtain ⟨i, hi, rfl, hb⟩ := hrel
    by_cases hlt : (i : Int) < (N : Int)
    · obtain ⟨t, ht⟩ : ∃ t, L0[i]? = some t := ⟨_, List.getElem?_eq_getElem (i := i) (by have := HN.out; omega)⟩
      obtain ⟨vp', vc', ev, hv⟩ := HV.out
      cases ev
      obtain ⟨vb, vo, rfl, hvl, hvc⟩ := hv i t ht
      have d0 : wr.cell? ⟨vb, vo + i, none⟩ = some (.string t) := (hb.out.cell (p := ⟨vb, vo + i, none⟩) hvl).trans hvc
      have hr := HLR.out t (List.mem_of_getElem? ht)
      have c0 : wr.cell? ⟨w1.heap.size, 0, none⟩ = some (.pointer (some ⟨a, 0, none⟩)) := by rw [cell_of_heapN ((hb.out.block _ (blk_lt HR3.out)).trans HR3.out)]; rfl
      have c1 : wr.cell? ⟨w1.heap.size, 1, none⟩ = some (.pointer (some ⟨r, 0, none⟩)) := by rw [cell_of_heapN ((hb.out.block _ (blk_lt HR3.out)).trans HR3.out)]; rfl
      have hrd : ∀ q : Nat, Calls Tryz.prog 18 #[.pointer (some ⟨a, 0, none⟩), .string t] (wr.drewN q) fun e w' => e = .returned (.tuple #[.string (m.reads t).1, .nilIface]) ∧ w' = wr.drewN q := fun q => by
        have h1 := read_any (HD3.out.below (w' := wr.drewN q) ⟨hb.out.os, hb.out.tape, hb.out.output, hb.out.size, hb.out.block⟩) t (by unfold maxLen; omega)
        rw [hr.1] at h1
        exact h1.mono fun e w' hp => ⟨hp.1, hp.2.symm⟩
      have hrr : ∀ q : Nat, Calls Tryz.prog 52 #[.pointer (some ⟨r, 0, none⟩), .string t] (wr.drewN q) fun e w' => e = .returned (.tuple #[.string (m.reads t).1, .int .i64 0]) ∧ ∃ n, w' = (wr.drewN q).drewN n := fun q => by
        have h1 := refRead_any (HRR3.out.below (w' := wr.drewN q) ⟨hb.out.os, hb.out.tape, hb.out.output, hb.out.size, hb.out.block⟩) t (by omega)
        rw [hr.1] at h1
        exact h1
      have HRD := Lib.hid hrd
      have HRR := Lib.hid hrr
      generalize (m.reads t).1 = d at HRD HRR
      clear ht hv hvl hvc hr hrd hrr
      go_wp2_with fail
      go_quiet ((go_at_call 18; exact Calls.quiet_of_same (HRD.out _)))
      rename_i nq
      go_wp2_with fail
      go_quiet ((go_at_call 52; exact quietU (HRR.out (nq + _))))
      rename_i nr
      go_wp2_with fail
      go_roundw
      case rel => exact ⟨i + 1, by omega, by rw [Int.natCast_add]; rfl, Lib.hid ⟨hb.out.os, hb.out.tape, hb.out.output, hb.out.size, hb.out.block⟩⟩
      case measure => simp [intOf]; omega
    · go_wp2_with fail
      go_ret
      exact ⟨rfl, HB3.out.trans (hb.out.mono HB3.out.size)⟩
end Go.Proofs.YtlcompihcmhbiaaGreatDoor
/- What a walk through (pair).step knows. -/
namespace Go.Proofs.YtlcompihcmhbiaaGreatDoor
open Go Go.RowKit Go.Maps Go.Shelf Go.WideAt Go.WideShapes
theorem op_in (m : DM) (c : DCall) : (m.op c).2 = 0 ∨ (1 ≤ (m.op c).2 ∧ (m.op c).2 ≤ 32) := by
  have hr : m.refused c = 0 ∨ (1 ≤ m.refused c ∧ m.refused c ≤ 32) := by
    cases c with
    | flush => exact .inl rfl
    | _ => (simp only [DM.refused]; (repeat' split) <;> simp)
  unfold DM.op
  split
  · exact .inr ⟨by show (1 : Int) ≤ 27; decide, by show (27 : Int) ≤ 32; decide⟩
  · split
    · exact hr
    · split
      · exact .inr ⟨by show (1 : Int) ≤ 27; decide, by show (27 : Int) ≤ 32; decide⟩
      · exact .inl rfl
theorem reads_in (m : DM) (s : ByteArray) : (m.reads s).2 = 0 ∨ (1 ≤ (m.reads s).2 ∧ (m.reads s).2 ≤ 32) := by
  unfold DM.reads
  split
  · exact .inr ⟨by show (1 : Int) ≤ 27; decide, by show (27 : Int) ≤ 32; decide⟩
  · split
    · exact .inl rfl
    · exact .inr ⟨by show (1 : Int) ≤ 10; decide, by show (10 : Int) ≤ 32; decide⟩
def boxP (a r : Nat) : Array Value := #[.pointer (some ⟨a, 0, none⟩), .pointer (some ⟨r, 0, none⟩)]
/-- What a walk through a step knows. -/
structure StepS (w w1 V : World) (P : Nat → Prop) (a r : Nat) (s : StepM) (kv : Value) (n : Nat) (m : DM) (k : Nat) (mr : DM) : Prop where
  pr : Pair w V (fun b => P b ∨ (w1.heap.size ≤ b ∧ b < w1.heap.size + 2)) a n m r k mr
  same : Same P w1 V
  bp : V.heap[w1.heap.size]? = some (.cells (boxP a r) 58 (0, 0))
  bs : V.heap[w1.heap.size + 1]? = some (.cells (s.cells kv) 36 (0, 0))
section
variable {w w1 V V' : World} {P : Nat → Prop} {a r n k : Nat} {s : StepM} {kv : Value} {m mr : DM}
theorem StepS.start (h : Pair w w1 P a n m r k mr) (s : StepM) (kv : Value) : StepS w w1 ((w1.alloc (.cells (boxP a r) 58)).alloc (.cells (s.cells kv) 36)) P a r s kv n m k mr := by
  obtain ⟨b1, b2, b3, b4⟩ := box2 w1 (.cells (boxP a r) 58) (.cells (s.cells kv) 36)
  have hk := h.keeps b1
  rw [b2] at hk
  exact ⟨hk, h.same b1, b3, b4⟩
theorem StepS.step (h : StepS w w1 V P a r s kv n m k mr) {n' k' : Nat} {m' mr' : DM} (hp : Pair w V' (fun b => P b ∨ (w1.heap.size ≤ b ∧ b < w1.heap.size + 2)) a n' m' r k' mr') (hs : Same (fun b => P b ∨ (w1.heap.size ≤ b ∧ b < w1.heap.size + 2)) V V') : StepS w w1 V' P a r s kv n' m' k' mr' :=
  ⟨hp, fun b hb => (hs b (.inl hb)).trans (h.same b hb), (hs _ (.inr ⟨Nat.le_refl _, by omega⟩)).trans h.bp, (hs _ (.inr ⟨by omega, by omega⟩)).trans h.bs⟩
theorem StepS.below (h : StepS w w1 V P a r s kv n m k mr) (hb : Below V.heap.size V V') : StepS w w1 V' P a r s kv n m k mr := h.step (h.pr.below hb) (h.pr.same hb)
theorem StepS.drews (h : StepS w w1 V P a r s kv n m k mr) (q : Nat) : StepS w w1 (V.drewN q) P a r s kv n m k mr := h.below ⟨rfl, rfl, rfl, Nat.le_refl _, fun _ _ => rfl⟩
theorem StepS.done (h : StepS w w1 V P a r s kv n m k mr) : Pair w V P a n m r k mr ∧ Same P w1 V := ⟨h.pr.sub (fun _ => .inl), h.same⟩
theorem StepS.cellP (h : StepS w w1 V P a r s kv n m k mr) : V.cell? ⟨w1.heap.size, 0, none⟩ = some (.pointer (some ⟨a, 0, none⟩)) ∧ V.cell? ⟨w1.heap.size, 1, none⟩ = some (.pointer (some ⟨r, 0, none⟩)) :=
  ⟨cell_of_heapN h.bp, cell_of_heapN h.bp⟩
theorem StepS.cellS (h : StepS w w1 V P a r s kv n m k mr) : V.cell? ⟨w1.heap.size + 1, 0, none⟩ = some (.int .i64 s.act) ∧ V.cell? ⟨w1.heap.size + 1, 1, none⟩ = some (.int .i64 s.who) ∧ V.cell? ⟨w1.heap.size + 1, 2, none⟩ = some (.string s.name) ∧
    V.cell? ⟨w1.heap.size + 1, 3, none⟩ = some (.string s.data) ∧ V.cell? ⟨w1.heap.size + 1, 4, none⟩ = some (.int .i64 s.num) ∧ V.cell? ⟨w1.heap.size + 1, 5, none⟩ = some kv :=
  ⟨cell_of_heapN h.bs, cell_of_heapN h.bs, cell_of_heapN h.bs, cell_of_heapN h.bs, cell_of_heapN h.bs, cell_of_heapN h.bs⟩
theorem StepS.err (h : StepS w w1 V P a r s kv n m k mr) (hG : ErrT w) : ErrT V := hG.below h.pr.bel hG.2
theorem StepS.lift {f : FuncId} {args : Array Value} (R : Ending → Prop) {n' : Nat} {m' : DM} (h : StepS w w1 V P a r s kv n m k mr)
    (hc : ∀ P', Held w V P' a n m → Calls Tryz.prog f args V fun e w' => R e ∧ Held w w' P' a n' m' ∧ Same P' V w') : Calls Tryz.prog f args V fun e w' => R e ∧ StepS w w1 w' P a r s kv n' m' k mr :=
  (h.pr.lift R hc).mono fun _ _ hp => ⟨hp.1, h.step hp.2.1 hp.2.2⟩
theorem StepS.lift2 {f : FuncId} {args : Array Value} (R : Ending → Prop) {k' : Nat} {mr' : DM} (h : StepS w w1 V P a r s kv n m k mr)
    (hc : ∀ S, (∀ x, S x → w.heap.size ≤ x) → RefAt V r k mr S → Calls Tryz.prog f args V fun e w' => R e ∧ RefPost r k' mr' S V w') : Calls Tryz.prog f args V fun e w' => R e ∧ StepS w w1 w' P a r s kv n m k' mr' :=
  (h.pr.lift2 R (fun S hS => hc S (fun x hx => (hS x hx).1))).mono fun _ _ hp => ⟨hp.1, h.step hp.2.1 hp.2.2⟩
end
theorem held_operation {w w1 : World} {P : Nat → Prop} {a n : Nat} {m : DM} (h : Held w w1 P a n m) (s : StepM) (kv : Value) (hs : s.Fits) (hn : n + 1 ≤ 8000000000000) (hnr : n * m.room ≤ 4611686018427387904) :
    Calls Tryz.prog 37 #[.pointer (some ⟨a, 0, none⟩), .agg (s.cells kv)] w1 fun e w' => e = .returned (errE (m.op s.call).2) ∧ Held w w' P a (n + 1) (m.op s.call).1 ∧ Same P w1 w' := by
  obtain ⟨S, h1, h2, h3, h4⟩ := h
  exact (operation_any h1 s kv (Nat.le_trans hs.2.2.2.1 (by omega)) (Nat.le_trans hs.2.2.2.2.1 (by omega)) hn hnr).mono fun e w' hp => Held.call h2 h3 h4 hp
end Go.Proofs.YtlcompihcmhbiaaGreatDoor
/- (pair).step: an operation. Its flow blocks are printed by wip/g8.py. -/
namespace Go.Proofs.YtlcompihcmhbiaaGreatDoor
open Go Go.RowKit Go.Maps Go.Shelf Go.WideAt Go.WideShapes
section
variable {w w1 : World} {P : Nat → Prop} {a r n : Nat} {s : StepM} {kv : Value} {m M1 : DM}
/-- What holds within the region that calls the reference's operation. -/
def StepD (w w1 : World) (P : Nat → Prop) (a r n : Nat) (s : StepM) (kv : Value) (m M1 : DM) (L : Nat → Bool) (W : World) : Prop :=
  StepS w w1 W P a r s kv (n + 1) M1 (bif L 7 then n + 1 else n) (bif L 7 then M1 else m)
theorem StepD.upd {L : Nat → Bool} {W : World} (h : StepD w w1 P a r n s kv m M1 L W) (i : Nat) (hi : i ≠ 7) : StepD w w1 P a r n s kv m M1 (updL L i) W := by
  have e : updL L i 7 = L 7 := by
    unfold updL
    rw [show ((7 : Nat) == i) = false from beq_eq_false_iff_ne.2 (fun e => hi e.symm), Bool.or_false]
  unfold StepD
  rw [e]
  exact h
theorem StepD.below {L : Nat → Bool} {W W' : World} (h : StepD w w1 P a r n s kv m M1 L W) (hb : Below W.heap.size W W') : StepD w w1 P a r n s kv m M1 L W' := StepS.below h hb
theorem StepD.off {L : Nat → Bool} {W : World} (h : StepD w w1 P a r n s kv m M1 L W) (hL : L 7 = false) : StepS w w1 W P a r s kv (n + 1) M1 n m := by
  unfold StepD at h
  rw [hL] at h
  exact h
theorem StepD.on {L : Nat → Bool} {W : World} (h : StepS w w1 W P a r s kv (n + 1) M1 (n + 1) M1) : StepD w w1 P a r n s kv m M1 (updL L 7) W := by
  have e : updL L 7 7 = true := by unfold updL; simp
  unfold StepD
  rw [e]
  exact h
theorem StepD.fin {L : Nat → Bool} {W : World} (h : StepD w w1 P a r n s kv m M1 L W) (hL : L 7 = true) : StepS w w1 W P a r s kv (n + 1) M1 (n + 1) M1 := by
  unfold StepD at h
  rw [hL] at h
  exact h
end
set_option maxHeartbeats 6400000 in
set_option maxRecDepth 100000 in
theorem step_op1 {w w1 : World} {P : Nat → Prop} {a r n : Nat} {m : DM} (h : Pair w w1 P a n m r n m) (hG : ErrT w) (s : StepM) (kp : Option Addr) (kl kc : Nat) (hF : s.Fits) (hn : n + 1 ≤ 20000000) (hact : s.act = 1) :
    Calls Tryz.prog 20 #[.agg #[.pointer (some ⟨a, 0, none⟩), .pointer (some ⟨r, 0, none⟩)], .agg (s.cells (.slice kp kl kc))] w1 fun e w' => e = .returned (.bool true) ∧ Pair w w' P a (n + 1) (m.op s.call).1 r (n + 1) (m.op s.call).1 ∧ Same P w1 w' := by
  have hst := StepS.start h s (.slice kp kl kc)
  have hroom := h.ok.room
  have hnr : n * m.room ≤ 4611686018427387904 := Nat.le_trans (Nat.mul_le_mul (show n ≤ 20000000 by omega) hroom) (by decide)
  have hop := op_in m s.call
  have hcall := named_call s
  have hck : 1 ≤ s.named.kind ∧ s.named.kind ≤ 6 ∧ s.named.file = 0 := by
    unfold StepM.named
    split <;> exact ⟨by show 1 ≤ s.act; omega, by show s.act ≤ 6; omega, rfl⟩
  obtain ⟨x, hx⟩ : ∃ x, (m.op s.call).2 = x := ⟨_, rfl⟩
  obtain ⟨M1, hM1⟩ : ∃ M1, (m.op s.call).1 = M1 := ⟨_, rfl⟩
  rw [hx] at hop
  rw [hM1]
  have hcp := hst.lift (f := 37) (args := #[.pointer (some ⟨a, 0, none⟩), .agg (s.cells (.slice kp kl kc))]) (fun e => e = .returned (errE x)) (n' := n + 1) (m' := M1) (fun P' hh => by
    have ho := held_operation hh s (.slice kp kl kc) hF (by omega) hnr
    rw [hx, hM1] at ho
    exact ho)
  have HC0 := Lib.hid hcp
  have HX := Lib.hid hx
  have HM := Lib.hid hM1
  have HOP := Lib.hid hop
  have HCALL := Lib.hid hcall
  have HCK := Lib.hid hck
  have HNR := Lib.hid hnr
  have HF := Lib.hid hF
  have HG := Lib.hid hG
  obtain ⟨c0, c1⟩ := hst.cellP
  obtain ⟨d0, d1, d2, d3, d4, d5⟩ := hst.cellS
  clear hcp hst hx hM1 hop hcall hck hnr hroom hF hG h
  obtain ⟨act, who, name, data, num, keep⟩ := s
  have hact : act = 1 := hact
  subst hact
  simp only at d0 d1 d2 d3 d4 d5
  show Calls _ _ #[_, .agg #[.int .i64 1, .int .i64 who, .string name, .string data, .int .i64 num, .slice kp kl kc]] w1 _
  unfold boxP StepM.cells at c0 c1 d0 d1 d2 d3 d4 d5
  have HC1 := Lib.hid (show Calls Tryz.prog 37 #[.pointer (some ⟨a, 0, none⟩), .agg #[.int .i64 1, .int .i64 who, .string name, .string data, .int .i64 num, .slice kp kl kc]] ((w1.alloc (.cells #[.pointer (some ⟨a, 0, none⟩), .pointer (some ⟨r, 0, none⟩)] 58)).alloc (.cells #[.int .i64 1, .int .i64 who, .string name, .string data, .int .i64 num, .slice kp kl kc] 36)) _ from HC0.out)
  clear HC0
  go_enter Tryz.func20, Tryz.ntmps20
  go_wp2_with fail
  refine HC1.out.mono ?_
  rintro e w3 ⟨rfl, hS3⟩
  clear c0 c1 d0 d1 d2 d3 d4 d5
  go_wp2_with fail
  have hI0 : StepD w w1 P a r n ⟨1, who, name, data, num, keep⟩ (.slice kp kl kc) m M1 (fun _ => false) w3.drew := hS3.drews 1
  refine wp_region_flowG (fun _ : Unit => [errE x, .pointer (some ⟨w1.heap.size, 1, none⟩), .pointer (some ⟨r, 0, none⟩), .agg #[.int .i64 1, .int .i64 who, .string name, .string data, .int .i64 num, .slice kp kl kc], .agg (ropCl (StepM.named ⟨1, who, name, data, num, keep⟩)), .pointer (some ⟨w1.heap.size + 1, 3, none⟩), .string data, .int .i64 x, .bool true, .bool true]) (fun L _ W => StepD w w1 P a r n ⟨1, who, name, data, num, keep⟩ (.slice kp kl kc) m M1 L W)
    [[], [], [1], [], [3], [], [5], [2, 4, 6, 4], [0, 7, 7], [8, 8, 0, 1, 2, 3, 4, 5, 6, 7, 8]] 181 () mixedD rfl (by kernel_rfl) (fun _ => rfl) hI0 ?_ ?_
  · refine ⟨?_, ?_, ?_, ?_, ?_, ?_, ?_, ?_, ?_, ?_, rfl⟩
    all_goals intro L γ W ev hL hd hW hc hf hg he h0
    · have e5 : ev (.tmp 5) = errE x := h0 5 rfl
      clear he h0 hc hf hg
      exact .inl ⟨rfl, .inl ⟨_, W, (by go_simp <;> rfl), .still (hW.upd 0 (by decide)) rfl⟩⟩
    · have e2 : ev (.tmp 2) = .pointer (some ⟨w1.heap.size, 0, none⟩) := h0 2 rfl
      clear he h0 hc hf hg
      exact .inl ⟨rfl, .inl ⟨_, W, (by go_simp <;> rfl), .still (hW.upd 1 (by decide)) rfl⟩⟩
    · have e32 : ev (.tmp 32) = .pointer (some ⟨w1.heap.size, 1, none⟩) := he 1 (by decide) _ 32 rfl rfl
      have c := (StepS.cellP hW).2
      clear he h0 hc hf hg
      exact .inl ⟨rfl, .inl ⟨_, W, (by go_simp <;> rfl), .still (hW.upd 2 (by decide)) rfl⟩⟩
    · have e3 : ev (.tmp 3) = .pointer (some ⟨w1.heap.size + 1, 0, none⟩) := h0 3 rfl
      obtain ⟨d0, d1, d2, d3, d4, d5⟩ := StepS.cellS hW
      clear he h0 hc hf hg
      exact .inl ⟨rfl, .inl ⟨_, W, (by go_simp <;> rfl), .still (hW.upd 3 (by decide)) rfl⟩⟩
    · have e34 : ev (.tmp 34) = .agg #[.int .i64 1, .int .i64 who, .string name, .string data, .int .i64 num, .slice kp kl kc] := he 3 (by decide) _ 34 rfl rfl
      clear he h0 hc hg
      refine .inl ⟨rfl, .inr (.inr ⟨51, #[.agg #[.int .i64 1, .int .i64 who, .string name, .string data, .int .i64 num, .slice kp kl kc]], W, (by have hff := hf 51; clear hf; go_simp <;> rfl), ?_⟩)⟩
      refine (named_any ⟨1, who, name, data, num, keep⟩ (.slice kp kl kc) W).mono ?_
      rintro e w4 ⟨rfl, hb⟩
      exact ⟨_, rfl, .still ((hW.below hb).upd 4 (by decide)) rfl⟩
    · have e3 : ev (.tmp 3) = .pointer (some ⟨w1.heap.size + 1, 0, none⟩) := h0 3 rfl
      clear he h0 hc hf hg
      exact .inl ⟨rfl, .inl ⟨_, W, (by go_simp <;> rfl), .still (hW.upd 5 (by decide)) rfl⟩⟩
    · have e36 : ev (.tmp 36) = .pointer (some ⟨w1.heap.size + 1, 3, none⟩) := he 5 (by decide) _ 36 rfl rfl
      obtain ⟨d0, d1, d2, d3, d4, d5⟩ := StepS.cellS hW
      clear he h0 hc hf hg
      exact .inl ⟨rfl, .inl ⟨_, W, (by go_simp <;> rfl), .still (hW.upd 6 (by decide)) rfl⟩⟩
    · have e33 : ev (.tmp 33) = .pointer (some ⟨r, 0, none⟩) := he 2 (by decide) _ 33 rfl rfl
      have e35 : ev (.tmp 35) = .agg (ropCl (StepM.named ⟨1, who, name, data, num, keep⟩)) := he 4 (by decide) _ 35 rfl rfl
      have e37 : ev (.tmp 37) = .string data := he 6 (by decide) _ 37 rfl rfl
      clear he h0 hc hg
      have hS := StepD.off hW hL
      refine .inl ⟨rfl, .inr (.inr ⟨50, #[.pointer (some ⟨r, 0, none⟩), .agg (ropCl (StepM.named ⟨1, who, name, data, num, keep⟩)), .string data], W, (by have hff := hf 50; clear hf; go_simp <;> rfl), ?_⟩)⟩
      refine (hS.lift2 (fun e => e = .returned (.int .i64 x)) (fun S hS2 hR => by
        have hd := refDo_any hR (StepM.named ⟨1, who, name, data, num, keep⟩) data HCK.out.1 HCK.out.2.1 HNR.out (by omega) (Nat.le_trans HF.out.2.2.2.2.1 (by decide)) (by rw [HCK.out.2.2]; decide)
        rw [HCALL.out, HX.out, HM.out] at hd
        exact hd)).mono ?_
      rintro e w4 ⟨rfl, hS4⟩
      exact ⟨_, rfl, .still (StepD.on hS4) rfl⟩
    · have e31 : ev (.tmp 31) = errE x := he 0 (by decide) _ 31 rfl rfl
      have e38 : ev (.tmp 38) = .int .i64 x := he 7 (by decide) _ 38 rfl rfl
      clear he h0 hc hg
      refine .inl ⟨rfl, .inr (.inr ⟨25, #[errE x, .int .i64 x], W, (by have hff := hf 25; clear hf; go_simp <;> rfl), ?_⟩)⟩
      refine (plain_E x HOP.out x W (StepS.err hW HG.out)).mono ?_
      rintro e w4 ⟨rfl, hb⟩
      exact ⟨_, rfl, .still ((hW.below hb).upd 8 (by decide)) (by rw [beq_self_eq_true]; rfl)⟩
    · have e39 : ev (.tmp 39) = .bool true := he 8 (by decide) _ 39 rfl rfl
      clear he h0 hc hf hg
      exact .inl ⟨rfl, .inl ⟨_, W, (by go_simp <;> rfl), .still (hW.upd 9 (by decide)) rfl⟩⟩
  intro _ L W hL hW
  simp only [putAll, Act.put, List.setIfInBounds_toArray, List.set_cons_succ, List.set_cons_zero]
  have hS4 := StepD.fin hW (hL 7 (by decide))
  clear hL hI0 hW hS3
  go_wp2_with fail
  go_ret
  exact ⟨rfl, hS4.done⟩
set_option maxHeartbeats 6400000 in
set_option maxRecDepth 100000 in
theorem step_op2 {w w1 : World} {P : Nat → Prop} {a r n : Nat} {m : DM} (h : Pair w w1 P a n m r n m) (hG : ErrT w) (s : StepM) (kp : Option Addr) (kl kc : Nat) (hF : s.Fits) (hn : n + 1 ≤ 20000000) (hact : s.act = 2) :
    Calls Tryz.prog 20 #[.agg #[.pointer (some ⟨a, 0, none⟩), .pointer (some ⟨r, 0, none⟩)], .agg (s.cells (.slice kp kl kc))] w1 fun e w' => e = .returned (.bool true) ∧ Pair w w' P a (n + 1) (m.op s.call).1 r (n + 1) (m.op s.call).1 ∧ Same P w1 w' := by
  have hst := StepS.start h s (.slice kp kl kc)
  have hroom := h.ok.room
  have hnr : n * m.room ≤ 4611686018427387904 := Nat.le_trans (Nat.mul_le_mul (show n ≤ 20000000 by omega) hroom) (by decide)
  have hop := op_in m s.call
  have hcall := named_call s
  have hck : 1 ≤ s.named.kind ∧ s.named.kind ≤ 6 ∧ s.named.file = 0 := by
    unfold StepM.named
    split <;> exact ⟨by show 1 ≤ s.act; omega, by show s.act ≤ 6; omega, rfl⟩
  obtain ⟨x, hx⟩ : ∃ x, (m.op s.call).2 = x := ⟨_, rfl⟩
  obtain ⟨M1, hM1⟩ : ∃ M1, (m.op s.call).1 = M1 := ⟨_, rfl⟩
  rw [hx] at hop
  rw [hM1]
  have hcp := hst.lift (f := 37) (args := #[.pointer (some ⟨a, 0, none⟩), .agg (s.cells (.slice kp kl kc))]) (fun e => e = .returned (errE x)) (n' := n + 1) (m' := M1) (fun P' hh => by
    have ho := held_operation hh s (.slice kp kl kc) hF (by omega) hnr
    rw [hx, hM1] at ho
    exact ho)
  have HC0 := Lib.hid hcp
  have HX := Lib.hid hx
  have HM := Lib.hid hM1
  have HOP := Lib.hid hop
  have HCALL := Lib.hid hcall
  have HCK := Lib.hid hck
  have HNR := Lib.hid hnr
  have HF := Lib.hid hF
  have HG := Lib.hid hG
  obtain ⟨c0, c1⟩ := hst.cellP
  obtain ⟨d0, d1, d2, d3, d4, d5⟩ := hst.cellS
  clear hcp hst hx hM1 hop hcall hck hnr hroom hF hG h
  obtain ⟨act, who, name, data, num, keep⟩ := s
  have hact : act = 2 := hact
  subst hact
  simp only at d0 d1 d2 d3 d4 d5
  show Calls _ _ #[_, .agg #[.int .i64 2, .int .i64 who, .string name, .string data, .int .i64 num, .slice kp kl kc]] w1 _
  unfold boxP StepM.cells at c0 c1 d0 d1 d2 d3 d4 d5
  have HC1 := Lib.hid (show Calls Tryz.prog 37 #[.pointer (some ⟨a, 0, none⟩), .agg #[.int .i64 2, .int .i64 who, .string name, .string data, .int .i64 num, .slice kp kl kc]] ((w1.alloc (.cells #[.pointer (some ⟨a, 0, none⟩), .pointer (some ⟨r, 0, none⟩)] 58)).alloc (.cells #[.int .i64 2, .int .i64 who, .string name, .string data, .int .i64 num, .slice kp kl kc] 36)) _ from HC0.out)
  clear HC0
  go_enter Tryz.func20, Tryz.ntmps20
  go_wp2_with fail
  refine HC1.out.mono ?_
  rintro e w3 ⟨rfl, hS3⟩
  clear c0 c1 d0 d1 d2 d3 d4 d5
  go_wp2_with fail
  have hI0 : StepD w w1 P a r n ⟨2, who, name, data, num, keep⟩ (.slice kp kl kc) m M1 (fun _ => false) w3.drew := hS3.drews 1
  refine wp_region_flowG (fun _ : Unit => [errE x, .pointer (some ⟨w1.heap.size, 1, none⟩), .pointer (some ⟨r, 0, none⟩), .agg #[.int .i64 2, .int .i64 who, .string name, .string data, .int .i64 num, .slice kp kl kc], .agg (ropCl (StepM.named ⟨2, who, name, data, num, keep⟩)), .pointer (some ⟨w1.heap.size + 1, 3, none⟩), .string data, .int .i64 x, .bool true, .bool true]) (fun L _ W => StepD w w1 P a r n ⟨2, who, name, data, num, keep⟩ (.slice kp kl kc) m M1 L W)
    [[], [], [1], [], [3], [], [5], [2, 4, 6, 4], [0, 7, 7], [8, 8, 0, 1, 2, 3, 4, 5, 6, 7, 8]] 181 () mixedD rfl (by kernel_rfl) (fun _ => rfl) hI0 ?_ ?_
  · refine ⟨?_, ?_, ?_, ?_, ?_, ?_, ?_, ?_, ?_, ?_, rfl⟩
    all_goals intro L γ W ev hL hd hW hc hf hg he h0
    · have e5 : ev (.tmp 5) = errE x := h0 5 rfl
      clear he h0 hc hf hg
      exact .inl ⟨rfl, .inl ⟨_, W, (by go_simp <;> rfl), .still (hW.upd 0 (by decide)) rfl⟩⟩
    · have e2 : ev (.tmp 2) = .pointer (some ⟨w1.heap.size, 0, none⟩) := h0 2 rfl
      clear he h0 hc hf hg
      exact .inl ⟨rfl, .inl ⟨_, W, (by go_simp <;> rfl), .still (hW.upd 1 (by decide)) rfl⟩⟩
    · have e32 : ev (.tmp 32) = .pointer (some ⟨w1.heap.size, 1, none⟩) := he 1 (by decide) _ 32 rfl rfl
      have c := (StepS.cellP hW).2
      clear he h0 hc hf hg
      exact .inl ⟨rfl, .inl ⟨_, W, (by go_simp <;> rfl), .still (hW.upd 2 (by decide)) rfl⟩⟩
    · have e3 : ev (.tmp 3) = .pointer (some ⟨w1.heap.size + 1, 0, none⟩) := h0 3 rfl
      obtain ⟨d0, d1, d2, d3, d4, d5⟩ := StepS.cellS hW
      clear he h0 hc hf hg
      exact .inl ⟨rfl, .inl ⟨_, W, (by go_simp <;> rfl), .still (hW.upd 3 (by decide)) rfl⟩⟩
    · have e34 : ev (.tmp 34) = .agg #[.int .i64 2, .int .i64 who, .string name, .string data, .int .i64 num, .slice kp kl kc] := he 3 (by decide) _ 34 rfl rfl
      clear he h0 hc hg
      refine .inl ⟨rfl, .inr (.inr ⟨51, #[.agg #[.int .i64 2, .int .i64 who, .string name, .string data, .int .i64 num, .slice kp kl kc]], W, (by have hff := hf 51; clear hf; go_simp <;> rfl), ?_⟩)⟩
      refine (named_any ⟨2, who, name, data, num, keep⟩ (.slice kp kl kc) W).mono ?_
      rintro e w4 ⟨rfl, hb⟩
      exact ⟨_, rfl, .still ((hW.below hb).upd 4 (by decide)) rfl⟩
    · have e3 : ev (.tmp 3) = .pointer (some ⟨w1.heap.size + 1, 0, none⟩) := h0 3 rfl
      clear he h0 hc hf hg
      exact .inl ⟨rfl, .inl ⟨_, W, (by go_simp <;> rfl), .still (hW.upd 5 (by decide)) rfl⟩⟩
    · have e36 : ev (.tmp 36) = .pointer (some ⟨w1.heap.size + 1, 3, none⟩) := he 5 (by decide) _ 36 rfl rfl
      obtain ⟨d0, d1, d2, d3, d4, d5⟩ := StepS.cellS hW
      clear he h0 hc hf hg
      exact .inl ⟨rfl, .inl ⟨_, W, (by go_simp <;> rfl), .still (hW.upd 6 (by decide)) rfl⟩⟩
    · have e33 : ev (.tmp 33) = .pointer (some ⟨r, 0, none⟩) := he 2 (by decide) _ 33 rfl rfl
      have e35 : ev (.tmp 35) = .agg (ropCl (StepM.named ⟨2, who, name, data, num, keep⟩)) := he 4 (by decide) _ 35 rfl rfl
      have e37 : ev (.tmp 37) = .string data := he 6 (by decide) _ 37 rfl rfl
      clear he h0 hc hg
      have hS := StepD.off hW hL
      refine .inl ⟨rfl, .inr (.inr ⟨50, #[.pointer (some ⟨r, 0, none⟩), .agg (ropCl (StepM.named ⟨2, who, name, data, num, keep⟩)), .string data], W, (by have hff := hf 50; clear hf; go_simp <;> rfl), ?_⟩)⟩
      refine (hS.lift2 (fun e => e = .returned (.int .i64 x)) (fun S hS2 hR => by
        have hd := refDo_any hR (StepM.named ⟨2, who, name, data, num, keep⟩) data HCK.out.1 HCK.out.2.1 HNR.out (by omega) (Nat.le_trans HF.out.2.2.2.2.1 (by decide)) (by rw [HCK.out.2.2]; decide)
        rw [HCALL.out, HX.out, HM.out] at hd
        exact hd)).mono ?_
      rintro e w4 ⟨rfl, hS4⟩
      exact ⟨_, rfl, .still (StepD.on hS4) rfl⟩
    · have e31 : ev (.tmp 31) = errE x := he 0 (by decide) _ 31 rfl rfl
      have e38 : ev (.tmp 38) = .int .i64 x := he 7 (by decide) _ 38 rfl rfl
      clear he h0 hc hg
      refine .inl ⟨rfl, .inr (.inr ⟨25, #[errE x, .int .i64 x], W, (by have hff := hf 25; clear hf; go_simp <;> rfl), ?_⟩)⟩
      refine (plain_E x HOP.out x W (StepS.err hW HG.out)).mono ?_
      rintro e w4 ⟨rfl, hb⟩
      exact ⟨_, rfl, .still ((hW.below hb).upd 8 (by decide)) (by rw [beq_self_eq_true]; rfl)⟩
    · have e39 : ev (.tmp 39) = .bool true := he 8 (by decide) _ 39 rfl rfl
      clear he h0 hc hf hg
      exact .inl ⟨rfl, .inl ⟨_, W, (by go_simp <;> rfl), .still (hW.upd 9 (by decide)) rfl⟩⟩
  intro _ L W hL hW
  simp only [putAll, Act.put, List.setIfInBounds_toArray, List.set_cons_succ, List.set_cons_zero]
  have hS4 := StepD.fin hW (hL 7 (by decide))
  clear hL hI0 hW hS3
  go_wp2_with fail
  go_ret
  exact ⟨rfl, hS4.done⟩
set_option maxHeartbeats 6400000 in
set_option maxRecDepth 100000 in
theorem step_op3 {w w1 : World} {P : Nat → Prop} {a r n : Nat} {m : DM} (h : Pair w w1 P a n m r n m) (hG : ErrT w) (s : StepM) (kp : Option Addr) (kl kc : Nat) (hF : s.Fits) (hn : n + 1 ≤ 20000000) (hact : s.act = 3) :
    Calls Tryz.prog 20 #[.agg #[.pointer (some ⟨a, 0, none⟩), .pointer (some ⟨r, 0, none⟩)], .agg (s.cells (.slice kp kl kc))] w1 fun e w' => e = .returned (.bool true) ∧ Pair w w' P a (n + 1) (m.op s.call).1 r (n + 1) (m.op s.call).1 ∧ Same P w1 w' := by
  have hst := StepS.start h s (.slice kp kl kc)
  have hroom := h.ok.room
  have hnr : n * m.room ≤ 4611686018427387904 := Nat.le_trans (Nat.mul_le_mul (show n ≤ 20000000 by omega) hroom) (by decide)
  have hop := op_in m s.call
  have hcall := named_call s
  have hck : 1 ≤ s.named.kind ∧ s.named.kind ≤ 6 ∧ s.named.file = 0 := by
    unfold StepM.named
    split <;> exact ⟨by show 1 ≤ s.act; omega, by show s.act ≤ 6; omega, rfl⟩
  obtain ⟨x, hx⟩ : ∃ x, (m.op s.call).2 = x := ⟨_, rfl⟩
  obtain ⟨M1, hM1⟩ : ∃ M1, (m.op s.call).1 = M1 := ⟨_, rfl⟩
  rw [hx] at hop
  rw [hM1]
  have hcp := hst.lift (f := 37) (args := #[.pointer (some ⟨a, 0, none⟩), .agg (s.cells (.slice kp kl kc))]) (fun e => e = .returned (errE x)) (n' := n + 1) (m' := M1) (fun P' hh => by
    have ho := held_operation hh s (.slice kp kl kc) hF (by omega) hnr
    rw [hx, hM1] at ho
    exact ho)
  have HC0 := Lib.hid hcp
  have HX := Lib.hid hx
  have HM := Lib.hid hM1
  have HOP := Lib.hid hop
  have HCALL := Lib.hid hcall
  have HCK := Lib.hid hck
  have HNR := Lib.hid hnr
  have HF := Lib.hid hF
  have HG := Lib.hid hG
  obtain ⟨c0, c1⟩ := hst.cellP
  obtain ⟨d0, d1, d2, d3, d4, d5⟩ := hst.cellS
  clear hcp hst hx hM1 hop hcall hck hnr hroom hF hG h
  obtain ⟨act, who, name, data, num, keep⟩ := s
  have hact : act = 3 := hact
  subst hact
  simp only at d0 d1 d2 d3 d4 d5
  show Calls _ _ #[_, .agg #[.int .i64 3, .int .i64 who, .string name, .string data, .int .i64 num, .slice kp kl kc]] w1 _
  unfold boxP StepM.cells at c0 c1 d0 d1 d2 d3 d4 d5
  have HC1 := Lib.hid (show Calls Tryz.prog 37 #[.pointer (some ⟨a, 0, none⟩), .agg #[.int .i64 3, .int .i64 who, .string name, .string data, .int .i64 num, .slice kp kl kc]] ((w1.alloc (.cells #[.pointer (some ⟨a, 0, none⟩), .pointer (some ⟨r, 0, none⟩)] 58)).alloc (.cells #[.int .i64 3, .int .i64 who, .string name, .string data, .int .i64 num, .slice kp kl kc] 36)) _ from HC0.out)
  clear HC0
  go_enter Tryz.func20, Tryz.ntmps20
  go_wp2_with fail
  refine HC1.out.mono ?_
  rintro e w3 ⟨rfl, hS3⟩
  clear c0 c1 d0 d1 d2 d3 d4 d5
  go_wp2_with fail
  have hI0 : StepD w w1 P a r n ⟨3, who, name, data, num, keep⟩ (.slice kp kl kc) m M1 (fun _ => false) w3.drew := hS3.drews 1
  refine wp_region_flowG (fun _ : Unit => [errE x, .pointer (some ⟨w1.heap.size, 1, none⟩), .pointer (some ⟨r, 0, none⟩), .agg #[.int .i64 3, .int .i64 who, .string name, .string data, .int .i64 num, .slice kp kl kc], .agg (ropCl (StepM.named ⟨3, who, name, data, num, keep⟩)), .pointer (some ⟨w1.heap.size + 1, 3, none⟩), .string data, .int .i64 x, .bool true, .bool true]) (fun L _ W => StepD w w1 P a r n ⟨3, who, name, data, num, keep⟩ (.slice kp kl kc) m M1 L W)
    [[], [], [1], [], [3], [], [5], [2, 4, 6, 4], [0, 7, 7], [8, 8, 0, 1, 2, 3, 4, 5, 6, 7, 8]] 181 () mixedD rfl (by kernel_rfl) (fun _ => rfl) hI0 ?_ ?_
  · refine ⟨?_, ?_, ?_, ?_, ?_, ?_, ?_, ?_, ?_, ?_, rfl⟩
    all_goals intro L γ W ev hL hd hW hc hf hg he h0
    · have e5 : ev (.tmp 5) = errE x := h0 5 rfl
      clear he h0 hc hf hg
      exact .inl ⟨rfl, .inl ⟨_, W, (by go_simp <;> rfl), .still (hW.upd 0 (by decide)) rfl⟩⟩
    · have e2 : ev (.tmp 2) = .pointer (some ⟨w1.heap.size, 0, none⟩) := h0 2 rfl
      clear he h0 hc hf hg
      exact .inl ⟨rfl, .inl ⟨_, W, (by go_simp <;> rfl), .still (hW.upd 1 (by decide)) rfl⟩⟩
    · have e32 : ev (.tmp 32) = .pointer (some ⟨w1.heap.size, 1, none⟩) := he 1 (by decide) _ 32 rfl rfl
      have c := (StepS.cellP hW).2
      clear he h0 hc hf hg
      exact .inl ⟨rfl, .inl ⟨_, W, (by go_simp <;> rfl), .still (hW.upd 2 (by decide)) rfl⟩⟩
    · have e3 : ev (.tmp 3) = .pointer (some ⟨w1.heap.size + 1, 0, none⟩) := h0 3 rfl
      obtain ⟨d0, d1, d2, d3, d4, d5⟩ := StepS.cellS hW
      clear he h0 hc hf hg
      exact .inl ⟨rfl, .inl ⟨_, W, (by go_simp <;> rfl), .still (hW.upd 3 (by decide)) rfl⟩⟩
    · have e34 : ev (.tmp 34) = .agg #[.int .i64 3, .int .i64 who, .string name, .string data, .int .i64 num, .slice kp kl kc] := he 3 (by decide) _ 34 rfl rfl
      clear he h0 hc hg
      refine .inl ⟨rfl, .inr (.inr ⟨51, #[.agg #[.int .i64 3, .int .i64 who, .string name, .string data, .int .i64 num, .slice kp kl kc]], W, (by have hff := hf 51; clear hf; go_simp <;> rfl), ?_⟩)⟩
      refine (named_any ⟨3, who, name, data, num, keep⟩ (.slice kp kl kc) W).mono ?_
      rintro e w4 ⟨rfl, hb⟩
      exact ⟨_, rfl, .still ((hW.below hb).upd 4 (by decide)) rfl⟩
    · have e3 : ev (.tmp 3) = .pointer (some ⟨w1.heap.size + 1, 0, none⟩) := h0 3 rfl
      clear he h0 hc hf hg
      exact .inl ⟨rfl, .inl ⟨_, W, (by go_simp <;> rfl), .still (hW.upd 5 (by decide)) rfl⟩⟩
    · have e36 : ev (.tmp 36) = .pointer (some ⟨w1.heap.size + 1, 3, none⟩) := he 5 (by decide) _ 36 rfl rfl
      obtain ⟨d0, d1, d2, d3, d4, d5⟩ := StepS.cellS hW
      clear he h0 hc hf hg
      exact .inl ⟨rfl, .inl ⟨_, W, (by go_simp <;> rfl), .still (hW.upd 6 (by decide)) rfl⟩⟩
    · have e33 : ev (.tmp 33) = .pointer (some ⟨r, 0, none⟩) := he 2 (by decide) _ 33 rfl rfl
      have e35 : ev (.tmp 35) = .agg (ropCl (StepM.named ⟨3, who, name, data, num, keep⟩)) := he 4 (by decide) _ 35 rfl rfl
      have e37 : ev (.tmp 37) = .string data := he 6 (by decide) _ 37 rfl rfl
      clear he h0 hc hg
      have hS := StepD.off hW hL
      refine .inl ⟨rfl, .inr (.inr ⟨50, #[.pointer (some ⟨r, 0, none⟩), .agg (ropCl (StepM.named ⟨3, who, name, data, num, keep⟩)), .string data], W, (by have hff := hf 50; clear hf; go_simp <;> rfl), ?_⟩)⟩
      refine (hS.lift2 (fun e => e = .returned (.int .i64 x)) (fun S hS2 hR => by
        have hd := refDo_any hR (StepM.named ⟨3, who, name, data, num, keep⟩) data HCK.out.1 HCK.out.2.1 HNR.out (by omega) (Nat.le_trans HF.out.2.2.2.2.1 (by decide)) (by rw [HCK.out.2.2]; decide)
        rw [HCALL.out, HX.out, HM.out] at hd
        exact hd)).mono ?_
      rintro e w4 ⟨rfl, hS4⟩
      exact ⟨_, rfl, .still (StepD.on hS4) rfl⟩
    · have e31 : ev (.tmp 31) = errE x := he 0 (by decide) _ 31 rfl rfl
      have e38 : ev (.tmp 38) = .int .i64 x := he 7 (by decide) _ 38 rfl rfl
      clear he h0 hc hg
      refine .inl ⟨rfl, .inr (.inr ⟨25, #[errE x, .int .i64 x], W, (by have hff := hf 25; clear hf; go_simp <;> rfl), ?_⟩)⟩
      refine (plain_E x HOP.out x W (StepS.err hW HG.out)).mono ?_
      rintro e w4 ⟨rfl, hb⟩
      exact ⟨_, rfl, .still ((hW.below hb).upd 8 (by decide)) (by rw [beq_self_eq_true]; rfl)⟩
    · have e39 : ev (.tmp 39) = .bool true := he 8 (by decide) _ 39 rfl rfl
      clear he h0 hc hf hg
      exact .inl ⟨rfl, .inl ⟨_, W, (by go_simp <;> rfl), .still (hW.upd 9 (by decide)) rfl⟩⟩
  intro _ L W hL hW
  simp only [putAll, Act.put, List.setIfInBounds_toArray, List.set_cons_succ, List.set_cons_zero]
  have hS4 := StepD.fin hW (hL 7 (by decide))
  clear hL hI0 hW hS3
  go_wp2_with fail
  go_ret
  exact ⟨rfl, hS4.done⟩
set_option maxHeartbeats 6400000 in
set_option maxRecDepth 100000 in
theorem step_op4 {w w1 : World} {P : Nat → Prop} {a r n : Nat} {m : DM} (h : Pair w w1 P a n m r n m) (hG : ErrT w) (s : StepM) (kp : Option Addr) (kl kc : Nat) (hF : s.Fits) (hn : n + 1 ≤ 20000000) (hact : s.act = 4) :
    Calls Tryz.prog 20 #[.agg #[.pointer (some ⟨a, 0, none⟩), .pointer (some ⟨r, 0, none⟩)], .agg (s.cells (.slice kp kl kc))] w1 fun e w' => e = .returned (.bool true) ∧ Pair w w' P a (n + 1) (m.op s.call).1 r (n + 1) (m.op s.call).1 ∧ Same P w1 w' := by
  have hst := StepS.start h s (.slice kp kl kc)
  have hroom := h.ok.room
  have hnr : n * m.room ≤ 4611686018427387904 := Nat.le_trans (Nat.mul_le_mul (show n ≤ 20000000 by omega) hroom) (by decide)
  have hop := op_in m s.call
  have hcall := named_call s
  have hck : 1 ≤ s.named.kind ∧ s.named.kind ≤ 6 ∧ s.named.file = 0 := by
    unfold StepM.named
    split <;> exact ⟨by show 1 ≤ s.act; omega, by show s.act ≤ 6; omega, rfl⟩
  obtain ⟨x, hx⟩ : ∃ x, (m.op s.call).2 = x := ⟨_, rfl⟩
  obtain ⟨M1, hM1⟩ : ∃ M1, (m.op s.call).1 = M1 := ⟨_, rfl⟩
  rw [hx] at hop
  rw [hM1]
  have hcp := hst.lift (f := 37) (args := #[.pointer (some ⟨a, 0, none⟩), .agg (s.cells (.slice kp kl kc))]) (fun e => e = .returned (errE x)) (n' := n + 1) (m' := M1) (fun P' hh => by
    have ho := held_operation hh s (.slice kp kl kc) hF (by omega) hnr
    rw [hx, hM1] at ho
    exact ho)
  have HC0 := Lib.hid hcp
  have HX := Lib.hid hx
  have HM := Lib.hid hM1
  have HOP := Lib.hid hop
  have HCALL := Lib.hid hcall
  have HCK := Lib.hid hck
  have HNR := Lib.hid hnr
  have HF := Lib.hid hF
  have HG := Lib.hid hG
  obtain ⟨c0, c1⟩ := hst.cellP
  obtain ⟨d0, d1, d2, d3, d4, d5⟩ := hst.cellS
  clear hcp hst hx hM1 hop hcall hck hnr hroom hF hG h
  obtain ⟨act, who, name, data, num, keep⟩ := s
  have hact : act = 4 := hact
  subst hact
  simp only at d0 d1 d2 d3 d4 d5
  show Calls _ _ #[_, .agg #[.int .i64 4, .int .i64 who, .string name, .string data, .int .i64 num, .slice kp kl kc]] w1 _
  unfold boxP StepM.cells at c0 c1 d0 d1 d2 d3 d4 d5
  have HC1 := Lib.hid (show Calls Tryz.prog 37 #[.pointer (some ⟨a, 0, none⟩), .agg #[.int .i64 4, .int .i64 who, .string name, .string data, .int .i64 num, .slice kp kl kc]] ((w1.alloc (.cells #[.pointer (some ⟨a, 0, none⟩), .pointer (some ⟨r, 0, none⟩)] 58)).alloc (.cells #[.int .i64 4, .int .i64 who, .string name, .string data, .int .i64 num, .slice kp kl kc] 36)) _ from HC0.out)
  clear HC0
  go_enter Tryz.func20, Tryz.ntmps20
  go_wp2_with fail
  refine HC1.out.mono ?_
  rintro e w3 ⟨rfl, hS3⟩
  clear c0 c1 d0 d1 d2 d3 d4 d5
  go_wp2_with fail
  have hI0 : StepD w w1 P a r n ⟨4, who, name, data, num, keep⟩ (.slice kp kl kc) m M1 (fun _ => false) w3.drew := hS3.drews 1
  refine wp_region_flowG (fun _ : Unit => [errE x, .pointer (some ⟨w1.heap.size, 1, none⟩), .pointer (some ⟨r, 0, none⟩), .agg #[.int .i64 4, .int .i64 who, .string name, .string data, .int .i64 num, .slice kp kl kc], .agg (ropCl (StepM.named ⟨4, who, name, data, num, keep⟩)), .pointer (some ⟨w1.heap.size + 1, 3, none⟩), .string data, .int .i64 x, .bool true, .bool true]) (fun L _ W => StepD w w1 P a r n ⟨4, who, name, data, num, keep⟩ (.slice kp kl kc) m M1 L W)
    [[], [], [1], [], [3], [], [5], [2, 4, 6, 4], [0, 7, 7], [8, 8, 0, 1, 2, 3, 4, 5, 6, 7, 8]] 181 () mixedD rfl (by kernel_rfl) (fun _ => rfl) hI0 ?_ ?_
  · refine ⟨?_, ?_, ?_, ?_, ?_, ?_, ?_, ?_, ?_, ?_, rfl⟩
    all_goals intro L γ W ev hL hd hW hc hf hg he h0
    · have e5 : ev (.tmp 5) = errE x := h0 5 rfl
      clear he h0 hc hf hg
      exact .inl ⟨rfl, .inl ⟨_, W, (by go_simp <;> rfl), .still (hW.upd 0 (by decide)) rfl⟩⟩
    · have e2 : ev (.tmp 2) = .pointer (some ⟨w1.heap.size, 0, none⟩) := h0 2 rfl
      clear he h0 hc hf hg
      exact .inl ⟨rfl, .inl ⟨_, W, (by go_simp <;> rfl), .still (hW.upd 1 (by decide)) rfl⟩⟩
    · have e32 : ev (.tmp 32) = .pointer (some ⟨w1.heap.size, 1, none⟩) := he 1 (by decide) _ 32 rfl rfl
      have c := (StepS.cellP hW).2
      clear he h0 hc hf hg
      exact .inl ⟨rfl, .inl ⟨_, W, (by go_simp <;> rfl), .still (hW.upd 2 (by decide)) rfl⟩⟩
    · have e3 : ev (.tmp 3) = .pointer (some ⟨w1.heap.size + 1, 0, none⟩) := h0 3 rfl
      obtain ⟨d0, d1, d2, d3, d4, d5⟩ := StepS.cellS hW
      clear he h0 hc hf hg
      exact .inl ⟨rfl, .inl ⟨_, W, (by go_simp <;> rfl), .still (hW.upd 3 (by decide)) rfl⟩⟩
    · have e34 : ev (.tmp 34) = .agg #[.int .i64 4, .int .i64 who, .string name, .string data, .int .i64 num, .slice kp kl kc] := he 3 (by decide) _ 34 rfl rfl
      clear he h0 hc hg
      refine .inl ⟨rfl, .inr (.inr ⟨51, #[.agg #[.int .i64 4, .int .i64 who, .string name, .string data, .int .i64 num, .slice kp kl kc]], W, (by have hff := hf 51; clear hf; go_simp <;> rfl), ?_⟩)⟩
      refine (named_any ⟨4, who, name, data, num, keep⟩ (.slice kp kl kc) W).mono ?_
      rintro e w4 ⟨rfl, hb⟩
      exact ⟨_, rfl, .still ((hW.below hb).upd 4 (by decide)) rfl⟩
    · have e3 : ev (.tmp 3) = .pointer (some ⟨w1.heap.size + 1, 0, none⟩) := h0 3 rfl
      clear he h0 hc hf hg
      exact .inl ⟨rfl, .inl ⟨_, W, (by go_simp <;> rfl), .still (hW.upd 5 (by decide)) rfl⟩⟩
    · have e36 : ev (.tmp 36) = .pointer (some ⟨w1.heap.size + 1, 3, none⟩) := he 5 (by decide) _ 36 rfl rfl
      obtain ⟨d0, d1, d2, d3, d4, d5⟩ := StepS.cellS hW
      clear he h0 hc hf hg
      exact .inl ⟨rfl, .inl ⟨_, W, (by go_simp <;> rfl), .still (hW.upd 6 (by decide)) rfl⟩⟩
    · have e33 : ev (.tmp 33) = .pointer (some ⟨r, 0, none⟩) := he 2 (by decide) _ 33 rfl rfl
      have e35 : ev (.tmp 35) = .agg (ropCl (StepM.named ⟨4, who, name, data, num, keep⟩)) := he 4 (by decide) _ 35 rfl rfl
      have e37 : ev (.tmp 37) = .string data := he 6 (by decide) _ 37 rfl rfl
      clear he h0 hc hg
      have hS := StepD.off hW hL
      refine .inl ⟨rfl, .inr (.inr ⟨50, #[.pointer (some ⟨r, 0, none⟩), .agg (ropCl (StepM.named ⟨4, who, name, data, num, keep⟩)), .string data], W, (by have hff := hf 50; clear hf; go_simp <;> rfl), ?_⟩)⟩
      refine (hS.lift2 (fun e => e = .returned (.int .i64 x)) (fun S hS2 hR => by
        have hd := refDo_any hR (StepM.named ⟨4, who, name, data, num, keep⟩) data HCK.out.1 HCK.out.2.1 HNR.out (by omega) (Nat.le_trans HF.out.2.2.2.2.1 (by decide)) (by rw [HCK.out.2.2]; decide)
        rw [HCALL.out, HX.out, HM.out] at hd
        exact hd)).mono ?_
      rintro e w4 ⟨rfl, hS4⟩
      exact ⟨_, rfl, .still (StepD.on hS4) rfl⟩
    · have e31 : ev (.tmp 31) = errE x := he 0 (by decide) _ 31 rfl rfl
      have e38 : ev (.tmp 38) = .int .i64 x := he 7 (by decide) _ 38 rfl rfl
      clear he h0 hc hg
      refine .inl ⟨rfl, .inr (.inr ⟨25, #[errE x, .int .i64 x], W, (by have hff := hf 25; clear hf; go_simp <;> rfl), ?_⟩)⟩
      refine (plain_E x HOP.out x W (StepS.err hW HG.out)).mono ?_
      rintro e w4 ⟨rfl, hb⟩
      exact ⟨_, rfl, .still ((hW.below hb).upd 8 (by decide)) (by rw [beq_self_eq_true]; rfl)⟩
    · have e39 : ev (.tmp 39) = .bool true := he 8 (by decide) _ 39 rfl rfl
      clear he h0 hc hf hg
      exact .inl ⟨rfl, .inl ⟨_, W, (by go_simp <;> rfl), .still (hW.upd 9 (by decide)) rfl⟩⟩
  intro _ L W hL hW
  simp only [putAll, Act.put, List.setIfInBounds_toArray, List.set_cons_succ, List.set_cons_zero]
  have hS4 := StepD.fin hW (hL 7 (by decide))
  clear hL hI0 hW hS3
  go_wp2_with fail
  go_ret
  exact ⟨rfl, hS4.done⟩
set_option maxHeartbeats 6400000 in
set_option maxRecDepth 100000 in
theorem step_op5 {w w1 : World} {P : Nat → Prop} {a r n : Nat} {m : DM} (h : Pair w w1 P a n m r n m) (hG : ErrT w) (s : StepM) (kp : Option Addr) (kl kc : Nat) (hF : s.Fits) (hn : n + 1 ≤ 20000000) (hact : s.act = 5) :
    Calls Tryz.prog 20 #[.agg #[.pointer (some ⟨a, 0, none⟩), .pointer (some ⟨r, 0, none⟩)], .agg (s.cells (.slice kp kl kc))] w1 fun e w' => e = .returned (.bool true) ∧ Pair w w' P a (n + 1) (m.op s.call).1 r (n + 1) (m.op s.call).1 ∧ Same P w1 w' := by
  have hst := StepS.start h s (.slice kp kl kc)
  have hroom := h.ok.room
  have hnr : n * m.room ≤ 4611686018427387904 := Nat.le_trans (Nat.mul_le_mul (show n ≤ 20000000 by omega) hroom) (by decide)
  have hop := op_in m s.call
  have hcall := named_call s
  have hck : 1 ≤ s.named.kind ∧ s.named.kind ≤ 6 ∧ s.named.file = 0 := by
    unfold StepM.named
    split <;> exact ⟨by show 1 ≤ s.act; omega, by show s.act ≤ 6; omega, rfl⟩
  obtain ⟨x, hx⟩ : ∃ x, (m.op s.call).2 = x := ⟨_, rfl⟩
  obtain ⟨M1, hM1⟩ : ∃ M1, (m.op s.call).1 = M1 := ⟨_, rfl⟩
  rw [hx] at hop
  rw [hM1]
  have hcp := hst.lift (f := 37) (args := #[.pointer (some ⟨a, 0, none⟩), .agg (s.cells (.slice kp kl kc))]) (fun e => e = .returned (errE x)) (n' := n + 1) (m' := M1) (fun P' hh => by
    have ho := held_operation hh s (.slice kp kl kc) hF (by omega) hnr
    rw [hx, hM1] at ho
    exact ho)
  have HC0 := Lib.hid hcp
  have HX := Lib.hid hx
  have HM := Lib.hid hM1
  have HOP := Lib.hid hop
  have HCALL := Lib.hid hcall
  have HCK := Lib.hid hck
  have HNR := Lib.hid hnr
  have HF := Lib.hid hF
  have HG := Lib.hid hG
  obtain ⟨c0, c1⟩ := hst.cellP
  obtain ⟨d0, d1, d2, d3, d4, d5⟩ := hst.cellS
  clear hcp hst hx hM1 hop hcall hck hnr hroom hF hG h
  obtain ⟨act, who, name, data, num, keep⟩ := s
  have hact : act = 5 := hact
  subst hact
  simp only at d0 d1 d2 d3 d4 d5
  show Calls _ _ #[_, .agg #[.int .i64 5, .int .i64 who, .string name, .string data, .int .i64 num, .slice kp kl kc]] w1 _
  unfold boxP StepM.cells at c0 c1 d0 d1 d2 d3 d4 d5
  have HC1 := Lib.hid (show Calls Tryz.prog 37 #[.pointer (some ⟨a, 0, none⟩), .agg #[.int .i64 5, .int .i64 who, .string name, .string data, .int .i64 num, .slice kp kl kc]] ((w1.alloc (.cells #[.pointer (some ⟨a, 0, none⟩), .pointer (some ⟨r, 0, none⟩)] 58)).alloc (.cells #[.int .i64 5, .int .i64 who, .string name, .string data, .int .i64 num, .slice kp kl kc] 36)) _ from HC0.out)
  clear HC0
  go_enter Tryz.func20, Tryz.ntmps20
  go_wp2_with fail
  refine HC1.out.mono ?_
  rintro e w3 ⟨rfl, hS3⟩
  clear c0 c1 d0 d1 d2 d3 d4 d5
  go_wp2_with fail
  have hI0 : StepD w w1 P a r n ⟨5, who, name, data, num, keep⟩ (.slice kp kl kc) m M1 (fun _ => false) w3.drew := hS3.drews 1
  refine wp_region_flowG (fun _ : Unit => [errE x, .pointer (some ⟨w1.heap.size, 1, none⟩), .pointer (some ⟨r, 0, none⟩), .agg #[.int .i64 5, .int .i64 who, .string name, .string data, .int .i64 num, .slice kp kl kc], .agg (ropCl (StepM.named ⟨5, who, name, data, num, keep⟩)), .pointer (some ⟨w1.heap.size + 1, 3, none⟩), .string data, .int .i64 x, .bool true, .bool true]) (fun L _ W => StepD w w1 P a r n ⟨5, who, name, data, num, keep⟩ (.slice kp kl kc) m M1 L W)
    [[], [], [1], [], [3], [], [5], [2, 4, 6, 4], [0, 7, 7], [8, 8, 0, 1, 2, 3, 4, 5, 6, 7, 8]] 181 () mixedD rfl (by kernel_rfl) (fun _ => rfl) hI0 ?_ ?_
  · refine ⟨?_, ?_, ?_, ?_, ?_, ?_, ?_, ?_, ?_, ?_, rfl⟩
    all_goals intro L γ W ev hL hd hW hc hf hg he h0
    · have e5 : ev (.tmp 5) = errE x := h0 5 rfl
      clear he h0 hc hf hg
      exact .inl ⟨rfl, .inl ⟨_, W, (by go_simp <;> rfl), .still (hW.upd 0 (by decide)) rfl⟩⟩
    · have e2 : ev (.tmp 2) = .pointer (some ⟨w1.heap.size, 0, none⟩) := h0 2 rfl
      clear he h0 hc hf hg
      exact .inl ⟨rfl, .inl ⟨_, W, (by go_simp <;> rfl), .still (hW.upd 1 (by decide)) rfl⟩⟩
    · have e32 : ev (.tmp 32) = .pointer (some ⟨w1.heap.size, 1, none⟩) := he 1 (by decide) _ 32 rfl rfl
      have c := (StepS.cellP hW).2
      clear he h0 hc hf hg
      exact .inl ⟨rfl, .inl ⟨_, W, (by go_simp <;> rfl), .still (hW.upd 2 (by decide)) rfl⟩⟩
    · have e3 : ev (.tmp 3) = .pointer (some ⟨w1.heap.size + 1, 0, none⟩) := h0 3 rfl
      obtain ⟨d0, d1, d2, d3, d4, d5⟩ := StepS.cellS hW
      clear he h0 hc hf hg
      exact .inl ⟨rfl, .inl ⟨_, W, (by go_simp <;> rfl), .still (hW.upd 3 (by decide)) rfl⟩⟩
    · have e34 : ev (.tmp 34) = .agg #[.int .i64 5, .int .i64 who, .string name, .string data, .int .i64 num, .slice kp kl kc] := he 3 (by decide) _ 34 rfl rfl
      clear he h0 hc hg
      refine .inl ⟨rfl, .inr (.inr ⟨51, #[.agg #[.int .i64 5, .int .i64 who, .string name, .string data, .int .i64 num, .slice kp kl kc]], W, (by have hff := hf 51; clear hf; go_simp <;> rfl), ?_⟩)⟩
      refine (named_any ⟨5, who, name, data, num, keep⟩ (.slice kp kl kc) W).mono ?_
      rintro e w4 ⟨rfl, hb⟩
      exact ⟨_, rfl, .still ((hW.below hb).upd 4 (by decide)) rfl⟩
    · have e3 : ev (.tmp 3) = .pointer (some ⟨w1.heap.size + 1, 0, none⟩) := h0 3 rfl
      clear he h0 hc hf hg
      exact .inl ⟨rfl, .inl ⟨_, W, (by go_simp <;> rfl), .still (hW.upd 5 (by decide)) rfl⟩⟩
    · have e36 : ev (.tmp 36) = .pointer (some ⟨w1.heap.size + 1, 3, none⟩) := he 5 (by decide) _ 36 rfl rfl
      obtain ⟨d0, d1, d2, d3, d4, d5⟩ := StepS.cellS hW
      clear he h0 hc hf hg
      exact .inl ⟨rfl, .inl ⟨_, W, (by go_simp <;> rfl), .still (hW.upd 6 (by decide)) rfl⟩⟩
    · have e33 : ev (.tmp 33) = .pointer (some ⟨r, 0, none⟩) := he 2 (by decide) _ 33 rfl rfl
      have e35 : ev (.tmp 35) = .agg (ropCl (StepM.named ⟨5, who, name, data, num, keep⟩)) := he 4 (by decide) _ 35 rfl rfl
      have e37 : ev (.tmp 37) = .string data := he 6 (by decide) _ 37 rfl rfl
      clear he h0 hc hg
      have hS := StepD.off hW hL
      refine .inl ⟨rfl, .inr (.inr ⟨50, #[.pointer (some ⟨r, 0, none⟩), .agg (ropCl (StepM.named ⟨5, who, name, data, num, keep⟩)), .string data], W, (by have hff := hf 50; clear hf; go_simp <;> rfl), ?_⟩)⟩
      refine (hS.lift2 (fun e => e = .returned (.int .i64 x)) (fun S hS2 hR => by
        have hd := refDo_any hR (StepM.named ⟨5, who, name, data, num, keep⟩) data HCK.out.1 HCK.out.2.1 HNR.out (by omega) (Nat.le_trans HF.out.2.2.2.2.1 (by decide)) (by rw [HCK.out.2.2]; decide)
        rw [HCALL.out, HX.out, HM.out] at hd
        exact hd)).mono ?_
      rintro e w4 ⟨rfl, hS4⟩
      exact ⟨_, rfl, .still (StepD.on hS4) rfl⟩
    · have e31 : ev (.tmp 31) = errE x := he 0 (by decide) _ 31 rfl rfl
      have e38 : ev (.tmp 38) = .int .i64 x := he 7 (by decide) _ 38 rfl rfl
      clear he h0 hc hg
      refine .inl ⟨rfl, .inr (.inr ⟨25, #[errE x, .int .i64 x], W, (by have hff := hf 25; clear hf; go_simp <;> rfl), ?_⟩)⟩
      refine (plain_E x HOP.out x W (StepS.err hW HG.out)).mono ?_
      rintro e w4 ⟨rfl, hb⟩
      exact ⟨_, rfl, .still ((hW.below hb).upd 8 (by decide)) (by rw [beq_self_eq_true]; rfl)⟩
    · have e39 : ev (.tmp 39) = .bool true := he 8 (by decide) _ 39 rfl rfl
      clear he h0 hc hf hg
      exact .inl ⟨rfl, .inl ⟨_, W, (by go_simp <;> rfl), .still (hW.upd 9 (by decide)) rfl⟩⟩
  intro _ L W hL hW
  simp only [putAll, Act.put, List.setIfInBounds_toArray, List.set_cons_succ, List.set_cons_zero]
  have hS4 := StepD.fin hW (hL 7 (by decide))
  clear hL hI0 hW hS3
  go_wp2_with fail
  go_ret
  exact ⟨rfl, hS4.done⟩
set_option maxHeartbeats 6400000 in
set_option maxRecDepth 100000 in
theorem step_op6 {w w1 : World} {P : Nat → Prop} {a r n : Nat} {m : DM} (h : Pair w w1 P a n m r n m) (hG : ErrT w) (s : StepM) (kp : Option Addr) (kl kc : Nat) (hF : s.Fits) (hn : n + 1 ≤ 20000000) (hact : s.act = 6) :
    Calls Tryz.prog 20 #[.agg #[.pointer (some ⟨a, 0, none⟩), .pointer (some ⟨r, 0, none⟩)], .agg (s.cells (.slice kp kl kc))] w1 fun e w' => e = .returned (.bool true) ∧ Pair w w' P a (n + 1) (m.op s.call).1 r (n + 1) (m.op s.call).1 ∧ Same P w1 w' := by
  have hst := StepS.start h s (.slice kp kl kc)
  have hroom := h.ok.room
  have hnr : n * m.room ≤ 4611686018427387904 := Nat.le_trans (Nat.mul_le_mul (show n ≤ 20000000 by omega) hroom) (by decide)
  have hop := op_in m s.call
  have hcall := named_call s
  have hck : 1 ≤ s.named.kind ∧ s.named.kind ≤ 6 ∧ s.named.file = 0 := by
    unfold StepM.named
    split <;> exact ⟨by show 1 ≤ s.act; omega, by show s.act ≤ 6; omega, rfl⟩
  obtain ⟨x, hx⟩ : ∃ x, (m.op s.call).2 = x := ⟨_, rfl⟩
  obtain ⟨M1, hM1⟩ : ∃ M1, (m.op s.call).1 = M1 := ⟨_, rfl⟩
  rw [hx] at hop
  rw [hM1]
  have hcp := hst.lift (f := 37) (args := #[.pointer (some ⟨a, 0, none⟩), .agg (s.cells (.slice kp kl kc))]) (fun e => e = .returned (errE x)) (n' := n + 1) (m' := M1) (fun P' hh => by
    have ho := held_operation hh s (.slice kp kl kc) hF (by omega) hnr
    rw [hx, hM1] at ho
    exact ho)
  have HC0 := Lib.hid hcp
  have HX := Lib.hid hx
  have HM := Lib.hid hM1
  have HOP := Lib.hid hop
  have HCALL := Lib.hid hcall
  have HCK := Lib.hid hck
  have HNR := Lib.hid hnr
  have HF := Lib.hid hF
  have HG := Lib.hid hG
  obtain ⟨c0, c1⟩ := hst.cellP
  obtain ⟨d0, d1, d2, d3, d4, d5⟩ := hst.cellS
  clear hcp hst hx hM1 hop hcall hck hnr hroom hF hG h
  obtain ⟨act, who, name, data, num, keep⟩ := s
  have hact : act = 6 := hact
  subst hact
  simp only at d0 d1 d2 d3 d4 d5
  show Calls _ _ #[_, .agg #[.int .i64 6, .int .i64 who, .string name, .string data, .int .i64 num, .slice kp kl kc]] w1 _
  unfold boxP StepM.cells at c0 c1 d0 d1 d2 d3 d4 d5
  have HC1 := Lib.hid (show Calls Tryz.prog 37 #[.pointer (some ⟨a, 0, none⟩), .agg #[.int .i64 6, .int .i64 who, .string name, .string data, .int .i64 num, .slice kp kl kc]] ((w1.alloc (.cells #[.pointer (some ⟨a, 0, none⟩), .pointer (some ⟨r, 0, none⟩)] 58)).alloc (.cells #[.int .i64 6, .int .i64 who, .string name, .string data, .int .i64 num, .slice kp kl kc] 36)) _ from HC0.out)
  clear HC0
  go_enter Tryz.func20, Tryz.ntmps20
  go_wp2_with fail
  refine HC1.out.mono ?_
  rintro e w3 ⟨rfl, hS3⟩
  clear c0 c1 d0 d1 d2 d3 d4 d5
  go_wp2_with fail
  have hI0 : StepD w w1 P a r n ⟨6, who, name, data, num, keep⟩ (.slice kp kl kc) m M1 (fun _ => false) w3.drew := hS3.drews 1
  refine wp_region_flowG (fun _ : Unit => [errE x, .pointer (some ⟨w1.heap.size, 1, none⟩), .pointer (some ⟨r, 0, none⟩), .agg #[.int .i64 6, .int .i64 who, .string name, .string data, .int .i64 num, .slice kp kl kc], .agg (ropCl (StepM.named ⟨6, who, name, data, num, keep⟩)), .pointer (some ⟨w1.heap.size + 1, 3, none⟩), .string data, .int .i64 x, .bool true, .bool true]) (fun L _ W => StepD w w1 P a r n ⟨6, who, name, data, num, keep⟩ (.slice kp kl kc) m M1 L W)
    [[], [], [1], [], [3], [], [5], [2, 4, 6, 4], [0, 7, 7], [8, 8, 0, 1, 2, 3, 4, 5, 6, 7, 8]] 181 () mixedD rfl (by kernel_rfl) (fun _ => rfl) hI0 ?_ ?_
  · refine ⟨?_, ?_, ?_, ?_, ?_, ?_, ?_, ?_, ?_, ?_, rfl⟩
    all_goals intro L γ W ev hL hd hW hc hf hg he h0
    · have e5 : ev (.tmp 5) = errE x := h0 5 rfl
      clear he h0 hc hf hg
      exact .inl ⟨rfl, .inl ⟨_, W, (by go_simp <;> rfl), .still (hW.upd 0 (by decide)) rfl⟩⟩
    · have e2 : ev (.tmp 2) = .pointer (some ⟨w1.heap.size, 0, none⟩) := h0 2 rfl
      clear he h0 hc hf hg
      exact .inl ⟨rfl, .inl ⟨_, W, (by go_simp <;> rfl), .still (hW.upd 1 (by decide)) rfl⟩⟩
    · have e32 : ev (.tmp 32) = .pointer (some ⟨w1.heap.size, 1, none⟩) := he 1 (by decide) _ 32 rfl rfl
      have c := (StepS.cellP hW).2
      clear he h0 hc hf hg
      exact .inl ⟨rfl, .inl ⟨_, W, (by go_simp <;> rfl), .still (hW.upd 2 (by decide)) rfl⟩⟩
    · have e3 : ev (.tmp 3) = .pointer (some ⟨w1.heap.size + 1, 0, none⟩) := h0 3 rfl
      obtain ⟨d0, d1, d2, d3, d4, d5⟩ := StepS.cellS hW
      clear he h0 hc hf hg
      exact .inl ⟨rfl, .inl ⟨_, W, (by go_simp <;> rfl), .still (hW.upd 3 (by decide)) rfl⟩⟩
    · have e34 : ev (.tmp 34) = .agg #[.int .i64 6, .int .i64 who, .string name, .string data, .int .i64 num, .slice kp kl kc] := he 3 (by decide) _ 34 rfl rfl
      clear he h0 hc hg
      refine .inl ⟨rfl, .inr (.inr ⟨51, #[.agg #[.int .i64 6, .int .i64 who, .string name, .string data, .int .i64 num, .slice kp kl kc]], W, (by have hff := hf 51; clear hf; go_simp <;> rfl), ?_⟩)⟩
      refine (named_any ⟨6, who, name, data, num, keep⟩ (.slice kp kl kc) W).mono ?_
      rintro e w4 ⟨rfl, hb⟩
      exact ⟨_, rfl, .still ((hW.below hb).upd 4 (by decide)) rfl⟩
    · have e3 : ev (.tmp 3) = .pointer (some ⟨w1.heap.size + 1, 0, none⟩) := h0 3 rfl
      clear he h0 hc hf hg
      exact .inl ⟨rfl, .inl ⟨_, W, (by go_simp <;> rfl), .still (hW.upd 5 (by decide)) rfl⟩⟩
    · have e36 : ev (.tmp 36) = .pointer (some ⟨w1.heap.size + 1, 3, none⟩) := he 5 (by decide) _ 36 rfl rfl
      obtain ⟨d0, d1, d2, d3, d4, d5⟩ := StepS.cellS hW
      clear he h0 hc hf hg
      exact .inl ⟨rfl, .inl ⟨_, W, (by go_simp <;> rfl), .still (hW.upd 6 (by decide)) rfl⟩⟩
    · have e33 : ev (.tmp 33) = .pointer (some ⟨r, 0, none⟩) := he 2 (by decide) _ 33 rfl rfl
      have e35 : ev (.tmp 35) = .agg (ropCl (StepM.named ⟨6, who, name, data, num, keep⟩)) := he 4 (by decide) _ 35 rfl rfl
      have e37 : ev (.tmp 37) = .string data := he 6 (by decide) _ 37 rfl rfl
      clear he h0 hc hg
      have hS := StepD.off hW hL
      refine .inl ⟨rfl, .inr (.inr ⟨50, #[.pointer (some ⟨r, 0, none⟩), .agg (ropCl (StepM.named ⟨6, who, name, data, num, keep⟩)), .string data], W, (by have hff := hf 50; clear hf; go_simp <;> rfl), ?_⟩)⟩
      refine (hS.lift2 (fun e => e = .returned (.int .i64 x)) (fun S hS2 hR => by
        have hd := refDo_any hR (StepM.named ⟨6, who, name, data, num, keep⟩) data HCK.out.1 HCK.out.2.1 HNR.out (by omega) (Nat.le_trans HF.out.2.2.2.2.1 (by decide)) (by rw [HCK.out.2.2]; decide)
        rw [HCALL.out, HX.out, HM.out] at hd
        exact hd)).mono ?_
      rintro e w4 ⟨rfl, hS4⟩
      exact ⟨_, rfl, .still (StepD.on hS4) rfl⟩
    · have e31 : ev (.tmp 31) = errE x := he 0 (by decide) _ 31 rfl rfl
      have e38 : ev (.tmp 38) = .int .i64 x := he 7 (by decide) _ 38 rfl rfl
      clear he h0 hc hg
      refine .inl ⟨rfl, .inr (.inr ⟨25, #[errE x, .int .i64 x], W, (by have hff := hf 25; clear hf; go_simp <;> rfl), ?_⟩)⟩
      refine (plain_E x HOP.out x W (StepS.err hW HG.out)).mono ?_
      rintro e w4 ⟨rfl, hb⟩
      exact ⟨_, rfl, .still ((hW.below hb).upd 8 (by decide)) (by rw [beq_self_eq_true]; rfl)⟩
    · have e39 : ev (.tmp 39) = .bool true := he 8 (by decide) _ 39 rfl rfl
      clear he h0 hc hf hg
      exact .inl ⟨rfl, .inl ⟨_, W, (by go_simp <;> rfl), .still (hW.upd 9 (by decide)) rfl⟩⟩
  intro _ L W hL hW
  simp only [putAll, Act.put, List.setIfInBounds_toArray, List.set_cons_succ, List.set_cons_zero]
  have hS4 := StepD.fin hW (hL 7 (by decide))
  clear hL hI0 hW hS3
  go_wp2_with fail
  go_ret
  exact ⟨rfl, hS4.done⟩
theorem step_op {w w1 : World} {P : Nat → Prop} {a r n : Nat} {m : DM} (h : Pair w w1 P a n m r n m) (hG : ErrT w) (s : StepM) (kp : Option Addr) (kl kc : Nat) (hF : s.Fits) (hn : n + 1 ≤ 20000000) (h1 : 1 ≤ s.act) (h6 : s.act ≤ 6) :
    Calls Tryz.prog 20 #[.agg #[.pointer (some ⟨a, 0, none⟩), .pointer (some ⟨r, 0, none⟩)], .agg (s.cells (.slice kp kl kc))] w1 fun e w' => e = .returned (.bool true) ∧ Pair w w' P a (n + 1) (m.op s.call).1 r (n + 1) (m.op s.call).1 ∧ Same P w1 w' := by
  have hway : s.act = 1 ∨ s.act = 2 ∨ s.act = 3 ∨ s.act = 4 ∨ s.act = 5 ∨ s.act = 6 := by omega
  rcases hway with h | h | h | h | h | h
  · exact step_op1 ‹_› hG s kp kl kc hF hn h
  · exact step_op2 ‹_› hG s kp kl kc hF hn h
  · exact step_op3 ‹_› hG s kp kl kc hF hn h
  · exact step_op4 ‹_› hG s kp kl kc hF hn h
  · exact step_op5 ‹_› hG s kp kl kc hF hn h
  · exact step_op6 ‹_› hG s kp kl kc hF hn h
end Go.Proofs.YtlcompihcmhbiaaGreatDoor
/- (pair).step: a reading, a failure's end, nothing. -/
namespace Go.Proofs.YtlcompihcmhbiaaGreatDoor
open Go Go.RowKit Go.Maps Go.Shelf Go.WideAt Go.WideShapes
set_option maxHeartbeats 3200000 in
set_option maxRecDepth 100000 in
theorem step_read {w w1 : World} {P : Nat → Prop} {a r n : Nat} {m : DM} (h : Pair w w1 P a n m r n m) (hG : ErrT w) (s : StepM) (kp : Option Addr) (kl kc : Nat) (hF : s.Fits) (hn : n + 1 ≤ 20000000) (hact : s.act = 7) :
    Calls Tryz.prog 20 #[.agg #[.pointer (some ⟨a, 0, none⟩), .pointer (some ⟨r, 0, none⟩)], .agg (s.cells (.slice kp kl kc))] w1 fun e w' => e = .returned (.bool true) ∧ Pair w w' P a n m r n m ∧ Same P w1 w' := by
  have hst := StepS.start h s (.slice kp kl kc)
  have hcp := held_read hst.pr.fst s.name (Nat.le_trans hF.2.2.2.1 (by unfold maxLen; omega))
  obtain ⟨SR, hsr⟩ := hst.pr.snd
  have hcr := refRead_any hsr s.name (by omega)
  have hx := reads_in m s.name
  generalize (m.reads s.name).2 = x at hcp hcr hx
  generalize (m.reads s.name).1 = d at hcp hcr
  have HX := Lib.hid hx
  have HG := Lib.hid (fun q : Nat => (hst.drews q).err hG)
  have HS0 := Lib.hid hst
  obtain ⟨c0, c1⟩ := hst.cellP
  obtain ⟨d0, d1, d2, d3, d4, d5⟩ := hst.cellS
  have HC0 := Lib.hid hcp
  have HC1 := Lib.hid hcr
  clear hst hx hG h hF hcp hcr hsr
  obtain ⟨act, who, name, data, num, keep⟩ := s
  have hact : act = 7 := hact
  subst hact
  simp only at d0 d1 d2 d3 d4 d5 HC0 HC1
  show Calls _ _ #[_, .agg #[.int .i64 7, .int .i64 who, .string name, .string data, .int .i64 num, .slice kp kl kc]] w1 _
  unfold boxP StepM.cells at *
  go_enter Tryz.func20, Tryz.ntmps20
  go_wp2_with fail
  refine HC0.out.mono ?_
  rintro e w3 ⟨rfl, rfl⟩
  go_wp2_with fail
  refine HC1.out.mono ?_
  rintro e w3 ⟨rfl, q, rfl⟩
  clear c0 c1 d0 d1 d2 d3 d4 d5
  go_wp2_with fail
  refine (plain_E x HX.out x _ (HG.out q)).mono ?_
  rintro e w4 ⟨rfl, hb⟩
  have HB := Lib.hid hb
  clear hb
  rw [beq_self_eq_true]
  go_wp2_with fail
  go_ret
  exact ⟨rfl, ((HS0.out.drews q).below HB.out).done⟩
set_option maxHeartbeats 3200000 in
set_option maxRecDepth 100000 in
theorem step_revive {w w1 : World} {P : Nat → Prop} {a r n : Nat} {m : DM} (h : Pair w w1 P a n m r n m) (s : StepM) (kp : Option Addr) (kl kc : Nat) (hact : s.act = 11) :
    Calls Tryz.prog 20 #[.agg #[.pointer (some ⟨a, 0, none⟩), .pointer (some ⟨r, 0, none⟩)], .agg (s.cells (.slice kp kl kc))] w1 fun e w' => e = .returned (.bool true) ∧ Pair w w' P a n m.revive r n m.revive ∧ Same P w1 w' := by
  have hst := StepS.start h s (.slice kp kl kc)
  obtain ⟨c0, c1⟩ := hst.cellP
  obtain ⟨d0, d1, d2, d3, d4, d5⟩ := hst.cellS
  have hcp := hst.lift (f := 16) (args := #[.pointer (some ⟨a, 0, none⟩)]) (fun e => e = .returned (.tuple #[])) (fun P' hh => held_revive hh)
  have HC0 := Lib.hid hcp
  clear hst h hcp
  obtain ⟨act, who, name, data, num, keep⟩ := s
  have hact : act = 11 := hact
  subst hact
  simp only at d0 d1 d2 d3 d4 d5
  show Calls _ _ #[_, .agg #[.int .i64 11, .int .i64 who, .string name, .string data, .int .i64 num, .slice kp kl kc]] w1 _
  unfold boxP StepM.cells at c0 c1 d0 d1 d2 d3 d4 d5
  have HC1 := Lib.hid (show Calls Tryz.prog 16 #[.pointer (some ⟨a, 0, none⟩)] ((w1.alloc (.cells #[.pointer (some ⟨a, 0, none⟩), .pointer (some ⟨r, 0, none⟩)] 58)).alloc (.cells #[.int .i64 11, .int .i64 who, .string name, .string data, .int .i64 num, .slice kp kl kc] 36)) _ from HC0.out)
  clear HC0
  go_enter Tryz.func20, Tryz.ntmps20
  go_wp2_with fail
  refine HC1.out.mono ?_
  rintro e w3 ⟨rfl, hS3⟩
  clear c0 c1 d0 d1 d2 d3 d4 d5 HC1
  obtain ⟨c0, c1⟩ := hS3.cellP
  have HC2 := Lib.hid (hS3.lift2 (f := 59) (args := #[.pointer (some ⟨r, 0, none⟩)]) (fun e => e = .returned (.tuple #[])) (fun S _ hh => refRevive_any hh))
  go_wp2_with fail
  refine HC2.out.mono ?_
  rintro e w4 ⟨rfl, hS4⟩
  have HS4 := Lib.hid hS4
  clear hS4 hS3 HC2 c0 c1
  go_wp2_with fail
  go_ret
  exact ⟨rfl, HS4.out.done⟩
set_option maxHeartbeats 3200000 in
set_option maxRecDepth 100000 in
theorem step_none {w w1 : World} {P : Nat → Prop} {a r n : Nat} {m : DM} (h : Pair w w1 P a n m r n m) (s : StepM) (kp : Option Addr) (kl kc : Nat) (hact : s.act < 1 ∨ 11 < s.act) :
    Calls Tryz.prog 20 #[.agg #[.pointer (some ⟨a, 0, none⟩), .pointer (some ⟨r, 0, none⟩)], .agg (s.cells (.slice kp kl kc))] w1 fun e w' => e = .returned (.bool true) ∧ Pair w w' P a n m r n m ∧ Same P w1 w' := by
  have hst := StepS.start h s (.slice kp kl kc)
  obtain ⟨c0, c1⟩ := hst.cellP
  obtain ⟨d0, d1, d2, d3, d4, d5⟩ := hst.cellS
  have HS0 := Lib.hid hst
  clear hst h
  obtain ⟨act, who, name, data, num, keep⟩ := s
  simp only at d0 d1 d2 d3 d4 d5 hact
  show Calls _ _ #[_, .agg #[.int .i64 act, .int .i64 who, .string name, .string data, .int .i64 num, .slice kp kl kc]] w1 _
  unfold boxP StepM.cells at c0 c1 d0 d1 d2 d3 d4 d5
  have t1 : ¬ act = 1 := by omega
  have t2 : ¬ act = 2 := by omega
  have t3 : ¬ act = 3 := by omega
  have t4 : ¬ act = 4 := by omega
  have t5 : ¬ act = 5 := by omega
  have t6 : ¬ act = 6 := by omega
  have t7 : ¬ act = 7 := by omega
  have t8 : ¬ act = 8 := by omega
  have t9 : ¬ act = 9 := by omega
  have t10 : ¬ act = 10 := by omega
  have t11 : ¬ act = 11 := by omega
  clear hact
  go_enter Tryz.func20, Tryz.ntmps20
  go_wp2_with fail
  go_ret
  exact ⟨rfl, HS0.out.done⟩
end Go.Proofs.YtlcompihcmhbiaaGreatDoor
/- (pair).step: what is lent. -/
namespace Go.Proofs.YtlcompihcmhbiaaGreatDoor
open Go Go.RowKit Go.Maps Go.Shelf Go.WideAt Go.WideShapes
/-- What a walk through a step knows that lent a list: block g is the list, block x the fate that leads to it. -/
structure StepL (w w1 V : World) (P : Nat → Prop) (a r : Nat) (s : StepM) (kp : Option Addr) (kl kc : Nat) (n : Nat) (m : DM) (k : Nat) (mr : DM) (g c x : Nat) : Prop where
  pr : Pair w V (fun b => (P b ∨ (w1.heap.size ≤ b ∧ b < w1.heap.size + 2)) ∨ (b = g ∨ b = x)) a n m r k mr
  same : Same P w1 V
  bp : V.heap[w1.heap.size]? = some (.cells (boxP a r) 58 (0, 0))
  bs : V.heap[w1.heap.size + 1]? = some (.cells (s.cells (.slice kp kl kc)) 36 (0, 0))
  bx : V.heap[x]? = some (.cells #[.slice (some ⟨g, 0, none⟩) kl c] 26 (0, 0))
  hi : w1.heap.size + 2 ≤ g ∧ w1.heap.size + 2 ≤ x ∧ g ≠ x ∧ w.heap.size ≤ w1.heap.size
  lo : ∀ b, P b → b < w1.heap.size + 2
section
variable {w w1 V V' : World} {P : Nat → Prop} {a r n k kl kc g c x : Nat} {kp : Option Addr} {s : StepM} {m mr : DM}
theorem StepL.step (h : StepL w w1 V P a r s kp kl kc n m k mr g c x) {n' k' : Nat} {m' mr' : DM} (hp : Pair w V' (fun b => (P b ∨ (w1.heap.size ≤ b ∧ b < w1.heap.size + 2)) ∨ (b = g ∨ b = x)) a n' m' r k' mr') (hs : Same (fun b => (P b ∨ (w1.heap.size ≤ b ∧ b < w1.heap.size + 2)) ∨ (b = g ∨ b = x)) V V') : StepL w w1 V' P a r s kp kl kc n' m' k' mr' g c x :=
  ⟨hp, fun b hb => (hs b (.inl (.inl hb))).trans (h.same b hb), (hs _ (.inl (.inr ⟨Nat.le_refl _, by omega⟩))).trans h.bp, (hs _ (.inl (.inr ⟨by omega, by omega⟩))).trans h.bs, (hs _ (.inr (.inr rfl))).trans h.bx, h.hi, h.lo⟩
theorem StepL.below (h : StepL w w1 V P a r s kp kl kc n m k mr g c x) (hb : Below V.heap.size V V') : StepL w w1 V' P a r s kp kl kc n m k mr g c x := h.step (h.pr.below hb) (h.pr.same hb)
theorem StepL.done (h : StepL w w1 V P a r s kp kl kc n m k mr g c x) : Pair w V P a n m r k mr ∧ Same P w1 V := ⟨h.pr.sub (fun _ hb => .inl (.inl hb)), h.same⟩
theorem StepL.cellP (h : StepL w w1 V P a r s kp kl kc n m k mr g c x) : V.cell? ⟨w1.heap.size, 0, none⟩ = some (.pointer (some ⟨a, 0, none⟩)) ∧ V.cell? ⟨w1.heap.size, 1, none⟩ = some (.pointer (some ⟨r, 0, none⟩)) :=
  ⟨cell_of_heapN h.bp, cell_of_heapN h.bp⟩
theorem StepL.cellS (h : StepL w w1 V P a r s kp kl kc n m k mr g c x) : V.cell? ⟨w1.heap.size + 1, 0, none⟩ = some (.int .i64 s.act) ∧ V.cell? ⟨w1.heap.size + 1, 1, none⟩ = some (.int .i64 s.who) ∧ V.cell? ⟨w1.heap.size + 1, 2, none⟩ = some (.string s.name) ∧
    V.cell? ⟨w1.heap.size + 1, 3, none⟩ = some (.string s.data) ∧ V.cell? ⟨w1.heap.size + 1, 4, none⟩ = some (.int .i64 s.num) ∧ V.cell? ⟨w1.heap.size + 1, 5, none⟩ = some (.slice kp kl kc) :=
  ⟨cell_of_heapN h.bs, cell_of_heapN h.bs, cell_of_heapN h.bs, cell_of_heapN h.bs, cell_of_heapN h.bs, cell_of_heapN h.bs⟩
theorem StepL.cellX (h : StepL w w1 V P a r s kp kl kc n m k mr g c x) : V.cell? ⟨x, 0, none⟩ = some (.slice (some ⟨g, 0, none⟩) kl c) := cell_of_heapN h.bx
theorem StepL.lent (h : StepL w w1 V P a r s kp kl kc n m k mr g c x) (hl : LentI V g c s.keep) (hs : Same (fun b => (P b ∨ (w1.heap.size ≤ b ∧ b < w1.heap.size + 2)) ∨ (b = g ∨ b = x)) V V') : LentI V' g c s.keep := hl.below (hs g (.inr (.inl rfl)))
theorem StepL.lift {f : FuncId} {args : Array Value} (R : Ending → Prop) {n' : Nat} {m' : DM} (h : StepL w w1 V P a r s kp kl kc n m k mr g c x)
    (hc : ∀ P', Held w V P' a n m → Calls Tryz.prog f args V fun e w' => R e ∧ Held w w' P' a n' m' ∧ Same P' V w') : Calls Tryz.prog f args V fun e w' => R e ∧ StepL w w1 w' P a r s kp kl kc n' m' k mr g c x ∧ w'.heap[g]? = V.heap[g]? :=
  (h.pr.lift R hc).mono fun _ _ hp => ⟨hp.1, h.step hp.2.1 hp.2.2, hp.2.2 g (.inr (.inl rfl))⟩
theorem StepL.lift2 {f : FuncId} {args : Array Value} (R : Ending → Prop) {k' : Nat} {mr' : DM} (h : StepL w w1 V P a r s kp kl kc n m k mr g c x)
    (hc : ∀ S, (∀ x, S x → w.heap.size ≤ x) → RefAt V r k mr S → Calls Tryz.prog f args V fun e w' => R e ∧ RefPost r k' mr' S V w') : Calls Tryz.prog f args V fun e w' => R e ∧ StepL w w1 w' P a r s kp kl kc n m k' mr' g c x ∧ w'.heap[g]? = V.heap[g]? :=
  (h.pr.lift2 R (fun S hS => hc S (fun x hx => (hS x hx).1))).mono fun _ _ hp => ⟨hp.1, h.step hp.2.1 hp.2.2, hp.2.2 g (.inr (.inl rfl))⟩
theorem StepL.write (h : StepL w w1 V P a r s kp kl kc n m k mr g c x) (i : Nat) (v : Value) : StepL w w1 (V.setCell ⟨g, i, none⟩ v).drew P a r s kp kl kc n m k mr g c x := by
  obtain ⟨h1, h2, h3, h4⟩ := h.hi
  have ho : ∀ b, b ≠ g → (V.setCell ⟨g, i, none⟩ v).heap[b]? = V.heap[b]? := fun b hb => Below.heap_setCell _ _ _ _ hb
  have hp : Pair w (V.setCell ⟨g, i, none⟩ v) (fun b => (P b ∨ (w1.heap.size ≤ b ∧ b < w1.heap.size + 2)) ∨ (b = g ∨ b = x)) a n m r k mr := h.pr.setP (p := ⟨g, i, none⟩) (.inr (.inl rfl)) (by show w.heap.size ≤ g; omega) v
  have hL : StepL w w1 (V.setCell ⟨g, i, none⟩ v) P a r s kp kl kc n m k mr g c x :=
    ⟨hp, fun b hb => (ho b (by have := h.lo b hb; omega)).trans (h.same b hb), (ho _ (by omega)).trans h.bp, (ho _ (by omega)).trans h.bs, (ho _ (by omega)).trans h.bx, h.hi, h.lo⟩
  exact hL.below ⟨rfl, rfl, rfl, Nat.le_refl _, fun _ _ => rfl⟩
/-- The list is lent, and laid into a fate. -/
theorem StepS.lend (h : StepS w w1 V P a r s (.slice kp kl kc) n m k mr) {W : World} (hb : Below V.heap.size V W) (hg : V.heap.size ≤ g) (hg2 : g < W.heap.size) (hz : V.heap.size = w1.heap.size + 2) (hw : w.heap.size ≤ w1.heap.size) :
    StepL w w1 (W.alloc (.cells #[.slice (some ⟨g, 0, none⟩) kl c] 26)) P a r s kp kl kc n m k mr g c W.heap.size := by
  have hb2 : Below V.heap.size V (W.alloc (.cells #[.slice (some ⟨g, 0, none⟩) kl c] 26)) := hb.alloc hb.size _
  have hs := h.below hb2
  refine ⟨(h.pr.keeps hb2).sub ?_, hs.same, hs.bp, hs.bs, heap_new W _, ⟨by omega, by have := hb.size; omega, by omega, hw⟩, fun b hb => by have := h.pr.lt b (.inl hb); omega⟩
  have := hb.size
  rintro b (hb | rfl | rfl)
  · exact .inl hb
  · exact .inr ⟨hg, by rw [World.size_alloc]; omega⟩
  · exact .inr ⟨hb.size, by rw [World.size_alloc]; omega⟩
/-- What is lent, as an argument of the program's. -/
theorem LentI.rd {S : Nat → Prop} {ks : List Int} (h : LentI V g c ks) (hk : ∀ k ∈ ks, -9223372036854775808 ≤ k ∧ k ≤ 9223372036854775807) : IntsRd S V (.slice (some ⟨g, 0, none⟩) ks.length c) ks := by
  refine ⟨_, _, rfl, ⟨by have := h.1.1; omega, h.1.2⟩, fun j k hj => ?_⟩
  have hj2 : (ks ++ marksI 16)[j]? = some k := by rw [List.getElem?_append_left (List.getElem?_eq_some_iff.1 hj).1]; exact hj
  obtain ⟨h1, b, off, e, hl, hc⟩ := h.at hk j k hj2
  cases e
  obtain ⟨-, cur, h2, -⟩ := h
  exact ⟨h1, _, _, rfl, hc, hl, .inr ⟨_, _, h2⟩⟩
end
theorem held_armL {w w1 : World} {P : Nat → Prop} {a n g c : Nat} {m : DM} {ks : List Int} (h : Held w w1 P a n m) (x : Int) (hl : LentI w1 g c ks) (hk : ∀ k ∈ ks, -9223372036854775808 ≤ k ∧ k ≤ 9223372036854775807) (hn : ks.length * 8 ≤ 140737488355328) (hx : x ≤ 9223372036854775807) :
    Calls Tryz.prog 23 #[.pointer (some ⟨a, 0, none⟩), .int .i64 x, .agg #[.slice (some ⟨g, 0, none⟩) ks.length c]] w1 fun e w' => e = .returned (.tuple #[]) ∧ Held w w' P a n (m.arm x ks) ∧ Same P w1 w' := by
  obtain ⟨S, h1, h2, h3, h4⟩ := h
  exact (arm_any h1 x _ ks (hl.rd hk) hn hx).mono fun e w' hp => ⟨hp.1, Held.post h2 h3 h4 hp.2⟩
theorem held_crashL {w w1 : World} {P : Nat → Prop} {a n g c : Nat} {m : DM} {ks : List Int} (h : Held w w1 P a n m) (hl : LentI w1 g c ks) (hk : ∀ k ∈ ks, -9223372036854775808 ≤ k ∧ k ≤ 9223372036854775807) (hn : n ≤ 8000000000000) :
    Calls Tryz.prog 15 #[.pointer (some ⟨a, 0, none⟩), .agg #[.slice (some ⟨g, 0, none⟩) ks.length c]] w1 fun e w' => e = .returned (.tuple #[]) ∧ Held w w' P a n (m.crash ks) ∧ Same P w1 w' := by
  obtain ⟨S, h1, h2, h3, h4⟩ := h
  exact (crash_any h1 _ ks (hl.rd hk) hn).mono fun e w' hp => ⟨hp.1, Held.post h2 h3 h4 hp.2⟩
end Go.Proofs.YtlcompihcmhbiaaGreatDoor
/- (pair).step: the acts that lend a list. Printed by wip/g9.py. -/
namespace Go.Proofs.YtlcompihcmhbiaaGreatDoor
open Go Go.RowKit Go.Maps Go.Shelf Go.WideAt Go.WideShapes
set_option maxHeartbeats 6400000 in
set_option maxRecDepth 100000 in
theorem step_arm {w w1 : World} {P : Nat → Prop} {a r n : Nat} {m : DM} (h : Pair w w1 P a n m r n m) (s : StepM) (kp : Option Addr) (kl kc : Nat) (hF : s.Fits) (hk : IntsRd (fun b => w.heap.size ≤ b) w (.slice kp kl kc) s.keep) (hn : n + 1 ≤ 20000000) (hact : s.act = 9) :
    Calls Tryz.prog 20 #[.agg #[.pointer (some ⟨a, 0, none⟩), .pointer (some ⟨r, 0, none⟩)], .agg (s.cells (.slice kp kl kc))] w1 fun e w' => e = .returned (.bool true) ∧ Pair w w' P a n (m.arm s.num s.keep) r n (m.arm s.num s.keep) ∧ Same P w1 w' := by
  have hst := StepS.start h s (.slice kp kl kc)
  have hwz := h.bel.size
  obtain ⟨c0, c1⟩ := hst.cellP
  obtain ⟨d0, d1, d2, d3, d4, d5⟩ := hst.cellS
  obtain ⟨hkl, hia⟩ := hk.intsAt
  have hki : ∀ k ∈ s.keep, -9223372036854775808 ≤ k ∧ k ≤ 9223372036854775807 := fun k hm => by
    obtain ⟨j, hj⟩ := List.getElem?_of_mem hm
    exact (hia j k hj).1
  have hk8 : (s.keep.length + 16) * 8 ≤ 140737488355328 := by have := hF.2.2.2.2.2; omega
  have hnum : s.num ≤ 9223372036854775807 := hF.2.2.1.2
  have hlf := lentFate_any s.keep kp kc _ (hia.below hst.pr.bel) hk8
  rw [← hkl] at hlf
  have HLF := Lib.hid hlf
  have HS0 := Lib.hid hst
  have HIA := Lib.hid hia
  have HK := Lib.hid hk
  have HKI := Lib.hid hki
  have HK8 := Lib.hid hk8
  have HKL := Lib.hid hkl
  have HZ := Lib.hid (size2 w1 (.cells (boxP a r) 58) (.cells (s.cells (.slice kp kl kc)) 36))
  have HWZ := Lib.hid hwz
  have hkli : (kl : Int) ≤ 17592186044400 := by omega
  clear hst h hlf hia hk hki hk8 hkl hwz hF
  obtain ⟨act, who, name, data, num, keep⟩ := s
  have hact : act = 9 := hact
  subst hact
  simp only at d0 d1 d2 d3 d4 d5 hnum HLF HS0 HIA HK HKI HK8 HKL HZ
  show Calls _ _ #[_, .agg #[.int .i64 9, .int .i64 who, .string name, .string data, .int .i64 num, .slice kp kl kc]] w1 _
  unfold boxP StepM.cells at c0 c1 d0 d1 d2 d3 d4 d5
  have HC1 := Lib.hid (show Calls Tryz.prog 55 #[.agg #[.slice kp kl kc]] ((w1.alloc (.cells #[.pointer (some ⟨a, 0, none⟩), .pointer (some ⟨r, 0, none⟩)] 58)).alloc (.cells #[.int .i64 9, .int .i64 who, .string name, .string data, .int .i64 num, .slice kp kl kc] 36)) _ from HLF.out)
  clear HLF
  go_enter Tryz.func20, Tryz.ntmps20
  go_wp2_with fail
  refine HC1.out.mono ?_
  rintro e w3 ⟨g, c, rfl, hg1, hg2, hl, hb⟩
  have hL := HS0.out.lend (g := g) (c := c) hb hg1 hg2 HZ.out HWZ.out
  have HL0 := Lib.hid hL
  have hl2 : LentI (w3.alloc (.cells #[.slice (some ⟨g, 0, none⟩) kl c] 26)) g c keep := hl.below (Below.heap_alloc _ _ _ hg2)
  have HLI := Lib.hid hl2
  have HC2 := Lib.hid (hL.lift (f := 23) (args := #[.pointer (some ⟨a, 0, none⟩), .int .i64 num, .agg #[.slice (some ⟨g, 0, none⟩) kl c]]) (fun e => e = .returned (.tuple #[])) (n' := n) (m' := m.arm num keep) (fun P' hh => by
    have h := held_armL hh num HLI.out HKI.out (by have := HK8.out; omega) hnum
    rw [← HKL.out] at h
    exact h))
  obtain ⟨c0', c1'⟩ := hL.cellP
  obtain ⟨d0', d1', d2', d3', d4', d5'⟩ := hL.cellS
  simp only at d0' d1' d2' d3' d4' d5'
  have x0 := hL.cellX
  have hc := hl.1
  have hcl : kl + 16 ≤ c ∧ c ≤ maxLen := by rw [HKL.out]; exact hc
  have HCL := Lib.hid hcl
  clear c0 c1 d0 d1 d2 d3 d4 d5 hg1 hg2 hl hl2 hb hL HC1 HS0 hc hcl
  go_wp2_with fail
  refine HC2.out.mono ?_
  rintro e w4 ⟨rfl, hL4, hg4⟩
  have HL4 := Lib.hid hL4
  have HLI4 := Lib.hid (HLI.out.below hg4)
  have HC3 := Lib.hid (hL4.lift2 (f := 56) (args := #[.pointer (some ⟨r, 0, none⟩), .int .i64 num, .slice kp kl kc]) (fun e => e = .returned (.tuple #[])) (k' := n) (mr' := m.arm num keep) (fun S hS hR => by
    have hk4 : IntsRd S w4 (.slice kp kl kc) keep := HK.out.keep hL4.pr.bel.size (fun b hb _ => hS b hb) (fun b hb _ => hL4.pr.bel.block b hb)
    exact refArm_any hR num _ keep hk4 (by have := HK8.out; omega) hnum |>.mono fun e w' hp => hp))
  generalize hx : w3.heap.size = x at *
  clear c0' c1' d0' d1' d2' d3' d4' d5' x0 HC2 HLI hg4
  obtain ⟨c0, c1⟩ := hL4.cellP
  obtain ⟨d0, d1, d2, d3, d4, d5⟩ := hL4.cellS
  simp only at d0 d1 d2 d3 d4 d5
  clear hL4
  go_wp2_with fail
  refine HC3.out.mono ?_
  rintro e w5 ⟨rfl, hL5, hg5⟩
  have HL5 := Lib.hid hL5
  have hl5 := HLI4.out.below hg5
  have hkp := keptFate_any keep g c kp kc w5 hl5 (HIA.out.below hL5.pr.bel) HK8.out
  rw [← HKL.out] at hkp
  have HKP := Lib.hid hkp
  have HLI5 := Lib.hid hl5
  clear c0 c1 d0 d1 d2 d3 d4 d5 HC3 HLI4 hg5 hl5 hkp HL4
  obtain ⟨d0, d1, d2, d3, d4, d5⟩ := hL5.cellS
  have x0 := hL5.cellX
  simp only at d0 d1 d2 d3 d4 d5
  clear hL5
  go_wp2_with fail
  refine HKP.out.mono ?_
  rintro e w6 ⟨rfl, hb6⟩
  have hL6 := HL5.out.below hb6
  have HL6 := Lib.hid hL6
  have hl6 : LentI w6 g c keep := HLI5.out.below (hb6.block g (by obtain ⟨-, cur, h1, -⟩ := HLI5.out; exact blk_lt h1))
  obtain ⟨-, cur, hcur, hcv⟩ := hl6
  have hin : ∀ j, j < kl → ∃ y, cur[j]? = some (.int .i64 y) := fun j hj => by
    rw [HKL.out] at hj
    obtain ⟨y, hy⟩ : ∃ y, keep[j]? = some y := ⟨_, List.getElem?_eq_getElem hj⟩
    have h3 : (cur.toList.take (keep.length + 16))[j]? = some (.int .i64 y) := by rw [hcv, List.getElem?_map, List.getElem?_append_left hj, hy]; rfl
    rw [List.getElem?_take, if_pos (by omega), Array.getElem?_toList] at h3
    exact ⟨y, h3⟩
  have HIN := Lib.hid (And.intro hcur hin)
  clear d0 d1 d2 d3 d4 d5 x0 hL6 hcur hin hcv HKP HL5 HLI5
  go_wp2_with fail
  go_loopw [17] (fun iv wr => ∃ i : Nat, i ≤ kl ∧ iv = .int .i64 i ∧ Hid (StepL w w1 wr P a r ⟨9, who, name, data, num, keep⟩ kp kl kc n (m.arm num keep) n (m.arm num keep) g c x) ∧ Hid (∃ cur, wr.heap[g]? = some (.cells cur 3 (0, 0)) ∧ ∀ j, j < kl → ∃ y, cur[j]? = some (.int .i64 y))) (fun iv _ => kl - (intOf iv).toNat)
  case atStart => exact ⟨0, Nat.zero_le _, rfl, HL6, Lib.hid ⟨cur, HIN.out.1, HIN.out.2⟩⟩
  case round =>
    obtain ⟨i, hi, rfl, HL7, HI7⟩ := hrel
    have x0 := HL7.out.cellX
    by_cases hlt : (i : Int) < (kl : Int)
    · obtain ⟨cur7, hcur, hin⟩ := HI7.out
      obtain ⟨y, hy⟩ := hin i (by omega)
      have c : wr.cell? ⟨g, i, none⟩ = some (.int .i64 y) := (cell_of_heapN hcur).trans hy
      have f : wr.frozen? ⟨g, i, none⟩ = false := frozen_blk hcur
      have HCUR := Lib.hid (And.intro hcur hin)
      clear hcur hin hy
      go_wp2_with fail
      go_region
      have HW := Lib.hid (HL7.out.write i (.int .i64 (wrap64 (y + 1))))
      have hset : (wr.setCell ⟨g, i, none⟩ (.int .i64 (wrap64 (y + 1)))).drew.heap[g]? = some (.cells (cur7.setIfInBounds i (.int .i64 (wrap64 (y + 1)))) 3 (0, 0)) := by
        show (wr.setCell ⟨g, i, none⟩ (.int .i64 (wrap64 (y + 1)))).heap[g]? = _
        rw [setCell_blk HCUR.out.1]
        exact setBlk_heap (blk_lt HCUR.out.1)
      have HI8 := Lib.hid (show ∃ cur, (wr.setCell ⟨g, i, none⟩ (.int .i64 (wrap64 (y + 1)))).drew.heap[g]? = some (.cells cur 3 (0, 0)) ∧ ∀ j, j < kl → ∃ y, cur[j]? = some (.int .i64 y) from ⟨_, hset, fun j hj => by
        obtain ⟨z, hz⟩ := HCUR.out.2 j hj
        have hjl := (Array.getElem?_eq_some_iff.1 hz).1
        rw [Array.getElem?_setIfInBounds]
        split
        · rename_i e
          subst e
          exact ⟨_, if_pos hjl⟩
        · exact ⟨z, hz⟩⟩)
      clear hset x0 c f HCUR
      go_wp2_with fail
      go_roundw
      case rel => exact ⟨i + 1, by omega, by rw [Int.natCast_add]; rfl, HW, HI8⟩
      case measure => simp [intOf]; omega
    · go_wp2_with fail
      go_ret
      exact ⟨rfl, HL7.out.done⟩
set_option maxHeartbeats 6400000 in
set_option maxRecDepth 100000 in
theorem step_crash {w w1 : World} {P : Nat → Prop} {a r n : Nat} {m : DM} (h : Pair w w1 P a n m r n m) (s : StepM) (kp : Option Addr) (kl kc : Nat) (hF : s.Fits) (hk : IntsRd (fun b => w.heap.size ≤ b) w (.slice kp kl kc) s.keep) (hn : n + 1 ≤ 20000000) (hact : s.act = 10) :
    Calls Tryz.prog 20 #[.agg #[.pointer (some ⟨a, 0, none⟩), .pointer (some ⟨r, 0, none⟩)], .agg (s.cells (.slice kp kl kc))] w1 fun e w' => e = .returned (.bool true) ∧ Pair w w' P a n (m.crash s.keep) r n (m.crash s.keep) ∧ Same P w1 w' := by
  have hst := StepS.start h s (.slice kp kl kc)
  have hwz := h.bel.size
  obtain ⟨c0, c1⟩ := hst.cellP
  obtain ⟨d0, d1, d2, d3, d4, d5⟩ := hst.cellS
  obtain ⟨hkl, hia⟩ := hk.intsAt
  have hki : ∀ k ∈ s.keep, -9223372036854775808 ≤ k ∧ k ≤ 9223372036854775807 := fun k hm => by
    obtain ⟨j, hj⟩ := List.getElem?_of_mem hm
    exact (hia j k hj).1
  have hk8 : (s.keep.length + 16) * 8 ≤ 140737488355328 := by have := hF.2.2.2.2.2; omega
  have hnum : s.num ≤ 9223372036854775807 := hF.2.2.1.2
  have hlf := lentFate_any s.keep kp kc _ (hia.below hst.pr.bel) hk8
  rw [← hkl] at hlf
  have HLF := Lib.hid hlf
  have HS0 := Lib.hid hst
  have HIA := Lib.hid hia
  have HK := Lib.hid hk
  have HKI := Lib.hid hki
  have HK8 := Lib.hid hk8
  have HKL := Lib.hid hkl
  have HZ := Lib.hid (size2 w1 (.cells (boxP a r) 58) (.cells (s.cells (.slice kp kl kc)) 36))
  have HWZ := Lib.hid hwz
  have hkli : (kl : Int) ≤ 17592186044400 := by omega
  clear hst h hlf hia hk hki hk8 hkl hwz hF
  obtain ⟨act, who, name, data, num, keep⟩ := s
  have hact : act = 10 := hact
  subst hact
  simp only at d0 d1 d2 d3 d4 d5 hnum HLF HS0 HIA HK HKI HK8 HKL HZ
  show Calls _ _ #[_, .agg #[.int .i64 10, .int .i64 who, .string name, .string data, .int .i64 num, .slice kp kl kc]] w1 _
  unfold boxP StepM.cells at c0 c1 d0 d1 d2 d3 d4 d5
  have HC1 := Lib.hid (show Calls Tryz.prog 55 #[.agg #[.slice kp kl kc]] ((w1.alloc (.cells #[.pointer (some ⟨a, 0, none⟩), .pointer (some ⟨r, 0, none⟩)] 58)).alloc (.cells #[.int .i64 10, .int .i64 who, .string name, .string data, .int .i64 num, .slice kp kl kc] 36)) _ from HLF.out)
  clear HLF
  go_enter Tryz.func20, Tryz.ntmps20
  go_wp2_with fail
  refine HC1.out.mono ?_
  rintro e w3 ⟨g, c, rfl, hg1, hg2, hl, hb⟩
  have hL := HS0.out.lend (g := g) (c := c) hb hg1 hg2 HZ.out HWZ.out
  have HL0 := Lib.hid hL
  have hl2 : LentI (w3.alloc (.cells #[.slice (some ⟨g, 0, none⟩) kl c] 26)) g c keep := hl.below (Below.heap_alloc _ _ _ hg2)
  have HLI := Lib.hid hl2
  have HC2 := Lib.hid (hL.lift (f := 15) (args := #[.pointer (some ⟨a, 0, none⟩), .agg #[.slice (some ⟨g, 0, none⟩) kl c]]) (fun e => e = .returned (.tuple #[])) (n' := n) (m' := m.crash keep) (fun P' hh => by
    have h := held_crashL hh HLI.out HKI.out (by omega)
    rw [← HKL.out] at h
    exact h))
  obtain ⟨c0', c1'⟩ := hL.cellP
  obtain ⟨d0', d1', d2', d3', d4', d5'⟩ := hL.cellS
  simp only at d0' d1' d2' d3' d4' d5'
  have x0 := hL.cellX
  have hc := hl.1
  have hcl : kl + 16 ≤ c ∧ c ≤ maxLen := by rw [HKL.out]; exact hc
  have HCL := Lib.hid hcl
  clear c0 c1 d0 d1 d2 d3 d4 d5 hg1 hg2 hl hl2 hb hL HC1 HS0 hc hcl
  go_wp2_with fail
  refine HC2.out.mono ?_
  rintro e w4 ⟨rfl, hL4, hg4⟩
  have HL4 := Lib.hid hL4
  have HLI4 := Lib.hid (HLI.out.below hg4)
  have HC3 := Lib.hid (hL4.lift2 (f := 57) (args := #[.pointer (some ⟨r, 0, none⟩), .slice kp kl kc]) (fun e => e = .returned (.tuple #[])) (k' := n) (mr' := m.crash keep) (fun S hS hR => by
    have hk4 : IntsRd S w4 (.slice kp kl kc) keep := HK.out.keep hL4.pr.bel.size (fun b hb _ => hS b hb) (fun b hb _ => hL4.pr.bel.block b hb)
    exact refCrash_any hR _ keep hk4 (by omega) |>.mono fun e w' hp => hp))
  generalize hx : w3.heap.size = x at *
  clear c0' c1' d0' d1' d2' d3' d4' d5' x0 HC2 HLI hg4
  obtain ⟨c0, c1⟩ := hL4.cellP
  obtain ⟨d0, d1, d2, d3, d4, d5⟩ := hL4.cellS
  simp only at d0 d1 d2 d3 d4 d5
  clear hL4
  go_wp2_with fail
  refine HC3.out.mono ?_
  rintro e w5 ⟨rfl, hL5, hg5⟩
  have HL5 := Lib.hid hL5
  have hl5 := HLI4.out.below hg5
  have hkp := keptFate_any keep g c kp kc w5 hl5 (HIA.out.below hL5.pr.bel) HK8.out
  rw [← HKL.out] at hkp
  have HKP := Lib.hid hkp
  have HLI5 := Lib.hid hl5
  clear c0 c1 d0 d1 d2 d3 d4 d5 HC3 HLI4 hg5 hl5 hkp HL4
  obtain ⟨d0, d1, d2, d3, d4, d5⟩ := hL5.cellS
  have x0 := hL5.cellX
  simp only at d0 d1 d2 d3 d4 d5
  clear hL5
  go_wp2_with fail
  refine HKP.out.mono ?_
  rintro e w6 ⟨rfl, hb6⟩
  have hL6 := HL5.out.below hb6
  have HL6 := Lib.hid hL6
  have hl6 : LentI w6 g c keep := HLI5.out.below (hb6.block g (by obtain ⟨-, cur, h1, -⟩ := HLI5.out; exact blk_lt h1))
  obtain ⟨-, cur, hcur, hcv⟩ := hl6
  have hin : ∀ j, j < kl → ∃ y, cur[j]? = some (.int .i64 y) := fun j hj => by
    rw [HKL.out] at hj
    obtain ⟨y, hy⟩ : ∃ y, keep[j]? = some y := ⟨_, List.getElem?_eq_getElem hj⟩
    have h3 : (cur.toList.take (keep.length + 16))[j]? = some (.int .i64 y) := by rw [hcv, List.getElem?_map, List.getElem?_append_left hj, hy]; rfl
    rw [List.getElem?_take, if_pos (by omega), Array.getElem?_toList] at h3
    exact ⟨y, h3⟩
  have HIN := Lib.hid (And.intro hcur hin)
  clear d0 d1 d2 d3 d4 d5 x0 hL6 hcur hin hcv HKP HL5 HLI5
  go_wp2_with fail
  go_loopw [17] (fun iv wr => ∃ i : Nat, i ≤ kl ∧ iv = .int .i64 i ∧ Hid (StepL w w1 wr P a r ⟨10, who, name, data, num, keep⟩ kp kl kc n (m.crash keep) n (m.crash keep) g c x) ∧ Hid (∃ cur, wr.heap[g]? = some (.cells cur 3 (0, 0)) ∧ ∀ j, j < kl → ∃ y, cur[j]? = some (.int .i64 y))) (fun iv _ => kl - (intOf iv).toNat)
  case atStart => exact ⟨0, Nat.zero_le _, rfl, HL6, Lib.hid ⟨cur, HIN.out.1, HIN.out.2⟩⟩
  case round =>
    obtain ⟨i, hi, rfl, HL7, HI7⟩ := hrel
    have x0 := HL7.out.cellX
    by_cases hlt : (i : Int) < (kl : Int)
    · obtain ⟨cur7, hcur, hin⟩ := HI7.out
      obtain ⟨y, hy⟩ := hin i (by omega)
      have c : wr.cell? ⟨g, i, none⟩ = some (.int .i64 y) := (cell_of_heapN hcur).trans hy
      have f : wr.frozen? ⟨g, i, none⟩ = false := frozen_blk hcur
      have HCUR := Lib.hid (And.intro hcur hin)
      clear hcur hin hy
      go_wp2_with fail
      go_region
      have HW := Lib.hid (HL7.out.write i (.int .i64 (wrap64 (y + 1))))
      have hset : (wr.setCell ⟨g, i, none⟩ (.int .i64 (wrap64 (y + 1)))).drew.heap[g]? = some (.cells (cur7.setIfInBounds i (.int .i64 (wrap64 (y + 1)))) 3 (0, 0)) := by
        show (wr.setCell ⟨g, i, none⟩ (.int .i64 (wrap64 (y + 1)))).heap[g]? = _
        rw [setCell_blk HCUR.out.1]
        exact setBlk_heap (blk_lt HCUR.out.1)
      have HI8 := Lib.hid (show ∃ cur, (wr.setCell ⟨g, i, none⟩ (.int .i64 (wrap64 (y + 1)))).drew.heap[g]? = some (.cells cur 3 (0, 0)) ∧ ∀ j, j < kl → ∃ y, cur[j]? = some (.int .i64 y) from ⟨_, hset, fun j hj => by
        obtain ⟨z, hz⟩ := HCUR.out.2 j hj
        have hjl := (Array.getElem?_eq_some_iff.1 hz).1
        rw [Array.getElem?_setIfInBounds]
        split
        · rename_i e
          subst e
          exact ⟨_, if_pos hjl⟩
        · exact ⟨z, hz⟩⟩)
      clear hset x0 c f HCUR
      go_wp2_with fail
      go_roundw
      case rel => exact ⟨i + 1, by omega, by rw [Int.natCast_add]; rfl, HW, HI8⟩
      case measure => simp [intOf]; omega
    · go_wp2_with fail
      go_ret
      exact ⟨rfl, HL7.out.done⟩
end Go.Proofs.YtlcompihcmhbiaaGreatDoor
/- (pair).step: lists. -/
namespace Go.Proofs.YtlcompihcmhbiaaGreatDoor
open Go Go.RowKit Go.Maps Go.Shelf Go.WideAt Go.WideShapes
theorem flat_str (l : List ByteArray) : flatG strCl l = l.map strV := by
  induction l with
  | nil => rfl
  | cons x r ih => show [Value.string x] ++ flatG strCl r = _; rw [ih]; rfl
theorem OwnTexts.tx {B : Nat} {w : World} {v : Value} {l : List ByteArray} (h : OwnTexts B w v l) {C : Nat} (hc : C ≤ B) : OwnTx C l v w := by
  refine ⟨by rw [flat_str]; exact h.1, ?_⟩
  rcases h.2 with h2 | ⟨g, cap, cur, h1, h2, h3, h4⟩
  · exact .inl h2
  · exact .inr ⟨g, cap, cur, h1, Nat.le_trans hc h2, h3, by rw [flat_str]; exact h4⟩
theorem OwnTexts.below {B : Nat} {w w' : World} {v : Value} {l : List ByteArray} (h : OwnTexts B w v l) (hb : Below w.heap.size w w') : OwnTexts B w' v l := by
  refine ⟨h.1, ?_⟩
  rcases h.2 with h2 | ⟨g, cap, cur, h1, h2, h3, h4⟩
  · exact .inl h2
  · exact .inr ⟨g, cap, cur, h1, h2, (hb.block g (blk_lt h3)).trans h3, h4⟩
theorem OwnTexts.in2 {B : Nat} {w : World} {v : Value} {l : List ByteArray} (h : OwnTexts B w v l) {b : Nat} (hb : v.ownBlock = some b) : B ≤ b ∧ b < w.heap.size := by
  rcases h.2 with ⟨rfl, -⟩ | ⟨g, cap, cur, rfl, h2, h3, -⟩
  · cases hb
  · obtain rfl : g = b := by simpa [Value.ownBlock] using hb
    exact ⟨h2, blk_lt h3⟩
section
variable {w w1 V : World} {P : Nat → Prop} {a r n k : Nat} {s : StepM} {kv : Value} {m mr : DM}
theorem StepS.list (h : StepS w w1 V P a r s kv n m k mr) (t : ByteArray) (hn : n ≤ 8000000000000) :
    Calls Tryz.prog 11 #[.pointer (some ⟨a, 0, none⟩), .string t] V fun e w' => ∃ v, e = .returned (.tuple #[v, errE (if m.off then 27 else 0)]) ∧ OwnTexts V.heap.size w' v (m.lists t) ∧ Below V.heap.size V w' := by
  obtain ⟨S, h1, -⟩ := h.pr.fst
  exact list_any h1 t hn
theorem StepS.listR (h : StepS w w1 V P a r s kv n m k mr) (t : ByteArray) (hn : k ≤ 2000000000000) (hnm : ∀ p ∈ mr.now, (nameB p).size ≤ 140737488355328) (ht : t.size ≤ 140737488355328) :
    Calls Tryz.prog 53 #[.pointer (some ⟨r, 0, none⟩), .string t] V fun e w' => ∃ u, e = .returned (.tuple #[u, .int .i64 (if mr.off then 27 else 0)]) ∧ GathT V w' u (mr.lists t) := by
  obtain ⟨S, h1⟩ := h.pr.snd
  exact refList_any h1 t hn hnm ht
end
set_option maxHeartbeats 3200000 in
set_option maxRecDepth 100000 in
theorem step_list {w w1 : World} {P : Nat → Prop} {a r n : Nat} {m : DM} (h : Pair w w1 P a n m r n m) (hs : m.Short) (hG : ErrT w) (s : StepM) (kp : Option Addr) (kl kc : Nat) (hF : s.Fits) (hn : n + 1 ≤ 20000000) (hact : s.act = 8) :
    Calls Tryz.prog 20 #[.agg #[.pointer (some ⟨a, 0, none⟩), .pointer (some ⟨r, 0, none⟩)], .agg (s.cells (.slice kp kl kc))] w1 fun e w' => e = .returned (.bool true) ∧ Pair w w' P a n m r n m ∧ Same P w1 w' := by
  have hst := StepS.start h s (.slice kp kl kc)
  have hds : s.data.size ≤ 140737488355328 := Nat.le_trans hF.2.2.2.2.1 (by decide)
  have hll := lists_le h.ok s.data
  have hpl := fun V (hV : StepS w w1 V P a r s (.slice kp kl kc) n m n m) => hV.list s.data (show n ≤ 8000000000000 by omega)
  have hrl := fun V (hV : StepS w w1 V P a r s (.slice kp kl kc) n m n m) => hV.listR s.data (show n ≤ 2000000000000 by omega) (short_name hs.1) hds
  obtain ⟨x, hx⟩ : ∃ x : Int, (if m.off = true then 27 else 0) = x := ⟨_, rfl⟩
  have hx2 : x = 0 ∨ (1 ≤ x ∧ x ≤ 32) := by rw [← hx]; split <;> omega
  rw [hx] at hpl hrl
  obtain ⟨c0, c1⟩ := hst.cellP
  obtain ⟨d0, d1, d2, d3, d4, d5⟩ := hst.cellS
  have HS0 := Lib.hid hst
  have HG := Lib.hid hG
  have HX := Lib.hid hx2
  have HPL := Lib.hid hpl
  have HRL := Lib.hid hrl
  have HL8 := Lib.hid (show (m.lists s.data).length ≤ 8000000000000 ∧ (m.lists s.data).length ≤ 33000000 by omega)
  have HC0 := Lib.hid (hpl _ hst)
  clear hst h hs hG hF hpl hrl hx hx2 hll hds
  obtain ⟨act, who, name, data, num, keep⟩ := s
  have hact : act = 8 := hact
  subst hact
  simp only at d0 d1 d2 d3 d4 d5 HC0 HPL HRL HL8
  generalize m.lists data = L0 at HC0 HPL HRL HL8
  obtain ⟨N, hN⟩ : ∃ N, L0.length = N := ⟨_, rfl⟩
  have HN := Lib.hid hN
  clear hN
  show Calls _ _ #[_, .agg #[.int .i64 8, .int .i64 who, .string name, .string data, .int .i64 num, .slice kp kl kc]] w1 _
  unfold boxP StepM.cells at c0 c1 d0 d1 d2 d3 d4 d5
  have HC1 := Lib.hid (show Calls Tryz.prog 11 #[.pointer (some ⟨a, 0, none⟩), .string data] ((w1.alloc (.cells #[.pointer (some ⟨a, 0, none⟩), .pointer (some ⟨r, 0, none⟩)] 58)).alloc (.cells #[.int .i64 8, .int .i64 who, .string name, .string data, .int .i64 num, .slice kp kl kc] 36)) _ from HC0.out)
  clear HC0
  go_enter Tryz.func20, Tryz.ntmps20
  go_wp2_with fail
  refine HC1.out.mono ?_
  rintro e w3 ⟨v1, rfl, ho1, hb3⟩
  have hS3 := HS0.out.below hb3
  have HS3 := Lib.hid hS3
  have HO1 := Lib.hid ho1
  have HZ2 := Lib.hid hb3.size
  have HBC3 := Lib.hid hb3
  obtain ⟨p1, q1, rfl⟩ := ho1.rd.len
  rw [HN.out]
  have HC3 := Lib.hid (HPL.out w3 hS3)
  clear c0 c1 d0 d1 d2 d3 d4 d5 HC1 ho1 hb3
  obtain ⟨c0, c1⟩ := hS3.cellP
  obtain ⟨d0, d1, d2, d3, d4, d5⟩ := hS3.cellS
  simp only at d0 d1 d2 d3 d4 d5
  clear hS3
  go_wp2_with fail
  refine HC3.out.mono ?_
  rintro e w4 ⟨v2, rfl, ho2, hb4⟩
  have hS4 := HS3.out.below hb4
  have HS4 := Lib.hid hS4
  have HO12 := Lib.hid (HO1.out.below hb4)
  have HO2 := Lib.hid ho2
  have HZ3 := Lib.hid (hb4.size)
  have HBC4 := Lib.hid (HBC3.out.trans (hb4.mono HBC3.out.size))
  have HLT1 := Lib.hid (fun b (hb : (Value.slice p1 L0.length q1).ownBlock = some b) => (HO1.out.in2 hb).2)
  obtain ⟨p2, q2, rfl⟩ := ho2.rd.len
  rw [HN.out]
  have HC4 := Lib.hid (HRL.out w4 hS4)
  clear c0 c1 d0 d1 d2 d3 d4 d5 HC3 ho2 hb4 HO1
  obtain ⟨c0, c1⟩ := hS4.cellP
  obtain ⟨d0, d1, d2, d3, d4, d5⟩ := hS4.cellS
  simp only at d0 d1 d2 d3 d4 d5
  clear hS4
  go_wp2_with fail
  refine HC4.out.mono ?_
  rintro e w5 ⟨u, rfl, hg⟩
  have hb5 := hg.bel
  have HS5 := Lib.hid (HS4.out.below hb5)
  have HO15 := Lib.hid (HO12.out.below hb5)
  have HO25 := Lib.hid (HO2.out.below hb5)
  have HU5 := Lib.hid hg.row.rd
  have HZ5 := Lib.hid hb5.size
  have HBC5 := Lib.hid (HBC4.out.trans (hb5.mono HBC4.out.size))
  obtain ⟨p3, q3, rfl⟩ := hg.row.rd.len
  rw [HN.out]
  clear c0 c1 d0 d1 d2 d3 d4 d5 HC4 hb5 hg HO12 HO2
  have hT : sameT L0 L0 = true := decide_eq_true rfl
  have hpl1 := HO15.out.rd
  have hpl2 := HO25.out.rd
  have hpl3 := HU5.out
  have hb0 : ∀ V : World, Below w5.heap.size w5 V → ErrT V := fun V hb => (HS5.out.below hb).err HG.out
  have HER := Lib.hid hb0
  have hm1 := fun (V : World) (hb : Below w5.heap.size w5 V) => same_texts V _ _ L0 L0 (hpl1.below hb) (hpl3.below hb) HL8.out.1
  have hm2 := fun (V : World) (hb : Below w5.heap.size w5 V) => same_texts V _ _ L0 L0 (hpl2.below hb) (hpl3.below hb) HL8.out.1
  rw [hT, HN.out] at hm1 hm2
  have HM1 := Lib.hid hm1
  have HM2 := Lib.hid hm2
  clear hT hpl1 hpl2 hpl3 hb0 hm1 hm2
  go_wp2_with fail
  refine (HM1.out w5 (Below.refl _ _)).mono ?_
  rintro e w6 ⟨rfl, hb6⟩
  have HB6 := Lib.hid hb6
  clear hb6
  go_wp2_with fail
  refine (HM2.out w6 HB6.out).mono ?_
  rintro e w7 ⟨rfl, hb7⟩
  have HB7 := Lib.hid (HB6.out.trans (hb7.mono HB6.out.size))
  clear hb7
  go_wp2_with fail
  refine (plain_E x HX.out x w7 (HER.out _ HB7.out)).mono ?_
  rintro e w8 ⟨rfl, hb8⟩
  have HB8 := Lib.hid (HB7.out.trans (hb8.mono HB7.out.size))
  rw [beq_self_eq_true]
  clear hb8
  go_wp2_with fail
  refine (plain_E x HX.out x w8 (HER.out _ HB8.out)).mono ?_
  rintro e w9 ⟨rfl, hb9⟩
  have HB9 := Lib.hid (HB8.out.trans (hb9.mono HB8.out.size))
  rw [beq_self_eq_true]
  clear hb9
  go_wp2_with fail
  have hba : Below w5.heap.size w5 (w9.alloc (.cells #[.slice p1 N q1, .slice p2 N q2] 37)) := HB9.out.alloc HB9.out.size _
  have ho1 := HO15.out.below hba
  have ho2 := HO25.out.below hba
  rw [HN.out] at ho1 ho2
  have h12 : ∀ b, (Value.slice p1 N q1).ownBlock = some b → (Value.slice p2 N q2).ownBlock ≠ some b := fun b h1 h2 => by
    have hl := HLT1.out
    rw [HN.out] at hl
    have := hl b h1
    have := (ho2.in2 h2).1
    omega
  have hA := apartT_any #[.slice p1 N q1, .slice p2 N q2] w9.heap.size 2 _ (fun _ => L0) _ ⟨heap_new w9 _, fun k v hk => by
      match k, hk with
      | 0, hk => cases hk; exact ho1.tx (Nat.le_refl _)
      | 1, hk => cases hk; exact ho2.tx (by have := HZ2.out; exact this)
      | k + 2, hk => simp at hk, Below.refl _ _, by
      have h2 := HZ2.out; have h3 := HZ3.out; have h4 := HZ5.out; have h5 := hba.size
      exact Nat.le_trans h2 (Nat.le_trans h3 (Nat.le_trans h4 h5))⟩ (fun j k v u b hj hk hne hb => by
      match j, k, hj, hk, hne with
      | 0, 0, _, _, hne => exact absurd rfl hne
      | 1, 1, _, _, hne => exact absurd rfl hne
      | 0, 1, hj, hk, _ => cases hj; cases hk; exact h12 b hb
      | 1, 0, hj, hk, _ => cases hj; cases hk; exact fun h => h12 b h hb
      | j + 2, _, hj, _, _ => simp at hj
      | 0, k + 2, _, hk, _ => simp at hk
      | 1, k + 2, _, hk, _ => simp at hk) (by
      have h2 := HZ2.out; have h3 := HZ3.out; have h4 := HZ5.out; have h5 := HB9.out.size
      exact Nat.le_trans h2 (Nat.le_trans h3 (Nat.le_trans h4 h5))) (Nat.zero_lt_succ _) (by show 2 ≤ 1000; decide) (by show 2 ≤ 2; decide) (by decide) (fun _ => HL8.out.2)
  have HA := Lib.hid hA
  clear hA ho1 ho2 h12
  refine HA.out.mono ?_
  rintro e w10 ⟨rfl, hb10⟩
  have HBA := Lib.hid hba
  have HB10 := Lib.hid hb10
  clear hba hb10 HA
  go_wp2_with fail
  go_ret
  exact ⟨rfl, (HS0.out.below ((HBC5.out.trans (HBA.out.mono HBC5.out.size)).trans HB10.out)).done⟩
end Go.Proofs.YtlcompihcmhbiaaGreatDoor
/- (pair).step: any act. -/
namespace Go.Proofs.YtlcompihcmhbiaaGreatDoor
open Go Go.RowKit
theorem step_any {w w1 : World} {P : Nat → Prop} {a r n : Nat} {m : DM} (h : Pair w w1 P a n m r n m) (hs : m.Short) (hG : ErrT w) (s : StepM) (kp : Option Addr) (kl kc : Nat) (hF : s.Fits) (hk : IntsRd (fun b => w.heap.size ≤ b) w (.slice kp kl kc) s.keep) (hn : n + 1 ≤ 20000000) :
    Calls Tryz.prog 20 #[.agg #[.pointer (some ⟨a, 0, none⟩), .pointer (some ⟨r, 0, none⟩)], .agg (s.cells (.slice kp kl kc))] w1 fun e w' => e = .returned (.bool true) ∧ Pair w w' P a (n + 1) (m.step s) r (n + 1) (m.step s) ∧ Same P w1 w' := by
  by_cases h1 : 1 ≤ s.act ∧ s.act ≤ 6
  · have e : m.step s = (m.op s.call).1 := by unfold DM.step; rw [if_pos h1]
    rw [e]
    exact step_op h hG s kp kl kc hF hn h1.1 h1.2
  · have hm : ∀ {m' : DM} {e : Ending} {w' : World}, (e = .returned (.bool true) ∧ Pair w w' P a n m' r n m' ∧ Same P w1 w') → (e = .returned (.bool true) ∧ Pair w w' P a (n + 1) m' r (n + 1) m' ∧ Same P w1 w') := fun hp => ⟨hp.1, hp.2.1.more (Nat.le_succ _) (Nat.le_succ _), hp.2.2⟩
    by_cases h7 : s.act = 7
    · have e : m.step s = m := by unfold DM.step; rw [if_neg h1, if_neg (by omega), if_neg (by omega), if_neg (by omega)]
      rw [e]
      exact (step_read h hG s kp kl kc hF hn h7).mono fun _ _ hp => hm hp
    · by_cases h8 : s.act = 8
      · have e : m.step s = m := by unfold DM.step; rw [if_neg h1, if_neg (by omega), if_neg (by omega), if_neg (by omega)]
        rw [e]
        exact (step_list h hs hG s kp kl kc hF hn h8).mono fun _ _ hp => hm hp
      · by_cases h9 : s.act = 9
        · have e : m.step s = m.arm s.num s.keep := by unfold DM.step; rw [if_neg h1, if_pos h9]
          rw [e]
          exact (step_arm h s kp kl kc hF hk hn h9).mono fun _ _ hp => hm hp
        · by_cases h10 : s.act = 10
          · have e : m.step s = m.crash s.keep := by unfold DM.step; rw [if_neg h1, if_neg h9, if_pos h10]
            rw [e]
            exact (step_crash h s kp kl kc hF hk hn h10).mono fun _ _ hp => hm hp
          · by_cases h11 : s.act = 11
            · have e : m.step s = m.revive := by unfold DM.step; rw [if_neg h1, if_neg h9, if_neg h10, if_pos h11]
              rw [e]
              exact (step_revive h s kp kl kc h11).mono fun _ _ hp => hm hp
            · have e : m.step s = m := by unfold DM.step; rw [if_neg h1, if_neg h9, if_neg h10, if_neg h11]
              rw [e]
              exact (step_none h s kp kl kc (by omega)).mono fun _ _ hp => hm hp
end Go.Proofs.YtlcompihcmhbiaaGreatDoor
/- DiskPlays: a pair is made. -/
namespace Go.Proofs.YtlcompihcmhbiaaGreatDoor
open Go Go.RowKit Go.Maps Go.Shelf Go.WideAt Go.WideShapes
section
variable {w w1 W W' : World} {Q : Nat → Prop} {a r : Nat} {x : Int}
/-- Nothing is made yet. -/
structure Low (w w1 W : World) (Q : Nat → Prop) : Prop where
  bel : Below w.heap.size w W
  lt : ∀ b, Q b → b < W.heap.size
  same : Same Q w1 W
theorem Low.drews (h : Low w w1 W Q) (q : Nat) : Low w w1 (W.drewN q) Q := ⟨⟨h.bel.os, h.bel.tape, h.bel.output, h.bel.size, h.bel.block⟩, h.lt, h.same⟩
/-- The stages of the region that makes a pair. -/
def MakeS (w w1 : World) (Q : Nat → Prop) (x : Int) (g i : Nat) (L : Nat → Bool) (γ : Nat × Nat) (W : World) : Prop :=
  if L 4 then
    if L 8 then
      if L 11 then ∃ W0, Pair w W0 Q γ.1 0 (DM.new x) γ.2 0 (DM.new x) ∧ Same Q w1 W0 ∧ W = ((W0.setCell ⟨g, i * 2, none⟩ (.pointer (some ⟨γ.1, 0, none⟩))).setCell ⟨g, i * 2 + 1, none⟩ (.pointer (some ⟨γ.2, 0, none⟩)))
      else Pair w W Q γ.1 0 (DM.new x) γ.2 0 (DM.new x) ∧ Same Q w1 W
    else Held w W Q γ.1 0 (DM.new x) ∧ Same Q w1 W
  else Low w w1 W Q
def MakeW (w w1 : World) (Q : Nat → Prop) (x : Int) (g i : Nat) (L : Nat → Bool) (γ : Nat × Nat) (W : World) : Prop :=
  (L 9 = true → L 4 = true ∧ L 8 = true) ∧ (L 8 = true → L 4 = true) ∧ (L 11 = true → L 8 = true) ∧ MakeS w w1 Q x g i L γ W
theorem MakeW.upd {g i : Nat} {L : Nat → Bool} {γ : Nat × Nat} (h : MakeW w w1 Q x g i L γ W) (k : Nat) (hk : k ≠ 4 ∧ k ≠ 8 ∧ k ≠ 11) (h9 : k = 9 → L 4 = true ∧ L 8 = true) : MakeW w w1 Q x g i (updL L k) γ W := by
  obtain ⟨h1, h2, h3, h⟩ := h
  refine ⟨fun e => ?_, fun e => ?_, fun e => ?_, ?_⟩
  · rw [updL_ne (show 4 ≠ k by omega), updL_ne (show 8 ≠ k by omega)]
    by_cases hk9 : k = 9
    · exact h9 hk9
    · exact h1 (updL_of e (fun e => hk9 e.symm))
  · rw [updL_ne (show 4 ≠ k by omega)]
    exact h2 (updL_of e (by omega))
  · rw [updL_ne (show 8 ≠ k by omega)]
    exact h3 (updL_of e (by omega))
  · unfold MakeS
    rw [updL_ne (show 11 ≠ k by omega), updL_ne (show 8 ≠ k by omega), updL_ne (show 4 ≠ k by omega)]
    exact h
theorem MakeW.at {g i : Nat} {L : Nat → Bool} {γ : Nat × Nat} (h : MakeW w w1 Q x g i L γ W) {b : Nat} (hb : Q b) (hg : b ≠ g) : W.heap[b]? = w1.heap[b]? := by
  obtain ⟨-, -, -, h⟩ := h
  unfold MakeS at h
  split at h
  · split at h
    · split at h
      · obtain ⟨W0, -, hs, rfl⟩ := h
        exact (Below.heap_setCell _ _ _ _ hg).trans ((Below.heap_setCell _ _ _ _ hg).trans (hs b hb))
      · exact h.2 b hb
    · exact h.2 b hb
  · exact h.same b hb
theorem MakeW.no9 {g i : Nat} {L : Nat → Bool} {γ : Nat × Nat} (h : MakeW w w1 Q x g i L γ W) (h4 : L 4 = false ∨ L 8 = false) : L 9 = false := by
  cases h9 : L 9 with
  | false => rfl
  | true =>
    have := h.1 h9
    rcases h4 with h4 | h4
    · rw [h4] at this; cases this.1
    · rw [h4] at this; cases this.2
theorem MakeW.s0 {g i : Nat} {L : Nat → Bool} {γ : Nat × Nat} (h : MakeW w w1 Q x g i L γ W) (h4 : L 4 = false) : Low w w1 W Q := by
  obtain ⟨-, -, -, h⟩ := h
  unfold MakeS at h
  rw [h4] at h
  exact h
theorem MakeW.s1 {g i : Nat} {L : Nat → Bool} {γ : Nat × Nat} (h : MakeW w w1 Q x g i L γ W) (h4 : L 4 = true) (h8 : L 8 = false) : Held w W Q γ.1 0 (DM.new x) ∧ Same Q w1 W := by
  obtain ⟨-, -, -, h⟩ := h
  unfold MakeS at h
  rw [h4, h8] at h
  exact h
theorem MakeW.s2 {g i : Nat} {L : Nat → Bool} {γ : Nat × Nat} (h : MakeW w w1 Q x g i L γ W) (h4 : L 4 = true) (h8 : L 8 = true) (h11 : L 11 = false) : Pair w W Q γ.1 0 (DM.new x) γ.2 0 (DM.new x) ∧ Same Q w1 W := by
  obtain ⟨-, -, -, h⟩ := h
  unfold MakeS at h
  rw [h4, h8, h11] at h
  exact h
theorem MakeW.fin {g i : Nat} {L : Nat → Bool} {γ : Nat × Nat} (h : MakeW w w1 Q x g i L γ W) (h4 : L 4 = true) (h8 : L 8 = true) (h11 : L 11 = true) : ∃ W0, Pair w W0 Q γ.1 0 (DM.new x) γ.2 0 (DM.new x) ∧ Same Q w1 W0 ∧ W = ((W0.setCell ⟨g, i * 2, none⟩ (.pointer (some ⟨γ.1, 0, none⟩))).setCell ⟨g, i * 2 + 1, none⟩ (.pointer (some ⟨γ.2, 0, none⟩))) := by
  obtain ⟨-, -, -, h⟩ := h
  unfold MakeS at h
  rw [h4, h8, h11] at h
  exact h
theorem MakeW.t1 {g i : Nat} {L : Nat → Bool} {γ γ' : Nat × Nat} (h0 : MakeW w w1 Q x g i L γ' W') (h4 : L 4 = false) (h : Held w W Q γ.1 0 (DM.new x) ∧ Same Q w1 W) : MakeW w w1 Q x g i (updL L 4) γ W := by
  have h9 := h0.no9 (.inl h4)
  have h8 : L 8 = false := by
    cases e : L 8 with
    | false => rfl
    | true => rw [h0.2.1 e] at h4; cases h4
  have h11 : L 11 = false := by
    cases e : L 11 with
    | false => rfl
    | true => rw [h0.2.2.1 e] at h8; cases h8
  refine ⟨fun e => ?_, fun _ => updL_self, fun e => ?_, ?_⟩
  · rw [updL_ne (show (9 : Nat) ≠ 4 by decide), h9] at e
    cases e
  · rw [updL_ne (show (11 : Nat) ≠ 4 by decide), h11] at e
    cases e
  · unfold MakeS
    rw [updL_self, updL_ne (show (8 : Nat) ≠ 4 by decide), h8]
    exact h
theorem MakeW.t2 {g i : Nat} {L : Nat → Bool} {γ γ' : Nat × Nat} (h0 : MakeW w w1 Q x g i L γ' W') (h4 : L 4 = true) (h8 : L 8 = false) (h : Pair w W Q γ.1 0 (DM.new x) γ.2 0 (DM.new x) ∧ Same Q w1 W) : MakeW w w1 Q x g i (updL L 8) γ W := by
  have h11 : L 11 = false := by
    cases e : L 11 with
    | false => rfl
    | true => rw [h0.2.2.1 e] at h8; cases h8
  refine ⟨fun _ => ⟨by rw [updL_ne (show (4 : Nat) ≠ 8 by decide)]; exact h4, updL_self⟩, fun _ => by rw [updL_ne (show (4 : Nat) ≠ 8 by decide)]; exact h4, fun _ => updL_self, ?_⟩
  unfold MakeS
  rw [updL_self, updL_ne (show (4 : Nat) ≠ 8 by decide), updL_ne (show (11 : Nat) ≠ 8 by decide), h4, h11]
  exact h
theorem MakeW.t3 {g i : Nat} {L : Nat → Bool} {γ : Nat × Nat} (h4 : L 4 = true) (h8 : L 8 = true) (h : Pair w W Q γ.1 0 (DM.new x) γ.2 0 (DM.new x) ∧ Same Q w1 W) : MakeW w w1 Q x g i (updL L 11) γ ((W.setCell ⟨g, i * 2, none⟩ (.pointer (some ⟨γ.1, 0, none⟩))).setCell ⟨g, i * 2 + 1, none⟩ (.pointer (some ⟨γ.2, 0, none⟩))) := by
  have e4 : updL L 11 4 = true := by rw [updL_ne (show (4 : Nat) ≠ 11 by decide)]; exact h4
  have e8 : updL L 11 8 = true := by rw [updL_ne (show (8 : Nat) ≠ 11 by decide)]; exact h8
  refine ⟨fun _ => ⟨e4, e8⟩, fun _ => e4, fun _ => e8, ?_⟩
  unfold MakeS
  rw [e4, e8, updL_self]
  exact ⟨W, h.1, h.2, rfl⟩
theorem low_new (h : Low w w1 W Q) (h1 : -9223372036854775808 ≤ x) (h2 : x ≤ 9223372036854775807) :
    Calls Tryz.prog 8 #[.int .i64 x] W fun e w' => ∃ a, e = .returned (.pointer (some ⟨a, 0, none⟩)) ∧ Held w w' Q a 0 (DM.new x) ∧ Same Q w1 w' :=
  (held_new h.bel h.lt x h1 h2).mono fun _ _ ⟨a, he, hh, hs⟩ => ⟨a, he, hh, fun b hb => (hs b hb).trans (h.same b hb)⟩
theorem held_ref (h : Held w W Q a 0 (DM.new x)) (hs : Same Q w1 W) (h1 : -9223372036854775808 ≤ x) (h2 : x ≤ 9223372036854775807) :
    Calls Tryz.prog 19 #[.int .i64 x] W fun e w' => ∃ r, e = .returned (.pointer (some ⟨r, 0, none⟩)) ∧ Pair w w' Q a 0 (DM.new x) r 0 (DM.new x) ∧ Same Q w1 w' := by
  obtain ⟨SA, g1, g2, g3, g4⟩ := h
  refine (refNew_any W x h1 h2).mono fun e w' hp => ?_
  obtain ⟨r, he, hr, hb⟩ := hp
  have hz := g3.size
  exact ⟨r, he, ⟨SA, _, g1.below hb, hr, fun y hy => ⟨(g2 y hy).1, (g2 y hy).2, fun h => absurd (g1.lt y hy) (by omega)⟩, fun y hy => ⟨by omega, fun hQ => absurd (g4 y hQ) (by omega)⟩, g3.trans (hb.mono g3.size), fun b hQ => Nat.lt_of_lt_of_le (g4 b hQ) hb.size⟩, fun b hb2 => (hb.block b (g4 b hb2)).trans (hs b hb2)⟩
end
end Go.Proofs.YtlcompihcmhbiaaGreatDoor
/- DiskPlays: the walk. -/
namespace Go.Proofs.YtlcompihcmhbiaaGreatDoor
open Go Go.RowKit Go.Maps Go.Shelf Go.WideAt Go.WideShapes
def pairs0 : Array Value := #[.pointer none, .pointer none, .pointer none, .pointer none]
def boxes (w : World) : Nat → Prop := fun b => w.heap.size ≤ b ∧ b < w.heap.size + 2
def four (v0 v1 v2 v3 : Value) : Array Value := #[v0, v1, v2, v3]
/-- What loop 1 has made. -/
structure Made (w : World) (x0 x1 : Int) (i : Nat) (wr : World) : Prop where
  bel : Below w.heap.size w wr
  rm : wr.heap[w.heap.size]? = some (.cells #[.int .i64 x0, .int .i64 x1] 55 (0, 0))
  now : (i = 0 ∧ wr.heap[w.heap.size + 1]? = some (.cells pairs0 59 (0, 0))) ∨
    (i = 1 ∧ ∃ a r, Pair w wr (boxes w) a 0 (DM.new x0) r 0 (DM.new x0) ∧ wr.heap[w.heap.size + 1]? = some (.cells (four (.pointer (some ⟨a, 0, none⟩)) (.pointer (some ⟨r, 0, none⟩)) (.pointer none) (.pointer none)) 59 (0, 0))) ∨
    (i = 2 ∧ ∃ a r b s, Duo w wr (boxes w) a 0 (DM.new x0) r b 0 (DM.new x1) s ∧ wr.heap[w.heap.size + 1]? = some (.cells (four (.pointer (some ⟨a, 0, none⟩)) (.pointer (some ⟨r, 0, none⟩)) (.pointer (some ⟨b, 0, none⟩)) (.pointer (some ⟨s, 0, none⟩))) 59 (0, 0)))
theorem made1 {w wr W0 : World} {x0 x1 : Int} {a r : Nat} (hp : Pair w W0 (boxes w) a 0 (DM.new x0) r 0 (DM.new x0)) (hs : Same (boxes w) wr W0) (hr : wr.heap[w.heap.size]? = some (.cells #[.int .i64 x0, .int .i64 x1] 55 (0, 0))) (h2 : wr.heap[w.heap.size + 1]? = some (.cells pairs0 59 (0, 0))) :
    Made w x0 x1 1 ((W0.setCell ⟨w.heap.size + 1, 0 * 2, none⟩ (.pointer (some ⟨a, 0, none⟩))).setCell ⟨w.heap.size + 1, 0 * 2 + 1, none⟩ (.pointer (some ⟨r, 0, none⟩))) ∧
    ((W0.setCell ⟨w.heap.size + 1, 0 * 2, none⟩ (.pointer (some ⟨a, 0, none⟩))).setCell ⟨w.heap.size + 1, 0 * 2 + 1, none⟩ (.pointer (some ⟨r, 0, none⟩))).heap[w.heap.size + 1]? = some (.cells (four (.pointer (some ⟨a, 0, none⟩)) (.pointer (some ⟨r, 0, none⟩)) (.pointer none) (.pointer none)) 59 (0, 0)) := by
  have q1 : boxes w (w.heap.size + 1) := ⟨by omega, by omega⟩
  have q0 : boxes w w.heap.size := ⟨Nat.le_refl _, by omega⟩
  have hb0 := (hs _ q1).trans h2
  have hz := blk_lt hb0
  have hp1 := (hp.setP (p := ⟨w.heap.size + 1, 0 * 2, none⟩) q1 (by show w.heap.size ≤ w.heap.size + 1; omega) (.pointer (some ⟨a, 0, none⟩))).setP (p := ⟨w.heap.size + 1, 0 * 2 + 1, none⟩) q1 (by show w.heap.size ≤ w.heap.size + 1; omega) (.pointer (some ⟨r, 0, none⟩))
  have hh : ((W0.setCell ⟨w.heap.size + 1, 0 * 2, none⟩ (.pointer (some ⟨a, 0, none⟩))).setCell ⟨w.heap.size + 1, 0 * 2 + 1, none⟩ (.pointer (some ⟨r, 0, none⟩))).heap[w.heap.size + 1]? = some (.cells (four (.pointer (some ⟨a, 0, none⟩)) (.pointer (some ⟨r, 0, none⟩)) (.pointer none) (.pointer none)) 59 (0, 0)) := by
    rw [setCell_blk hb0, setBlk_setCell hz]
    exact setBlk_heap hz
  refine ⟨⟨hp1.bel, ?_, .inr (.inl ⟨rfl, a, r, hp1, hh⟩)⟩, hh⟩
  exact (Below.heap_setCell _ _ _ _ (by show w.heap.size ≠ w.heap.size + 1; omega)).trans ((Below.heap_setCell _ _ _ _ (by show w.heap.size ≠ w.heap.size + 1; omega)).trans ((hs _ q0).trans hr))
theorem made2 {w wr W0 : World} {x0 x1 : Int} {a r b t : Nat} {S : Nat → Prop} (hp : Pair w W0 (fun y => boxes w y ∨ S y) b 0 (DM.new x1) t 0 (DM.new x1)) (hs : Same (fun y => boxes w y ∨ S y) wr W0) (hin : PairIn wr a 0 (DM.new x0) r 0 (DM.new x0) S) (hS : ∀ y, S y → w.heap.size ≤ y ∧ ¬ boxes w y)
    (hr : wr.heap[w.heap.size]? = some (.cells #[.int .i64 x0, .int .i64 x1] 55 (0, 0))) (h2 : wr.heap[w.heap.size + 1]? = some (.cells (four (.pointer (some ⟨a, 0, none⟩)) (.pointer (some ⟨r, 0, none⟩)) (.pointer none) (.pointer none)) 59 (0, 0))) :
    Made w x0 x1 2 ((W0.setCell ⟨w.heap.size + 1, 1 * 2, none⟩ (.pointer (some ⟨b, 0, none⟩))).setCell ⟨w.heap.size + 1, 1 * 2 + 1, none⟩ (.pointer (some ⟨t, 0, none⟩))) ∧
    ((W0.setCell ⟨w.heap.size + 1, 1 * 2, none⟩ (.pointer (some ⟨b, 0, none⟩))).setCell ⟨w.heap.size + 1, 1 * 2 + 1, none⟩ (.pointer (some ⟨t, 0, none⟩))).heap[w.heap.size + 1]? = some (.cells (four (.pointer (some ⟨a, 0, none⟩)) (.pointer (some ⟨r, 0, none⟩)) (.pointer (some ⟨b, 0, none⟩)) (.pointer (some ⟨t, 0, none⟩))) 59 (0, 0)) := by
  have q1 : boxes w (w.heap.size + 1) := ⟨by omega, by omega⟩
  have q0 : boxes w w.heap.size := ⟨Nat.le_refl _, by omega⟩
  have hb0 := (hs _ (.inl q1)).trans h2
  have hz := blk_lt hb0
  have hp1 := (hp.setP (p := ⟨w.heap.size + 1, 1 * 2, none⟩) (.inl q1) (by show w.heap.size ≤ w.heap.size + 1; omega) (.pointer (some ⟨b, 0, none⟩))).setP (p := ⟨w.heap.size + 1, 1 * 2 + 1, none⟩) (.inl q1) (by show w.heap.size ≤ w.heap.size + 1; omega) (.pointer (some ⟨t, 0, none⟩))
  have ho : ∀ y, y ≠ w.heap.size + 1 → ((W0.setCell ⟨w.heap.size + 1, 1 * 2, none⟩ (.pointer (some ⟨b, 0, none⟩))).setCell ⟨w.heap.size + 1, 1 * 2 + 1, none⟩ (.pointer (some ⟨t, 0, none⟩))).heap[y]? = W0.heap[y]? := fun y hy => (Below.heap_setCell _ _ _ _ hy).trans (Below.heap_setCell _ _ _ _ hy)
  have hh : ((W0.setCell ⟨w.heap.size + 1, 1 * 2, none⟩ (.pointer (some ⟨b, 0, none⟩))).setCell ⟨w.heap.size + 1, 1 * 2 + 1, none⟩ (.pointer (some ⟨t, 0, none⟩))).heap[w.heap.size + 1]? = some (.cells (four (.pointer (some ⟨a, 0, none⟩)) (.pointer (some ⟨r, 0, none⟩)) (.pointer (some ⟨b, 0, none⟩)) (.pointer (some ⟨t, 0, none⟩))) 59 (0, 0)) := by
    rw [setCell_blk hb0, setBlk_setCell hz]
    exact setBlk_heap hz
  have hin2 := hin.frameS (fun y hy => (ho y (fun e => (hS y hy).2 (e ▸ q1))).trans (hs y (.inr hy)))
  have hd : Duo w _ (boxes w) b 0 (DM.new x1) t a 0 (DM.new x0) r := ⟨S, hp1, hin2, hS⟩
  refine ⟨⟨hp1.bel, ?_, .inr (.inr ⟨rfl, a, r, b, t, hd.swap, hh⟩)⟩, hh⟩
  exact (ho _ (by omega)).trans ((hs _ (.inl q0)).trans hr)
/-- Both pairs, and the box that tells where they lie. -/
structure PlS (w : World) (a r b s n : Nat) (ma mb : DM) (W : World) : Prop where
  duo : Duo w W (boxes w) a n ma r b n mb s
  box : W.heap[w.heap.size + 1]? = some (.cells (four (.pointer (some ⟨a, 0, none⟩)) (.pointer (some ⟨r, 0, none⟩)) (.pointer (some ⟨b, 0, none⟩)) (.pointer (some ⟨s, 0, none⟩))) 59 (0, 0))
section
variable {w W W' : World} {a r b s n : Nat} {ma mb ma' mb' : DM}
theorem PlS.bel (h : PlS w a r b s n ma mb W) : Below w.heap.size w W := h.duo.fst.bel
theorem PlS.below (h : PlS w a r b s n ma mb W) (hb : Below W.heap.size W W') : PlS w a r b s n ma mb W' := ⟨h.duo.below hb, (hb.block _ (blk_lt h.box)).trans h.box⟩
theorem PlS.step0 (h : PlS w a r b s n ma mb W) (hs : ma.Short) (hG : ErrT w) (st : StepM) (kp : Option Addr) (kl kc : Nat) (hF : st.Fits) (hk : IntsRd (fun b => w.heap.size ≤ b) w (.slice kp kl kc) st.keep) (hn : n + 1 ≤ 20000000) :
    Calls Tryz.prog 20 #[.agg #[.pointer (some ⟨a, 0, none⟩), .pointer (some ⟨r, 0, none⟩)], .agg (st.cells (.slice kp kl kc))] W fun e w' => e = .returned (.bool true) ∧ PlS w a r b s (n + 1) (ma.step st) mb w' :=
  (h.duo.lift (n' := n + 1) (m' := ma.step st) (fun e => e = .returned (.bool true)) (fun P' hp => step_any hp hs hG st kp kl kc hF hk hn)).mono fun e w' hp => ⟨hp.1, hp.2.1.more (Nat.le_refl _) (Nat.le_succ _), (hp.2.2 _ ⟨by omega, by omega⟩).trans h.box⟩
theorem PlS.step1 (h : PlS w a r b s n ma mb W) (hs : mb.Short) (hG : ErrT w) (st : StepM) (kp : Option Addr) (kl kc : Nat) (hF : st.Fits) (hk : IntsRd (fun b => w.heap.size ≤ b) w (.slice kp kl kc) st.keep) (hn : n + 1 ≤ 20000000) :
    Calls Tryz.prog 20 #[.agg #[.pointer (some ⟨b, 0, none⟩), .pointer (some ⟨s, 0, none⟩)], .agg (st.cells (.slice kp kl kc))] W fun e w' => e = .returned (.bool true) ∧ PlS w a r b s (n + 1) ma (mb.step st) w' :=
  (h.duo.lift2 (k' := n + 1) (l' := mb.step st) (fun e => e = .returned (.bool true)) (fun P' hp => step_any hp hs hG st kp kl kc hF hk hn)).mono fun e w' hp => ⟨hp.1, hp.2.1.more (Nat.le_succ _) (Nat.le_refl _), (hp.2.2 _ ⟨by omega, by omega⟩).trans h.box⟩
theorem PlS.alike0 (h : PlS w a r b s n ma mb W) (hs : ma.Short) (hG : ErrT w) (hn : n ≤ 20000000) :
    Calls Tryz.prog 21 #[.agg #[.pointer (some ⟨a, 0, none⟩), .pointer (some ⟨r, 0, none⟩)]] W fun e w' => e = .returned (.bool true) ∧ PlS w a r b s n ma mb w' :=
  (alike_any h.duo.fst hs (hG.below h.bel hG.2) hn hn).mono fun _ _ hp => ⟨hp.1, h.below hp.2⟩
theorem PlS.alike1 (h : PlS w a r b s n ma mb W) (hs : mb.Short) (hG : ErrT w) (hn : n ≤ 20000000) :
    Calls Tryz.prog 21 #[.agg #[.pointer (some ⟨b, 0, none⟩), .pointer (some ⟨s, 0, none⟩)]] W fun e w' => e = .returned (.bool true) ∧ PlS w a r b s n ma mb w' :=
  (alike_any h.duo.snd hs (hG.below h.bel hG.2) hn hn).mono fun _ _ hp => ⟨hp.1, h.below hp.2⟩
/-- The stages of a turn of loop 2. -/
def PlW (w : World) (a r b s n : Nat) (ma mb ma' mb' : DM) (L : Nat → Bool) (W : World) : Prop :=
  (L 14 = true → L 12 = true) ∧ (L 17 = true → L 12 = true) ∧ (L 20 = true → L 12 = true) ∧ (L 12 = false → PlS w a r b s n ma mb W) ∧ (L 12 = true → PlS w a r b s (n + 1) ma' mb' W)
variable {L : Nat → Bool}
theorem PlW.bel (h : PlW w a r b s n ma mb ma' mb' L W) : Below w.heap.size w W := by
  obtain ⟨-, -, -, h1, h2⟩ := h
  cases e : L 12 with
  | false => exact (h1 e).bel
  | true => exact (h2 e).bel
theorem PlW.box (h : PlW w a r b s n ma mb ma' mb' L W) : W.heap[w.heap.size + 1]? = some (.cells (four (.pointer (some ⟨a, 0, none⟩)) (.pointer (some ⟨r, 0, none⟩)) (.pointer (some ⟨b, 0, none⟩)) (.pointer (some ⟨s, 0, none⟩))) 59 (0, 0)) := by
  obtain ⟨-, -, -, h1, h2⟩ := h
  cases e : L 12 with
  | false => exact (h1 e).box
  | true => exact (h2 e).box
theorem PlW.upd (h : PlW w a r b s n ma mb ma' mb' L W) (k : Nat) (hk : k ≠ 12) (hl : k = 14 ∨ k = 17 ∨ k = 20 → L 12 = true) : PlW w a r b s n ma mb ma' mb' (updL L k) W := by
  obtain ⟨h1, h2, h3, h4, h5⟩ := h
  have e12 : updL L k 12 = L 12 := updL_ne (show 12 ≠ k by omega)
  unfold PlW
  rw [e12]
  refine ⟨fun e => ?_, fun e => ?_, fun e => ?_, h4, h5⟩
  · by_cases hk9 : k = 14
    · exact hl (.inl hk9)
    · exact h1 (updL_of e (fun e => hk9 e.symm))
  · by_cases hk9 : k = 17
    · exact hl (.inr (.inl hk9))
    · exact h2 (updL_of e (fun e => hk9 e.symm))
  · by_cases hk9 : k = 20
    · exact hl (.inr (.inr hk9))
    · exact h3 (updL_of e (fun e => hk9 e.symm))
theorem PlW.stepped (h : PlW w a r b s n ma mb ma' mb' L W) (hp : PlS w a r b s (n + 1) ma' mb' W') : PlW w a r b s n ma mb ma' mb' (updL L 12) W' := by
  have e : updL L 12 12 = true := updL_self ..
  exact ⟨fun _ => e, fun _ => e, fun _ => e, fun e2 => by rw [e] at e2; (cases e2), fun _ => hp⟩
theorem PlW.to (h : PlW w a r b s n ma mb ma' mb' L W) (hl : L 12 = true) (hp : PlS w a r b s (n + 1) ma' mb' W') : PlW w a r b s n ma mb ma' mb' L W' :=
  ⟨h.1, h.2.1, h.2.2.1, fun e => by rw [hl] at e; (cases e), fun _ => hp⟩
/-- What stands at the start of a turn of loop 2. -/
def Plyd (w : World) (a r b s n : Nat) (W : World) : Prop := ∃ ma mb, PlS w a r b s n ma mb W ∧ ma.Short ∧ mb.Short
end
set_option maxHeartbeats 6400000 in
set_option maxRecDepth 100000 in
theorem plays_any (w : World) (hG : ErrT w) (x0 x1 : Int) (v1 : Value) (l1 : List StepM) (h1 : StepsAt w v1 l1) (hF : ∀ s ∈ l1, s.Fits) (b0 : -9223372036854775808 ≤ x0 ∧ x0 ≤ 9223372036854775807) (b1 : -9223372036854775808 ≤ x1 ∧ x1 ≤ 9223372036854775807) :
    Calls Tryz.prog 5 #[.agg #[.int .i64 x0, .int .i64 x1], v1] w fun e w' => e = .returned (.bool true) ∧ Below w.heap.size w w' := by
  obtain ⟨p1, q1, rfl, hst⟩ := h1
  obtain ⟨N, hN⟩ : ∃ N, l1.length = N := ⟨_, rfl⟩
  have HST := Lib.hid hst
  have HG := Lib.hid hG
  have HF := Lib.hid hF
  have HN := Lib.hid hN
  rw [hN]
  clear hst hG hF hN
  go_enter Tryz.func5, Tryz.ntmps5
  have HB0 := Lib.hid b0
  have HB1 := Lib.hid b1
  clear b0 b1
  go_wp2_with fail
  go_loopw [6] (fun iv wr => ∃ i : Nat, i ≤ 2 ∧ iv = .int .i64 i ∧ Hid (Made w x0 x1 i wr)) (fun iv _ => 2 - (intOf iv).toNat)
  case atStart => exact ⟨0, Nat.zero_le _, rfl, Lib.hid ⟨below2 w _ _, (box2 w _ _).2.2.1, .inl ⟨rfl, (box2 w _ _).2.2.2⟩⟩⟩
  case round =>
    obtain ⟨i, hi, rfl, HM⟩ := hrel
    by_cases hlt : (i : Int) < 2
    · have hi01 : i = 0 ∨ i = 1 := by omega
      rcases hi01 with rfl | rfl
      · obtain ⟨hbel, hrm, hnow⟩ := HM.out
        rcases hnow with ⟨-, hp⟩ | ⟨h, -⟩ | ⟨h, -⟩
        · have HR := Lib.hid hrm
          have HP := Lib.hid hp
          have HB := Lib.hid hbel
          clear hrm hp hbel HM
          go_wp2_with fail
          have hlow : Low w wr wr.drew (boxes w) := ⟨⟨HB.out.os, HB.out.tape, HB.out.output, HB.out.size, HB.out.block⟩, fun b hb => by have := blk_lt HP.out; show b < wr.heap.size; unfold boxes at hb; omega, fun b _ => rfl⟩
          have hI0 : MakeW w wr (boxes w) x0 (w.heap.size + 1) 0 (fun _ => false) (0, 0) wr.drew := ⟨(fun e => by cases e), (fun e => by cases e), (fun e => by cases e), hlow⟩
          have HQ := Lib.hid (show boxes w w.heap.size from ⟨Nat.le_refl _, by omega⟩)
          have HQ1 := Lib.hid (show boxes w (w.heap.size + 1) from ⟨by omega, by omega⟩)
--FLOW50
          refine wp_region_flowG (fun γ : Nat × Nat => [.int .i64 0, .int .i64 0, .pointer (some ⟨w.heap.size, 0, none⟩), .int .i64 x0, .pointer (some ⟨γ.1, 0, none⟩), .int .i64 0, .pointer (some ⟨w.heap.size, 0, none⟩), .int .i64 x0, .pointer (some ⟨γ.2, 0, none⟩), .agg #[.pointer (some ⟨γ.1, 0, none⟩), .pointer (some ⟨γ.2, 0, none⟩)], .pointer (some ⟨w.heap.size + 1, 0, none⟩), undef]) (MakeW w wr (boxes w) x0 (w.heap.size + 1) 0)
            [[], [], [1], [2], [3], [], [5], [6], [7, 4], [4, 8], [0, 0, 1, 2, 3, 4, 5, 6, 7, 8, 9], [10, 9, 8, 0, 1, 2, 3, 4, 5, 6, 7, 8, 9]] 73 (0, 0) mixedD rfl (by kernel_rfl) (fun _ => rfl) hI0 ?_ ?_
          · refine ⟨?_, ?_, ?_, ?_, ?_, ?_, ?_, ?_, ?_, ?_, ?_, ?_, rfl⟩
            all_goals intro L γ W ev hL hd hW hc hf hg he h0
            · have e6 : ev (.tmp 6) = .int .i64 0 := h0 6 rfl
              clear he h0 hc hf hg
              exact .inl ⟨rfl, .inl ⟨_, W, (by go_simp <;> rfl), .still (hW.upd 0 (by decide) (fun e => by cases e)) rfl⟩⟩
            · have e6 : ev (.tmp 6) = .int .i64 0 := h0 6 rfl
              clear he h0 hc hf hg
              exact .inl ⟨rfl, .inl ⟨_, W, (by go_simp <;> rfl), .still (hW.upd 1 (by decide) (fun e => by cases e)) rfl⟩⟩
            · have e2 : ev (.tmp 2) = .pointer (some ⟨w.heap.size, 0, none⟩) := h0 2 rfl
              have e14 : ev (.tmp 14) = .int .i64 0 := he 1 (by decide) _ 14 rfl rfl
              clear he h0 hc hf hg
              exact .inl ⟨rfl, .inl ⟨_, W, (by go_simp <;> rfl), .still (hW.upd 2 (by decide) (fun e => by cases e)) rfl⟩⟩
            · have e15 : ev (.tmp 15) = .pointer (some ⟨w.heap.size, 0, none⟩) := he 2 (by decide) _ 15 rfl rfl
              have c : W.cell? ⟨w.heap.size, 0, none⟩ = some (.int .i64 x0) := cell_of_heapN ((hW.at HQ.out (by omega)).trans HR.out)
              clear he h0 hc hf hg
              exact .inl ⟨rfl, .inl ⟨_, W, (by go_simp <;> rfl), .still (hW.upd 3 (by decide) (fun e => by cases e)) rfl⟩⟩
            · have e16 : ev (.tmp 16) = .int .i64 x0 := he 3 (by decide) _ 16 rfl rfl
              clear he h0 hc hg
              have hS := hW.s0 hL
              refine .inl ⟨rfl, .inr (.inr ⟨8, #[.int .i64 x0], W, (by have hff := hf 8; clear hf; go_simp <;> rfl), ?_⟩)⟩
              refine (low_new hS HB0.out.1 HB0.out.2).mono ?_
              rintro e w' ⟨a', rfl, hh, hs⟩
              have h9 := hW.no9 (.inl hL)
              exact ⟨_, rfl, (a', γ.2), MakeW.t1 hW hL ⟨hh, hs⟩, rfl, fun j hj => by
                have hj2 : j ≠ 4 := fun e => by subst e; rw [hL] at hj; cases hj
                have hj9 : j ≠ 9 := fun e => by subst e; rw [h9] at hj; cases hj
                match j, hj2, hj9 with
                | 0, _, _ | 1, _, _ | 2, _, _ | 3, _, _ | 8, _, _ | 5, _, _ | 6, _, _ | 7, _, _ | 10, _, _ | 11, _, _ => rfl
                | n + 12, _, _ => rfl⟩
            · have e6 : ev (.tmp 6) = .int .i64 0 := h0 6 rfl
              clear he h0 hc hf hg
              exact .inl ⟨rfl, .inl ⟨_, W, (by go_simp <;> rfl), .still (hW.upd 5 (by decide) (fun e => by cases e)) rfl⟩⟩
            · have e2 : ev (.tmp 2) = .pointer (some ⟨w.heap.size, 0, none⟩) := h0 2 rfl
              have e18 : ev (.tmp 18) = .int .i64 0 := he 5 (by decide) _ 18 rfl rfl
              clear he h0 hc hf hg
              exact .inl ⟨rfl, .inl ⟨_, W, (by go_simp <;> rfl), .still (hW.upd 6 (by decide) (fun e => by cases e)) rfl⟩⟩
            · have e19 : ev (.tmp 19) = .pointer (some ⟨w.heap.size, 0, none⟩) := he 6 (by decide) _ 19 rfl rfl
              have c : W.cell? ⟨w.heap.size, 0, none⟩ = some (.int .i64 x0) := cell_of_heapN ((hW.at HQ.out (by omega)).trans HR.out)
              clear he h0 hc hf hg
              exact .inl ⟨rfl, .inl ⟨_, W, (by go_simp <;> rfl), .still (hW.upd 7 (by decide) (fun e => by cases e)) rfl⟩⟩
            · have e20 : ev (.tmp 20) = .int .i64 x0 := he 7 (by decide) _ 20 rfl rfl
              clear he h0 hc hg
              have h4 : L 4 = true := hd 4 (by decide)
              have hS := hW.s1 h4 hL
              refine .inl ⟨rfl, .inr (.inr ⟨19, #[.int .i64 x0], W, (by have hff := hf 19; clear hf; go_simp <;> rfl), ?_⟩)⟩
              refine (held_ref hS.1 hS.2 HB0.out.1 HB0.out.2).mono ?_
              rintro e w' ⟨r', rfl, hh, hs⟩
              have h9 := hW.no9 (.inr hL)
              exact ⟨_, rfl, (γ.1, r'), MakeW.t2 hW h4 hL ⟨hh, hs⟩, rfl, fun j hj => by
                have hj2 : j ≠ 8 := fun e => by subst e; rw [hL] at hj; cases hj
                have hj9 : j ≠ 9 := fun e => by subst e; rw [h9] at hj; cases hj
                match j, hj2, hj9 with
                | 0, _, _ | 1, _, _ | 2, _, _ | 3, _, _ | 4, _, _ | 5, _, _ | 6, _, _ | 7, _, _ | 10, _, _ | 11, _, _ => rfl
                | n + 12, _, _ => rfl⟩
            · have e17 : ev (.tmp 17) = .pointer (some ⟨γ.1, 0, none⟩) := he 4 (by decide) _ 17 rfl rfl
              have e21 : ev (.tmp 21) = .pointer (some ⟨γ.2, 0, none⟩) := he 8 (by decide) _ 21 rfl rfl
              clear he h0 hc hf hg
              exact .inl ⟨rfl, .inl ⟨_, W, (by go_simp <;> rfl), .still (hW.upd 9 (by decide) (fun _ => ⟨hd 4 (by decide), hd 8 (by decide)⟩)) rfl⟩⟩
            · have e5 : ev (.tmp 5) = .pointer (some ⟨w.heap.size + 1, 0, none⟩) := h0 5 rfl
              have e13 : ev (.tmp 13) = .int .i64 0 := he 0 (by decide) _ 13 rfl rfl
              clear he h0 hc hf hg
              exact .inl ⟨rfl, .inl ⟨_, W, (by go_simp <;> rfl), .still (hW.upd 10 (by decide) (fun e => by cases e)) rfl⟩⟩
            · have e22 : ev (.tmp 22) = .agg #[.pointer (some ⟨γ.1, 0, none⟩), .pointer (some ⟨γ.2, 0, none⟩)] := he 9 (by decide) _ 22 rfl rfl
              have e23 : ev (.tmp 23) = .pointer (some ⟨w.heap.size + 1, 0, none⟩) := he 10 (by decide) _ 23 rfl rfl
              clear he h0 hc hg
              have hS := hW.s2 (hd 4 (by decide)) (hd 8 (by decide)) hL
              have hbx := (hS.2 _ HQ1.out).trans HP.out
              have k0 := frozen_blk (i := 0) hbx
              have k1 := frozen_blk (i := 1) hbx
              have c0 : W.cell? ⟨w.heap.size + 1, 0, none⟩ = some (.pointer none) := cell_of_heapN hbx
              have c1 : W.cell? ⟨w.heap.size + 1, 1, none⟩ = some (.pointer none) := cell_of_heapN hbx
              refine .inl ⟨rfl, .inr (.inl ⟨_, ?_, .still (MakeW.t3 (hd 4 (by decide)) (hd 8 (by decide)) hS) rfl⟩)⟩
              clear hf hS hbx hW
              go_simp
--END50
          intro γ L W hL hW
          simp only [putAll, Act.put, List.setIfInBounds_toArray, List.set_cons_succ, List.set_cons_zero]
          obtain ⟨W0, hp, hs, rfl⟩ := hW.fin (hL 4 (by decide)) (hL 8 (by decide)) (hL 11 (by decide))
          have hmade := made1 hp hs HR.out HP.out
          clear hL hW hI0 hlow hp hs
          generalize (W0.setCell ⟨w.heap.size + 1, 0 * 2, none⟩ (.pointer (some ⟨γ.1, 0, none⟩))).setCell ⟨w.heap.size + 1, 0 * 2 + 1, none⟩ (.pointer (some ⟨γ.2, 0, none⟩)) = W1 at hmade ⊢
          have c0 : W1.cell? ⟨w.heap.size + 1, 0, none⟩ = some (.pointer (some ⟨γ.1, 0, none⟩)) := cell_of_heapN hmade.2
          have HM1 := Lib.hid hmade.1
          clear hmade
          go_wp2_with fail
          go_roundw
          case rel => exact ⟨1, by omega, rfl, HM1⟩
          case measure => simp [intOf]
        · cases h
        · cases h
      · obtain ⟨hbel, hrm, hnow⟩ := HM.out
        rcases hnow with ⟨h, -⟩ | ⟨-, a, r, hpair, hp⟩ | ⟨h, -⟩
        · cases h
        · obtain ⟨S, hin, hS⟩ := hpair.inn
          have HR := Lib.hid hrm
          have HP := Lib.hid hp
          have HB := Lib.hid hbel
          have HI := Lib.hid (And.intro hin hS)
          have hltS := hin.lt
          have hltB := blk_lt hp
          have d0 : wr.cell? ⟨w.heap.size, 1, none⟩ = some (.int .i64 x1) := cell_of_heapN hrm
          clear hrm hp hbel HM hpair hin hS d0
          go_wp2_with fail
          have hlow : Low w wr wr.drew (fun b => boxes w b ∨ S b) := ⟨⟨HB.out.os, HB.out.tape, HB.out.output, HB.out.size, HB.out.block⟩, fun b hb => by
            show b < wr.heap.size
            rcases hb with hb | hb
            · unfold boxes at hb; omega
            · exact hltS b hb, fun b _ => rfl⟩
          have hI0 : MakeW w wr (fun b => boxes w b ∨ S b) x1 (w.heap.size + 1) 1 (fun _ => false) (0, 0) wr.drew := ⟨(fun e => by cases e), (fun e => by cases e), (fun e => by cases e), hlow⟩
          have HQ := Lib.hid (show boxes w w.heap.size ∨ S w.heap.size from .inl ⟨Nat.le_refl _, by omega⟩)
          have HQ1 := Lib.hid (show boxes w (w.heap.size + 1) ∨ S (w.heap.size + 1) from .inl ⟨by omega, by omega⟩)
--FLOW51
          refine wp_region_flowG (fun γ : Nat × Nat => [.int .i64 1, .int .i64 1, .pointer (some ⟨w.heap.size, 1, none⟩), .int .i64 x1, .pointer (some ⟨γ.1, 0, none⟩), .int .i64 1, .pointer (some ⟨w.heap.size, 1, none⟩), .int .i64 x1, .pointer (some ⟨γ.2, 0, none⟩), .agg #[.pointer (some ⟨γ.1, 0, none⟩), .pointer (some ⟨γ.2, 0, none⟩)], .pointer (some ⟨w.heap.size + 1, 2, none⟩), undef]) (MakeW w wr (fun b => boxes w b ∨ S b) x1 (w.heap.size + 1) 1)
            [[], [], [1], [2], [3], [], [5], [6], [7, 4], [4, 8], [0, 0, 1, 2, 3, 4, 5, 6, 7, 8, 9], [10, 9, 8, 0, 1, 2, 3, 4, 5, 6, 7, 8, 9]] 73 (0, 0) mixedD rfl (by kernel_rfl) (fun _ => rfl) hI0 ?_ ?_
          · refine ⟨?_, ?_, ?_, ?_, ?_, ?_, ?_, ?_, ?_, ?_, ?_, ?_, rfl⟩
            all_goals intro L γ W ev hL hd hW hc hf hg he h0
            · have e6 : ev (.tmp 6) = .int .i64 1 := h0 6 rfl
              clear he h0 hc hf hg
              exact .inl ⟨rfl, .inl ⟨_, W, (by go_simp <;> rfl), .still (hW.upd 0 (by decide) (fun e => by cases e)) rfl⟩⟩
            · have e6 : ev (.tmp 6) = .int .i64 1 := h0 6 rfl
              clear he h0 hc hf hg
              exact .inl ⟨rfl, .inl ⟨_, W, (by go_simp <;> rfl), .still (hW.upd 1 (by decide) (fun e => by cases e)) rfl⟩⟩
            · have e2 : ev (.tmp 2) = .pointer (some ⟨w.heap.size, 0, none⟩) := h0 2 rfl
              have e14 : ev (.tmp 14) = .int .i64 1 := he 1 (by decide) _ 14 rfl rfl
              clear he h0 hc hf hg
              exact .inl ⟨rfl, .inl ⟨_, W, (by go_simp <;> rfl), .still (hW.upd 2 (by decide) (fun e => by cases e)) rfl⟩⟩
            · have e15 : ev (.tmp 15) = .pointer (some ⟨w.heap.size, 1, none⟩) := he 2 (by decide) _ 15 rfl rfl
              have c : W.cell? ⟨w.heap.size, 1, none⟩ = some (.int .i64 x1) := cell_of_heapN ((hW.at HQ.out (by omega)).trans HR.out)
              clear he h0 hc hf hg
              exact .inl ⟨rfl, .inl ⟨_, W, (by go_simp <;> rfl), .still (hW.upd 3 (by decide) (fun e => by cases e)) rfl⟩⟩
            · have e16 : ev (.tmp 16) = .int .i64 x1 := he 3 (by decide) _ 16 rfl rfl
              clear he h0 hc hg
              have hS := hW.s0 hL
              refine .inl ⟨rfl, .inr (.inr ⟨8, #[.int .i64 x1], W, (by have hff := hf 8; clear hf; go_simp <;> rfl), ?_⟩)⟩
              refine (low_new hS HB1.out.1 HB1.out.2).mono ?_
              rintro e w' ⟨a', rfl, hh, hs⟩
              have h9 := hW.no9 (.inl hL)
              exact ⟨_, rfl, (a', γ.2), MakeW.t1 hW hL ⟨hh, hs⟩, rfl, fun j hj => by
                have hj2 : j ≠ 4 := fun e => by subst e; rw [hL] at hj; cases hj
                have hj9 : j ≠ 9 := fun e => by subst e; rw [h9] at hj; cases hj
                match j, hj2, hj9 with
                | 0, _, _ | 1, _, _ | 2, _, _ | 3, _, _ | 8, _, _ | 5, _, _ | 6, _, _ | 7, _, _ | 10, _, _ | 11, _, _ => rfl
                | n + 12, _, _ => rfl⟩
            · have e6 : ev (.tmp 6) = .int .i64 1 := h0 6 rfl
              clear he h0 hc hf hg
              exact .inl ⟨rfl, .inl ⟨_, W, (by go_simp <;> rfl), .still (hW.upd 5 (by decide) (fun e => by cases e)) rfl⟩⟩
            · have e2 : ev (.tmp 2) = .pointer (some ⟨w.heap.size, 0, none⟩) := h0 2 rfl
              have e18 : ev (.tmp 18) = .int .i64 1 := he 5 (by decide) _ 18 rfl rfl
              clear he h0 hc hf hg
              exact .inl ⟨rfl, .inl ⟨_, W, (by go_simp <;> rfl), .still (hW.upd 6 (by decide) (fun e => by cases e)) rfl⟩⟩
            · have e19 : ev (.tmp 19) = .pointer (some ⟨w.heap.size, 1, none⟩) := he 6 (by decide) _ 19 rfl rfl
              have c : W.cell? ⟨w.heap.size, 1, none⟩ = some (.int .i64 x1) := cell_of_heapN ((hW.at HQ.out (by omega)).trans HR.out)
              clear he h0 hc hf hg
              exact .inl ⟨rfl, .inl ⟨_, W, (by go_simp <;> rfl), .still (hW.upd 7 (by decide) (fun e => by cases e)) rfl⟩⟩
            · have e20 : ev (.tmp 20) = .int .i64 x1 := he 7 (by decide) _ 20 rfl rfl
              clear he h0 hc hg
              have h4 : L 4 = true := hd 4 (by decide)
              have hS := hW.s1 h4 hL
              refine .inl ⟨rfl, .inr (.inr ⟨19, #[.int .i64 x1], W, (by have hff := hf 19; clear hf; go_simp <;> rfl), ?_⟩)⟩
              refine (held_ref hS.1 hS.2 HB1.out.1 HB1.out.2).mono ?_
              rintro e w' ⟨r', rfl, hh, hs⟩
              have h9 := hW.no9 (.inr hL)
              exact ⟨_, rfl, (γ.1, r'), MakeW.t2 hW h4 hL ⟨hh, hs⟩, rfl, fun j hj => by
                have hj2 : j ≠ 8 := fun e => by subst e; rw [hL] at hj; cases hj
                have hj9 : j ≠ 9 := fun e => by subst e; rw [h9] at hj; cases hj
                match j, hj2, hj9 with
                | 0, _, _ | 1, _, _ | 2, _, _ | 3, _, _ | 4, _, _ | 5, _, _ | 6, _, _ | 7, _, _ | 10, _, _ | 11, _, _ => rfl
                | n + 12, _, _ => rfl⟩
            · have e17 : ev (.tmp 17) = .pointer (some ⟨γ.1, 0, none⟩) := he 4 (by decide) _ 17 rfl rfl
              have e21 : ev (.tmp 21) = .pointer (some ⟨γ.2, 0, none⟩) := he 8 (by decide) _ 21 rfl rfl
              clear he h0 hc hf hg
              exact .inl ⟨rfl, .inl ⟨_, W, (by go_simp <;> rfl), .still (hW.upd 9 (by decide) (fun _ => ⟨hd 4 (by decide), hd 8 (by decide)⟩)) rfl⟩⟩
            · have e5 : ev (.tmp 5) = .pointer (some ⟨w.heap.size + 1, 0, none⟩) := h0 5 rfl
              have e13 : ev (.tmp 13) = .int .i64 1 := he 0 (by decide) _ 13 rfl rfl
              clear he h0 hc hf hg
              exact .inl ⟨rfl, .inl ⟨_, W, (by go_simp <;> rfl), .still (hW.upd 10 (by decide) (fun e => by cases e)) rfl⟩⟩
            · have e22 : ev (.tmp 22) = .agg #[.pointer (some ⟨γ.1, 0, none⟩), .pointer (some ⟨γ.2, 0, none⟩)] := he 9 (by decide) _ 22 rfl rfl
              have e23 : ev (.tmp 23) = .pointer (some ⟨w.heap.size + 1, 2, none⟩) := he 10 (by decide) _ 23 rfl rfl
              clear he h0 hc hg
              have hS := hW.s2 (hd 4 (by decide)) (hd 8 (by decide)) hL
              have hbx := (hS.2 _ HQ1.out).trans HP.out
              have k0 := frozen_blk (i := 2) hbx
              have k1 := frozen_blk (i := 3) hbx
              have c0 : W.cell? ⟨w.heap.size + 1, 2, none⟩ = some (.pointer none) := cell_of_heapN hbx
              have c1 : W.cell? ⟨w.heap.size + 1, 3, none⟩ = some (.pointer none) := cell_of_heapN hbx
              refine .inl ⟨rfl, .inr (.inl ⟨_, ?_, .still (MakeW.t3 (hd 4 (by decide)) (hd 8 (by decide)) hS) rfl⟩)⟩
              clear hf hS hbx hW
              go_simp
--END51
          intro γ L W hL hW
          simp only [putAll, Act.put, List.setIfInBounds_toArray, List.set_cons_succ, List.set_cons_zero]
          obtain ⟨W0, hp, hs, rfl⟩ := hW.fin (hL 4 (by decide)) (hL 8 (by decide)) (hL 11 (by decide))
          have hmade := made2 (x0 := x0) hp hs HI.out.1 HI.out.2 HR.out HP.out
          clear hL hW hI0 hlow hp hs
          generalize (W0.setCell ⟨w.heap.size + 1, 1 * 2, none⟩ (.pointer (some ⟨γ.1, 0, none⟩))).setCell ⟨w.heap.size + 1, 1 * 2 + 1, none⟩ (.pointer (some ⟨γ.2, 0, none⟩)) = W1 at hmade ⊢
          have c0 : W1.cell? ⟨w.heap.size + 1, 2, none⟩ = some (.pointer (some ⟨γ.1, 0, none⟩)) := cell_of_heapN hmade.2
          have HM1 := Lib.hid hmade.1
          clear hmade
          go_wp2_with fail
          go_roundw
          case rel => exact ⟨2, by omega, rfl, HM1⟩
          case measure => simp [intOf]
        · cases h
    · obtain rfl : i = 2 := by omega
      obtain ⟨-, -, hnow⟩ := HM.out
      rcases hnow with ⟨h, -⟩ | ⟨h, -⟩ | ⟨-, a, r, b, s, hduo, hbx⟩
      · cases h
      · cases h
      · have HPL := Lib.hid (show Plyd w a r b s 0 wr from ⟨_, _, ⟨hduo, hbx⟩, new_short _, new_short _⟩)
        clear hduo hbx HM
        go_wp2_with fail
        go_loopw [7, 8] (fun lv iv wr => ∃ (ld i : Nat), (i : Int) ≤ (N : Int) ∧ lv = .int .i64 ld ∧ iv = .int .i64 i ∧ (i : Int) ≤ (ld : Int) ∧ (ld : Int) ≤ 16777216 ∧ Hid (Plyd w a r b s i wr)) (fun _ iv _ => N - (intOf iv).toNat)
        case atStart => exact ⟨0, 0, by omega, rfl, rfl, by omega, by omega, HPL⟩
        case round =>
          obtain ⟨ld, i, hi, rfl, rfl, hil, hld, HP⟩ := hrel
          by_cases hlt : (i : Int) < (N : Int)
          · obtain ⟨st, hst⟩ : ∃ t, l1[i]? = some t := ⟨_, List.getElem?_eq_getElem (i := i) (by have := HN.out; omega)⟩
            obtain ⟨sb, so, kv, rfl, hsb, hsc, hki⟩ := HST.out i st hst
            have hfit := HF.out st (List.mem_of_getElem? hst)
            obtain ⟨ma, mb, hps, hsa, hsb2⟩ := HP.out
            obtain ⟨act, who, name, data, num, keep⟩ := st
            obtain ⟨kp, kc, rfl, -⟩ := (show ∃ p c, kv = .slice p keep.length c ∧ True by
              obtain ⟨p, c, e, -⟩ := hki
              exact ⟨p, c, e, True.intro⟩)
            have d0 : w.cell? ⟨sb, so + i * 6, none⟩ = some (.int .i64 act) := hsc 0 (by omega)
            have d1 : w.cell? ⟨sb, so + i * 6 + 1, none⟩ = some (.int .i64 who) := by rw [Nat.add_assoc]; exact hsc 1 (by omega)
            have d2 : w.cell? ⟨sb, so + i * 6 + 2, none⟩ = some (.string name) := by rw [Nat.add_assoc]; exact hsc 2 (by omega)
            have d3 : w.cell? ⟨sb, so + i * 6 + 3, none⟩ = some (.string data) := by rw [Nat.add_assoc]; exact hsc 3 (by omega)
            have d4 : w.cell? ⟨sb, so + i * 6 + 4, none⟩ = some (.int .i64 num) := by rw [Nat.add_assoc]; exact hsc 4 (by omega)
            have d5 : w.cell? ⟨sb, so + i * 6 + 5, none⟩ = some (.slice kp keep.length kc) := by rw [Nat.add_assoc]; exact hsc 5 (by omega)
            have D := Lib.hid (And.intro hsb (And.intro d0 (And.intro d1 (And.intro d2 (And.intro d3 (And.intro d4 d5))))))
            have c3 : wr.cell? ⟨sb, so + i * 6 + 3, none⟩ = some (.string data) := (hps.bel.cell (p := ⟨sb, so + i * 6 + 3, none⟩) hsb).trans d3
            have HPS := Lib.hid hps
            have HSH := Lib.hid (And.intro hsa hsb2)
            have HFIT := Lib.hid hfit
            have HK := Lib.hid hki
            have hdz : (data.size : Int) ≤ 140737488351232 := by have := hfit.2.2.2.2.1; show ((data.size : Nat) : Int) ≤ _; exact Int.ofNat_le.2 this
            clear d0 d1 d2 d3 d4 d5 hps hsa hsb2 hfit hki hsc HP HPL hst hsb
            cases hload : decide (16777216 < ((ld : Int) + (data.size : Int) + 1)) with
            | false =>
              go_wp2_with fail
              have hl2 : (ld : Int) + (data.size : Int) + 1 ≤ 16777216 := by have := of_decide_eq_false hload; omega
              rcases (show who % 2 = 0 ∨ who % 2 = 1 by omega) with hbit | hbit
              · skip
                have HBIT := Lib.hid (show bits .and .i64 who 1 = 0 from by rw [i64_and1]; exact hbit)
                have HSH2 := Lib.hid (show DM.Short (ma.step ⟨act, who, name, data, num, keep⟩) ∧ DM.Short mb from ⟨step_short HSH.out.1 _, HSH.out.2⟩)
                have hI0 : PlW w a r b s i ma mb (ma.step ⟨act, who, name, data, num, keep⟩) mb (fun _ => false) wr.drew := ⟨(fun e => by cases e), (fun e => by cases e), (fun e => by cases e), fun _ => HPS.out.below ⟨rfl, rfl, rfl, Nat.le_refl _, fun _ _ => rfl⟩, (fun e => by cases e)⟩
                clear hbit c3 hload
--FLOW150
                refine wp_region_flowG (fun _ : Unit => [.slice (some ⟨sb, so, none⟩) N q1, .int .i64 i, .pointer (some ⟨sb, so + i * 6, none⟩), .pointer (some ⟨sb, so + i * 6 + 1, none⟩), .int .i64 who, .int .i64 0, .pointer (some ⟨w.heap.size + 1, 0, none⟩), .agg #[.pointer (some ⟨a, 0, none⟩), .pointer (some ⟨r, 0, none⟩)], .slice (some ⟨sb, so, none⟩) N q1, .int .i64 i, .pointer (some ⟨sb, so + i * 6, none⟩), .agg #[.int .i64 act, .int .i64 who, .string name, .string data, .int .i64 num, .slice kp keep.length kc], .bool true, .bool false, .bool false, .pointer (some ⟨w.heap.size + 1, 0, none⟩), .agg #[.pointer (some ⟨a, 0, none⟩), .pointer (some ⟨r, 0, none⟩)], .bool true, .bool false, .bool false, .bool false, .pointer (some ⟨w.heap.size + 1, 2, none⟩), .agg #[.pointer (some ⟨b, 0, none⟩), .pointer (some ⟨s, 0, none⟩)], .bool true, .bool false, .bool false]) (fun L _ W => PlW w a r b s i ma mb (ma.step ⟨act, who, name, data, num, keep⟩) mb L W)
                  [[], [], [0, 1], [2], [3], [4], [5], [6], [], [], [8, 9], [10], [7, 11], [12], [13, 12], [14], [15, 14], [16, 14, 14], [17, 14], [14, 18], [19, 17], [20], [21, 20], [22, 20, 20], [23, 20], [20, 24]] 73 () mixedD rfl (by kernel_rfl) (fun _ => rfl) hI0 ?_ ?_
                · refine ⟨?_, ?_, ?_, ?_, ?_, ?_, ?_, ?_, ?_, ?_, ?_, ?_, ?_, ?_, ?_, ?_, ?_, ?_, ?_, ?_, ?_, ?_, ?_, ?_, ?_, ?_, rfl⟩
                  all_goals intro L γ W ev hL hd hW hc hf hg he h0
                  · have e1 : ev (.tmp 1) = .slice (some ⟨sb, so, none⟩) N q1 := h0 1 rfl
                    clear he h0 hf hg
                    exact .inl ⟨rfl, .inl ⟨_, W, (by go_simp <;> rfl), .still (hW.upd 0 (by decide) (fun e => by omega)) rfl⟩⟩
                  · have e8 : ev (.tmp 8) = .int .i64 i := h0 8 rfl
                    clear he h0 hf hg
                    exact .inl ⟨rfl, .inl ⟨_, W, (by go_simp <;> rfl), .still (hW.upd 1 (by decide) (fun e => by omega)) rfl⟩⟩
                  · have e46 : ev (.tmp 46) = .slice (some ⟨sb, so, none⟩) N q1 := he 0 (by decide) _ 46 rfl rfl
                    have e47 : ev (.tmp 47) = .int .i64 i := he 1 (by decide) _ 47 rfl rfl
                    clear he h0 hf hg
                    exact .inl ⟨rfl, .inl ⟨_, W, (by go_simp <;> rfl), .still (hW.upd 2 (by decide) (fun e => by omega)) rfl⟩⟩
                  · have e48 : ev (.tmp 48) = .pointer (some ⟨sb, so + i * 6, none⟩) := he 2 (by decide) _ 48 rfl rfl
                    clear he h0 hf hg
                    exact .inl ⟨rfl, .inl ⟨_, W, (by go_simp <;> rfl), .still (hW.upd 3 (by decide) (fun e => by omega)) rfl⟩⟩
                  · have e49 : ev (.tmp 49) = .pointer (some ⟨sb, so + i * 6 + 1, none⟩) := he 3 (by decide) _ 49 rfl rfl
                    have c1 : W.cell? ⟨sb, so + i * 6 + 1, none⟩ = _ := (hW.bel.cell (p := ⟨sb, so + i * 6 + 1, none⟩) D.out.1).trans D.out.2.2.1
                    clear he h0 hf hg
                    exact .inl ⟨rfl, .inl ⟨_, W, (by go_simp <;> rfl), .still (hW.upd 4 (by decide) (fun e => by omega)) rfl⟩⟩
                  · have e50 : ev (.tmp 50) = .int .i64 who := he 4 (by decide) _ 50 rfl rfl
                    clear he h0 hf hg
                    exact .inl ⟨rfl, .inl ⟨.int .i64 (bits .and .i64 who 1), W, (by go_simp <;> rfl), .still (hW.upd 5 (by decide) (fun e => by omega)) (congrArg (Value.int .i64) HBIT.out.symm)⟩⟩
                  · have e5 : ev (.tmp 5) = .pointer (some ⟨w.heap.size + 1, 0, none⟩) := h0 5 rfl
                    have e51 : ev (.tmp 51) = .int .i64 0 := he 5 (by decide) _ 51 rfl rfl
                    clear he h0 hf hg
                    exact .inl ⟨rfl, .inl ⟨_, W, (by go_simp <;> rfl), .still (hW.upd 6 (by decide) (fun e => by omega)) rfl⟩⟩
                  · have e52 : ev (.tmp 52) = .pointer (some ⟨w.heap.size + 1, 0, none⟩) := he 6 (by decide) _ 52 rfl rfl
                    have k0 : W.cell? ⟨w.heap.size + 1, 0, none⟩ = some (.pointer (some ⟨a, 0, none⟩)) := cell_of_heapN hW.box
                    have k1 : W.cell? ⟨w.heap.size + 1, 1, none⟩ = some (.pointer (some ⟨r, 0, none⟩)) := cell_of_heapN hW.box
                    clear he h0 hf hg
                    exact .inl ⟨rfl, .inl ⟨_, W, (by go_simp <;> rfl), .still (hW.upd 7 (by decide) (fun e => by omega)) rfl⟩⟩
                  · have e1 : ev (.tmp 1) = .slice (some ⟨sb, so, none⟩) N q1 := h0 1 rfl
                    clear he h0 hf hg
                    exact .inl ⟨rfl, .inl ⟨_, W, (by go_simp <;> rfl), .still (hW.upd 8 (by decide) (fun e => by omega)) rfl⟩⟩
                  · have e8 : ev (.tmp 8) = .int .i64 i := h0 8 rfl
                    clear he h0 hf hg
                    exact .inl ⟨rfl, .inl ⟨_, W, (by go_simp <;> rfl), .still (hW.upd 9 (by decide) (fun e => by omega)) rfl⟩⟩
                  · have e54 : ev (.tmp 54) = .slice (some ⟨sb, so, none⟩) N q1 := he 8 (by decide) _ 54 rfl rfl
                    have e55 : ev (.tmp 55) = .int .i64 i := he 9 (by decide) _ 55 rfl rfl
                    clear he h0 hf hg
                    exact .inl ⟨rfl, .inl ⟨_, W, (by go_simp <;> rfl), .still (hW.upd 10 (by decide) (fun e => by omega)) rfl⟩⟩
                  · have e56 : ev (.tmp 56) = .pointer (some ⟨sb, so + i * 6, none⟩) := he 10 (by decide) _ 56 rfl rfl
                    have c0 : W.cell? ⟨sb, so + i * 6, none⟩ = _ := (hW.bel.cell (p := ⟨sb, so + i * 6, none⟩) D.out.1).trans D.out.2.1
                    have c1 : W.cell? ⟨sb, so + i * 6 + 1, none⟩ = _ := (hW.bel.cell (p := ⟨sb, so + i * 6 + 1, none⟩) D.out.1).trans D.out.2.2.1
                    have c2 : W.cell? ⟨sb, so + i * 6 + 2, none⟩ = _ := (hW.bel.cell (p := ⟨sb, so + i * 6 + 2, none⟩) D.out.1).trans D.out.2.2.2.1
                    have c3 : W.cell? ⟨sb, so + i * 6 + 3, none⟩ = _ := (hW.bel.cell (p := ⟨sb, so + i * 6 + 3, none⟩) D.out.1).trans D.out.2.2.2.2.1
                    have c4 : W.cell? ⟨sb, so + i * 6 + 4, none⟩ = _ := (hW.bel.cell (p := ⟨sb, so + i * 6 + 4, none⟩) D.out.1).trans D.out.2.2.2.2.2.1
                    have c5 : W.cell? ⟨sb, so + i * 6 + 5, none⟩ = _ := (hW.bel.cell (p := ⟨sb, so + i * 6 + 5, none⟩) D.out.1).trans D.out.2.2.2.2.2.2
                    clear he h0 hf hg
                    exact .inl ⟨rfl, .inl ⟨_, W, (by go_simp <;> rfl), .still (hW.upd 11 (by decide) (fun e => by omega)) rfl⟩⟩
                  · have e53 : ev (.tmp 53) = .agg #[.pointer (some ⟨a, 0, none⟩), .pointer (some ⟨r, 0, none⟩)] := he 7 (by decide) _ 53 rfl rfl
                    have e57 : ev (.tmp 57) = .agg #[.int .i64 act, .int .i64 who, .string name, .string data, .int .i64 num, .slice kp keep.length kc] := he 11 (by decide) _ 57 rfl rfl
                    clear he h0 hc hg
                    have hS := hW.2.2.2.1 hL
                    refine .inl ⟨rfl, .inr (.inr ⟨20, #[.agg #[.pointer (some ⟨a, 0, none⟩), .pointer (some ⟨r, 0, none⟩)], .agg #[.int .i64 act, .int .i64 who, .string name, .string data, .int .i64 num, .slice kp keep.length kc]], W, (by have hff := hf 20; clear hf; go_simp <;> rfl), ?_⟩)⟩
                    refine (show Calls Tryz.prog 20 #[.agg #[.pointer (some ⟨a, 0, none⟩), .pointer (some ⟨r, 0, none⟩)], .agg #[.int .i64 act, .int .i64 who, .string name, .string data, .int .i64 num, .slice kp keep.length kc]] W _ from hS.step0 HSH.out.1 HG.out ⟨act, who, name, data, num, keep⟩ kp keep.length kc HFIT.out HK.out (by omega)).mono ?_
                    rintro e w' ⟨rfl, hp⟩
                    exact ⟨_, rfl, .still (hW.stepped hp) rfl⟩
                  · have e58 : ev (.tmp 58) = .bool true := he 12 (by decide) _ 58 rfl rfl
                    clear he h0 hf hg
                    exact .inl ⟨rfl, .inl ⟨_, W, (by go_simp <;> rfl), .still (hW.upd 13 (by decide) (fun e => by omega)) rfl⟩⟩
                  · have e59 : ev (.tmp 59) = .bool false := he 13 (by decide) _ 59 rfl rfl
                    clear he h0 hf hg
                    exact .inl ⟨rfl, .inl ⟨_, W, (by go_simp <;> rfl), .still (hW.upd 14 (by decide) (fun _ => hd 12 (by decide))) rfl⟩⟩
                  · have e5 : ev (.tmp 5) = .pointer (some ⟨w.heap.size + 1, 0, none⟩) := h0 5 rfl
                    clear he h0 hf hg
                    exact .inl ⟨rfl, .inl ⟨_, W, (by go_simp <;> rfl), .still (hW.upd 15 (by decide) (fun e => by omega)) rfl⟩⟩
                  · have e61 : ev (.tmp 61) = .pointer (some ⟨w.heap.size + 1, 0, none⟩) := he 15 (by decide) _ 61 rfl rfl
                    have k0 : W.cell? ⟨w.heap.size + 1, 0, none⟩ = some (.pointer (some ⟨a, 0, none⟩)) := cell_of_heapN hW.box
                    have k1 : W.cell? ⟨w.heap.size + 1, 1, none⟩ = some (.pointer (some ⟨r, 0, none⟩)) := cell_of_heapN hW.box
                    clear he h0 hf hg
                    exact .inl ⟨rfl, .inl ⟨_, W, (by go_simp <;> rfl), .still (hW.upd 16 (by decide) (fun e => by omega)) rfl⟩⟩
                  · have e62 : ev (.tmp 62) = .agg #[.pointer (some ⟨a, 0, none⟩), .pointer (some ⟨r, 0, none⟩)] := he 16 (by decide) _ 62 rfl rfl
                    clear he h0 hc hg
                    have h12 : L 12 = true := hW.1 (hd 14 (by decide))
                    have hS := hW.2.2.2.2 h12
                    refine .inl ⟨rfl, .inr (.inr ⟨21, #[.agg #[.pointer (some ⟨a, 0, none⟩), .pointer (some ⟨r, 0, none⟩)]], W, (by have hff := hf 21; clear hf; go_simp <;> rfl), ?_⟩)⟩
                    refine (hS.alike0 HSH2.out.1 HG.out (by omega)).mono ?_
                    rintro e w' ⟨rfl, hp⟩
                    exact ⟨_, rfl, .still ((hW.to h12 hp).upd 17 (by decide) (fun _ => h12)) rfl⟩
                  · have e63 : ev (.tmp 63) = .bool true := he 17 (by decide) _ 63 rfl rfl
                    clear he h0 hf hg
                    exact .inl ⟨rfl, .inl ⟨_, W, (by go_simp <;> rfl), .still (hW.upd 18 (by decide) (fun e => by omega)) rfl⟩⟩
                  · have e60 : ev (.tmp 60) = .bool false := he 14 (by decide) _ 60 rfl rfl
                    have e64 : ev (.tmp 64) = .bool false := he 18 (by decide) _ 64 rfl rfl
                    clear he h0 hf hg
                    exact .inl ⟨rfl, .inl ⟨_, W, (by go_simp <;> rfl), .still (hW.upd 19 (by decide) (fun e => by omega)) rfl⟩⟩
                  · have e65 : ev (.tmp 65) = .bool false := he 19 (by decide) _ 65 rfl rfl
                    clear he h0 hf hg
                    exact .inl ⟨rfl, .inl ⟨_, W, (by go_simp <;> rfl), .still (hW.upd 20 (by decide) (fun _ => hW.2.1 (hd 17 (by decide)))) rfl⟩⟩
                  · have e5 : ev (.tmp 5) = .pointer (some ⟨w.heap.size + 1, 0, none⟩) := h0 5 rfl
                    clear he h0 hf hg
                    exact .inl ⟨rfl, .inl ⟨_, W, (by go_simp <;> rfl), .still (hW.upd 21 (by decide) (fun e => by omega)) rfl⟩⟩
                  · have e67 : ev (.tmp 67) = .pointer (some ⟨w.heap.size + 1, 2, none⟩) := he 21 (by decide) _ 67 rfl rfl
                    have k2 : W.cell? ⟨w.heap.size + 1, 2, none⟩ = some (.pointer (some ⟨b, 0, none⟩)) := cell_of_heapN hW.box
                    have k3 : W.cell? ⟨w.heap.size + 1, 3, none⟩ = some (.pointer (some ⟨s, 0, none⟩)) := cell_of_heapN hW.box
                    clear he h0 hf hg
                    exact .inl ⟨rfl, .inl ⟨_, W, (by go_simp <;> rfl), .still (hW.upd 22 (by decide) (fun e => by omega)) rfl⟩⟩
                  · have e68 : ev (.tmp 68) = .agg #[.pointer (some ⟨b, 0, none⟩), .pointer (some ⟨s, 0, none⟩)] := he 22 (by decide) _ 68 rfl rfl
                    clear he h0 hc hg
                    have h12 : L 12 = true := hW.2.2.1 (hd 20 (by decide))
                    have hS := hW.2.2.2.2 h12
                    refine .inl ⟨rfl, .inr (.inr ⟨21, #[.agg #[.pointer (some ⟨b, 0, none⟩), .pointer (some ⟨s, 0, none⟩)]], W, (by have hff := hf 21; clear hf; go_simp <;> rfl), ?_⟩)⟩
                    refine (hS.alike1 HSH2.out.2 HG.out (by omega)).mono ?_
                    rintro e w' ⟨rfl, hp⟩
                    exact ⟨_, rfl, .still ((hW.to h12 hp).upd 23 (by decide) (fun _ => h12)) rfl⟩
                  · have e69 : ev (.tmp 69) = .bool true := he 23 (by decide) _ 69 rfl rfl
                    clear he h0 hf hg
                    exact .inl ⟨rfl, .inl ⟨_, W, (by go_simp <;> rfl), .still (hW.upd 24 (by decide) (fun e => by omega)) rfl⟩⟩
                  · have e66 : ev (.tmp 66) = .bool false := he 20 (by decide) _ 66 rfl rfl
                    have e70 : ev (.tmp 70) = .bool false := he 24 (by decide) _ 70 rfl rfl
                    clear he h0 hf hg
                    exact .inl ⟨rfl, .inl ⟨_, W, (by go_simp <;> rfl), .still (hW.upd 25 (by decide) (fun e => by omega)) rfl⟩⟩
--END150
                intro γ L W hL hW
                simp only [putAll, Act.put, List.setIfInBounds_toArray, List.set_cons_succ, List.set_cons_zero]
                have HP1 := Lib.hid (show Plyd w a r b s (i + 1) W from ⟨_, _, hW.2.2.2.2 (hL 12 (by decide)), HSH2.out.1, HSH2.out.2⟩)
                clear hL hW hI0
                go_wp2_with fail
                go_roundw
                case rel => exact ⟨ld + data.size + 1, i + 1, by omega, by rw [Int.natCast_add, Int.natCast_add]; rfl, by rw [Int.natCast_add]; rfl, by omega, by omega, HP1⟩
                case measure => simp [intOf]; omega
              · skip
                have HBIT := Lib.hid (show bits .and .i64 who 1 = 1 from by rw [i64_and1]; exact hbit)
                have HSH2 := Lib.hid (show DM.Short ma ∧ DM.Short (mb.step ⟨act, who, name, data, num, keep⟩) from ⟨HSH.out.1, step_short HSH.out.2 _⟩)
                have hI0 : PlW w a r b s i ma mb ma (mb.step ⟨act, who, name, data, num, keep⟩) (fun _ => false) wr.drew := ⟨(fun e => by cases e), (fun e => by cases e), (fun e => by cases e), fun _ => HPS.out.below ⟨rfl, rfl, rfl, Nat.le_refl _, fun _ _ => rfl⟩, (fun e => by cases e)⟩
                clear hbit c3 hload
--FLOW151
                refine wp_region_flowG (fun _ : Unit => [.slice (some ⟨sb, so, none⟩) N q1, .int .i64 i, .pointer (some ⟨sb, so + i * 6, none⟩), .pointer (some ⟨sb, so + i * 6 + 1, none⟩), .int .i64 who, .int .i64 1, .pointer (some ⟨w.heap.size + 1, 2, none⟩), .agg #[.pointer (some ⟨b, 0, none⟩), .pointer (some ⟨s, 0, none⟩)], .slice (some ⟨sb, so, none⟩) N q1, .int .i64 i, .pointer (some ⟨sb, so + i * 6, none⟩), .agg #[.int .i64 act, .int .i64 who, .string name, .string data, .int .i64 num, .slice kp keep.length kc], .bool true, .bool false, .bool false, .pointer (some ⟨w.heap.size + 1, 0, none⟩), .agg #[.pointer (some ⟨a, 0, none⟩), .pointer (some ⟨r, 0, none⟩)], .bool true, .bool false, .bool false, .bool false, .pointer (some ⟨w.heap.size + 1, 2, none⟩), .agg #[.pointer (some ⟨b, 0, none⟩), .pointer (some ⟨s, 0, none⟩)], .bool true, .bool false, .bool false]) (fun L _ W => PlW w a r b s i ma mb ma (mb.step ⟨act, who, name, data, num, keep⟩) L W)
                  [[], [], [0, 1], [2], [3], [4], [5], [6], [], [], [8, 9], [10], [7, 11], [12], [13, 12], [14], [15, 14], [16, 14, 14], [17, 14], [14, 18], [19, 17], [20], [21, 20], [22, 20, 20], [23, 20], [20, 24]] 73 () mixedD rfl (by kernel_rfl) (fun _ => rfl) hI0 ?_ ?_
                · refine ⟨?_, ?_, ?_, ?_, ?_, ?_, ?_, ?_, ?_, ?_, ?_, ?_, ?_, ?_, ?_, ?_, ?_, ?_, ?_, ?_, ?_, ?_, ?_, ?_, ?_, ?_, rfl⟩
                  all_goals intro L γ W ev hL hd hW hc hf hg he h0
                  · have e1 : ev (.tmp 1) = .slice (some ⟨sb, so, none⟩) N q1 := h0 1 rfl
                    clear he h0 hf hg
                    exact .inl ⟨rfl, .inl ⟨_, W, (by go_simp <;> rfl), .still (hW.upd 0 (by decide) (fun e => by omega)) rfl⟩⟩
                  · have e8 : ev (.tmp 8) = .int .i64 i := h0 8 rfl
                    clear he h0 hf hg
                    exact .inl ⟨rfl, .inl ⟨_, W, (by go_simp <;> rfl), .still (hW.upd 1 (by decide) (fun e => by omega)) rfl⟩⟩
                  · have e46 : ev (.tmp 46) = .slice (some ⟨sb, so, none⟩) N q1 := he 0 (by decide) _ 46 rfl rfl
                    have e47 : ev (.tmp 47) = .int .i64 i := he 1 (by decide) _ 47 rfl rfl
                    clear he h0 hf hg
                    exact .inl ⟨rfl, .inl ⟨_, W, (by go_simp <;> rfl), .still (hW.upd 2 (by decide) (fun e => by omega)) rfl⟩⟩
                  · have e48 : ev (.tmp 48) = .pointer (some ⟨sb, so + i * 6, none⟩) := he 2 (by decide) _ 48 rfl rfl
                    clear he h0 hf hg
                    exact .inl ⟨rfl, .inl ⟨_, W, (by go_simp <;> rfl), .still (hW.upd 3 (by decide) (fun e => by omega)) rfl⟩⟩
                  · have e49 : ev (.tmp 49) = .pointer (some ⟨sb, so + i * 6 + 1, none⟩) := he 3 (by decide) _ 49 rfl rfl
                    have c1 : W.cell? ⟨sb, so + i * 6 + 1, none⟩ = _ := (hW.bel.cell (p := ⟨sb, so + i * 6 + 1, none⟩) D.out.1).trans D.out.2.2.1
                    clear he h0 hf hg
                    exact .inl ⟨rfl, .inl ⟨_, W, (by go_simp <;> rfl), .still (hW.upd 4 (by decide) (fun e => by omega)) rfl⟩⟩
                  · have e50 : ev (.tmp 50) = .int .i64 who := he 4 (by decide) _ 50 rfl rfl
                    clear he h0 hf hg
                    exact .inl ⟨rfl, .inl ⟨.int .i64 (bits .and .i64 who 1), W, (by go_simp <;> rfl), .still (hW.upd 5 (by decide) (fun e => by omega)) (congrArg (Value.int .i64) HBIT.out.symm)⟩⟩
                  · have e5 : ev (.tmp 5) = .pointer (some ⟨w.heap.size + 1, 0, none⟩) := h0 5 rfl
                    have e51 : ev (.tmp 51) = .int .i64 1 := he 5 (by decide) _ 51 rfl rfl
                    clear he h0 hf hg
                    exact .inl ⟨rfl, .inl ⟨_, W, (by go_simp <;> rfl), .still (hW.upd 6 (by decide) (fun e => by omega)) rfl⟩⟩
                  · have e52 : ev (.tmp 52) = .pointer (some ⟨w.heap.size + 1, 2, none⟩) := he 6 (by decide) _ 52 rfl rfl
                    have k2 : W.cell? ⟨w.heap.size + 1, 2, none⟩ = some (.pointer (some ⟨b, 0, none⟩)) := cell_of_heapN hW.box
                    have k3 : W.cell? ⟨w.heap.size + 1, 3, none⟩ = some (.pointer (some ⟨s, 0, none⟩)) := cell_of_heapN hW.box
                    clear he h0 hf hg
                    exact .inl ⟨rfl, .inl ⟨_, W, (by go_simp <;> rfl), .still (hW.upd 7 (by decide) (fun e => by omega)) rfl⟩⟩
                  · have e1 : ev (.tmp 1) = .slice (some ⟨sb, so, none⟩) N q1 := h0 1 rfl
                    clear he h0 hf hg
                    exact .inl ⟨rfl, .inl ⟨_, W, (by go_simp <;> rfl), .still (hW.upd 8 (by decide) (fun e => by omega)) rfl⟩⟩
                  · have e8 : ev (.tmp 8) = .int .i64 i := h0 8 rfl
                    clear he h0 hf hg
                    exact .inl ⟨rfl, .inl ⟨_, W, (by go_simp <;> rfl), .still (hW.upd 9 (by decide) (fun e => by omega)) rfl⟩⟩
                  · have e54 : ev (.tmp 54) = .slice (some ⟨sb, so, none⟩) N q1 := he 8 (by decide) _ 54 rfl rfl
                    have e55 : ev (.tmp 55) = .int .i64 i := he 9 (by decide) _ 55 rfl rfl
                    clear he h0 hf hg
                    exact .inl ⟨rfl, .inl ⟨_, W, (by go_simp <;> rfl), .still (hW.upd 10 (by decide) (fun e => by omega)) rfl⟩⟩
                  · have e56 : ev (.tmp 56) = .pointer (some ⟨sb, so + i * 6, none⟩) := he 10 (by decide) _ 56 rfl rfl
                    have c0 : W.cell? ⟨sb, so + i * 6, none⟩ = _ := (hW.bel.cell (p := ⟨sb, so + i * 6, none⟩) D.out.1).trans D.out.2.1
                    have c1 : W.cell? ⟨sb, so + i * 6 + 1, none⟩ = _ := (hW.bel.cell (p := ⟨sb, so + i * 6 + 1, none⟩) D.out.1).trans D.out.2.2.1
                    have c2 : W.cell? ⟨sb, so + i * 6 + 2, none⟩ = _ := (hW.bel.cell (p := ⟨sb, so + i * 6 + 2, none⟩) D.out.1).trans D.out.2.2.2.1
                    have c3 : W.cell? ⟨sb, so + i * 6 + 3, none⟩ = _ := (hW.bel.cell (p := ⟨sb, so + i * 6 + 3, none⟩) D.out.1).trans D.out.2.2.2.2.1
                    have c4 : W.cell? ⟨sb, so + i * 6 + 4, none⟩ = _ := (hW.bel.cell (p := ⟨sb, so + i * 6 + 4, none⟩) D.out.1).trans D.out.2.2.2.2.2.1
                    have c5 : W.cell? ⟨sb, so + i * 6 + 5, none⟩ = _ := (hW.bel.cell (p := ⟨sb, so + i * 6 + 5, none⟩) D.out.1).trans D.out.2.2.2.2.2.2
                    clear he h0 hf hg
                    exact .inl ⟨rfl, .inl ⟨_, W, (by go_simp <;> rfl), .still (hW.upd 11 (by decide) (fun e => by omega)) rfl⟩⟩
                  · have e53 : ev (.tmp 53) = .agg #[.pointer (some ⟨b, 0, none⟩), .pointer (some ⟨s, 0, none⟩)] := he 7 (by decide) _ 53 rfl rfl
                    have e57 : ev (.tmp 57) = .agg #[.int .i64 act, .int .i64 who, .string name, .string data, .int .i64 num, .slice kp keep.length kc] := he 11 (by decide) _ 57 rfl rfl
                    clear he h0 hc hg
                    have hS := hW.2.2.2.1 hL
                    refine .inl ⟨rfl, .inr (.inr ⟨20, #[.agg #[.pointer (some ⟨b, 0, none⟩), .pointer (some ⟨s, 0, none⟩)], .agg #[.int .i64 act, .int .i64 who, .string name, .string data, .int .i64 num, .slice kp keep.length kc]], W, (by have hff := hf 20; clear hf; go_simp <;> rfl), ?_⟩)⟩
                    refine (show Calls Tryz.prog 20 #[.agg #[.pointer (some ⟨b, 0, none⟩), .pointer (some ⟨s, 0, none⟩)], .agg #[.int .i64 act, .int .i64 who, .string name, .string data, .int .i64 num, .slice kp keep.length kc]] W _ from hS.step1 HSH.out.2 HG.out ⟨act, who, name, data, num, keep⟩ kp keep.length kc HFIT.out HK.out (by omega)).mono ?_
                    rintro e w' ⟨rfl, hp⟩
                    exact ⟨_, rfl, .still (hW.stepped hp) rfl⟩
                  · have e58 : ev (.tmp 58) = .bool true := he 12 (by decide) _ 58 rfl rfl
                    clear he h0 hf hg
                    exact .inl ⟨rfl, .inl ⟨_, W, (by go_simp <;> rfl), .still (hW.upd 13 (by decide) (fun e => by omega)) rfl⟩⟩
                  · have e59 : ev (.tmp 59) = .bool false := he 13 (by decide) _ 59 rfl rfl
                    clear he h0 hf hg
                    exact .inl ⟨rfl, .inl ⟨_, W, (by go_simp <;> rfl), .still (hW.upd 14 (by decide) (fun _ => hd 12 (by decide))) rfl⟩⟩
                  · have e5 : ev (.tmp 5) = .pointer (some ⟨w.heap.size + 1, 0, none⟩) := h0 5 rfl
                    clear he h0 hf hg
                    exact .inl ⟨rfl, .inl ⟨_, W, (by go_simp <;> rfl), .still (hW.upd 15 (by decide) (fun e => by omega)) rfl⟩⟩
                  · have e61 : ev (.tmp 61) = .pointer (some ⟨w.heap.size + 1, 0, none⟩) := he 15 (by decide) _ 61 rfl rfl
                    have k0 : W.cell? ⟨w.heap.size + 1, 0, none⟩ = some (.pointer (some ⟨a, 0, none⟩)) := cell_of_heapN hW.box
                    have k1 : W.cell? ⟨w.heap.size + 1, 1, none⟩ = some (.pointer (some ⟨r, 0, none⟩)) := cell_of_heapN hW.box
                    clear he h0 hf hg
                    exact .inl ⟨rfl, .inl ⟨_, W, (by go_simp <;> rfl), .still (hW.upd 16 (by decide) (fun e => by omega)) rfl⟩⟩
                  · have e62 : ev (.tmp 62) = .agg #[.pointer (some ⟨a, 0, none⟩), .pointer (some ⟨r, 0, none⟩)] := he 16 (by decide) _ 62 rfl rfl
                    clear he h0 hc hg
                    have h12 : L 12 = true := hW.1 (hd 14 (by decide))
                    have hS := hW.2.2.2.2 h12
                    refine .inl ⟨rfl, .inr (.inr ⟨21, #[.agg #[.pointer (some ⟨a, 0, none⟩), .pointer (some ⟨r, 0, none⟩)]], W, (by have hff := hf 21; clear hf; go_simp <;> rfl), ?_⟩)⟩
                    refine (hS.alike0 HSH2.out.1 HG.out (by omega)).mono ?_
                    rintro e w' ⟨rfl, hp⟩
                    exact ⟨_, rfl, .still ((hW.to h12 hp).upd 17 (by decide) (fun _ => h12)) rfl⟩
                  · have e63 : ev (.tmp 63) = .bool true := he 17 (by decide) _ 63 rfl rfl
                    clear he h0 hf hg
                    exact .inl ⟨rfl, .inl ⟨_, W, (by go_simp <;> rfl), .still (hW.upd 18 (by decide) (fun e => by omega)) rfl⟩⟩
                  · have e60 : ev (.tmp 60) = .bool false := he 14 (by decide) _ 60 rfl rfl
                    have e64 : ev (.tmp 64) = .bool false := he 18 (by decide) _ 64 rfl rfl
                    clear he h0 hf hg
                    exact .inl ⟨rfl, .inl ⟨_, W, (by go_simp <;> rfl), .still (hW.upd 19 (by decide) (fun e => by omega)) rfl⟩⟩
                  · have e65 : ev (.tmp 65) = .bool false := he 19 (by decide) _ 65 rfl rfl
                    clear he h0 hf hg
                    exact .inl ⟨rfl, .inl ⟨_, W, (by go_simp <;> rfl), .still (hW.upd 20 (by decide) (fun _ => hW.2.1 (hd 17 (by decide)))) rfl⟩⟩
                  · have e5 : ev (.tmp 5) = .pointer (some ⟨w.heap.size + 1, 0, none⟩) := h0 5 rfl
                    clear he h0 hf hg
                    exact .inl ⟨rfl, .inl ⟨_, W, (by go_simp <;> rfl), .still (hW.upd 21 (by decide) (fun e => by omega)) rfl⟩⟩
                  · have e67 : ev (.tmp 67) = .pointer (some ⟨w.heap.size + 1, 2, none⟩) := he 21 (by decide) _ 67 rfl rfl
                    have k2 : W.cell? ⟨w.heap.size + 1, 2, none⟩ = some (.pointer (some ⟨b, 0, none⟩)) := cell_of_heapN hW.box
                    have k3 : W.cell? ⟨w.heap.size + 1, 3, none⟩ = some (.pointer (some ⟨s, 0, none⟩)) := cell_of_heapN hW.box
                    clear he h0 hf hg
                    exact .inl ⟨rfl, .inl ⟨_, W, (by go_simp <;> rfl), .still (hW.upd 22 (by decide) (fun e => by omega)) rfl⟩⟩
                  · have e68 : ev (.tmp 68) = .agg #[.pointer (some ⟨b, 0, none⟩), .pointer (some ⟨s, 0, none⟩)] := he 22 (by decide) _ 68 rfl rfl
                    clear he h0 hc hg
                    have h12 : L 12 = true := hW.2.2.1 (hd 20 (by decide))
                    have hS := hW.2.2.2.2 h12
                    refine .inl ⟨rfl, .inr (.inr ⟨21, #[.agg #[.pointer (some ⟨b, 0, none⟩), .pointer (some ⟨s, 0, none⟩)]], W, (by have hff := hf 21; clear hf; go_simp <;> rfl), ?_⟩)⟩
                    refine (hS.alike1 HSH2.out.2 HG.out (by omega)).mono ?_
                    rintro e w' ⟨rfl, hp⟩
                    exact ⟨_, rfl, .still ((hW.to h12 hp).upd 23 (by decide) (fun _ => h12)) rfl⟩
                  · have e69 : ev (.tmp 69) = .bool true := he 23 (by decide) _ 69 rfl rfl
                    clear he h0 hf hg
                    exact .inl ⟨rfl, .inl ⟨_, W, (by go_simp <;> rfl), .still (hW.upd 24 (by decide) (fun e => by omega)) rfl⟩⟩
                  · have e66 : ev (.tmp 66) = .bool false := he 20 (by decide) _ 66 rfl rfl
                    have e70 : ev (.tmp 70) = .bool false := he 24 (by decide) _ 70 rfl rfl
                    clear he h0 hf hg
                    exact .inl ⟨rfl, .inl ⟨_, W, (by go_simp <;> rfl), .still (hW.upd 25 (by decide) (fun e => by omega)) rfl⟩⟩
--END151
                intro γ L W hL hW
                simp only [putAll, Act.put, List.setIfInBounds_toArray, List.set_cons_succ, List.set_cons_zero]
                have HP1 := Lib.hid (show Plyd w a r b s (i + 1) W from ⟨_, _, hW.2.2.2.2 (hL 12 (by decide)), HSH2.out.1, HSH2.out.2⟩)
                clear hL hW hI0
                go_wp2_with fail
                go_roundw
                case rel => exact ⟨ld + data.size + 1, i + 1, by omega, by rw [Int.natCast_add, Int.natCast_add]; rfl, by rw [Int.natCast_add]; rfl, by omega, by omega, HP1⟩
                case measure => simp [intOf]; omega
            | true =>
              go_wp2_with fail
              go_ret
              exact ⟨rfl, HPS.out.bel⟩
          · refine (show _ from ?_)
            obtain ⟨ma, mb, hps, -, -⟩ := HP.out
            have HPS := Lib.hid hps
            have hw := works_any wr (HG.out.below hps.bel HG.out.2)
            have HWK := Lib.hid hw
            clear hw hps HP HPL
            go_wp2_with fail
            refine HWK.out.mono ?_
            rintro e w' ⟨rfl, hb⟩
            have HB := Lib.hid (HPS.out.bel.trans (hb.mono HPS.out.bel.size))
            clear hb
            go_wp2_with fail
            go_ret
            exact ⟨rfl, HB.out⟩
end Go.Proofs.YtlcompihcmhbiaaGreatDoor
