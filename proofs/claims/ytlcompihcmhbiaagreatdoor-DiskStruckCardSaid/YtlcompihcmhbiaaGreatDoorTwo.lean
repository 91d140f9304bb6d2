/- Two disks of the call's own, beside blocks that they leave alone. -/
import Derived.Test.YtlcompihcmhbiaaGreatDoorHeld
namespace Go.Proofs.YtlcompihcmhbiaaGreatDoor
open Go Go.RowKit Go.Maps Go.Shelf
theorem DiskAt.frameS {w w' : World} {a n : Nat} {m : DM} {S : Nat → Prop} (h : DiskAt w a n m S) (hb : ∀ b, S b → w'.heap[b]? = w.heap[b]?) : DiskAt w' a n m S := by
  obtain ⟨bn, bs, pv, fv, loc, h⟩ := h
  exact ⟨bn, bs, pv, fv, loc, { h with
    head := (hb _ h.sa).trans h.head
    now := h.now.keep (hb _ h.sn)
    safe := h.safe.keep (hb _ h.ss)
    file := fun i f hf => ⟨(h.file i f hf).1, (hb _ (h.file i f hf).1).trans (h.file i f hf).2⟩
    pend := by
      obtain ⟨vs, h1, h2, h3⟩ := h.pend
      exact ⟨vs, row_keep h1 h3 (fun b _ hS _ => hb b hS), h2.keep (fun b _ _ hS _ _ => hb b hS) (fun _ x => x) (fun _ _ _ => rfl), h3⟩
    fate := ⟨row_keep h.fate.1 h.fate.2 (fun b _ hS _ => hb b hS), h.fate.2⟩
    lt := fun b hS => by
      have h1 := hb b hS
      rw [Array.getElem?_eq_getElem (h.lt b hS)] at h1
      exact blk_lt h1 }⟩
/-- Blocks a and b are disks that have nothing in common. -/
def Two (w w' : World) (P : Nat → Prop) (a na : Nat) (ma : DM) (b nb : Nat) (mb : DM) : Prop :=
  ∃ S : Nat → Prop, Held w w' (fun x => P x ∨ S x) a na ma ∧ DiskAt w' b nb mb S ∧ ∀ x, S x → w.heap.size ≤ x ∧ ¬ P x
section
variable {w w1 w' : World} {P : Nat → Prop} {a b na nb : Nat} {ma mb : DM}
theorem Two.swap (h : Two w w1 P a na ma b nb mb) : Two w w1 P b nb mb a na ma := by
  obtain ⟨S, ⟨T, h1, h2, h3, h4⟩, h5, h6⟩ := h
  refine ⟨T, ⟨S, h5, fun x hx => ⟨(h6 x hx).1, ?_⟩, h3, ?_⟩, h1, fun x hx => ⟨(h2 x hx).1, fun hP => (h2 x hx).2 (.inl hP)⟩⟩
  · rintro (hP | hT)
    · exact (h6 x hx).2 hP
    · exact (h2 x hT).2 (.inr hx)
  · rintro x (hP | hT)
    · exact h4 x (.inl hP)
    · exact h1.lt x hT
theorem Two.fst (h : Two w w1 P a na ma b nb mb) : Held w w1 P a na ma := by
  obtain ⟨S, h1, -⟩ := h
  exact h1.sub (fun _ => .inl)
theorem Two.snd (h : Two w w1 P a na ma b nb mb) : Held w w1 P b nb mb := h.swap.fst
theorem Two.below (h : Two w w1 P a na ma b nb mb) (hb : Below w1.heap.size w1 w') : Two w w' P a na ma b nb mb := by
  obtain ⟨S, h1, h2, h3⟩ := h
  exact ⟨S, h1.below hb, h2.below hb, h3⟩
theorem Two.drews {q : Nat} (h : Two w w1 P a na ma b nb mb) : Two w (w1.drewN q) P a na ma b nb mb := by
  obtain ⟨S, h1, h2, h3⟩ := h
  exact ⟨S, h1.drews, h2.frame (fun _ _ => rfl) (Nat.le_refl _), h3⟩
theorem Two.sub (h : Two w w1 P a na ma b nb mb) {Q : Nat → Prop} (hs : ∀ b, Q b → P b) : Two w w1 Q a na ma b nb mb := by
  obtain ⟨S, h1, h2, h3⟩ := h
  exact ⟨S, h1.sub (fun b hb => hb.imp (hs b) id), h2, fun x hx => ⟨(h3 x hx).1, fun hQ => (h3 x hx).2 (hs x hQ)⟩⟩
/-- These new blocks may be left alone from now on. -/
theorem Two.keeps (h : Two w w1 P a na ma b nb mb) (hb : Below w1.heap.size w1 w') : Two w w' (fun b => P b ∨ (w1.heap.size ≤ b ∧ b < w'.heap.size)) a na ma b nb mb := by
  obtain ⟨S, h1, h2, h3⟩ := h
  refine ⟨S, (h1.keeps hb).sub ?_, h2.below hb, fun x hx => ⟨(h3 x hx).1, ?_⟩⟩
  · rintro x ((hP | hP) | hS)
    · exact .inl (.inl hP)
    · exact .inr hP
    · exact .inl (.inr hS)
  · rintro (hP | ⟨hP, -⟩)
    · exact (h3 x hx).2 hP
    · exact absurd (h2.lt x hx) (by omega)
theorem Two.more (h : Two w w1 P a na ma b nb mb) {na' nb' : Nat} (h1 : na ≤ na') (h2 : nb ≤ nb') : Two w w1 P a na' ma b nb' mb := by
  obtain ⟨S, h3, h4, h5⟩ := h
  exact ⟨S, h3.more h1, h4.more h2, h5⟩
/-- An operation of the first. -/
theorem Two.lift {f : FuncId} {args : Array Value} (R : Ending → Prop) {na' : Nat} {ma' : DM} (h : Two w w1 P a na ma b nb mb)
    (hc : ∀ P', Held w w1 P' a na ma → Calls Tryz.prog f args w1 fun e w' => R e ∧ Held w w' P' a na' ma' ∧ Same P' w1 w') : Calls Tryz.prog f args w1 fun e w' => R e ∧ Two w w' P a na' ma' b nb mb ∧ Same P w1 w' := by
  obtain ⟨S, h1, h2, h3⟩ := h
  refine (hc _ h1).mono fun e w' hp => ?_
  obtain ⟨hR, hd, hs⟩ := hp
  exact ⟨hR, ⟨S, hd, h2.frameS (fun x hx => hs x (.inr hx)), h3⟩, fun x hx => hs x (.inl hx)⟩
/-- An operation of the second. -/
theorem Two.lift2 {f : FuncId} {args : Array Value} (R : Ending → Prop) {nb' : Nat} {mb' : DM} (h : Two w w1 P a na ma b nb mb)
    (hc : ∀ P', Held w w1 P' b nb mb → Calls Tryz.prog f args w1 fun e w' => R e ∧ Held w w' P' b nb' mb' ∧ Same P' w1 w') : Calls Tryz.prog f args w1 fun e w' => R e ∧ Two w w' P a na ma b nb' mb' ∧ Same P w1 w' :=
  (h.swap.lift R hc).mono fun _ _ ⟨h1, h2, h3⟩ => ⟨h1, h2.swap, h3⟩
theorem two_new (h : Held w w1 P a na ma) (r : Int) (h1 : -9223372036854775808 ≤ r) (h2 : r ≤ 9223372036854775807) :
    Calls Tryz.prog 8 #[.int .i64 r] w1 fun e w' => ∃ b, e = .returned (.pointer (some ⟨b, 0, none⟩)) ∧ Two w w' P a na ma b 0 (DM.new r) ∧ Same P w1 w' := by
  obtain ⟨S, h3, h4, h5, h6⟩ := h
  refine (held_new (P := fun x => P x ∨ S x) h5 (fun x hx => hx.elim (h6 x) (h3.lt x)) r h1 h2).mono fun e w' hp => ?_
  obtain ⟨b, rfl, hd, hs⟩ := hp
  have hT : Two w w' P b 0 (DM.new r) a na ma := ⟨S, hd, h3.frameS (fun x hx => hs x (.inr hx)), h4⟩
  exact ⟨b, rfl, hT.swap, fun x hx => hs x (.inl hx)⟩
theorem held_arm (h : Held w w1 P a na ma) (x : Int) (kv : Value) (ks : List Int) (hk : IntsRd (fun b => w.heap.size ≤ b) w kv ks) (hl : ks.length * 8 ≤ 140737488355328) (hx : x ≤ 9223372036854775807) :
    Calls Tryz.prog 23 #[.pointer (some ⟨a, 0, none⟩), .int .i64 x, .agg #[kv]] w1 fun e w' => e = .returned (.tuple #[]) ∧ Held w w' P a na (ma.arm x ks) ∧ Same P w1 w' := by
  obtain ⟨S, h1, h2, h3, h4⟩ := h
  have hk1 : IntsRd S w1 kv ks := hk.keep h3.size (fun b hS _ => (h2 b hS).1) (fun b hb _ => h3.block b hb)
  exact (arm_any h1 x kv ks hk1 hl hx).mono fun e w' hp => ⟨hp.1, Held.post h2 h3 h4 hp.2⟩
theorem held_used (h : Held w w1 P a na ma) (hn : na * ma.room ≤ 4611686018427387904) :
    Calls Tryz.prog 26 #[.pointer (some ⟨a, 0, none⟩)] w1 fun e w' => e = .returned (.int .i64 ma.used) ∧ Below w1.heap.size w1 w' := by
  obtain ⟨S, h1, -⟩ := h
  exact (used_any h1 hn).mono fun e w' hp => hp
theorem held_dead (h : Held w w1 P a na ma) (hn : na ≤ 8000000000000) (ho : ma.off = true) :
    Calls Tryz.prog 11 #[.pointer (some ⟨a, 0, none⟩), .string ⟨#[]⟩] w1 fun e w' => ∃ u, e = .returned (.tuple #[u, errE 27]) ∧ Below w1.heap.size w1 w' := by
  obtain ⟨S, h1, -⟩ := h
  refine (list_any h1 ⟨#[]⟩ hn).mono fun e w' hp => ?_
  obtain ⟨u, rfl, -, hb⟩ := hp
  exact ⟨u, by rw [ho]; rfl, hb⟩
end
end Go.Proofs.YtlcompihcmhbiaaGreatDoor
