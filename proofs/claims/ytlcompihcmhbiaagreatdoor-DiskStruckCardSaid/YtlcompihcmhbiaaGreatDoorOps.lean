/- Contracts of a disk's operations. -/
import Derived.Test.YtlcompihcmhbiaaGreatDoorUsed
import Derived.Test.YtlcompihcmhbiaaGreatDoorNames
import Derived.Test.YtlcompihcmhbiaaGreatDoorOperateB
import Derived.Test.YtlcompihcmhbiaaGreatDoorFail
namespace Go.Proofs.YtlcompihcmhbiaaGreatDoor
open Go Go.RowKit Go.Maps Go.Shelf Go.Sort
attribute [local go_sem] eql_file neq_file guard_eqlF guard_neqF
/-- An operation's end. -/
def OpPost (a n : Nat) (m : DM) (c : DCall) (S : Nat → Prop) (w w' : World) (e : Ending) : Prop := e = .returned (errE (m.op c).2) ∧ DiskPost a (n + 1) (m.op c).1 S w w'
theorem DiskAt.more {w : World} {a n n' : Nat} {m : DM} {S : Nat → Prop} (h : DiskAt w a n m S) (hn : n ≤ n') : DiskAt w a n' m S := by
  obtain ⟨bn, bs, pv, fv, loc, h⟩ := h
  exact ⟨bn, bs, pv, fv, loc, { h with ok := h.ok.mono hn }⟩
theorem DiskPost.more {w w' : World} {a n n' : Nat} {m : DM} {S : Nat → Prop} (h : DiskPost a n m S w w') (hn : n ≤ n') : DiskPost a n' m S w w' := ⟨h.1.more hn, h.2⟩
theorem DiskPost.still {w w' : World} {a n : Nat} {m : DM} {S : Nat → Prop} (h : DiskAt w a n m S) (hb : Below w.heap.size w w') : DiskPost a n m S w w' :=
  ⟨(h.below hb).sup grow_sub (fun b hb2 => by
    rcases hb2 with h1 | ⟨_, h2⟩
    · exact Nat.lt_of_lt_of_le (h.lt b h1) hb.size
    · exact h2), (Off.refl S w).below hb (Nat.le_refl _)⟩
/-- From the world behind the boxes, which are S's too then. -/
theorem DiskPost.boxes {w w1 w' : World} {a n : Nat} {m : DM} {S S2 : Nat → Prop} (h : DiskPost a n m S2 w1 w') (h1 : Below w.heap.size w w1) (hs : ∀ b, S2 b → S b ∨ (w.heap.size ≤ b ∧ b < w1.heap.size)) (hl : ∀ b, S b → b < w.heap.size) : DiskPost a n m S w w' := by
  have hz := h1.size
  have hz2 := h.2.size
  refine ⟨h.1.sup ?_ ?_, ((Off.refl S w).below h1 (Nat.le_refl _)).trans h.2 (fun i hi hS => ?_)⟩
  · rintro b (hb | ⟨hb, hb2⟩)
    · rcases hs b hb with hb | ⟨hb, hb2⟩
      · exact .inl hb
      · exact .inr ⟨hb, by omega⟩
    · exact .inr ⟨by omega, hb2⟩
  · rintro b (hb | ⟨_, hb⟩)
    · have := hl b hb; omega
    · exact hb
  · rcases hs i hS with hS | ⟨hS, _⟩
    · exact hS
    · omega
theorem act_keep (m : DM) (c : DCall) : (m.act c).keep = m.keep := by
  cases c with
  | create k => rfl
  | write k s => simp only [DM.act]; split <;> rfl
  | sync k => simp only [DM.act]; split <;> rfl
  | rename o k => rfl
  | remove k => rfl
  | flush => rfl
/-- The whole of operate. -/
theorem operate_any {w : World} {a n : Nat} {m : DM} {S : Nat → Prop} (h : DiskAt w a n m S) (c : DCall) (kR kA : Nat) (lR lA : Array Value) (eR : Enters Tryz.prog kR) (eA : Enters Tryz.prog kA) (hn : n + 1 ≤ 8000000000000)
    (hR : m.off = false → ∀ W, Below w.heap.size w W → Calls Tryz.prog kR lR W fun e w' => e = .returned (errE (m.refused c)) ∧ Below W.heap.size W w')
    (hA : m.off = false → m.refused c = 0 → ∀ W, DiskAt W a n m.tick S → Off (fun b => b = a) w W → Calls Tryz.prog kA lA W fun e w' => e = .returned (.tuple #[]) ∧ DiskPost a (n + 1) (m.tick.act c) S W w') :
    Calls Tryz.prog 41 #[.pointer (some ⟨a, 0, none⟩), .func (.func kR) #[] lR, .bool c.late, .func (.func kA) #[] lA] w fun e w' => OpPost a n m c S w w' e := by
  unfold OpPost DM.op
  cases ho : m.off with
  | true =>
    refine (operate_off h kR kA lR lA c.late ho).mono ?_
    rintro e w' ⟨rfl, hb⟩
    exact ⟨rfl, (DiskPost.still h hb).more (by omega)⟩
  | false =>
    have hR := hR ho
    by_cases hr : m.refused c = 0
    · rw [hr] at hR
      have hA := hA ho hr
      by_cases ha : m.armed = 1
      · cases hl : c.late with
        | true =>
          refine (operate_late fail_ok (by omega) h kR kA lR lA ho ha eR hR).mono ?_
          rintro e w' ⟨rfl, hp⟩
          simp only [Bool.false_eq_true, if_false, hr, ne_eq, not_true_eq_false, ha, if_true]
          exact ⟨rfl, hp.more (by omega)⟩
        | false =>
          refine (operate_hit fail_ok (by omega) h kR kA lR lA ho ha eR eA _ hR hA).mono ?_
          rintro e w' ⟨rfl, hp⟩
          simp only [Bool.false_eq_true, if_false, hr, ne_eq, not_true_eq_false, ha, if_true]
          refine ⟨rfl, ?_⟩
          have hk : (m.tick.act c).keep = m.keep := act_keep m.tick c
          rw [hk] at hp
          exact hp
      · refine (operate_do h kR kA lR lA c.late ho ha eR eA _ hR hA).mono ?_
        rintro e w' ⟨rfl, hp⟩
        simp only [Bool.false_eq_true, if_false, hr, ne_eq, not_true_eq_false, ha]
        exact ⟨rfl, hp⟩
    · have e1 : errE (m.refused c) = errV (m.refused c) := by unfold errE; rw [if_neg hr]
      rw [e1] at hR
      refine (operate_no h kR kA lR lA c.late ho (m.refused c) hr eR hR).mono ?_
      rintro e w' ⟨rfl, hb⟩
      simp only [Bool.false_eq_true, if_false, hr, ne_eq, not_false_eq_true, if_true]
      exact ⟨by rw [e1], (DiskPost.still h hb).more (by omega)⟩
end Go.Proofs.YtlcompihcmhbiaaGreatDoor
