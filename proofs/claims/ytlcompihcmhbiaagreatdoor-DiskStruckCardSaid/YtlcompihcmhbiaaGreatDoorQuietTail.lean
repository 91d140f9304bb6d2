/- Plain: a drawn region whose head only reads, walked by the cheap step, ahead of a tail. -/
import Derived.Test.YtlcompihcmhbiaaGreatDoorOperate
import Derived.Still
import Derived.BigQuiet
namespace Go.Proofs.YtlcompihcmhbiaaGreatDoor
open Go
theorem still_of_quiet {P : Program} {ops : Array Oper} {w0 : World} {Q : Act → Prop} : ∀ (l : List Oper) (a : Act), wpQuiet P ops (fun W => W = w0) Q l a → wpStill P ops w0 Q l a
  | [], _, h => h
  | o :: rest, a, h => by
    unfold wpQuiet at h
    unfold wpStill
    by_cases hw : Region.wanted o (yielded ops a.tmps) = true
    · rw [if_pos hw] at h ⊢
      obtain ⟨v, h1, h2⟩ := h
      have hq := h1 w0 rfl
      unfold Oper.quietAt at hq
      unfold Oper.still
      generalize (execOp a.eval o).run P w0 = r at hq ⊢
      cases r with
      | ok n w' =>
        cases n with
        | value u =>
          obtain ⟨rfl, rfl⟩ := hq
          exact ⟨rfl, still_of_quiet rest _ h2⟩
        | skip =>
          obtain ⟨rfl, rfl⟩ := hq
          exact ⟨rfl, still_of_quiet rest _ h2⟩
        | enter f args =>
          obtain ⟨rfl, hc⟩ := hq
          exact ⟨rfl, v, hc, still_of_quiet rest _ h2⟩
        | _ => exact hq.elim
      | halt x w' => exact hq.elim
    · rw [if_neg hw] at h ⊢
      exact still_of_quiet rest _ h
theorem wp_region_quietD {P : Program} {id : Nat} {Q : Exit → Act → World → Prop} {a : Act} {w : World} {l : List Oper} (n : Nat) (hm : P.follows .mixedOrders = true) (hB : Region.lexTailB .any l.toArray n = true)
    (h : wpQuiet P l.toArray (fun W => W = w.drewN 1) (fun a' => wpList P l.toArray Q (l.drop n) a' (w.drewN 1)) (l.take n) a) : (Code.region id l.toArray true).wp P Q a w := wp_region_tailD n hm hB (still_of_quiet _ _ h)
end Go.Proofs.YtlcompihcmhbiaaGreatDoor
