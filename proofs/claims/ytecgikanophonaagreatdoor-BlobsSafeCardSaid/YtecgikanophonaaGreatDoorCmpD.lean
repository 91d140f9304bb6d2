/- Plain law: the order of byte texts (Lib.compareBytes) is a strict weak order, and it parts whatever two are not one. -/
import Derived.Lib.Bytealg
import Derived.Sort.Statements
namespace Go.Proofs.YtecgikanophonaaGreatDoor
open Go Go.Lib Go.Sort
theorem u8_trich (x y : UInt8) : x < y ∨ x = y ∨ y < x := by
  by_cases h1 : x < y
  · exact .inl h1
  · by_cases h2 : x = y
    · exact .inr (.inl h2)
    · exact .inr (.inr (UInt8.lt_of_le_of_ne (UInt8.not_lt.1 h1) (Ne.symm h2)))
theorem cmpB_self : ∀ a : List UInt8, compareBytes a a = 0
  | [] => rfl
  | x :: a => by
    unfold compareBytes
    rw [if_neg (UInt8.lt_irrefl x), if_neg (UInt8.lt_irrefl x)]
    exact cmpB_self a
theorem cmpB_zero : ∀ {a b : List UInt8}, compareBytes a b = 0 → a = b
  | [], [], _ => rfl
  | [], _ :: _, h => by unfold compareBytes at h; cases h
  | _ :: _, [], h => by unfold compareBytes at h; cases h
  | x :: a, y :: b, h => by
    unfold compareBytes at h
    split at h
    · cases h
    · split at h
      · cases h
      · rename_i h1 h2
        rcases u8_trich x y with e | e | e
        · exact absurd e h1
        · rw [e, cmpB_zero h]
        · exact absurd e h2
theorem cmpB_neg : ∀ a b : List UInt8, compareBytes b a = -compareBytes a b
  | [], [] => rfl
  | [], _ :: _ => rfl
  | _ :: _, [] => rfl
  | x :: a, y :: b => by
    unfold compareBytes
    rcases u8_trich x y with e | e | e
    · rw [if_neg (UInt8.lt_asymm e), if_pos e, if_pos e]; rfl
    · subst e
      rw [if_neg (UInt8.lt_irrefl x), if_neg (UInt8.lt_irrefl x), if_neg (UInt8.lt_irrefl x), if_neg (UInt8.lt_irrefl x)]
      exact cmpB_neg a b
    · rw [if_pos e, if_neg (UInt8.lt_asymm e), if_pos e]
theorem cmpB_trans : ∀ {a b c : List UInt8}, compareBytes a b < 0 → compareBytes b c < 0 → compareBytes a c < 0
  | [], [], _, h, _ => by unfold compareBytes at h; exact absurd h (by decide)
  | [], _ :: _, [], _, h => by unfold compareBytes at h; exact absurd h (by decide)
  | [], _ :: _, _ :: _, _, _ => by unfold compareBytes; decide
  | _ :: _, [], _, h, _ => by unfold compareBytes at h; exact absurd h (by decide)
  | _ :: _, _ :: _, [], _, h => by unfold compareBytes at h; exact absurd h (by decide)
  | x :: a, y :: b, z :: c, h1, h2 => by
    unfold compareBytes at h1 h2 ⊢
    rcases u8_trich x y with e | e | e
    · rcases u8_trich y z with f | f | f
      · rw [if_pos (UInt8.lt_trans e f)]; decide
      · subst f; rw [if_pos e]; decide
      · rw [if_neg (UInt8.lt_asymm f), if_pos f] at h2; exact absurd h2 (by decide)
    · subst e
      rcases u8_trich x z with f | f | f
      · rw [if_pos f]; decide
      · subst f
        rw [if_neg (UInt8.lt_irrefl x), if_neg (UInt8.lt_irrefl x)] at h1 h2 ⊢
        exact cmpB_trans h1 h2
      · rw [if_neg (UInt8.lt_asymm f), if_pos f] at h2; exact absurd h2 (by decide)
    · rw [if_neg (UInt8.lt_asymm e), if_pos e] at h1; exact absurd h1 (by decide)
def ltB (a b : List UInt8) : Bool := decide (compareBytes a b < 0)
theorem ltB_swo : SWO ltB where
  irrefl x := by unfold ltB; rw [cmpB_self]; decide
  trans x y z h1 h2 := by
    unfold ltB at *
    exact decide_eq_true (cmpB_trans (of_decide_eq_true h1) (of_decide_eq_true h2))
  ntrans x y z h1 h2 := by
    unfold ltB at *
    have h1 := of_decide_eq_false h1
    have h2 := of_decide_eq_false h2
    refine decide_eq_false fun h => ?_
    by_cases e : compareBytes x y = 0
    · rw [cmpB_zero e] at h
      exact h2 h
    · have h3 : compareBytes y x < 0 := by rw [cmpB_neg x y]; omega
      exact h2 (cmpB_trans h3 h)
theorem ltB_total (x y : List UInt8) (h1 : ltB x y = false) (h2 : ltB y x = false) : x = y := by
  unfold ltB at *
  have h1 := of_decide_eq_false h1
  have h2 := of_decide_eq_false h2
  rw [cmpB_neg x y] at h2
  exact cmpB_zero (by omega)
end Go.Proofs.YtecgikanophonaaGreatDoor
