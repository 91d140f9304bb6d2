/- Plain: what DiskStruck leans on: what is armed does as a failure behind the operation. -/
import Derived.Test.YtlcompihcmhbiaaGreatDoorSafeLaw
namespace Go.Proofs.YtlcompihcmhbiaaGreatDoor
theorem arm_refused (m : DM) (x : Int) (ks : List Int) (c : DCall) : (m.arm x ks).refused c = m.refused c := by cases c <;> rfl
theorem arm_act (m : DM) (x : Int) (ks : List Int) (c : DCall) : (m.arm x ks).act c = (m.act c).arm x ks := by
  cases c with
  | create k => rfl
  | write k s =>
    simp only [DM.act]
    show (match m.get k with | some i => _ | none => _) = _
    cases m.get k <;> rfl
  | sync k =>
    simp only [DM.act]
    show (match m.get k with | some i => _ | none => _) = _
    cases m.get k <;> rfl
  | rename o k => rfl
  | remove k => rfl
  | flush => rfl
theorem arm_tick (m : DM) {x : Int} (ks : List Int) (h : 1 ≤ x) : (m.arm x ks).tick = m.arm (x - 1) ks := by
  have h1 : (m.arm x ks).armed = x := by show max x 0 = x; omega
  unfold DM.tick
  rw [h1, if_pos h]
  unfold DM.arm
  rw [show max (x - 1) 0 = x - 1 by omega]
theorem arm_fail (m : DM) (x : Int) (ks k2 : List Int) : (m.arm x ks).fail k2 = m.fail k2 := rfl
theorem arm_op_no {m : DM} (ho : m.off = false) {x : Int} (ks : List Int) (c : DCall) (hr : m.refused c ≠ 0) : (m.arm x ks).op c = (m.arm x ks, m.refused c) := by
  unfold DM.op
  rw [if_neg (by show ¬ m.off = true; rw [ho]; decide), arm_refused, if_pos hr]
theorem arm_op_do {m : DM} (ho : m.off = false) {x : Int} (hx : 1 < x) (ks : List Int) (c : DCall) (hr : m.refused c = 0) : (m.arm x ks).op c = ((m.act c).arm (x - 1) ks, 0) := by
  have h1 : (m.arm x ks).armed = x := by show max x 0 = x; omega
  unfold DM.op
  rw [if_neg (by show ¬ m.off = true; rw [ho]; decide), arm_refused, if_neg (by rw [hr]; exact fun h => h rfl), h1, if_neg (by omega), arm_tick m ks (by omega), arm_act]
theorem arm_op_hit {m : DM} (ho : m.off = false) (ks : List Int) (c : DCall) (hr : m.refused c = 0) : (m.arm 1 ks).op c = ((if c.late then m else m.act c).fail ks, 27) := by
  have h1 : (m.arm 1 ks).armed = 1 := rfl
  unfold DM.op
  rw [if_neg (by show ¬ m.off = true; rw [ho]; decide), arm_refused, if_neg (by rw [hr]; exact fun h => h rfl), h1, if_pos rfl, arm_tick m ks (by omega), arm_act]
  cases c.late <;> rfl
theorem calm_op_no {m : DM} (h : m.Calm) {c : DCall} (hr : m.refused c ≠ 0) : m.op c = (m, m.refused c) := by rw [h.op_eq, if_pos hr]
theorem calm_op_do {m : DM} (h : m.Calm) {c : DCall} (hr : m.refused c = 0) : m.op c = (m.act c, 0) := by rw [h.op_eq, if_neg (by rw [hr]; exact fun h => h rfl)]
/-- The numbers by which an operation is refused. -/
theorem refused_in (m : DM) (c : DCall) : m.refused c = 0 ∨ m.refused c = 8 ∨ m.refused c = 10 ∨ m.refused c = 11 ∨ m.refused c = 28 := by
  cases c <;> simp only [DM.refused] <;> (repeat' split) <;> simp
theorem crash_eq {m : DM} (ho : m.off = false) (ks : List Int) : m.crash ks = m.fail ks := by unfold DM.crash; rw [ho]; rfl
theorem act_off (m : DM) (c : DCall) : (m.act c).off = m.off := by cases c <;> simp only [DM.act] <;> first | rfl | (split <;> rfl)
theorem actRoom (m : DM) (c : DCall) : (m.act c).room = m.room := by cases c <;> simp only [DM.act] <;> first | rfl | (split <;> rfl)
end Go.Proofs.YtlcompihcmhbiaaGreatDoor
