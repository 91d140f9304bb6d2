/- Plain: what DiskStill leans on: no name comes from nowhere. -/
import Derived.Test.YtlcompihcmhbiaaGreatDoorSafeLaw
namespace Go.Proofs.YtlcompihcmhbiaaGreatDoor
def bsOf (ns : List ByteArray) : List Bs := ns.map fun s => s.data.toList
theorem bsOf_namesOf (m : DM) : bsOf m.namesOf = m.now.map (·.1) := by
  unfold bsOf DM.namesOf
  rw [List.map_map]
  refine List.map_congr_left fun p _ => ?_
  show (p.1.toArray).toList = p.1
  rfl
/-- The names behind a step. -/
def namesOn (m : DM) (ns : List ByteArray) (c : DCall) : List ByteArray := if (m.op c).2 = 0 then ns ++ (m.op c).1.namesOf else ns
theorem named_step {m : DM} (h : m.Calm) {ns : List ByteArray} (hn : m.Named (bsOf ns)) (c : DCall) : (m.op c).1.Named (bsOf (namesOn m ns c)) := by
  unfold namesOn
  rw [h.op_eq]
  by_cases hr : m.refused c ≠ 0
  · rw [if_pos hr, if_neg hr]
    exact hn
  · rw [if_neg hr, if_pos rfl]
    have hr : m.refused c = 0 := Decidable.not_not.1 hr
    have := hn.act c hr
    unfold bsOf at this ⊢
    rw [List.map_append]
    have e := bsOf_namesOf (m.act c)
    unfold bsOf at e
    rw [e]
    exact this
theorem named_flush {m : DM} (h : m.Calm) : (m.op .flush).1.Named (bsOf (m.op .flush).1.namesOf) := by
  rw [flush_op h]
  have e : bsOf (DM.namesOf { m with safe := m.now, pend := [] }) = m.now.map (·.1) := bsOf_namesOf _
  rw [e]
  have hin : inNames (m.now.map (·.1)) m.now := fun p hp => List.mem_map.2 ⟨p, hp, rfl⟩
  exact ⟨hin, hin, fun o ho => absurd ho List.not_mem_nil⟩
/-- Behind the failure each name is one of these. -/
theorem named_left {m : DM} (ho : m.off = false) {ns : List ByteArray} (hn : m.Named (bsOf ns)) (ks : List Int) {s : ByteArray} (hs : s ∈ (m.crash ks).revive.namesOf) : s ∈ ns := by
  have h1 := hn.fail ks
  have e : (m.crash ks).revive.now = (m.fail ks).now := by unfold DM.crash; rw [ho]; rfl
  unfold DM.namesOf at hs
  rw [e] at hs
  obtain ⟨p, hp, rfl⟩ := List.mem_map.1 hs
  obtain ⟨t, ht, h2⟩ := List.mem_map.1 (h1 p hp)
  have : nameB p = t := by
    apply ByteArray.ext
    show p.1.toArray = t.data
    rw [← h2]
  rw [this]
  exact ht
theorem crash_twice {m : DM} (ho : m.off = false) (ks k2 : List Int) : (m.crash ks).crash k2 = m.crash ks := by
  have : (m.crash ks).off = true := by unfold DM.crash; rw [ho]; rfl
  show (if (m.crash ks).off then m.crash ks else _) = _
  rw [this]
  rfl
theorem names_len (m : DM) : m.namesOf.length = m.now.length := List.length_map _
end Go.Proofs.YtlcompihcmhbiaaGreatDoor
