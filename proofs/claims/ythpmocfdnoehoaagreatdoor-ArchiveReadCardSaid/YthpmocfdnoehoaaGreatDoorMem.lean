/- Plain: members as data and in memory; what archive.Write makes of them. -/
import Derived.Test.YthpmocfdnoehoaaGreatDoorEncErr
namespace Go.Proofs.YthpmocfdnoehoaaGreatDoor
open Go.RowKit
structure Mem where
  hdr : Hdr
  data : ByteArray
@[reducible] def Mem.cells (m : Mem) : Array Value := #[.string m.hdr.path, .int .i64 m.hdr.mode, .int .i64 m.hdr.uid, .int .i64 m.hdr.gid, .int .i64 m.hdr.size, .int .i64 m.hdr.time, .int .u8 (m.hdr.typ.toNat : Int), .string m.hdr.link, .string m.hdr.user, .string m.hdr.group, .int .i64 m.hdr.major, .int .i64 m.hdr.minor, .string m.data]
/-- A slice of members lies in memory. -/
def MemsAt (w : World) (p : Option Addr) (l : List Mem) : Prop :=
  (∀ i, i < l.length → ∃ b off, p = some ⟨b, off, none⟩ ∧ b < w.heap.size) ∧ ∀ b off, p = some ⟨b, off, none⟩ → ∀ (i : Nat) (m : Mem), l[i]? = some m → ∀ j, j < 13 → w.cell? ⟨b, off + (i * 13 + j), none⟩ = m.cells[j]?
/-- So many bytes, in blocks. -/
def whole (n : Nat) : Nat := (n + 511) / 512 * 512
def memBytes (m : Mem) : Bs := encOf m.hdr ++ (m.data.data.toList ++ List.replicate (whole m.data.size - m.data.size) 0)
/-- What a member is refused by, so many bytes lying ahead of it. -/
def wrBad (n : Nat) (m : Mem) : Int :=
  if encErr m.hdr ≠ 0 then encErr m.hdr else if m.hdr.size ≠ (m.data.size : Int) then 1 else if 33554432 < n + whole m.data.size + 1536 then 5 else 0
/-- What Write makes of members: the error, its place, the bytes. -/
def wrGo : List Mem → Nat → Bs → Int × Nat × Bs
  | [], _, acc => (0, 0, acc ++ List.replicate 1024 0)
  | m :: r, i, acc => if wrBad acc.length m ≠ 0 then (wrBad acc.length m, i, []) else wrGo r (i + 1) (acc ++ memBytes m)
def Mem.small (m : Mem) : Prop := m.hdr.small ∧ m.data.size ≤ 140737488351232
theorem hdrBytes_length (h : Hdr) (pre name : Bs) (hp : pre.length ≤ 155) (hn : name.length ≤ 100) (hk : h.link.size ≤ 100) (hu : h.user.size ≤ 31) (hg : h.group.size ≤ 31) : (hdrBytes h pre name).length = 512 := by
  have hk' : h.link.data.toList.length = h.link.size := rfl
  have hu' : h.user.data.toList.length = h.user.size := rfl
  have hg' : h.group.data.toList.length = h.group.size := rfl
  have z : z512.length = 512 := List.length_replicate
  have st : ∀ (l s : Bs) (i : Nat), l.length = 512 → i + s.length ≤ 512 → (over l i s).length = 512 := fun l s i h1 h2 => by rw [over_length (by omega), h1]
  have oc := octal_length
  unfold hdrBytes
  have hc : (chain h pre name).length = 512 := by
    unfold chain
    refine st _ _ _ (st _ _ _ (st _ _ _ (st _ _ _ (st _ _ _ (st _ _ _ (st _ _ _ (st _ _ _ (st _ _ _ (st _ _ _ (st _ _ _ (st _ _ _ (st _ _ _ (st _ _ _ z ?_) ?_) ?_) ?_) ?_) ?_) ?_) ?_) ?_) ?_) ?_) ?_) ?_) ?_
    all_goals (try rw [oc])
    all_goals (first | omega | (simp only [List.length_cons, List.length_nil]; omega))
  refine st _ _ _ (st _ _ _ hc ?_) ?_
  · rw [oc]; omega
  · simp
theorem enc_ok {h : Hdr} (he : encErr h = 0) : ∃ pre name, splitOf h.path = some (pre, name) ∧ wrongB h = false ∧ h.link.size ≤ 100 ∧ nums7 h = true ∧ nums11 h = true ∧ encOf h = hdrBytes h pre.data.toList name.data.toList ∧ pre.size ≤ 155 ∧ name.size ≤ 100 ∧ h.user.size ≤ 31 ∧ h.group.size ≤ 31 := by
  unfold encErr at he
  split at he
  · cases he
  · rename_i hw
    split at he
    · cases he
    · rename_i pn hs
      obtain ⟨pre, name⟩ := pn
      split at he
      · cases he
      · rename_i hl
        split at he
        · rename_i hn
          simp only [Bool.and_eq_true] at hn
          have hw' : wrongB h = false := by simpa using hw
          have hw2 := hw'
          simp only [wrongB, Bool.or_eq_false_iff, decide_eq_false_iff_not] at hw2
          obtain ⟨h1, h2⟩ := splitOf_bd hs
          exact ⟨pre, name, hs, hw', by omega, hn.1, hn.2, by unfold encOf; rw [hs], h1, h2, by omega, by omega⟩
        · cases he
theorem encOf_length {h : Hdr} (he : encErr h = 0) : (encOf h).length = 512 := by
  obtain ⟨pre, name, _, _, hl, _, _, e, h1, h2, h3, h4⟩ := enc_ok he
  rw [e]
  exact hdrBytes_length h _ _ h1 h2 hl h3 h4
end Go.Proofs.YthpmocfdnoehoaaGreatDoor
