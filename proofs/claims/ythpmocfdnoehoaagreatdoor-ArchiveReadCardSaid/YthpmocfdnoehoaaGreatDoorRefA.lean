/- Contracts of the reference's small functions: Filled, Octal, Sum, nought, in, Blocks, added, filled. -/
import Derived.Test.YthpmocfdnoehoaaGreatDoorMem
import Derived.Test.YthpmocfdnoehoaaGreatDoorWorld
import Derived.Test.YthpmocfdnoehoaaGreatDoorSum
import Derived.Test.YthpmocfdnoehoaaGreatDoorNumber
import Derived.Lib.ConvBytes
import Derived.Maps.AppendAt
namespace Go.Proofs.YthpmocfdnoehoaaGreatDoor
open Go.RowKit
/-- A slice of bytes that a call has made. -/
def OwnB (base : Nat) (l : Bs) (v : Value) (w : World) : Prop := w.ownsRow base 5 1 v l.length (l.map byteV)
theorem OwnB.nil (base : Nat) (w : World) : OwnB base [] (.slice none 0 0) w := World.ownsRow_nil _ _ _ _
theorem OwnB.keep {base : Nat} {l : Bs} {v : Value} {w w' : World} (h : OwnB base l v w) (hb : Below w.heap.size w w') : OwnB base l v w' := by
  refine ⟨h.1, ?_⟩
  rcases h.2 with h2 | ⟨g, cap, cur, h1, h2, h3, h4⟩
  · exact .inl h2
  · exact .inr ⟨g, cap, cur, h1, h2, (hb.block g (blk_lt h3)).trans h3, h4⟩
theorem OwnB.slice {base : Nat} {l : Bs} {v : Value} {w : World} (h : OwnB base l v w) : ∃ p cap, v = .slice p l.length cap := by
  rcases h.2 with ⟨h1, h2⟩ | ⟨g, cap, cur, h1, _⟩
  · exact ⟨none, 0, by rw [h1, h2]⟩
  · exact ⟨_, cap, h1⟩
theorem OwnB.app {base : Nat} {l : Bs} {x : UInt8} {v v' : Value} {w0 w w1 : World} {tmp : Obj} (h : OwnB base l v w) (hw : Below base w0 w) (hb : base ≤ w.heap.size) (hown' : w1.ownsRow base 5 1 v' (l.length + 1) (l.map byteV ++ [byteV x])) (hg : (w.alloc tmp).grownBy w1 v.ownBlock) :
    OwnB base (l ++ [x]) v' w1 ∧ Below base w0 w1 := by
  refine ⟨by unfold OwnB; rw [List.length_append, List.map_append]; exact hown', ?_⟩
  refine hw.trans (((Below.refl base w).alloc hb tmp).grown hg (by simp; omega) fun j ej => ?_)
  rcases h.2 with ⟨rfl, _⟩ | ⟨g, cap, cur, rfl, hb', _, _⟩
  · simp [Value.ownBlock] at ej
  · obtain rfl : g = j := by simpa [Value.ownBlock] using ej
    exact hb'
theorem OwnB.conv {base : Nat} {l : Bs} {v : Value} {w : World} (h : OwnB base l v w) : (convert 48 9 v).run Tryz.prog w = .ok (.string ⟨l.toArray⟩) w := by
  rcases h.2 with ⟨h1, h2⟩ | ⟨g, cap, cur, h1, h2, h3, h4, h5, h6, h7⟩
  · have : l = [] := List.eq_nil_of_length_eq_zero h2
    subst this
    subst h1
    have := run_convert_bytes_string (P := Tryz.prog) w 48 9 5 none 0 0 Tryz.underlying48 Tryz.underlying5 Tryz.underlying9
    rw [this]
    rfl
  · subst h1
    exact run_convert_bytes_back (P := Tryz.prog) w 48 9 5 ⟨g, 0, none⟩ cap l Tryz.underlying48 Tryz.underlying5 Tryz.underlying9 (fun j hj => by
      rw [show (⟨g, 0, none⟩ : Addr).add j = ⟨g, j, none⟩ by simp [Addr.add]; intro e; exact e.symm]
      rw [cell_of_heapN h3]
      have e1 : (l.map byteV)[j]? = some (byteV l[j]) := by simp [hj]
      rw [← h7, List.getElem?_take] at e1
      split at e1
      · rw [← Array.getElem?_toList]; exact e1
      · cases e1)
theorem infoB : (Tryz.prog.info? 5).map (fun i => (i.zero, i.size, i.bytes)) = some (some (.int .u8 0), 1, 1) := by kernel_rfl
theorem new1 (w : World) (x : UInt8) (t : TypeId) : ∀ (j : Nat) (u : Value), ([byteV x] : List Value)[j]? = some u → (w.alloc (.cells #[byteV x] t)).cell? ((⟨w.heap.size, 0, none⟩ : Addr).add j) = some u := by
  intro j u h
  rw [show ((⟨w.heap.size, 0, none⟩ : Addr).add j) = ⟨w.heap.size, j, none⟩ by simp [Addr.add]; intro e; exact e.symm, cell_new, ← h]
  rw [← Array.getElem?_toList]
theorem one1 (x : UInt8) : ∀ u ∈ ([byteV x] : List Value), u.oneCell' = true := by
  intro u hu
  rw [List.mem_singleton] at hu
  subst hu
  rfl
/-- A text with bytes 0 behind it, so many in all. -/
def filledOf (l : Bs) (n : Nat) : Bs := (l ++ List.replicate n 0).take n
theorem filledOf_succ (l : Bs) (i n : Nat) (hi : i < n) : (filledOf l n).take (i + 1) = (filledOf l n).take i ++ [l.getD i 0] := by
  have hl : i < (filledOf l n).length := by unfold filledOf; rw [List.length_take, List.length_append, List.length_replicate]; omega
  rw [List.take_succ_eq_append_getElem hl]
  congr 2
  have h := List.getElem?_eq_getElem hl
  unfold filledOf at h
  rw [List.getElem?_take, if_pos hi, List.getElem?_append] at h
  rw [List.getD_eq_getElem?_getD]
  split at h
  · rw [h]; rfl
  · rename_i hge
    rw [List.getElem?_replicate] at h
    rw [List.getElem?_eq_none (by omega)]
    split at h
    · exact (Option.some.inj h).symm
    · cases h
theorem get_eq (s : ByteArray) (k : Nat) (h : k < s.size) : s.data.toList.getD k 0 = s[k] := by
  rw [List.getD_eq_getElem?_getD, List.getElem?_eq_getElem (by exact h)]
  rfl
set_option maxHeartbeats 1600000 in
set_option maxRecDepth 100000 in
theorem Filled_any (s : ByteArray) (n : Nat) (w : World) (hn : (n : Int) ≤ 140737488355328) :
    Calls Tryz.prog 22 #[.string s, .int .i64 n] w fun e w' => e = .returned (.string ⟨(filledOf s.data.toList n).toArray⟩) ∧ Below w.heap.size w w' := by
  obtain ⟨i0, hi, hz0, hz1, hz2⟩ := info_parts infoB
  go_enter Tryz.func22, Tryz.ntmps22
  go_wp2_with fail
  obtain ⟨l, hl⟩ : ∃ l, s.data.toList = l := ⟨_, rfl⟩
  have HL := Lib.hid hl
  clear hl
  go_loopw [5, 6] (fun v iv wr => ∃ k : Nat, k ≤ n ∧ iv = .int .i64 k ∧ Hid (OwnB w.heap.size ((filledOf l n).take k) v wr) ∧ Hid (Below w.heap.size w wr)) (fun _ iv _ => n - (intOf iv).toNat)
  case atStart => exact ⟨0, Nat.zero_le _, rfl, OwnB.nil _ _, Below.refl _ _⟩
  case round =>
    obtain ⟨k, hk, rfl, hown, hbel⟩ := hrel
    have hfl : ((filledOf l n).take k).length = k := by unfold filledOf; simp only [List.length_take, List.length_append, List.length_replicate]; omega
    have hsz := hbel.out.size
    by_cases hlt : k < n
    · have HS := Lib.hid (filledOf_succ l k n hlt)
      by_cases hin : (k : Int) < (s.size : Int)
      · have hget := get_eq s k (by omega)
        rw [HL.out] at hget
        rw [hget] at HS
        have HG := Lib.hid hget
        clear hget
        go_wp2_with (first
          | (at_builtin; refine wpList_append_own _ rfl _ _ 48 rfl w.heap.size 5 i0 (.int .u8 0) 1 1 Tryz.underlying48 hi hz0 hz1 hz2 rfl (by decide) _ _ _ rfl (hown.out.alloc _) ⟨wr.heap.size, 0, none⟩ 1 1 [byteV (s[k]'(by omega))] rfl rfl (new1 wr _ _) (one1 _) (by rw [hfl]; unfold maxLen; omega) (by rw [hfl]; omega) (by rw [World.size_alloc]; omega) ?_; intro v' w1 hown' hgrow _)
          | go_in)
        case roundEnd =>
          have h := hown.out.app hbel.out hsz hown' hgrow
          rw [← HS.out] at h
          exact ⟨⟨k + 1, by omega, by rw [Int.natCast_add]; rfl, h.1, h.2⟩, by simp [intOf]; omega⟩
      · have hget : l.getD k 0 = 0 := by
          have hll : l.length = s.size := by rw [← HL.out]; rfl
          rw [List.getD_eq_getElem?_getD, List.getElem?_eq_none (by omega)]
          rfl
        rw [hget] at HS
        clear hget
        go_wp2_with (first
          | (at_builtin; refine wpList_append_own _ rfl _ _ 48 rfl w.heap.size 5 i0 (.int .u8 0) 1 1 Tryz.underlying48 hi hz0 hz1 hz2 rfl (by decide) _ _ _ rfl (hown.out.alloc _) ⟨wr.heap.size, 0, none⟩ 1 1 [byteV 0] rfl rfl (new1 wr _ _) (one1 _) (by rw [hfl]; unfold maxLen; omega) (by rw [hfl]; omega) (by rw [World.size_alloc]; omega) ?_; intro v' w1 hown' hgrow _)
          | go_in)
        case roundEnd =>
          have h := hown.out.app hbel.out hsz hown' hgrow
          rw [← HS.out] at h
          exact ⟨⟨k + 1, by omega, by rw [Int.natCast_add]; rfl, h.1, h.2⟩, by simp [intOf]; omega⟩
    · have hc := hown.out.conv
      have e : (filledOf l n).take k = filledOf l n := List.take_of_length_le (by unfold filledOf; simp only [List.length_take, List.length_append, List.length_replicate]; omega)
      rw [e] at hc
      go_wp2_with fail
      go_ret
      exact ⟨by rw [HL.out]; rfl, hbel.out⟩
theorem conv1 (w : World) (x : UInt8) : (convert 48 9 (.slice (some ⟨w.heap.size, 0, none⟩) 1 1)).run Tryz.prog (w.alloc (.cells #[byteV x] 5)) = .ok (.string ⟨#[x]⟩) (w.alloc (.cells #[byteV x] 5)) := by
  have := run_convert_bytes_back (P := Tryz.prog) (w.alloc (.cells #[byteV x] 5)) 48 9 5 ⟨w.heap.size, 0, none⟩ 1 [x] Tryz.underlying48 Tryz.underlying5 Tryz.underlying9 (fun j hj => by
    have : j = 0 := by simpa using hj
    subst this
    exact new1 w x 5 0 _ rfl)
  exact this
set_option maxHeartbeats 1600000 in
set_option maxRecDepth 100000 in
theorem Octal_any (x : Int) (d : Nat) (w : World) (hd : d ≤ 100) (h0 : 0 ≤ x) (h1 : x ≤ 9223372036854775807) :
    Calls Tryz.prog 38 #[.int .i64 x, .int .i64 d] w fun e w' => e = .returned (.string ⟨(octal d x).toArray⟩) ∧ Below w.heap.size w w' := by
  go_enter Tryz.func38, Tryz.ntmps38
  go_wp2_with fail
  go_loopw [0, 5, 6] (fun xv sv iv wr => ∃ k : Nat, k ≤ d ∧ iv = .int .i64 k ∧ xv = .int .i64 (div8 x k) ∧ sv = .string ⟨(octal k x).toArray⟩ ∧ Hid (Below w.heap.size w wr)) (fun _ _ iv _ => d - (intOf iv).toNat)
  case atStart => exact ⟨0, Nat.zero_le _, rfl, rfl, rfl, Below.refl _ _⟩
  case round =>
    obtain ⟨k, hk, rfl, rfl, rfl, hbel⟩ := hrel
    by_cases hlt : k < d
    · obtain ⟨y, hy⟩ : ∃ y, div8 x k = y := ⟨_, rfl⟩
      have hyb := div8_zero_le h0 k
      rw [hy] at hyb ⊢
      have HY := Lib.hid hy
      have hcv := conv1 wr (48 + y % 8).toNat.toUInt8
      rw [← digit_byte] at hcv
      clear hy
      have hcat : ¬ 9223372036854775807 < 1 + List.length (octal k x) := by rw [octal_length]; omega
      go_wp2_with fail
      refine ⟨⟨k + 1, by omega, by rw [Int.natCast_add]; rfl, ?_, ?_, hbel.out.alloc hbel.out.size _⟩, by simp [intOf]; omega⟩
      · rw [div8, HY.out]
      · rw [octal_snoc, HY.out]
        exact congrArg Value.string (ByteArray.ext (by simp))
    · go_wp2_with fail
      obtain rfl : k = d := by omega
      go_ret
      exact ⟨rfl, hbel.out⟩
end Go.Proofs.YthpmocfdnoehoaaGreatDoor
