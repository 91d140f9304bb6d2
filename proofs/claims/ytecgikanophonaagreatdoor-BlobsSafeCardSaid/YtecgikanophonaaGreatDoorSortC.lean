/- bytes.Compare at two rows of bytes, and the closure by which blobs.List sorts digests. -/
import Derived.Test.YtecgikanophonaaGreatDoorDigT
import Derived.Test.YtecgikanophonaaGreatDoorCmpD
import Derived.Lib.BytesEntry
namespace Go.Proofs.YtecgikanophonaaGreatDoor
open Go Go.RowKit Go.Maps Go.Shelf Go.Sort
/-- Bytes as they lie at a place. -/
def LiesAt (w : World) (b : Nat) (l : List UInt8) : Prop := ∀ (i : Nat) (x : UInt8), l[i]? = some x → w.cell? ⟨b, i, none⟩ = some (byteV x)
theorem bytesOf_bytes (l : List UInt8) : Lib.bytesOf (l.map fun x => (x.toNat : Int)) = l := by
  unfold Lib.bytesOf
  rw [List.map_map]
  exact (List.map_congr_left (fun x _ => by simp)).trans (List.map_id l)
theorem loads_any {w : World} {b : Nat} {l : List UInt8} (h : LiesAt w b l) (n c : Nat) (hn : l.length = n) : (Extern.Bytes.bytesOf (.slice (some ⟨b, 0, none⟩) n c)).run Tryz.prog w = .ok ⟨l.toArray⟩ w := by
  have hl := Lib.run_loadBytesX (P := Tryz.prog) w (l.map fun x => (x.toNat : Int)) ⟨b, 0, none⟩ .empty (fun j x hj => by
    rw [List.getElem?_map] at hj
    obtain ⟨y, hy, rfl⟩ := Option.map_eq_some_iff.1 hj
    have e : (⟨b, 0, none⟩ : Addr).add j = ⟨b, j, none⟩ := by unfold Addr.add; split <;> simp_all
    rw [e]
    exact h j y hy)
  rw [List.length_map, hn, bytesOf_bytes] at hl
  change (Extern.Bytes.loadBytes ⟨b, 0, none⟩ n .empty).run Tryz.prog w = _
  rw [hl]
  congr 1
  apply ByteArray.ext
  simp
theorem compare_run {w : World} {b b' : Nat} {l l' : List UInt8} (h : LiesAt w b l) (h' : LiesAt w b' l') (n n' c c' : Nat) (hn : l.length = n) (hn' : l'.length = n') :
    (Extern.BytealgCompare.compare #[.slice (some ⟨b, 0, none⟩) n c, .slice (some ⟨b', 0, none⟩) n' c']).run Tryz.prog w = .ok (.int .i64 (Lib.compareBytes l l')) w := by
  change Sem.run Tryz.prog (do pure (goInt (Extern.BytealgCompare.cmp (← Extern.Bytes.bytesOf (.slice (some ⟨b, 0, none⟩) n c)) (← Extern.Bytes.bytesOf (.slice (some ⟨b', 0, none⟩) n' c'))))) w = _
  simp only [Sem.run_bind, Sem.run_pure, loads_any h n c hn, loads_any h' n' c' hn', Result.andThen]
  rw [Lib.cmp_eq]
  rfl
set_option maxHeartbeats 1600000 in
set_option maxRecDepth 100000 in
/-- bytes.Compare. -/
theorem compare_any {w : World} {b b' : Nat} {l l' : List UInt8} (h : LiesAt w b l) (h' : LiesAt w b' l') (n n' c c' : Nat) (hn : l.length = n) (hn' : l'.length = n') :
    Calls Tryz.prog 101 #[.slice (some ⟨b, 0, none⟩) n c, .slice (some ⟨b', 0, none⟩) n' c'] w fun e w' => e = .returned (.int .i64 (Lib.compareBytes l l')) ∧ w' = w := by
  have hr := compare_run h h' n n' c c' hn hn'
  clear h h'
  go_enter Tryz.func101, Tryz.ntmps101
  go_wp2
  rw [run_callFunc_extern Tryz.func138 (by kernel_rfl) (by kernel_rfl) (by kernel_rfl) (e := Extern.BytealgCompare.compare) (by kernel_rfl), hr]
  simp only [Result.andThen]
  rw [Oper.upon_value]
  go_wp2
  go_ret
  exact ⟨rfl, rfl⟩
end Go.Proofs.YtecgikanophonaaGreatDoor
