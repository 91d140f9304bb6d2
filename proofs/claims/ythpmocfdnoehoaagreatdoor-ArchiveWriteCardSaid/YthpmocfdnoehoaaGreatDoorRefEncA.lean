/- What the contract of the reference's Encode speaks of. -/
import Derived.Test.YthpmocfdnoehoaaGreatDoorRefB
import Derived.Test.YthpmocfdnoehoaaGreatDoorRefSplit
import Derived.Test.YthpmocfdnoehoaaGreatDoorEncErr
import Derived.Test.YthpmocfdnoehoaaGreatDoorRefBytes
import Derived.Test.YthpmocfdnoehoaaGreatDoorFreeMake
namespace Go.Proofs.YthpmocfdnoehoaaGreatDoor
open Go.RowKit
/-- The header lies in its box. -/
def EncR (w0 : World) (h : Hdr) (w : World) : Prop := Below w0.heap.size w0 w ∧ w.heap[w0.heap.size]? = some (.cells h.cells 24 (0, 0))
theorem EncR.step {w0 w w' : World} {h : Hdr} (hE : EncR w0 h w) (hb : Below w.heap.size w w') : EncR w0 h w' :=
  ⟨hE.1.trans (hb.mono hE.1.size), (hb.block _ (blk_lt hE.2)).trans hE.2⟩
theorem EncR.cell {w0 w : World} {h : Hdr} (hE : EncR w0 h w) : ∀ i : Nat, w.cell? ⟨w0.heap.size, i, none⟩ = h.cells[i]? := fun _ => cell_of_heapN hE.2
theorem EncR.new (w : World) (h : Hdr) : EncR w h (w.alloc (.cells h.cells 24)) := ⟨(Below.refl _ _).alloc (Nat.le_refl _) _, heap_new _ _⟩
theorem EncR.drew {w0 w : World} {h : Hdr} (hE : EncR w0 h w) : EncR w0 h w.drew := ⟨hE.1.drew, hE.2⟩
/-- What Encode answers. -/
def encV (h : Hdr) : Value := .tuple #[.string ⟨(if encErr h = 0 then encOf h else []).toArray⟩, .int .i64 (encErr h)]
theorem encV_bad {h : Hdr} {x : Int} (he : encErr h = x) (hx : x ≠ 0) : encV h = .tuple #[.string ⟨#[]⟩, .int .i64 x] := by
  unfold encV; rw [he, if_neg hx]
theorem encV_ok {h : Hdr} {X : ByteArray} (he : encErr h = 0) (hX : X.data.toList = encOf h) : encV h = .tuple #[.string X, .int .i64 0] := by
  unfold encV; rw [he, if_pos rfl, bytes_eq hX]
theorem encErr_wrong {h : Hdr} (hw : wrongB h = true) : encErr h = 6 := by unfold encErr; rw [if_pos hw]
theorem encErr_path {h : Hdr} (hw : wrongB h = false) (hs : splitOf h.path = none) : encErr h = 9 := by unfold encErr; rw [if_neg (by simp [hw]), hs]
theorem encErr_link {h : Hdr} {pn : ByteArray × ByteArray} (hw : wrongB h = false) (hs : splitOf h.path = some pn) (hl : 100 < h.link.size) : encErr h = 17 := by unfold encErr; rw [if_neg (by simp [hw]), hs]; simp only [if_pos hl]
theorem encErr_num {h : Hdr} {pn : ByteArray × ByteArray} (hw : wrongB h = false) (hs : splitOf h.path = some pn) (hl : ¬ 100 < h.link.size) (hn : (nums7 h && nums11 h) = false) : encErr h = 1 := by unfold encErr; rw [if_neg (by simp [hw]), hs]; simp only [if_neg hl]; rw [if_neg (by simp [hn])]
theorem encErr_ok {h : Hdr} {pn : ByteArray × ByteArray} (hw : wrongB h = false) (hs : splitOf h.path = some pn) (hl : ¬ 100 < h.link.size) (hn : (nums7 h && nums11 h) = true) : encErr h = 0 := by unfold encErr; rw [if_neg (by simp [hw]), hs]; simp only [if_neg hl]; rw [if_pos hn]
def octB (d : Nat) (x : Int) : ByteArray := ⟨(octal d x).toArray⟩
def filB (s : ByteArray) (n : Nat) : ByteArray := ⟨(filledOf s.data.toList n).toArray⟩
theorem octB_size (d : Nat) (x : Int) : (octB d x).size = d := by
  show (octal d x).toArray.size = d
  rw [List.size_toArray, octal_length]
theorem filB_size (s : ByteArray) (n : Nat) : (filB s n).size = n := by
  show (filledOf s.data.toList n).toArray.size = n
  rw [List.size_toArray]; unfold filledOf; rw [List.length_take, List.length_append, List.length_replicate]; omega
theorem app_list (a b : ByteArray) : (a ++ b).data.toList = a.data.toList ++ b.data.toList := by
  show (a.append b).data.toList = _
  simp
def aheadB (h : Hdr) (name : ByteArray) : ByteArray := filB name 100 ++ octB 7 h.mode ++ ⟨#[0]⟩ ++ octB 7 h.uid ++ ⟨#[0]⟩ ++ octB 7 h.gid ++ ⟨#[0]⟩ ++ octB 11 h.size ++ ⟨#[0]⟩ ++ octB 11 h.time ++ ⟨#[0]⟩
def behindB (h : Hdr) (pre : ByteArray) : ByteArray := ⟨#[h.typ]⟩ ++ filB h.link 100 ++ ⟨#[117, 115, 116, 97, 114, 0, 48, 48]⟩ ++ filB h.user 32 ++ filB h.group 32 ++ octB 7 h.major ++ ⟨#[0]⟩ ++ octB 7 h.minor ++ ⟨#[0]⟩ ++ filB pre 155 ++ filB ⟨#[]⟩ 12
theorem aheadB_list (h : Hdr) (name : ByteArray) : (aheadB h name).data.toList = aheadOf h name.data.toList := by
  unfold aheadB aheadOf octB filB
  simp only [app_list, List.append_assoc]
theorem behindB_list (h : Hdr) (pre : ByteArray) : (behindB h pre).data.toList = behindOf h pre.data.toList := by
  unfold behindB behindOf octB filB
  simp only [app_list, List.append_assoc]
  rw [filledOf_nil]
theorem enc_bytes {h : Hdr} {pre name : ByteArray} (hs : splitOf h.path = some (pre, name)) (hl : ¬ 100 < h.link.size) (hu : h.user.size ≤ 31) (hg : h.group.size ≤ 31) :
    ∃ S : Int, sumTo (aheadB h name ++ ⟨#[32, 32, 32, 32, 32, 32, 32, 32]⟩ ++ behindB h pre).data.toList (aheadB h name ++ ⟨#[32, 32, 32, 32, 32, 32, 32, 32]⟩ ++ behindB h pre).size = S ∧ 0 ≤ S ∧ S ≤ 131072 ∧ (aheadB h name ++ octB 6 S ++ ⟨#[0, 32]⟩ ++ behindB h pre).data.toList = encOf h ∧ (aheadB h name).size = 148 ∧ (behindB h pre).size = 356 := by
  obtain ⟨hp, hn⟩ := splitOf_bd hs
  obtain ⟨S, h1, h2, h3, h4, h5, h6⟩ := hdr_cat (h := h) (pre := pre.data.toList) (name := name.data.toList) hp hn (by show h.link.size ≤ 100; omega) hu hg
  have e1 : (aheadB h name).size = 148 := by rw [← h5, ← aheadB_list]; rfl
  have e2 : (behindB h pre).size = 356 := by rw [← h6, ← behindB_list]; rfl
  refine ⟨S, ?_, h2, h3, ?_, e1, e2⟩
  · have e3 : (aheadB h name ++ ⟨#[32, 32, 32, 32, 32, 32, 32, 32]⟩ ++ behindB h pre).size = 512 := by
      rw [ByteArray.size_append, ByteArray.size_append, e1, e2]; rfl
    rw [e3, app_list, app_list, aheadB_list, behindB_list, List.append_assoc]
    exact h1
  · unfold encOf
    rw [hs]
    show _ = hdrBytes h pre.data.toList name.data.toList
    rw [h4, app_list, app_list, app_list, aheadB_list, behindB_list]
    unfold octB
    simp only [List.append_assoc]
theorem sum_enc {h : Hdr} {pre name : ByteArray} {S : Int} (hS1 : sumTo (aheadB h name ++ ⟨#[32, 32, 32, 32, 32, 32, 32, 32]⟩ ++ behindB h pre).data.toList (aheadB h name ++ ⟨#[32, 32, 32, 32, 32, 32, 32, 32]⟩ ++ behindB h pre).size = S) (hS5 : (aheadB h name).size = 148) (hS6 : (behindB h pre).size = 356) (w : World) :
    Calls Tryz.prog 39 #[.string (aheadB h name ++ ⟨#[32, 32, 32, 32, 32, 32, 32, 32]⟩ ++ behindB h pre)] w fun e w' => e = .returned (.int .i64 S) ∧ Below w.heap.size w w' := by
  have hz : (aheadB h name ++ ⟨#[32, 32, 32, 32, 32, 32, 32, 32]⟩ ++ behindB h pre).size = 512 := by rw [ByteArray.size_append, ByteArray.size_append, hS5, hS6]; rfl
  have := Sum_any (aheadB h name ++ ⟨#[32, 32, 32, 32, 32, 32, 32, 32]⟩ ++ behindB h pre) w (by omega)
  rw [hS1] at this
  exact this
theorem conv_at (w : World) (b : Nat) (x : UInt8) (h : w.heap[b]? = some (.cells #[byteV x] 5 (0, 0))) : (convert 48 9 (.slice (some ⟨b, 0, none⟩) 1 1)).run Tryz.prog w = .ok (.string ⟨#[x]⟩) w := by
  have := run_convert_bytes_back (P := Tryz.prog) w 48 9 5 ⟨b, 0, none⟩ 1 [x] Tryz.underlying48 Tryz.underlying5 Tryz.underlying9 (fun j hj => by
    have hj0 : j = 0 := by simpa using hj
    subst hj0
    show w.cell? ⟨b, 0, none⟩ = _
    rw [cell_of_heapN h]
    rfl)
  exact this
/-- The header, and the block of the type's byte. -/
def EncB (w0 : World) (h : Hdr) (b : Nat) (w : World) : Prop := EncR w0 h w ∧ w.heap[b]? = some (.cells #[byteV h.typ] 5 (0, 0))
theorem EncB.step {w0 w w' : World} {h : Hdr} {b : Nat} (hE : EncB w0 h b w) (hb : Below w.heap.size w w') : EncB w0 h b w' :=
  ⟨hE.1.step hb, (hb.block _ (blk_lt hE.2)).trans hE.2⟩
end Go.Proofs.YthpmocfdnoehoaaGreatDoor
