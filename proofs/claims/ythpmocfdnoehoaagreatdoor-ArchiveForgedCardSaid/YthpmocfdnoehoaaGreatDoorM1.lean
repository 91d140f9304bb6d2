/- Texts of the seat, one behind the other: Plain, Number, Sum, Hdr, Wrong, Small, Split, Within, Copy, World, Encode, EncErr, Mem, RefA, Build, Write, RefB, Field. -/
import Derived.WalkKit
import Derived.Lib.Hide
import Derived.Test.YthpmocfdnoehoaaGreatDoorProg
import Derived.WalkSpells
import Derived.WalkLawsBesides
import Derived.Deep.QuietTactic
import Derived.BigQuiet
import Derived.Lib.IndexAny
import Derived.Test.YthpmocfdnoehoaaGreatDoorShelf
import Derived.Laws.CopyRow
import Derived.RegionTactic
import Derived.Lib.ConvBytes
import Derived.Maps.AppendAt
import Derived.Shelf.Strings.SlTrimAscii
/- Plain definitions and laws: blocks of bytes in a world, octal digits: no program in sight. -/
namespace Go.Proofs.YthpmocfdnoehoaaGreatDoor
open Go.RowKit
theorem ret_int {k : IntKind} {a b : Int} (h : a = b) : Ending.returned (.int k a) = .returned (.int k b) := by rw [h]
abbrev Bs := List UInt8
def byteV (x : UInt8) : Value := .int .u8 (x.toNat : Int)
/-- A block of bytes of element type t. -/
def blk (t : TypeId) (l : Bs) : Obj := .cells (l.map byteV).toArray t (0, 0)
/-- The world with block b replaced. -/
def setBlk (w : World) (b : Nat) (o : Obj) : World := { w with heap := w.heap.setIfInBounds b o }
theorem heap_ext {w w' : World} (h : ∀ k : Nat, w.heap[k]? = w'.heap[k]?) (h1 : w.tape = w'.tape) (h2 : w.drawn = w'.drawn) (h3 : w.os = w'.os) (h4 : w.output = w'.output) : w = w' := by
  cases w; cases w'
  simp only at h h1 h2 h3 h4
  subst h1 h2 h3 h4
  simp only [World.mk.injEq, and_true]
  exact Array.ext_getElem? h
theorem setBlk_at (w : World) (b : Nat) (o : Obj) (k : Nat) : (setBlk w b o).heap[k]? = if b = k then (if b < w.heap.size then some o else none) else w.heap[k]? := by
  unfold setBlk; exact Array.getElem?_setIfInBounds
theorem setBlk_heap {w : World} {b : Nat} {o : Obj} (h : b < w.heap.size) : (setBlk w b o).heap[b]? = some o := by
  rw [setBlk_at, if_pos rfl, if_pos h]
theorem setBlk_other {w : World} {b : Nat} {o : Obj} {k : Nat} (h : k ≠ b) : (setBlk w b o).heap[k]? = w.heap[k]? := by
  rw [setBlk_at, if_neg (Ne.symm h)]
theorem setBlk_size {w : World} {b : Nat} {o : Obj} : (setBlk w b o).heap.size = w.heap.size := by simp [setBlk]
theorem setBlk_setBlk {w : World} {b : Nat} {o o' : Obj} : setBlk (setBlk w b o) b o' = setBlk w b o' := by
  refine heap_ext (fun k => ?_) rfl rfl rfl rfl
  rw [setBlk_at, setBlk_at, setBlk_at, setBlk_size]
  by_cases e : b = k
  · rw [if_pos e, if_pos e]
  · rw [if_neg e, if_neg e, if_neg e]
theorem setBlk_self {w : World} {b : Nat} {o : Obj} (h : w.heap[b]? = some o) : setBlk w b o = w := by
  refine heap_ext (fun k => ?_) rfl rfl rfl rfl
  rw [setBlk_at]
  by_cases e : b = k
  · subst e
    rw [if_pos rfl, h, if_pos]
    exact (Array.getElem?_eq_some_iff.1 h).1
  · rw [if_neg e]
theorem blk_cell {w : World} {b i : Nat} {t : TypeId} {l : Bs} {x : UInt8} (h : w.heap[b]? = some (blk t l)) (hi : l[i]? = some x) : w.cell? ⟨b, i, none⟩ = some (byteV x) := by
  simp [World.cell?, h, blk, hi]
theorem blk_frozen {w : World} {b i : Nat} {t : TypeId} {l : Bs} (h : w.heap[b]? = some (blk t l)) : w.frozen? ⟨b, i, none⟩ = false := by
  simp [World.frozen?, h, blk]
theorem blk_lt {w : World} {b : Nat} {o : Obj} (h : w.heap[b]? = some o) : b < w.heap.size := by
  rcases Nat.lt_or_ge b w.heap.size with h' | h'
  · exact h'
  · simp [Array.getElem?_eq_none h'] at h
theorem blk_set {w : World} {b i : Nat} {t : TypeId} {l : Bs} {x : UInt8} (h : w.heap[b]? = some (blk t l)) : w.setCell ⟨b, i, none⟩ (byteV x) = setBlk w b (blk t (l.set i x)) := by
  refine heap_ext (fun k => ?_) rfl rfl rfl rfl
  rw [setBlk_at]
  simp only [World.setCell, Array.getElem?_modify]
  by_cases e : b = k
  · subst e
    rw [if_pos rfl, if_pos rfl, if_pos (blk_lt h), h]
    simp [blk, List.map_set]
  · rw [if_neg e, if_neg e]
/-- d octal digits of x. -/
def octal : Nat → Int → Bs
  | 0, _ => []
  | d + 1, x => octal d (x / 8) ++ [(48 + x % 8).toNat.toUInt8]
theorem octal_length (d : Nat) : ∀ x, (octal d x).length = d := by
  induction d with
  | zero => intro x; rfl
  | succ d ih => intro x; simp [octal, ih]
/-- s laid over l at a place. -/
def over (l : Bs) (i : Nat) (s : Bs) : Bs := l.take i ++ s ++ l.drop (i + s.length)
theorem over_length {l s : Bs} {i : Nat} (h : i + s.length ≤ l.length) : (over l i s).length = l.length := by
  simp [over]; omega
/-- x divided by 8, k times. -/
def div8 (x : Int) : Nat → Int
  | 0 => x
  | k + 1 => div8 x k / 8
theorem div8_zero_le {x : Int} (h : 0 ≤ x) : ∀ k, 0 ≤ div8 x k ∧ div8 x k ≤ x := by
  intro k
  induction k with
  | zero => exact ⟨h, Int.le_refl _⟩
  | succ k ih => simp only [div8]; omega
theorem div8_succ (x : Int) (k : Nat) : div8 x (k + 1) = div8 (x / 8) k := by
  induction k with
  | zero => rfl
  | succ k ih => simp only [div8] at ih ⊢; rw [ih]
/-- the last k of d digits of x laid. -/
theorem octal_snoc (k : Nat) : ∀ x, octal (k + 1) x = (48 + div8 x k % 8).toNat.toUInt8 :: octal k x := by
  induction k with
  | zero => intro x; simp [octal, div8]
  | succ k ih => intro x; rw [octal, ih (x / 8), div8_succ]; simp [octal]
theorem over_set {l s : Bs} {i : Nat} {x : UInt8} (h : i + 1 + s.length ≤ l.length) : (over l (i + 1) s).set i x = over l i (x :: s) := by
  simp only [over, List.length_cons]
  have h1 : (l.take (i + 1)) = l.take i ++ [l[i]'(by omega)] := by rw [List.take_succ_eq_append_getElem (by omega)]
  rw [h1, List.append_assoc, List.append_assoc, List.set_append_right _ _ (by simp; omega)]
  have : i - (l.take i).length = 0 := by simp; omega
  rw [this]
  simp
  omega
end Go.Proofs.YthpmocfdnoehoaaGreatDoor
/- Contract of (*ustar.block).number: the block with the digits of x laid at a place. -/
namespace Go.Proofs.YthpmocfdnoehoaaGreatDoor
open Go.RowKit
theorem digit_byte (x : Int) : Value.int .u8 (48 + x % 8) = byteV (48 + x % 8).toNat.toUInt8 := by
  have h : (48 + x % 8).toNat < 256 := by omega
  have h2 : ((48 + x % 8).toNat : Int) = 48 + x % 8 := by omega
  simp [byteV, Nat.mod_eq_of_lt h, h2]
set_option maxHeartbeats 400000 in
theorem number_any (b i d : Nat) (l : Bs) (x : Int) (w : World) (hb : w.heap[b]? = some (blk 90 l)) (hl : l.length = 512) (hd : i + d ≤ 512) (h0 : 0 ≤ x) (h1 : x ≤ 9223372036854775807) :
    Calls Tryz.prog 48 #[.pointer (some ⟨b, 0, none⟩), .int .i64 i, .int .i64 d, .int .i64 x] w fun e w' =>
      e = .returned (.tuple #[]) ∧ setBlk w b (blk 90 (over l i (octal d x))) = w' := by
  go_enter Tryz.func48, Tryz.ntmps48
  go_wp2
  have HB := Lib.hid hb
  clear hb
  have hlen := hl
  have hl2 : l.length ≤ 512 := by omega
  have hl3 : 512 ≤ l.length := by omega
  clear hl hlen
  go_loopw [3, 8] (fun xv iv wr => ∃ (j : Nat) (y z : Int), j ≤ d ∧ Hid (z = (j : Int) - 1) ∧ 0 ≤ y ∧ y ≤ 9223372036854775807 ∧ Hid (y = div8 x (d - j)) ∧ iv = .int .i64 z ∧ xv = .int .i64 y ∧ Hid (wr = setBlk w b (blk 90 (over l (i + j) (octal (d - j) x)))))
    (fun _ iv _ => (intOf iv + 1).toNat)
  case atStart =>
    refine ⟨d, x, _, Nat.le_refl _, rfl, h0, h1, ?_, rfl, rfl, ?_⟩
    · rw [Nat.sub_self]; rfl
    · show w = setBlk w b (blk 90 (over l (i + d) (octal (d - d) x)))
      rw [Nat.sub_self, show over l (i + d) (octal 0 x) = l by simp [over, octal], setBlk_self HB.out]
  case round =>
    obtain ⟨j, y, z, hj, hz, hy0, hy1, hy, rfl, rfl, hwr⟩ := hrel
    cases j with
    | zero =>
      have hz' : z < 0 := by have := hz.out; omega
      go_wp2
      go_end0
      refine ⟨rfl, ?_⟩
      have := hwr.out
      rw [Nat.add_zero, Nat.sub_zero] at this
      exact this.symm
    | succ m =>
      obtain rfl : z = (m : Int) := by have := hz.out; omega
      have hbs := blk_lt HB.out
      have hwb : wr.heap[b]? = some (blk 90 (over l (i + (m + 1)) (octal (d - (m + 1)) x))) := by rw [hwr.out]; exact setBlk_heap hbs
      have hol : (over l (i + (m + 1)) (octal (d - (m + 1)) x)).length = l.length := over_length (by rw [octal_length]; omega)
      obtain ⟨v, hcell⟩ : ∃ v, wr.cell? ⟨b, i + m, none⟩ = some (byteV v) := ⟨_, blk_cell hwb (List.getElem?_eq_getElem (i := i + m) (by omega))⟩
      have hfro := blk_frozen (i := i + m) hwb
      have HW := Lib.hid hwb
      have HO := Lib.hid hol
      clear hwb hol hbs
      go_wp2
      go_roundw
      case rel =>
        refine ⟨m, y / 8, _, by omega, ?_, by omega, by omega, ?_, rfl, rfl, ?_⟩
        · exact rfl
        · show y / 8 = div8 x (d - m)
          rw [show d - m = (d - (m + 1)) + 1 from by omega]
          show _ = div8 x (d - (m + 1)) / 8
          rw [← hy.out]
        · show _ = _
          rw [digit_byte, blk_set HW.out, hwr.out, setBlk_setBlk, show i + (m + 1) = (i + m) + 1 from by omega, over_set (by rw [octal_length]; omega), show d - m = (d - (m + 1)) + 1 from by omega, octal_snoc, ← hy.out]
      case measure => simp [intOf]
end Go.Proofs.YthpmocfdnoehoaaGreatDoor
/- Contract of (*ustar.block).sum: the sum of a header's bytes, those of the sum itself as blanks. -/
namespace Go.Proofs.YthpmocfdnoehoaaGreatDoor
open Go.RowKit
/-- The sum of the first k bytes of a header. -/
def sumTo (l : Bs) : Nat → Int
  | 0 => 0
  | k + 1 => sumTo l k + (if 148 ≤ k ∧ k < 156 then 32 else ((l.getD k 0).toNat : Int))
theorem sumTo_bd (l : Bs) : ∀ k, 0 ≤ sumTo l k ∧ sumTo l k ≤ 256 * k := by
  intro k
  induction k with
  | zero => simp [sumTo]
  | succ k ih =>
    simp only [sumTo]
    have h := (l.getD k 0).toNat_lt
    split <;> omega
set_option maxHeartbeats 400000 in
set_option maxRecDepth 100000 in
theorem sum_any (b : Nat) (l : Bs) (w : World) (hb : w.heap[b]? = some (blk 90 l)) (hl : l.length = 512) :
    Calls Tryz.prog 49 #[.pointer (some ⟨b, 0, none⟩)] w fun e w' => e = .returned (.int .i64 (sumTo l 512)) ∧ ∃ n, w.drewN n = w' := by
  go_enter Tryz.func49, Tryz.ntmps49
  have HB := Lib.hid hb
  clear hb
  have hl2 : 512 ≤ l.length := by omega
  clear hl
  go_wp2
  go_loopw [3, 4, 5, 7] (fun sv _ _ iv wr => ∃ (k n : Nat) (s : Int), k ≤ 512 ∧ 0 ≤ s ∧ s ≤ 256 * k ∧ Hid (s = sumTo l k) ∧ iv = .int .i64 k ∧ sv = .int .i64 s ∧ wr = w.drewN n)
    (fun _ _ _ iv _ => 512 - (intOf iv).toNat)
  case atStart => exact ⟨0, 0, 0, by omega, by omega, by omega, rfl, rfl, rfl, rfl⟩
  case round =>
    obtain ⟨k, n, s, hk, hs0, hs1, hs, rfl, rfl, rfl⟩ := hrel
    by_cases hlt : k < 512
    · obtain ⟨x, hx⟩ : ∃ x : UInt8, l[k]? = some x := ⟨_, List.getElem?_eq_getElem (i := k) (by omega)⟩
      have hxl := x.toNat_lt
      have hxd : l.getD k 0 = x := by rw [List.getD_eq_getElem?_getD, hx]; rfl
      have hcell : w.cell? ⟨b, k, none⟩ = some (.int .u8 (x.toNat : Int)) := blk_cell HB.out hx
      have HX := Lib.hid hx
      have HD := Lib.hid hxd
      clear hx hxd
      go_wp2
      go_quiet (fail)
      by_cases h1 : 148 ≤ k
      · by_cases h2 : k < 156
        · go_wp2
          go_roundw
          case rel => exact ⟨k + 1, _, s + 32, by omega, by omega, by omega, by show s + 32 = _; rw [sumTo, if_pos ⟨h1, h2⟩, ← hs.out], by go_num, rfl, rfl⟩
          case measure => simp [intOf]; omega
        · go_wp2
          go_roundw
          case rel => exact ⟨k + 1, _, s + x.toNat, by omega, by omega, by omega, by show s + (x.toNat : Int) = _; rw [sumTo, if_neg (by omega), ← hs.out, HD.out], by go_num, rfl, rfl⟩
          case measure => simp [intOf]; omega
      · have h3 : decide (148 ≤ (k : Int)) = false := by simp; omega
        go_wp2
        go_roundw
        case rel => exact ⟨k + 1, _, s + x.toNat, by omega, by omega, by omega, by show s + (x.toNat : Int) = _; rw [sumTo, if_neg (by omega), ← hs.out, HD.out], by go_num, rfl, rfl⟩
        case measure => simp [intOf]; omega
    · go_wp2
      go_ret
      refine ⟨ret_int ?_, n, rfl⟩
      rw [hs.out, show k = 512 from by omega]
end Go.Proofs.YthpmocfdnoehoaaGreatDoor
/- Plain: a header's fields as data, and as a value. -/
namespace Go.Proofs.YthpmocfdnoehoaaGreatDoor
open Go.RowKit
structure Hdr where
  path : ByteArray
  mode : Int
  uid : Int
  gid : Int
  size : Int
  time : Int
  typ : UInt8
  link : ByteArray
  user : ByteArray
  group : ByteArray
  major : Int
  minor : Int
@[reducible] def Hdr.cells (h : Hdr) : Array Value := #[.string h.path, .int .i64 h.mode, .int .i64 h.uid, .int .i64 h.gid, .int .i64 h.size, .int .i64 h.time, .int .u8 (h.typ.toNat : Int), .string h.link, .string h.user, .string h.group, .int .i64 h.major, .int .i64 h.minor]
/-- A text has a byte 0. -/
def nulIn (s : ByteArray) : Bool := s.data.toList.contains 0
/-- A text of a header cannot stand in it. -/
def wrongB (h : Hdr) : Bool := nulIn h.path || nulIn h.link || nulIn h.user || nulIn h.group || decide (31 < h.user.size) || decide (31 < h.group.size)
theorem wrongB_eq (h : Hdr) : wrongB h = (decide (0 ≤ Lib.indexByte (h.path.data.toList ++ (h.link.data.toList ++ (h.user.data.toList ++ h.group.data.toList))) 0) || decide (31 < (h.user.size : Int)) || decide (31 < (h.group.size : Int))) := by
  rw [show decide (31 < (h.user.size : Int)) = decide (31 < h.user.size) by simp only [decide_eq_decide]; omega, show decide (31 < (h.group.size : Int)) = decide (31 < h.group.size) by simp only [decide_eq_decide]; omega]
  rw [← Lib.contains_iff_indexByte]
  simp only [wrongB, nulIn, List.contains_eq_mem, List.mem_append, Bool.decide_or, Bool.or_assoc]
theorem or3 {a b c : Prop} [Decidable a] [Decidable b] [Decidable c] (h : a ∨ b ∨ c) : true = (decide a || decide b || decide c) := by
  rcases h with h | h | h <;> simp [h]
theorem ret_bool {a b : Bool} (h : a = b) : Ending.returned (.bool a) = .returned (.bool b) := by rw [h]
end Go.Proofs.YthpmocfdnoehoaaGreatDoor
/- Contract of ustar.wrongText. -/
namespace Go.Proofs.YthpmocfdnoehoaaGreatDoor
open Go.RowKit
set_option maxHeartbeats 400000 in
set_option maxRecDepth 100000 in
theorem wrong_any (h : Hdr) (w : World) (hp : h.path.size ≤ 140737488355328) (hk : h.link.size ≤ 140737488355328) (hu : h.user.size ≤ 140737488355328) (hg : h.group.size ≤ 140737488355328) :
    Calls Tryz.prog 45 #[.agg h.cells] w fun e w' => e = .returned (.bool (wrongB h)) ∧ Below w.heap.size w w' := by
  go_enter Tryz.func45, Tryz.ntmps45
  go_wp2_with fail
  refine (Tryz.strings_IndexByte _ _ _).mono ?_
  rintro e w' ⟨rfl, rfl⟩
  have HE := Lib.hid (wrongB_eq h)
  have hb : Below w.heap.size w (w.alloc (.cells h.cells 24)) := (Below.refl _ _).alloc (Nat.le_refl _) _
  go_wp2
  all_goals
    go_ret
    refine ⟨ret_bool ?_, hb⟩
    refine Eq.trans ?_ HE.out.symm
    first | rfl | exact or3 (.inl ‹_›) | exact or3 (.inr (.inl ‹_›))
end Go.Proofs.YthpmocfdnoehoaaGreatDoor
/- Contracts of small functions: what each returns, in whatever world. -/
namespace Go.Proofs.YthpmocfdnoehoaaGreatDoor
open Go.RowKit
set_option maxHeartbeats 400000 in
theorem whole_any (n : Int) (w : World) (h0 : 0 ≤ n) (h1 : n ≤ 9223372036854774784) :
    Calls Tryz.prog 27 #[.int .i64 n] w fun e w' => e = .returned (.int .i64 ((n + 511) / 512 * 512)) ∧ w = w' := by
  go_enter Tryz.func27, Tryz.ntmps27
  go_wp2
  go_ret
  refine ⟨ret_int ?_, rfl⟩
  omega
/-- An error with a place. -/
def faultV (n line i : Int) : Value := .iface 61 (.agg #[.int .i64 n, .int .i64 line, .int .i64 i])
/-- An error that is a number. -/
def errV (n : Int) : Value := .iface 59 (.int .i64 n)
theorem ta_errno (n : Int) (w : World) : (Instr.typeAssert (.iface 59 (.int .i64 n)) 32 59 true).run Tryz.prog w = .ok (.tuple #[.int .i64 n, .bool true]) w := by kernel_rfl
set_option maxHeartbeats 400000 in
set_option maxRecDepth 100000 in
theorem fault_any (n i : Int) (w : World) :
    Calls Tryz.prog 25 #[errV n, .int .i64 i] w fun e w' => e = .returned (faultV n 0 i) ∧ w = w' := by
  unfold errV faultV
  have hta := ta_errno n
  go_enter Tryz.func25, Tryz.ntmps25
  go_wp2
  go_ret
  exact ⟨rfl, rfl⟩
/-- A number from 0 to n - 1 out of any k. -/
def pick (k n : Int) : Int := if k.tmod n < 0 then k.tmod n + n else k.tmod n
set_option maxHeartbeats 400000 in
theorem pick_any (k n : Int) (w : World) (h0 : 1 ≤ n) (h1 : n ≤ 9223372036854775807) (_h2 : -9223372036854775808 ≤ k) (_h3 : k ≤ 9223372036854775807) :
    Calls Tryz.prog 37 #[.int .i64 k, .int .i64 n] w fun e w' => e = .returned (.int .i64 (pick k n)) ∧ w = w' := by
  go_enter Tryz.func37, Tryz.ntmps37
  go_wp2
  all_goals go_ret
  · have h4 := Int.lt_tmod_of_pos k (show 0 < n by omega)
    have h5 := Int.tmod_lt_of_pos k (show 0 < n by omega)
    exact ⟨ret_int (by rw [pick, if_pos ‹_›]; exact IntWalk.wrap64_in _ ⟨by omega, by omega⟩), rfl⟩
  · exact ⟨ret_int (by rw [pick, if_neg (by omega)]), rfl⟩
theorem pick_bd (k n : Int) (h : 1 ≤ n) : 0 ≤ pick k n ∧ pick k n < n := by
  have h4 := Int.lt_tmod_of_pos k (show 0 < n by omega)
  have h5 := Int.tmod_lt_of_pos k (show 0 < n by omega)
  unfold pick; split <;> omega
end Go.Proofs.YthpmocfdnoehoaaGreatDoor
/- Contract of path.Split. -/
namespace Go.Proofs.YthpmocfdnoehoaaGreatDoor
open Go.RowKit

/-- The bytes of a long path among which its slash is looked for. -/
def win (p : ByteArray) : Bs := List.take (p.size - 1 - (p.size - 100 - 1)) (List.drop (p.size - 100 - 1) p.data.toList)
theorem indexByte_le (l : Bs) (c : UInt8) : Lib.indexByte l c < l.length ∨ Lib.indexByte l c = -1 := by
  have h := Lib.indexByte_ge l c
  by_cases e : Lib.indexByte l c = -1
  · exact .inr e
  · obtain ⟨o, ho⟩ := Int.eq_ofNat_of_zero_le (a := Lib.indexByte l c) (by omega)
    have h2 := (Lib.indexByte_some (o := o) ho).1
    have h3 := (List.getElem?_eq_some_iff.1 h2).1
    left; omega
theorem win_bd (p : ByteArray) (h : 100 < p.size) : -1 ≤ Lib.indexByte (win p) 47 ∧ Lib.indexByte (win p) 47 ≤ 99 := by
  have h1 := Lib.indexByte_ge (win p) 47
  have h2 := indexByte_le (win p) 47
  have h3 : (win p).length ≤ 100 := by simp only [win, List.length_take]; omega
  omega
/-- A path as a header says it: prefix and name; none: it can't. -/
def splitOf (p : ByteArray) : Option (ByteArray × ByteArray) :=
  if p.size ≤ 100 then some (⟨#[]⟩, p) else
  if Lib.indexByte (win p) 47 < 0 ∨ p.size + Lib.indexByte (win p) 47 < 102 ∨ 256 < p.size + Lib.indexByte (win p) 47 then none else
  some (p.extract 0 (p.size - 100 - 1 + (Lib.indexByte (win p) 47).toNat), p.extract (p.size - 100 - 1 + (Lib.indexByte (win p) 47).toNat + 1) p.size)
theorem idx_eq (s : ByteArray) (c : Int) (w : World) (i : Int) (h : Lib.indexByte s.data.toList c.toNat.toUInt8 = i) :
    Calls Tryz.prog 65 #[.string s, .int .u8 c] w fun e w' => e = .returned (.int .i64 i) ∧ w = w' :=
  (Tryz.strings_IndexByte s c w).mono fun _ _ ⟨he, hw⟩ => ⟨by rw [he, h], hw.symm⟩
theorem win_eq (p : ByteArray) : (p.extract (p.size - 100 - 1) (p.size - 1)).data.toList = win p := by
  rw [Lib.extract_data]; rfl
set_option maxHeartbeats 400000 in
theorem split_short (p : ByteArray) (w : World) (hp : p.size ≤ 100) :
    Calls Tryz.prog 46 #[.string p] w fun e w' => e = .returned (.tuple #[.string ⟨#[]⟩, .string p, .nilIface]) ∧ w = w' := by
  go_enter Tryz.func46, Tryz.ntmps46
  go_wp2_with fail
  go_ret3
  exact ⟨rfl, rfl⟩
set_option maxHeartbeats 400000 in
theorem split_bad (p : ByteArray) (w : World) (hp : 100 < p.size) (hm : p.size ≤ 140737488355328) (hb : Lib.indexByte (win p) 47 < 0 ∨ p.size + Lib.indexByte (win p) 47 < 102 ∨ 256 < p.size + Lib.indexByte (win p) 47) :
    Calls Tryz.prog 46 #[.string p] w fun e w' => e = .returned (.tuple #[.string ⟨#[]⟩, .string ⟨#[]⟩, errV 9]) ∧ w = w' := by
  have hw := win_bd p hp
  go_enter Tryz.func46, Tryz.ntmps46
  go_wp2_with fail
  obtain ⟨i, hi⟩ : ∃ i, Lib.indexByte (win p) 47 = i := ⟨_, rfl⟩
  rw [hi] at hb hw
  refine (idx_eq _ _ _ i (by rw [← hi, ← win_eq]; rfl)).mono ?_
  clear hi
  rintro e w' ⟨rfl, rfl⟩
  by_cases h1 : i < 0
  · go_wp2_with fail
    go_ret3
    exact ⟨rfl, rfl⟩
  · by_cases h2 : p.size + i < 102
    · go_wp2_with fail
      go_ret3
      exact ⟨rfl, rfl⟩
    · have h3 : 256 < p.size + i := by omega
      go_wp2_with fail
      go_ret3
      exact ⟨rfl, rfl⟩
set_option maxHeartbeats 400000 in
theorem split_long (p : ByteArray) (k : Nat) (w : World) (hp : 100 < p.size) (hm : p.size ≤ 140737488355328) (hk : Lib.indexByte (win p) 47 = k) (h1 : 102 ≤ p.size + k) (h2 : p.size + k ≤ 256) :
    Calls Tryz.prog 46 #[.string p] w fun e w' => e = .returned (.tuple #[.string (p.extract 0 (p.size - 100 - 1 + k)), .string (p.extract (p.size - 100 - 1 + k + 1) p.size), .nilIface]) ∧ ∃ n, w.drewN n = w' := by
  have hw := win_bd p hp
  have HK := Lib.hid hk
  rw [hk] at hw
  clear hk
  go_enter Tryz.func46, Tryz.ntmps46
  go_wp2_with fail
  refine (idx_eq _ _ _ (k : Int) (by rw [← HK.out, ← win_eq]; rfl)).mono ?_
  rintro e w' ⟨rfl, rfl⟩
  go_wp2_with fail
  go_quiet (fail)
  go_wp2_with fail
  go_ret3
  exact ⟨rfl, _, rfl⟩
theorem split_yes (p a b : ByteArray) (w : World) (hm : p.size ≤ 140737488355328) (h : splitOf p = some (a, b)) :
    Calls Tryz.prog 46 #[.string p] w fun e w' => e = .returned (.tuple #[.string a, .string b, .nilIface]) ∧ ∃ n, w.drewN n = w' := by
  unfold splitOf at h
  split at h
  · rename_i h1
    simp only [Option.some.injEq, Prod.mk.injEq] at h
    obtain ⟨rfl, rfl⟩ := h
    exact (split_short p w h1).mono fun _ _ ⟨he, hw⟩ => ⟨he, 0, hw⟩
  · rename_i h1
    split at h
    · simp at h
    · rename_i h2
      simp only [Option.some.injEq, Prod.mk.injEq] at h
      obtain ⟨rfl, rfl⟩ := h
      obtain ⟨k, hk⟩ := Int.eq_ofNat_of_zero_le (a := Lib.indexByte (win p) 47) (by omega)
      have := split_long p k w (by omega) hm hk (by omega) (by omega)
      rw [hk, Int.toNat_natCast]
      exact this
theorem split_no (p : ByteArray) (w : World) (hm : p.size ≤ 140737488355328) (h : splitOf p = none) :
    Calls Tryz.prog 46 #[.string p] w fun e w' => e = .returned (.tuple #[.string ⟨#[]⟩, .string ⟨#[]⟩, errV 9]) ∧ w = w' := by
  unfold splitOf at h
  split at h
  · simp at h
  · rename_i h1
    split at h
    · rename_i h2
      exact split_bad p w (by omega) hm h2
    · simp at h
end Go.Proofs.YthpmocfdnoehoaaGreatDoor
/- Contract of ustar.within: are all numbers from 0 to most? -/
namespace Go.Proofs.YthpmocfdnoehoaaGreatDoor
open Go.RowKit
def inB (m : Int) (z : Int) : Bool := decide (0 ≤ z) && decide (z ≤ m)
set_option maxHeartbeats 400000 in
theorem within_any (m : Int) (b n : Nat) (f : Nat → Int) (w : World) (hn : n ≤ 100) (hc : ∀ i, i < n → w.cell? ⟨b, i, none⟩ = some (.int .i64 (f i))) :
    Calls Tryz.prog 47 #[.int .i64 m, .slice (some ⟨b, 0, none⟩) n n] w fun e w' => e = .returned (.bool ((List.range n).all fun i => inB m (f i))) ∧ w = w' := by
  have HC := Lib.hid hc
  clear hc
  go_enter Tryz.func47, Tryz.ntmps47
  go_wp2
  go_loop [9] (fun iv => ∃ k : Nat, k ≤ n ∧ iv = .int .i64 k ∧ Hid ((List.range k).all (fun i => inB m (f i)) = true)) (fun iv => n - (intOf iv).toNat)
  case atStart => exact ⟨0, Nat.zero_le _, rfl, rfl⟩
  case round =>
    obtain ⟨k, hk, rfl, hall⟩ := hrel
    by_cases hlt : k < n
    · have hcell := HC.out k hlt
      obtain ⟨z, hz⟩ : ∃ z, f k = z := ⟨_, rfl⟩
      rw [hz] at hcell
      have HZ := Lib.hid hz
      clear hz
      by_cases h1 : z < 0
      · go_wp2
        go_ret
        refine ⟨ret_bool ?_, rfl⟩
        symm
        rw [List.all_eq_false]
        exact ⟨k, by simpa using hlt, by rw [HZ.out]; simp [inB]; omega⟩
      · by_cases h2 : m < z
        · go_wp2
          go_ret
          refine ⟨ret_bool ?_, rfl⟩
          symm
          rw [List.all_eq_false]
          exact ⟨k, by simpa using hlt, by rw [HZ.out]; simp [inB]; omega⟩
        · go_wp2
          go_round
          case rel =>
            refine ⟨k + 1, by omega, by go_num, ?_⟩
            show _ = true
            rw [List.range_succ, List.all_append, hall.out]
            simp [HZ.out, inB]; omega
          case measure => simp [intOf]; omega
    · go_wp2
      go_ret
      refine ⟨ret_bool ?_, rfl⟩
      have : k = n := by omega
      rw [← this]; exact hall.out.symm
end Go.Proofs.YthpmocfdnoehoaaGreatDoor
/- Plain law of the builtin copy from a string into a block of bytes. -/
namespace Go.Proofs.YthpmocfdnoehoaaGreatDoor
open Go.RowKit
theorem setRow_setBlk {w : World} {b : Nat} {c d : Array Value} {t : TypeId} (h : w.heap[b]? = some (.cells c t (0, 0))) : w.setRow b d = setBlk w b (.cells d t (0, 0)) := by
  refine heap_ext (fun k => ?_) rfl rfl rfl rfl
  rw [setBlk_at]
  by_cases e : b = k
  · subst e
    rw [if_pos rfl, if_pos (blk_lt h)]
    exact setRow_heap w b c d t (0, 0) h
  · rw [if_neg e]
    simp only [World.setRow, Array.getElem?_modify, if_neg e]
theorem byteV_one (x : UInt8) : (byteV x).oneCell' = true := rfl
theorem run_copy_str {P : Program} (w : World) (dT sT ty elem : TypeId) (b o dLen dCap : Nat) (s : ByteArray) (t : TypeId) (l : Bs)
    (hu : P.underlying dT = some (.slice elem)) (hs : (P.info? elem).map (·.size) = some 1) (hb : w.heap[b]? = some (blk t l)) (hle : s.size ≤ dLen) (hfit : o + s.size ≤ l.length) :
    (Builtin.copy_ #[dT, sT] ty #[.slice (some ⟨b, o, none⟩) dLen dCap, .string s]).run P w = .ok (.int .i64 s.size) (setBlk w b (blk t (over l o s.data.toList))) := by
  have hst := run_storeCells_at P b o t (s.data.toList.map byteV) 0 (l.map byteV).toArray w hb (by simpa using hfit) (by
    intro v hv
    obtain ⟨x, _, rfl⟩ := List.mem_map.1 hv
    exact byteV_one x)
  have hmin : Nat.min s.size dLen = s.size := Nat.min_eq_left hle
  have hrow : w.setRow b (List.toArray (List.take (o + 0) (l.map byteV) ++ s.data.toList.map byteV ++ List.drop (o + 0 + (s.data.toList.map byteV).length) (l.map byteV))) = setBlk w b (blk t (over l o s.data.toList)) := by
    rw [setRow_setBlk hb]
    simp [blk, over, List.map_take, List.map_drop]
  rw [hrow] at hst
  cases hq : P.info? elem with
  | none => simp [hq] at hs
  | some i =>
    have htk : List.take s.size (List.map (fun b => Value.int .u8 (b.toNat : Int)) s.data.toList) = List.map byteV s.data.toList := by
      rw [List.take_of_length_le (by simp)]; rfl
    simp only [Builtin.copy_]
    simp [run_underlying hu, Builtin.lenOf, Builtin.firstCells, sizeOf, typeInfo, hq, hmin, htk, hst]
    rfl
def z512 : Bs := List.replicate 512 0
theorem zero512 : Tryz.zeroCells90 = (z512.map byteV).toArray := by kernel_rfl
theorem z512_len : z512.length = 512 := List.length_replicate
end Go.Proofs.YthpmocfdnoehoaaGreatDoor
/- Plain: cells of blocks behind a new block. -/
namespace Go.Proofs.YthpmocfdnoehoaaGreatDoor
open Go.RowKit
theorem cell_of_heap {w w' : World} {b i : Nat} (h : w'.heap[b]? = w.heap[b]?) : w'.cell? ⟨b, i, none⟩ = w.cell? ⟨b, i, none⟩ := by
  simp only [World.cell?, h]
theorem cell_new (w : World) (cs : Array Value) (t : TypeId) (i : Nat) : (w.alloc (.cells cs t)).cell? ⟨w.heap.size, i, none⟩ = cs[i]? := by
  have : (w.alloc (.cells cs t)).heap[w.heap.size]? = some (.cells cs t (0, 0)) := by show (w.heap.push _)[_]? = _; simp
  simp only [World.cell?]
  rw [this]
  simp
theorem cell_drewN {w : World} {n : Nat} {a : Addr} : (w.drewN n).cell? a = w.cell? a := rfl
theorem cell_alloc' {w : World} {o : Obj} {b i : Nat} (h : b < w.heap.size) : (w.alloc o).cell? ⟨b, i, none⟩ = w.cell? ⟨b, i, none⟩ := cell_of_heap (Below.heap_alloc w o b h)
theorem below_drewN {B : Nat} {a w : World} (h : Below B a w) (n : Nat) : Below B a (w.drewN n) := ⟨h.os, h.tape, h.output, h.size, h.block⟩
theorem _root_.Go.RowKit.Below.setBlk {B : Nat} {a w : World} (h : Below B a w) {b : Nat} {o : Obj} (hb : B ≤ b) : Below B a (setBlk w b o) :=
  ⟨h.os, h.tape, h.output, by rw [setBlk_size]; exact h.size, fun k hk => (setBlk_other (by omega)).trans (h.block k hk)⟩
theorem heap_new (w : World) (o : Obj) : (w.alloc o).heap[w.heap.size]? = some o := by show (w.heap.push o)[w.heap.size]? = some o; simp
theorem cell_of_heapN {w : World} {b i : Nat} {c : Array Value} {t : TypeId} (h : w.heap[b]? = some (.cells c t (0, 0))) : w.cell? ⟨b, i, none⟩ = c[i]? := by simp [World.cell?, h]
end Go.Proofs.YthpmocfdnoehoaaGreatDoor
/- Contract of ustar.Encode. -/
namespace Go.Proofs.YthpmocfdnoehoaaGreatDoor
open Go.RowKit
/-- The state inside Encode: the header lies in block b, the bytes so far in block c. -/
structure Enc (w0 : World) (h : Hdr) (b c : Nat) (l : Bs) (w : World) : Prop where
  hc : ∀ i : Nat, w.cell? ⟨b, i, none⟩ = h.cells[i]?
  hb : w.heap[c]? = some (blk 90 l)
  hl : l.length = 512
  bel : Below w0.heap.size w0 w
  lo : w0.heap.size ≤ c
  ne : c ≠ b
theorem Enc.set {w0 : World} {h : Hdr} {b c : Nat} {l l' : Bs} {w : World} (e : Enc w0 h b c l w) (hl : l'.length = 512) : Enc w0 h b c l' (setBlk w c (blk 90 l')) where
  hc i := (cell_of_heap (setBlk_other (Ne.symm e.ne))).trans (e.hc i)
  hb := setBlk_heap (blk_lt e.hb)
  hl := hl
  bel := ⟨e.bel.os, e.bel.tape, e.bel.output, by rw [setBlk_size]; exact e.bel.size, fun k hk => (setBlk_other (by have := e.lo; omega)).trans (e.bel.block k hk)⟩
  lo := e.lo
  ne := e.ne
theorem Enc.drewN {w0 : World} {h : Hdr} {b c : Nat} {l : Bs} {w : World} (e : Enc w0 h b c l w) (n : Nat) : Enc w0 h b c l (w.drewN n) where
  hc i := e.hc i
  hb := e.hb
  hl := e.hl
  bel := ⟨e.bel.os, e.bel.tape, e.bel.output, e.bel.size, e.bel.block⟩
  lo := e.lo
  ne := e.ne
theorem number_enc (w0 : World) (h : Hdr) (b c i d : Nat) (l : Bs) (x : Int) (w : World) (e : Enc w0 h b c l w) (hd : i + d ≤ 512) (h0 : 0 ≤ x) (h1 : x ≤ 9223372036854775807) :
    Calls Tryz.prog 48 #[.pointer (some ⟨c, 0, none⟩), .int .i64 i, .int .i64 d, .int .i64 x] w fun r w' => r = .returned (.tuple #[]) ∧ Enc w0 h b c (over l i (octal d x)) w' :=
  (number_any c i d l x w e.hb e.hl hd h0 h1).mono fun _ _ ⟨hr, hw⟩ => ⟨hr, by rw [← hw]; exact e.set (by rw [over_length]; exact e.hl; rw [octal_length, e.hl]; exact hd)⟩
/-- The bytes of a header, the sum not yet laid. -/
def chain (h : Hdr) (pre name : Bs) : Bs :=
  over (over (over (over (over (over (over (over (over (over (over (over (over (over z512 0 name) 100 (octal 7 h.mode)) 108 (octal 7 h.uid)) 116 (octal 7 h.gid)) 124 (octal 11 h.size)) 136 (octal 11 h.time))
    156 [h.typ]) 157 h.link.data.toList) 257 [117, 115, 116, 97, 114, 0, 48, 48]) 265 h.user.data.toList) 297 h.group.data.toList) 329 (octal 7 h.major)) 337 (octal 7 h.minor)) 345 pre
/-- The bytes of a header. -/
def hdrBytes (h : Hdr) (pre name : Bs) : Bs := over (over (chain h pre name) 148 (octal 6 (sumTo (chain h pre name) 512))) 154 [0, 32]
theorem wpList_copy_enc {ops : Array Oper} {rest : List Oper} {o : Oper} {a : Act} {Q : Exit → Act → World → Prop} {w : World} (hgd : o.guard = none) (d s : Operand)
    (ho : o.op = .call { callee := .builtin .copy, args := #[d, s], argTypes := #[48, 9] }) (w0 : World) (h : Hdr) (b c : Nat) (l : Bs) (i dLen dCap : Nat) (str : ByteArray)
    (hd : a.eval d = .slice (some ⟨c, i, none⟩) dLen dCap) (hs : a.eval s = .string str) (e : Hid (Enc w0 h b c l w)) (hle : str.size ≤ dLen) (hfit : i + str.size ≤ 512)
    (hk : ∀ w', Hid (Enc w0 h b c (over l i str.data.toList) w') → wpList Tryz.prog ops Q rest (a.put o.dst (.int .i64 str.size)) w') : wpList Tryz.prog ops Q (o :: rest) a w := by
  refine wpList_plain hgd (fun K hK => ?_)
  have hr := run_copy_str (P := Tryz.prog) w 48 9 o.type 5 c i dLen dCap str 90 l Tryz.underlying48 (by kernel_rfl) e.out.hb hle (by rw [e.out.hl]; exact hfit)
  unfold Oper.wp
  simp only [execOp, ho]
  simp [resolve, invoke, builtin, hd, hs, hr, Result.andThen]
  refine hK _ _ (hk _ ?_)
  exact e.out.set (by rw [over_length]; exact e.out.hl; rw [e.out.hl]; simpa using hfit)
theorem wpList_store_enc {ops : Array Oper} {rest : List Oper} {o : Oper} {a : Act} {Q : Exit → Act → World → Prop} {w : World} (hgd : o.guard = none) (d s : Operand) (hdst : o.dst = none)
    (ho : o.op = .store 5 d s) (w0 : World) (h : Hdr) (b c : Nat) (l : Bs) (i : Nat) (x : UInt8)
    (hd : a.eval d = .pointer (some ⟨c, i, none⟩)) (hs : a.eval s = .int .u8 (x.toNat : Int)) (e : Hid (Enc w0 h b c l w)) (hi : i < 512)
    (hk : ∀ w', Hid (Enc w0 h b c (over l i [x]) w') → wpList Tryz.prog ops Q rest a w') : wpList Tryz.prog ops Q (o :: rest) a w := by
  refine wpList_plain hgd (fun K hK => ?_)
  have hl := e.out.hl
  have hcell : w.cell? ⟨c, i, none⟩ = some (byteV (l[i]'(by omega))) := blk_cell e.out.hb (List.getElem?_eq_getElem (by omega))
  have hfro := blk_frozen (i := i) e.out.hb
  have hset := blk_set (i := i) (x := x) e.out.hb
  unfold byteV at hset
  have hov : l.set i x = over l i [x] := by
    rw [over, List.set_eq_take_append_cons_drop, if_pos (by omega)]; simp
  have hend := hk (setBlk w c (blk 90 (over l i [x]))) (e.out.set (by rw [over_length]; exact hl; simp; omega))
  unfold Oper.wp
  simp only [execOp, ho, hd, hs]
  rw [hov] at hset
  clear hov
  go_simp
  exact hK _ _ hend
theorem Enc.copy {w0 : World} {h : Hdr} {b c : Nat} {l : Bs} {w : World} (e : Enc w0 h b c l w) (i dLen dCap : Nat) (str : ByteArray) (hle : str.size ≤ dLen) (hfit : i + str.size ≤ 512) (ty : TypeId) :
    ∃ w', (Builtin.copy_ #[48, 9] ty #[.slice (some ⟨c, i, none⟩) dLen dCap, .string str]).run Tryz.prog w = .ok (.int .i64 str.size) w' ∧ Enc w0 h b c (over l i str.data.toList) w' :=
  ⟨_, run_copy_str (P := Tryz.prog) w 48 9 ty 5 c i dLen dCap str 90 l Tryz.underlying48 (by kernel_rfl) e.hb hle (by rw [e.hl]; exact hfit),
    e.set (by rw [over_length]; exact e.hl; rw [e.hl]; simpa using hfit)⟩
theorem Enc.conv {w0 : World} {h : Hdr} {b c : Nat} {l : Bs} {w : World} (e : Enc w0 h b c l w) :
    (convert 48 9 (.slice (some ⟨c, 0, none⟩) 512 512)).run Tryz.prog w = .ok (.string ⟨l.toArray⟩) w := by
  have := run_convert_bytes_back (P := Tryz.prog) w 48 9 5 ⟨c, 0, none⟩ 512 l Tryz.underlying48 Tryz.underlying5 Tryz.underlying9 (fun j hj => by
    have h1 : (⟨c, 0, none⟩ : Addr).add j = ⟨c, j, none⟩ := by unfold Addr.add; split <;> simp_all
    rw [h1]
    exact blk_cell e.hb (List.getElem?_eq_getElem hj))
  rw [e.hl] at this
  exact this
theorem Enc.drew {w0 : World} {h : Hdr} {b c : Nat} {l : Bs} {w : World} (e : Enc w0 h b c l w) : Enc w0 h b c l w.drew := ⟨e.hc, e.hb, e.hl, ⟨e.bel.os, e.bel.tape, e.bel.output, e.bel.size, e.bel.block⟩, e.lo, e.ne⟩
set_option maxHeartbeats 800000 in
set_option maxRecDepth 100000 in
theorem encode_ok (h : Hdr) (pre name : ByteArray) (w : World) (hp : h.path.size ≤ 140737488355328) (hk : h.link.size ≤ 100) (hu : h.user.size ≤ 31) (hg : h.group.size ≤ 31)
    (hw : wrongB h = false) (hs : splitOf h.path = some (pre, name)) (hpre : pre.size ≤ 155) (hname : name.size ≤ 100)
    (m1 : 0 ≤ h.mode ∧ h.mode ≤ 2097151) (m2 : 0 ≤ h.uid ∧ h.uid ≤ 2097151) (m3 : 0 ≤ h.gid ∧ h.gid ≤ 2097151) (m4 : 0 ≤ h.major ∧ h.major ≤ 2097151) (m5 : 0 ≤ h.minor ∧ h.minor ≤ 2097151)
    (m6 : 0 ≤ h.size ∧ h.size ≤ 8589934591) (m7 : 0 ≤ h.time ∧ h.time ≤ 8589934591) :
    Calls Tryz.prog 24 #[.agg h.cells] w fun e w' => e = .returned (.tuple #[.string ⟨(hdrBytes h pre.data.toList name.data.toList).toArray⟩, .nilIface]) ∧ Below w.heap.size w w' := by
  have HW := Lib.hid hw
  have HS := Lib.hid hs
  clear hw hs
  go_enter Tryz.func24, Tryz.ntmps24
  go_wp2_with fail
  refine (wrong_any h _ hp (by omega) (by omega) (by omega)).mono ?_
  rintro e w1 ⟨rfl, hb1⟩
  rw [HW.out]
  have hz : w.heap.size < w1.heap.size := by have := hb1.size; simp at this; omega
  have hc1 : ∀ i : Nat, w1.cell? ⟨w.heap.size, i, none⟩ = h.cells[i]? := fun i => (hb1.cell (p := ⟨w.heap.size, i, none⟩) (by simp)).trans (cell_new w h.cells _ i)
  have HF1 := Lib.hid (((Below.refl w.heap.size w).alloc (Nat.le_refl _) (.cells h.cells 24)).trans (hb1.mono (by simp)))
  clear hb1
  go_wp2_with fail
  refine (split_yes h.path pre name _ hp HS.out).mono ?_
  rintro e w2 ⟨rfl, n, hw2⟩
  have hc2 : ∀ i : Nat, w2.cell? ⟨w.heap.size, i, none⟩ = h.cells[i]? := fun i => by rw [← hw2]; exact hc1 i
  have hz2 : w.heap.size < w2.heap.size := by rw [← hw2]; exact hz
  have HF2 := Lib.hid (show Below w.heap.size w w2 by rw [← hw2]; exact below_drewN HF1.out n)
  clear hw2 hc1 hz HF1
  go_wp2_with fail
  refine (within_any _ _ 5 (fun i => [h.mode, h.uid, h.gid, h.major, h.minor].getD i 0) _ (by omega) ?hq).mono ?_
  case hq =>
    intro i hi
    match i, hi with
    | 0, _ | 1, _ | 2, _ | 3, _ | 4, _ => simp
  rintro e w3 ⟨rfl, hw3⟩
  rw [show ((List.range 5).all fun i => inB 2097151 ([h.mode, h.uid, h.gid, h.major, h.minor].getD i 0)) = true by
    simp [List.range, List.range.loop, inB]; omega]
  have hc3 : ∀ i : Nat, w3.cell? ⟨w.heap.size, i, none⟩ = h.cells[i]? := fun i => by rw [← hw3, cell_alloc' hz2]; exact hc2 i
  have hz3 : w.heap.size < w3.heap.size := by rw [← hw3]; simp; omega
  have HF3 := Lib.hid (show Below w.heap.size w w3 by rw [← hw3]; exact HF2.out.alloc (Nat.le_of_lt hz2) _)
  clear hw3 hc2 hz2 HF2
  go_wp2_with fail
  refine (within_any _ _ 2 (fun i => [h.size, h.time].getD i 0) _ (by omega) ?hq2).mono ?_
  case hq2 =>
    intro i hi
    match i, hi with
    | 0, _ | 1, _ => simp
  rintro e w4 ⟨rfl, hw4⟩
  rw [show ((List.range 2).all fun i => inB 8589934591 ([h.size, h.time].getD i 0)) = true by
    simp [List.range, List.range.loop, inB]; omega]
  have hc4 : ∀ i : Nat, w4.cell? ⟨w.heap.size, i, none⟩ = h.cells[i]? := fun i => by rw [← hw4, cell_alloc' hz3]; exact hc3 i
  have hz4 : w.heap.size < w4.heap.size := by rw [← hw4]; simp; omega
  have HF4 := Lib.hid (show Below w.heap.size w w4 by rw [← hw4]; exact HF3.out.alloc (Nat.le_of_lt hz3) _)
  clear hw4 hc3 hz3 HF3
  have HE4 : Hid (Enc w h w.heap.size w4.heap.size z512 (w4.alloc (.cells Tryz.zeroCells90 90))) := by
    refine ⟨fun i => (cell_alloc' hz4).trans (hc4 i), ?_, by simp [z512], HF4.out.alloc (Nat.le_of_lt hz4) _, Nat.le_of_lt hz4, by omega⟩
    rw [zero512]
    show (w4.heap.push _)[_]? = _
    simp [blk]
  go_wp2_with (refine wpList_copy_enc rfl (.tmp 49) (.tmp 50) rfl w h w.heap.size w4.heap.size z512 0 512 512 name rfl rfl HE4 (by omega) (by omega) ?_; intro w5 HE5; have hc5 := HE5.out.hc)
  clear HE4 hc4
  refine (number_enc w h w.heap.size w4.heap.size 100 7 _ h.mode _ HE5.out (by omega) (by omega) (by omega)).mono ?_
  rintro e w6 ⟨rfl, HE6⟩
  have hc6 := HE6.hc
  have HE6 := Lib.hid HE6
  clear HE5 hc5
  go_wp2_with fail
  refine (number_enc w h w.heap.size w4.heap.size 108 7 _ h.uid _ HE6.out (by omega) (by omega) (by omega)).mono ?_
  rintro e w7 ⟨rfl, HE7⟩
  have hc7 := HE7.hc
  have HE7 := Lib.hid HE7
  clear HE6 hc6
  go_wp2_with fail
  refine (number_enc w h w.heap.size w4.heap.size 116 7 _ h.gid _ HE7.out (by omega) (by omega) (by omega)).mono ?_
  rintro e w8 ⟨rfl, HE8⟩
  have hc8 := HE8.hc
  have HE8 := Lib.hid HE8
  clear HE7 hc7
  go_wp2_with fail
  refine (number_enc w h w.heap.size w4.heap.size 124 11 _ h.size _ HE8.out (by omega) (by omega) (by omega)).mono ?_
  rintro e w9 ⟨rfl, HE9⟩
  have hc9 := HE9.hc
  have HE9 := Lib.hid HE9
  clear HE8 hc8
  go_wp2_with fail
  refine (number_enc w h w.heap.size w4.heap.size 136 11 _ h.time _ HE9.out (by omega) (by omega) (by omega)).mono ?_
  rintro e w10 ⟨rfl, HE10⟩
  have hc10 := HE10.hc
  have HE10 := Lib.hid HE10
  clear HE9 hc9
  go_wp2_with (refine wpList_store_enc rfl (.tmp 69) (.tmp 68) rfl rfl w h w.heap.size w4.heap.size _ 156 h.typ rfl rfl HE10 (by omega) ?_; intro w11 HE11; have hc11 := HE11.out.hc)
  clear HE10 hc10
  obtain ⟨w12, hcp, HE12⟩ := HE11.out.drew.copy 157 355 355 h.link (by omega) (by omega) 3
  go_region
  clear hcp
  have hc12 := HE12.hc
  have HE12 := Lib.hid HE12
  clear HE11 hc11
  go_wp2_with (refine wpList_copy_enc rfl (.tmp 74) (.const (.string { data := #[117, 115, 116, 97, 114, 0, 48, 48] })) rfl w h w.heap.size w4.heap.size _ 257 255 255 ⟨#[117, 115, 116, 97, 114, 0, 48, 48]⟩ rfl rfl HE12 (by decide) (by decide) ?_; intro w13 HE13; have hc13 := HE13.out.hc)
  clear HE12 hc12
  obtain ⟨w14, hcp, HE14⟩ := HE13.out.drew.copy 265 247 247 h.user (by omega) (by omega) 3
  go_region
  clear hcp
  have hc14 := HE14.hc
  have HE14 := Lib.hid HE14
  clear HE13 hc13
  go_wp2_with fail
  obtain ⟨w15, hcp, HE15⟩ := HE14.out.drew.copy 297 215 215 h.group (by omega) (by omega) 3
  go_region
  clear hcp
  have hc15 := HE15.hc
  have HE15 := Lib.hid HE15
  clear HE14 hc14
  go_wp2_with fail
  refine (number_enc w h w.heap.size w4.heap.size 329 7 _ h.major _ HE15.out (by omega) (by omega) (by omega)).mono ?_
  rintro e w16 ⟨rfl, HE16⟩
  have hc16 := HE16.hc
  have HE16 := Lib.hid HE16
  clear HE15 hc15
  go_wp2_with fail
  refine (number_enc w h w.heap.size w4.heap.size 337 7 _ h.minor _ HE16.out (by omega) (by omega) (by omega)).mono ?_
  rintro e w17 ⟨rfl, HE17⟩
  have hc17 := HE17.hc
  have HE17 := Lib.hid HE17
  clear HE16 hc16
  go_wp2_with (refine wpList_copy_enc rfl (.tmp 90) (.tmp 91) rfl w h w.heap.size w4.heap.size _ 345 167 167 pre rfl rfl HE17 (by omega) (by omega) ?_; intro w18 HE18; have hc18 := HE18.out.hc)
  clear HE17 hc17
  have hch : Hid (Enc w h w.heap.size w4.heap.size (chain h pre.data.toList name.data.toList) w18) := HE18
  clear HE18
  obtain ⟨ch, hchn⟩ : ∃ ch, chain h pre.data.toList name.data.toList = ch := ⟨_, rfl⟩
  rw [hchn] at hch
  have HN := Lib.hid hchn
  clear hchn
  refine (sum_any w4.heap.size ch w18 hch.out.hb hch.out.hl).mono ?_
  rintro e w19 ⟨rfl, n2, hw19⟩
  have HE19 : Hid (Enc w h w.heap.size w4.heap.size ch w19) := by rw [← hw19]; exact hch.out.drewN n2
  have hc19 := HE19.out.hc
  clear hw19 hc18 hch
  have hsb := sumTo_bd ch 512
  obtain ⟨s, hs⟩ : ∃ s, sumTo ch 512 = s := ⟨_, rfl⟩
  rw [hs] at hsb
  simp only [hs]
  have HS2 := Lib.hid hs
  clear hs
  go_wp2_with fail
  refine (number_enc w h w.heap.size w4.heap.size 148 6 _ s _ HE19.out (by omega) (by omega) (by omega)).mono ?_
  rintro e w20 ⟨rfl, HE20⟩
  have hc20 := HE20.hc
  have HE20 := Lib.hid HE20
  clear HE19 hc19
  go_wp2_with (refine wpList_copy_enc rfl (.tmp 95) (.const (.string { data := #[0, 32] })) rfl w h w.heap.size w4.heap.size _ 154 358 358 ⟨#[0, 32]⟩ rfl rfl HE20 (by decide) (by decide) ?_; intro w21 HE21; have hcv := HE21.out.conv)
  go_ret2
  refine ⟨?_, HE21.out.bel⟩
  have hfin : over (over ch 148 (octal 6 s)) 154 [0, 32] = hdrBytes h pre.data.toList name.data.toList := by
    rw [hdrBytes, HN.out, HS2.out]
  show Ending.returned (.tuple #[.string ⟨(over (over ch 148 (octal 6 s)) 154 [0, 32]).toArray⟩, .nilIface]) = _
  rw [hfin]
end Go.Proofs.YthpmocfdnoehoaaGreatDoor
/- Contract of ustar.Encode where it refuses; and both together. -/
namespace Go.Proofs.YthpmocfdnoehoaaGreatDoor
open Go.RowKit
def nums7 (h : Hdr) : Bool := inB 2097151 h.mode && inB 2097151 h.uid && inB 2097151 h.gid && inB 2097151 h.major && inB 2097151 h.minor
def nums11 (h : Hdr) : Bool := inB 8589934591 h.size && inB 8589934591 h.time
/-- What Encode is refused by; 0: by nothing. -/
def encErr (h : Hdr) : Int :=
  if wrongB h then 6 else
  match splitOf h.path with
  | none => 9
  | some _ => if 100 < h.link.size then 17 else if nums7 h && nums11 h then 0 else 1
/-- The header's bytes. -/
def encOf (h : Hdr) : Bs :=
  match splitOf h.path with
  | none => []
  | some (pre, name) => hdrBytes h pre.data.toList name.data.toList
/-- Every text of the header is of at most 2^47 bytes. -/
def Hdr.small (h : Hdr) : Prop := h.path.size ≤ 140737488355328 ∧ h.link.size ≤ 140737488355328 ∧ h.user.size ≤ 140737488355328 ∧ h.group.size ≤ 140737488355328
set_option maxHeartbeats 400000 in
set_option maxRecDepth 100000 in
theorem encode_wrong (h : Hdr) (w : World) (hm : h.small) (hw : wrongB h = true) :
    Calls Tryz.prog 24 #[.agg h.cells] w fun e w' => e = .returned (.tuple #[.string ⟨#[]⟩, errV 6]) ∧ Below w.heap.size w w' := by
  obtain ⟨hp, hk, hu, hg⟩ := hm
  have HW := Lib.hid hw
  clear hw
  go_enter Tryz.func24, Tryz.ntmps24
  go_wp2_with fail
  refine (wrong_any h _ hp hk hu hg).mono ?_
  rintro e w1 ⟨rfl, hb1⟩
  rw [HW.out]
  have HF1 := Lib.hid (((Below.refl w.heap.size w).alloc (Nat.le_refl _) (.cells h.cells 24)).trans (hb1.mono (by simp)))
  clear hb1
  go_wp2_with fail
  go_ret2
  exact ⟨rfl, HF1.out⟩
set_option maxHeartbeats 400000 in
set_option maxRecDepth 100000 in
theorem encode_path (h : Hdr) (w : World) (hm : h.small) (hw : wrongB h = false) (hs : splitOf h.path = none) :
    Calls Tryz.prog 24 #[.agg h.cells] w fun e w' => e = .returned (.tuple #[.string ⟨#[]⟩, errV 9]) ∧ Below w.heap.size w w' := by
  obtain ⟨hp, hk, hu, hg⟩ := hm
  have HW := Lib.hid hw
  have HS := Lib.hid hs
  clear hw hs
  go_enter Tryz.func24, Tryz.ntmps24
  go_wp2_with fail
  refine (wrong_any h _ hp hk hu hg).mono ?_
  rintro e w1 ⟨rfl, hb1⟩
  rw [HW.out]
  have hz : w.heap.size < w1.heap.size := by have := hb1.size; simp at this; omega
  have hc1 : ∀ i : Nat, w1.cell? ⟨w.heap.size, i, none⟩ = h.cells[i]? := fun i => (hb1.cell (p := ⟨w.heap.size, i, none⟩) (by simp)).trans (cell_new w h.cells _ i)
  have HF1 := Lib.hid (((Below.refl w.heap.size w).alloc (Nat.le_refl _) (.cells h.cells 24)).trans (hb1.mono (by simp)))
  clear hb1
  go_wp2_with fail
  refine (split_no h.path _ hp HS.out).mono ?_
  rintro e w2 ⟨rfl, rfl⟩
  unfold errV
  go_wp2_with fail
  go_ret2
  exact ⟨rfl, HF1.out⟩
set_option maxHeartbeats 400000 in
set_option maxRecDepth 100000 in
theorem encode_link (h : Hdr) (pre name : ByteArray) (w : World) (hm : h.small) (hw : wrongB h = false) (hs : splitOf h.path = some (pre, name)) (hl : 100 < h.link.size) :
    Calls Tryz.prog 24 #[.agg h.cells] w fun e w' => e = .returned (.tuple #[.string ⟨#[]⟩, errV 17]) ∧ Below w.heap.size w w' := by
  obtain ⟨hp, hk, hu, hg⟩ := hm
  have HW := Lib.hid hw
  have HS := Lib.hid hs
  clear hw hs
  go_enter Tryz.func24, Tryz.ntmps24
  go_wp2_with fail
  refine (wrong_any h _ hp hk hu hg).mono ?_
  rintro e w1 ⟨rfl, hb1⟩
  rw [HW.out]
  have hz : w.heap.size < w1.heap.size := by have := hb1.size; simp at this; omega
  have hc1 : ∀ i : Nat, w1.cell? ⟨w.heap.size, i, none⟩ = h.cells[i]? := fun i => (hb1.cell (p := ⟨w.heap.size, i, none⟩) (by simp)).trans (cell_new w h.cells _ i)
  have HF1 := Lib.hid (((Below.refl w.heap.size w).alloc (Nat.le_refl _) (.cells h.cells 24)).trans (hb1.mono (by simp)))
  clear hb1
  go_wp2_with fail
  refine (split_yes h.path pre name _ hp HS.out).mono ?_
  rintro e w2 ⟨rfl, n, hw2⟩
  have hc2 : ∀ i : Nat, w2.cell? ⟨w.heap.size, i, none⟩ = h.cells[i]? := fun i => by rw [← hw2]; exact hc1 i
  have HF2 := Lib.hid (show Below w.heap.size w w2 by rw [← hw2]; exact below_drewN HF1.out n)
  clear hw2 hc1 hz HF1
  go_wp2_with fail
  go_ret2
  exact ⟨rfl, HF2.out⟩
set_option maxHeartbeats 800000 in
set_option maxRecDepth 100000 in
theorem encode_num (h : Hdr) (pre name : ByteArray) (w : World) (hm : h.small) (hw : wrongB h = false) (hs : splitOf h.path = some (pre, name)) (hl : h.link.size ≤ 100) (hn : (nums7 h && nums11 h) = false) :
    Calls Tryz.prog 24 #[.agg h.cells] w fun e w' => e = .returned (.tuple #[.string ⟨#[]⟩, errV 1]) ∧ Below w.heap.size w w' := by
  obtain ⟨hp, hk, hu, hg⟩ := hm
  have HW := Lib.hid hw
  have HS := Lib.hid hs
  have HN := Lib.hid hn
  clear hw hs hn
  go_enter Tryz.func24, Tryz.ntmps24
  go_wp2_with fail
  refine (wrong_any h _ hp hk hu hg).mono ?_
  rintro e w1 ⟨rfl, hb1⟩
  rw [HW.out]
  have hz : w.heap.size < w1.heap.size := by have := hb1.size; simp at this; omega
  have hc1 : ∀ i : Nat, w1.cell? ⟨w.heap.size, i, none⟩ = h.cells[i]? := fun i => (hb1.cell (p := ⟨w.heap.size, i, none⟩) (by simp)).trans (cell_new w h.cells _ i)
  have HF1 := Lib.hid (((Below.refl w.heap.size w).alloc (Nat.le_refl _) (.cells h.cells 24)).trans (hb1.mono (by simp)))
  clear hb1
  go_wp2_with fail
  refine (split_yes h.path pre name _ hp HS.out).mono ?_
  rintro e w2 ⟨rfl, n, hw2⟩
  have hc2 : ∀ i : Nat, w2.cell? ⟨w.heap.size, i, none⟩ = h.cells[i]? := fun i => by rw [← hw2]; exact hc1 i
  have hz2 : w.heap.size < w2.heap.size := by rw [← hw2]; exact hz
  have HF2 := Lib.hid (show Below w.heap.size w w2 by rw [← hw2]; exact below_drewN HF1.out n)
  clear hw2 hc1 hz HF1
  go_wp2_with fail
  refine (within_any _ _ 5 (fun i => [h.mode, h.uid, h.gid, h.major, h.minor].getD i 0) _ (by omega) ?hq).mono ?_
  case hq =>
    intro i hi
    match i, hi with
    | 0, _ | 1, _ | 2, _ | 3, _ | 4, _ => simp
  rintro e w3 ⟨rfl, hw3⟩
  rw [show ((List.range 5).all fun i => inB 2097151 ([h.mode, h.uid, h.gid, h.major, h.minor].getD i 0)) = nums7 h by
    simp [List.range, List.range.loop, nums7, Bool.and_assoc]]
  have hc3 : ∀ i : Nat, w3.cell? ⟨w.heap.size, i, none⟩ = h.cells[i]? := fun i => by rw [← hw3, cell_alloc' hz2]; exact hc2 i
  have hz3 : w.heap.size < w3.heap.size := by rw [← hw3]; simp; omega
  have HF3 := Lib.hid (show Below w.heap.size w w3 by rw [← hw3]; exact HF2.out.alloc (Nat.le_of_lt hz2) _)
  clear hw3 hc2 hz2 HF2
  obtain ⟨x, hx⟩ : ∃ x, nums7 h = x := ⟨_, rfl⟩
  have HX := Lib.hid hx
  rw [hx]
  clear hx
  cases x with
  | false =>
    go_wp2_with fail
    go_ret2
    exact ⟨rfl, HF3.out⟩
  | true =>
    go_wp2_with fail
    refine (within_any _ _ 2 (fun i => [h.size, h.time].getD i 0) _ (by omega) ?hq2).mono ?_
    case hq2 =>
      intro i hi
      match i, hi with
      | 0, _ | 1, _ => simp
    rintro e w4 ⟨rfl, hw4⟩
    rw [show ((List.range 2).all fun i => inB 8589934591 ([h.size, h.time].getD i 0)) = nums11 h by
      simp [List.range, List.range.loop, nums11]]
    have HF4 := Lib.hid (show Below w.heap.size w w4 by rw [← hw4]; exact HF3.out.alloc (Nat.le_of_lt hz3) _)
    rw [show nums11 h = false by have := HN.out; rw [HX.out] at this; simpa using this]
    clear hw4 hc3 hz3 HF3
    go_wp2_with fail
    go_ret2
    exact ⟨rfl, HF4.out⟩
theorem splitOf_bd {p a b : ByteArray} (h : splitOf p = some (a, b)) : a.size ≤ 155 ∧ b.size ≤ 100 := by
  unfold splitOf at h
  split at h
  · rename_i h1
    simp only [Option.some.injEq, Prod.mk.injEq] at h
    obtain ⟨rfl, rfl⟩ := h
    exact ⟨Nat.zero_le _, h1⟩
  · rename_i h1
    split at h
    · simp at h
    · rename_i h2
      simp only [Option.some.injEq, Prod.mk.injEq] at h
      obtain ⟨rfl, rfl⟩ := h
      have hw := win_bd p (by omega)
      simp only [ByteArray.size_extract]
      omega
theorem encode_any (h : Hdr) (w : World) (hm : h.small) :
    Calls Tryz.prog 24 #[.agg h.cells] w fun e w' => e = .returned (.tuple #[if encErr h = 0 then .string ⟨(encOf h).toArray⟩ else .string ⟨#[]⟩, if encErr h = 0 then .nilIface else errV (encErr h)]) ∧ Below w.heap.size w w' := by
  unfold encErr encOf
  by_cases hw : wrongB h = true
  · rw [if_pos hw, if_neg (by decide), if_neg (by decide)]
    exact encode_wrong h w hm hw
  · rw [if_neg hw]
    have hw' : wrongB h = false := by simpa using hw
    cases hs : splitOf h.path with
    | none => exact encode_path h w hm hw' hs
    | some pn =>
      obtain ⟨pre, name⟩ := pn
      obtain ⟨hpre, hname⟩ := splitOf_bd hs
      simp only []
      by_cases hl : 100 < h.link.size
      · rw [if_pos hl, if_neg (by decide), if_neg (by decide)]
        exact encode_link h pre name w hm hw' hs hl
      · rw [if_neg hl]
        by_cases hn : (nums7 h && nums11 h) = true
        · rw [if_pos hn, if_pos rfl, if_pos rfl]
          simp only [nums7, nums11, inB, Bool.and_eq_true, decide_eq_true_eq] at hn
          have hw2 := hw'
          simp only [wrongB, Bool.or_eq_false_iff, decide_eq_false_iff_not] at hw2
          exact encode_ok h pre name w hm.1 (by omega) (by omega) (by omega) hw' hs hpre hname (by omega) (by omega) (by omega) (by omega) (by omega) (by omega) (by omega)
        · rw [if_neg hn, if_neg (by decide), if_neg (by decide)]
          exact encode_num h pre name w hm hw' hs (by omega) (by simpa using hn)
end Go.Proofs.YthpmocfdnoehoaaGreatDoor
/- Plain: members as data and in memory; what archive.Write makes of them. -/
namespace Go.Proofs.YthpmocfdnoehoaaGreatDoor
open Go.RowKit
structure Mem where
  hdr : Hdr
  data : ByteArray
@[reducible] def Mem.cells (m : Mem) : Array Value := #[.string m.hdr.path, .int .i64 m.hdr.mode, .int .i64 m.hdr.uid, .int .i64 m.hdr.gid, .int .i64 m.hdr.size, .int .i64 m.hdr.time, .int .u8 (m.hdr.typ.toNat : Int), .string m.hdr.link, .string m.hdr.user, .string m.hdr.group, .int .i64 m.hdr.major, .int .i64 m.hdr.minor, .string m.data]
/-- A slice of members lies in memory. -/
def MemsAt (w : World) (p : Option Addr) (l : List Mem) : Prop :=
  (∀ i, i < l.length → ∃ b off, p = some ⟨b, off, none⟩ ∧ b < w.heap.size) ∧ ∀ b off, p = some ⟨b, off, none⟩ → ∀ (i : Nat) (m : Mem), l[i]? = some m → ∀ j, j < 13 → w.cell? ⟨b, off + (i * 13 + j), none⟩ = m.cells[j]?
/-- So many bytes, in blocks. -/
def whole (n : Nat) : Nat := (n + 511) / 512 * 512
def memBytes (m : Mem) : Bs := encOf m.hdr ++ (m.data.data.toList ++ List.replicate (whole m.data.size - m.data.size) 0)
/-- What a member is refused by, so many bytes lying ahead of it. -/
def wrBad (n : Nat) (m : Mem) : Int :=
  if encErr m.hdr ≠ 0 then encErr m.hdr else if m.hdr.size ≠ (m.data.size : Int) then 1 else if 33554432 < n + whole m.data.size + 1536 then 5 else 0
/-- What Write makes of members: the error, its place, the bytes. -/
def wrGo : List Mem → Nat → Bs → Int × Nat × Bs
  | [], _, acc => (0, 0, acc ++ List.replicate 1024 0)
  | m :: r, i, acc => if wrBad acc.length m ≠ 0 then (wrBad acc.length m, i, []) else wrGo r (i + 1) (acc ++ memBytes m)
def Mem.small (m : Mem) : Prop := m.hdr.small ∧ m.data.size ≤ 140737488351232
theorem hdrBytes_length (h : Hdr) (pre name : Bs) (hp : pre.length ≤ 155) (hn : name.length ≤ 100) (hk : h.link.size ≤ 100) (hu : h.user.size ≤ 31) (hg : h.group.size ≤ 31) : (hdrBytes h pre name).length = 512 := by
  have hk' : h.link.data.toList.length = h.link.size := rfl
  have hu' : h.user.data.toList.length = h.user.size := rfl
  have hg' : h.group.data.toList.length = h.group.size := rfl
  have z : z512.length = 512 := List.length_replicate
  have st : ∀ (l s : Bs) (i : Nat), l.length = 512 → i + s.length ≤ 512 → (over l i s).length = 512 := fun l s i h1 h2 => by rw [over_length (by omega), h1]
  have oc := octal_length
  unfold hdrBytes
  have hc : (chain h pre name).length = 512 := by
    unfold chain
    refine st _ _ _ (st _ _ _ (st _ _ _ (st _ _ _ (st _ _ _ (st _ _ _ (st _ _ _ (st _ _ _ (st _ _ _ (st _ _ _ (st _ _ _ (st _ _ _ (st _ _ _ (st _ _ _ z ?_) ?_) ?_) ?_) ?_) ?_) ?_) ?_) ?_) ?_) ?_) ?_) ?_) ?_
    all_goals (try rw [oc])
    all_goals (first | omega | (simp only [List.length_cons, List.length_nil]; omega))
  refine st _ _ _ (st _ _ _ hc ?_) ?_
  · rw [oc]; omega
  · simp
theorem enc_ok {h : Hdr} (he : encErr h = 0) : ∃ pre name, splitOf h.path = some (pre, name) ∧ wrongB h = false ∧ h.link.size ≤ 100 ∧ nums7 h = true ∧ nums11 h = true ∧ encOf h = hdrBytes h pre.data.toList name.data.toList ∧ pre.size ≤ 155 ∧ name.size ≤ 100 ∧ h.user.size ≤ 31 ∧ h.group.size ≤ 31 := by
  unfold encErr at he
  split at he
  · cases he
  · rename_i hw
    split at he
    · cases he
    · rename_i pn hs
      obtain ⟨pre, name⟩ := pn
      split at he
      · cases he
      · rename_i hl
        split at he
        · rename_i hn
          simp only [Bool.and_eq_true] at hn
          have hw' : wrongB h = false := by simpa using hw
          have hw2 := hw'
          simp only [wrongB, Bool.or_eq_false_iff, decide_eq_false_iff_not] at hw2
          obtain ⟨h1, h2⟩ := splitOf_bd hs
          exact ⟨pre, name, hs, hw', by omega, hn.1, hn.2, by unfold encOf; rw [hs], h1, h2, by omega, by omega⟩
        · cases he
theorem encOf_length {h : Hdr} (he : encErr h = 0) : (encOf h).length = 512 := by
  obtain ⟨pre, name, _, _, hl, _, _, e, h1, h2, h3, h4⟩ := enc_ok he
  rw [e]
  exact hdrBytes_length h _ _ h1 h2 hl h3 h4
end Go.Proofs.YthpmocfdnoehoaaGreatDoor
/- Contracts of the reference's small functions: Filled, Octal, Sum, nought, in, Blocks, added, filled. -/
namespace Go.Proofs.YthpmocfdnoehoaaGreatDoor
open Go.RowKit
/-- A slice of bytes that a call has made. -/
def OwnB (base : Nat) (l : Bs) (v : Value) (w : World) : Prop := w.ownsRow base 5 1 v l.length (l.map byteV)
theorem OwnB.nil (base : Nat) (w : World) : OwnB base [] (.slice none 0 0) w := World.ownsRow_nil _ _ _ _
theorem OwnB.keep {base : Nat} {l : Bs} {v : Value} {w w' : World} (h : OwnB base l v w) (hb : Below w.heap.size w w') : OwnB base l v w' := by
  refine ⟨h.1, ?_⟩
  rcases h.2 with h2 | ⟨g, cap, cur, h1, h2, h3, h4⟩
  · exact .inl h2
  · exact .inr ⟨g, cap, cur, h1, h2, (hb.block g (blk_lt h3)).trans h3, h4⟩
theorem OwnB.slice {base : Nat} {l : Bs} {v : Value} {w : World} (h : OwnB base l v w) : ∃ p cap, v = .slice p l.length cap := by
  rcases h.2 with ⟨h1, h2⟩ | ⟨g, cap, cur, h1, _⟩
  · exact ⟨none, 0, by rw [h1, h2]⟩
  · exact ⟨_, cap, h1⟩
theorem OwnB.app {base : Nat} {l : Bs} {x : UInt8} {v v' : Value} {w0 w w1 : World} {tmp : Obj} (h : OwnB base l v w) (hw : Below base w0 w) (hb : base ≤ w.heap.size) (hown' : w1.ownsRow base 5 1 v' (l.length + 1) (l.map byteV ++ [byteV x])) (hg : (w.alloc tmp).grownBy w1 v.ownBlock) :
    OwnB base (l ++ [x]) v' w1 ∧ Below base w0 w1 := by
  refine ⟨by unfold OwnB; rw [List.length_append, List.map_append]; exact hown', ?_⟩
  refine hw.trans (((Below.refl base w).alloc hb tmp).grown hg (by simp; omega) fun j ej => ?_)
  rcases h.2 with ⟨rfl, _⟩ | ⟨g, cap, cur, rfl, hb', _, _⟩
  · simp [Value.ownBlock] at ej
  · obtain rfl : g = j := by simpa [Value.ownBlock] using ej
    exact hb'
theorem OwnB.conv {base : Nat} {l : Bs} {v : Value} {w : World} (h : OwnB base l v w) : (convert 48 9 v).run Tryz.prog w = .ok (.string ⟨l.toArray⟩) w := by
  rcases h.2 with ⟨h1, h2⟩ | ⟨g, cap, cur, h1, h2, h3, h4, h5, h6, h7⟩
  · have : l = [] := List.eq_nil_of_length_eq_zero h2
    subst this
    subst h1
    have := run_convert_bytes_string (P := Tryz.prog) w 48 9 5 none 0 0 Tryz.underlying48 Tryz.underlying5 Tryz.underlying9
    rw [this]
    rfl
  · subst h1
    exact run_convert_bytes_back (P := Tryz.prog) w 48 9 5 ⟨g, 0, none⟩ cap l Tryz.underlying48 Tryz.underlying5 Tryz.underlying9 (fun j hj => by
      rw [show (⟨g, 0, none⟩ : Addr).add j = ⟨g, j, none⟩ by simp [Addr.add]; intro e; exact e.symm]
      rw [cell_of_heapN h3]
      have e1 : (l.map byteV)[j]? = some (byteV l[j]) := by simp [hj]
      rw [← h7, List.getElem?_take] at e1
      split at e1
      · rw [← Array.getElem?_toList]; exact e1
      · cases e1)
theorem infoB : (Tryz.prog.info? 5).map (fun i => (i.zero, i.size, i.bytes)) = some (some (.int .u8 0), 1, 1) := by kernel_rfl
theorem new1 (w : World) (x : UInt8) (t : TypeId) : ∀ (j : Nat) (u : Value), ([byteV x] : List Value)[j]? = some u → (w.alloc (.cells #[byteV x] t)).cell? ((⟨w.heap.size, 0, none⟩ : Addr).add j) = some u := by
  intro j u h
  rw [show ((⟨w.heap.size, 0, none⟩ : Addr).add j) = ⟨w.heap.size, j, none⟩ by simp [Addr.add]; intro e; exact e.symm, cell_new, ← h]
  rw [← Array.getElem?_toList]
theorem one1 (x : UInt8) : ∀ u ∈ ([byteV x] : List Value), u.oneCell' = true := by
  intro u hu
  rw [List.mem_singleton] at hu
  subst hu
  rfl
/-- A text with bytes 0 behind it, so many in all. -/
def filledOf (l : Bs) (n : Nat) : Bs := (l ++ List.replicate n 0).take n
theorem filledOf_succ (l : Bs) (i n : Nat) (hi : i < n) : (filledOf l n).take (i + 1) = (filledOf l n).take i ++ [l.getD i 0] := by
  have hl : i < (filledOf l n).length := by unfold filledOf; rw [List.length_take, List.length_append, List.length_replicate]; omega
  rw [List.take_succ_eq_append_getElem hl]
  congr 2
  have h := List.getElem?_eq_getElem hl
  unfold filledOf at h
  rw [List.getElem?_take, if_pos hi, List.getElem?_append] at h
  rw [List.getD_eq_getElem?_getD]
  split at h
  · rw [h]; rfl
  · rename_i hge
    rw [List.getElem?_replicate] at h
    rw [List.getElem?_eq_none (by omega)]
    split at h
    · exact (Option.some.inj h).symm
    · cases h
theorem get_eq (s : ByteArray) (k : Nat) (h : k < s.size) : s.data.toList.getD k 0 = s[k] := by
  rw [List.getD_eq_getElem?_getD, List.getElem?_eq_getElem (by exact h)]
  rfl
set_option maxHeartbeats 1600000 in
set_option maxRecDepth 100000 in
theorem Filled_any (s : ByteArray) (n : Nat) (w : World) (hn : (n : Int) ≤ 140737488355328) :
    Calls Tryz.prog 22 #[.string s, .int .i64 n] w fun e w' => e = .returned (.string ⟨(filledOf s.data.toList n).toArray⟩) ∧ Below w.heap.size w w' := by
  obtain ⟨i0, hi, hz0, hz1, hz2⟩ := info_parts infoB
  go_enter Tryz.func22, Tryz.ntmps22
  go_wp2_with fail
  obtain ⟨l, hl⟩ : ∃ l, s.data.toList = l := ⟨_, rfl⟩
  have HL := Lib.hid hl
  clear hl
  go_loopw [5, 6] (fun v iv wr => ∃ k : Nat, k ≤ n ∧ iv = .int .i64 k ∧ Hid (OwnB w.heap.size ((filledOf l n).take k) v wr) ∧ Hid (Below w.heap.size w wr)) (fun _ iv _ => n - (intOf iv).toNat)
  case atStart => exact ⟨0, Nat.zero_le _, rfl, OwnB.nil _ _, Below.refl _ _⟩
  case round =>
    obtain ⟨k, hk, rfl, hown, hbel⟩ := hrel
    have hfl : ((filledOf l n).take k).length = k := by unfold filledOf; simp only [List.length_take, List.length_append, List.length_replicate]; omega
    have hsz := hbel.out.size
    by_cases hlt : k < n
    · have HS := Lib.hid (filledOf_succ l k n hlt)
      by_cases hin : (k : Int) < (s.size : Int)
      · have hget := get_eq s k (by omega)
        rw [HL.out] at hget
        rw [hget] at HS
        have HG := Lib.hid hget
        clear hget
        go_wp2_with (first
          | (at_builtin; refine wpList_append_own _ rfl _ _ 48 rfl w.heap.size 5 i0 (.int .u8 0) 1 1 Tryz.underlying48 hi hz0 hz1 hz2 rfl (by decide) _ _ _ rfl (hown.out.alloc _) ⟨wr.heap.size, 0, none⟩ 1 1 [byteV (s[k]'(by omega))] rfl rfl (new1 wr _ _) (one1 _) (by rw [hfl]; unfold maxLen; omega) (by rw [hfl]; omega) (by rw [World.size_alloc]; omega) ?_; intro v' w1 hown' hgrow _)
          | go_in)
        case roundEnd =>
          have h := hown.out.app hbel.out hsz hown' hgrow
          rw [← HS.out] at h
          exact ⟨⟨k + 1, by omega, by rw [Int.natCast_add]; rfl, h.1, h.2⟩, by simp [intOf]; omega⟩
      · have hget : l.getD k 0 = 0 := by
          have hll : l.length = s.size := by rw [← HL.out]; rfl
          rw [List.getD_eq_getElem?_getD, List.getElem?_eq_none (by omega)]
          rfl
        rw [hget] at HS
        clear hget
        go_wp2_with (first
          | (at_builtin; refine wpList_append_own _ rfl _ _ 48 rfl w.heap.size 5 i0 (.int .u8 0) 1 1 Tryz.underlying48 hi hz0 hz1 hz2 rfl (by decide) _ _ _ rfl (hown.out.alloc _) ⟨wr.heap.size, 0, none⟩ 1 1 [byteV 0] rfl rfl (new1 wr _ _) (one1 _) (by rw [hfl]; unfold maxLen; omega) (by rw [hfl]; omega) (by rw [World.size_alloc]; omega) ?_; intro v' w1 hown' hgrow _)
          | go_in)
        case roundEnd =>
          have h := hown.out.app hbel.out hsz hown' hgrow
          rw [← HS.out] at h
          exact ⟨⟨k + 1, by omega, by rw [Int.natCast_add]; rfl, h.1, h.2⟩, by simp [intOf]; omega⟩
    · have hc := hown.out.conv
      have e : (filledOf l n).take k = filledOf l n := List.take_of_length_le (by unfold filledOf; simp only [List.length_take, List.length_append, List.length_replicate]; omega)
      rw [e] at hc
      go_wp2_with fail
      go_ret
      exact ⟨by rw [HL.out]; rfl, hbel.out⟩
theorem conv1 (w : World) (x : UInt8) : (convert 48 9 (.slice (some ⟨w.heap.size, 0, none⟩) 1 1)).run Tryz.prog (w.alloc (.cells #[byteV x] 5)) = .ok (.string ⟨#[x]⟩) (w.alloc (.cells #[byteV x] 5)) := by
  have := run_convert_bytes_back (P := Tryz.prog) (w.alloc (.cells #[byteV x] 5)) 48 9 5 ⟨w.heap.size, 0, none⟩ 1 [x] Tryz.underlying48 Tryz.underlying5 Tryz.underlying9 (fun j hj => by
    have : j = 0 := by simpa using hj
    subst this
    exact new1 w x 5 0 _ rfl)
  exact this
set_option maxHeartbeats 1600000 in
set_option maxRecDepth 100000 in
theorem Octal_any (x : Int) (d : Nat) (w : World) (hd : d ≤ 100) (h0 : 0 ≤ x) (h1 : x ≤ 9223372036854775807) :
    Calls Tryz.prog 38 #[.int .i64 x, .int .i64 d] w fun e w' => e = .returned (.string ⟨(octal d x).toArray⟩) ∧ Below w.heap.size w w' := by
  go_enter Tryz.func38, Tryz.ntmps38
  go_wp2_with fail
  go_loopw [0, 5, 6] (fun xv sv iv wr => ∃ k : Nat, k ≤ d ∧ iv = .int .i64 k ∧ xv = .int .i64 (div8 x k) ∧ sv = .string ⟨(octal k x).toArray⟩ ∧ Hid (Below w.heap.size w wr)) (fun _ _ iv _ => d - (intOf iv).toNat)
  case atStart => exact ⟨0, Nat.zero_le _, rfl, rfl, rfl, Below.refl _ _⟩
  case round =>
    obtain ⟨k, hk, rfl, rfl, rfl, hbel⟩ := hrel
    by_cases hlt : k < d
    · obtain ⟨y, hy⟩ : ∃ y, div8 x k = y := ⟨_, rfl⟩
      have hyb := div8_zero_le h0 k
      rw [hy] at hyb ⊢
      have HY := Lib.hid hy
      have hcv := conv1 wr (48 + y % 8).toNat.toUInt8
      rw [← digit_byte] at hcv
      clear hy
      have hcat : ¬ 9223372036854775807 < 1 + List.length (octal k x) := by rw [octal_length]; omega
      go_wp2_with fail
      refine ⟨⟨k + 1, by omega, by rw [Int.natCast_add]; rfl, ?_, ?_, hbel.out.alloc hbel.out.size _⟩, by simp [intOf]; omega⟩
      · rw [div8, HY.out]
      · rw [octal_snoc, HY.out]
        exact congrArg Value.string (ByteArray.ext (by simp))
    · go_wp2_with fail
      obtain rfl : k = d := by omega
      go_ret
      exact ⟨rfl, hbel.out⟩
end Go.Proofs.YthpmocfdnoehoaaGreatDoor
/- Contracts of strings.Builder and strings.Repeat, at this program's numbers. -/
namespace Go.Proofs.YthpmocfdnoehoaaGreatDoor
open Go.RowKit
/-- The builder in block b holds l; its bytes lie from block B on. -/
def Bld (B b : Nat) (l : Bs) (w : World) : Prop := Lib.IsBuilderF 56 5 B b (Lib.byteCells l) w
theorem byteCells_app (l m : Bs) : Lib.byteCells (l ++ m) = Lib.byteCells l ++ Lib.byteCells m := by simp [Lib.byteCells]
theorem bld_len (B b : Nat) (l : Bs) (w : World) (h : Bld B b l w) :
    Calls Tryz.prog 26 #[.pointer (some ⟨b, 0, none⟩)] w fun e w' => e = .returned (.int .i64 l.length) ∧ w = w' :=
  (Tryz.Builder_Len_f B b _ w h).mono fun _ _ ⟨he, hw⟩ => ⟨by rw [he, Lib.byteCells_length], hw.symm⟩
theorem bld_write (B b : Nat) (l : Bs) (s : ByteArray) (w : World) (h : Bld B b l w) (hlen : l.length + s.size ≤ 140737488355328) (hB : B ≤ w.heap.size) :
    Calls Tryz.prog 28 #[.pointer (some ⟨b, 0, none⟩), .string s] w fun e w' => e = .returned (.tuple #[.int .i64 s.size, .nilIface]) ∧ Bld B b (l ++ s.data.toList) w' ∧ Below B w w' ∧ Lib.OthersKept 5 (some b) w w' := by
  have hx := Any.Builder_WriteString_k (P := Tryz.prog) (ρ := Tryz.lays105_ren) { Tryz.lays105 with } Tryz.Builder_Extra_105 B b (Lib.byteCells l) s w h (by rw [Lib.byteCells_length]; exact hlen) hB
  refine hx.mono ?_
  rintro e w' ⟨he, h1, h2, h3⟩
  refine ⟨he, ?_, h2, h3⟩
  unfold Bld
  rw [byteCells_app]
  exact .inr h1
theorem bld_string (B b : Nat) (l : Bs) (w : World) (h : Bld B b l w) (hB : B ≤ w.heap.size) :
    Calls Tryz.prog 30 #[.pointer (some ⟨b, 0, none⟩)] w fun e w' => e = .returned (.string ⟨l.toArray⟩) ∧ Bld B b l w' ∧ Below B w w' ∧ Lib.OthersKept 5 (some b) w w' :=
  Tryz.Builder_String_any_k B b l w h hB
theorem repeatL_zero (n : Nat) : Lib.repeatL [0] n = List.replicate n 0 := by
  induction n with
  | zero => rfl
  | succ n ih => rw [Lib.repeatL, ih]; rfl
theorem repeat_zero (n : Nat) (w : World) (h : n ≤ 140737488355328) :
    Calls Tryz.prog 29 #[.string ⟨#[0]⟩, .int .i64 n] w fun e w' => e = .returned (.string ⟨(List.replicate n 0).toArray⟩) ∧ Below w.heap.size w w' := by
  refine (Tryz.strings_Repeat ⟨#[0]⟩ n w (by omega) ?_).mono ?_
  · show 1 * n ≤ _
    omega
  · rintro e w' ⟨he, hb⟩
    refine ⟨?_, hb⟩
    rw [he, ← repeatL_zero]
theorem bld_new (w : World) : Bld w.heap.size w.heap.size [] (w.alloc (.cells #[.pointer none, .slice none 0 0] 56)) :=
  Lib.IsBuilderF.of (Lib.fresh_isBuilder 56 5 w)
theorem grown_of_below {w w' : World} (h : Below w.heap.size w w') : w.grownBy w' none := ⟨h.os, h.tape, h.output, h.size, fun i hi _ => h.block i hi⟩
theorem bld_keep {B b : Nat} {l : Bs} {w w' : World} (h : Bld B b l w) (hb : Below w.heap.size w w') : Bld B b l w' := by
  have go : ∀ p, Lib.BuilderAtF 56 5 B b p (Lib.byteCells l) w → Lib.BuilderAtF 56 5 B b p (Lib.byteCells l) w' := fun p h => by
    have hlt := h.lt
    obtain ⟨hB, v, hv, hown, hne⟩ := h
    exact ⟨hB, v, (hb.block b hlt).trans hv, hown.kept (grown_of_below hb) (by cases hv : v.ownBlock <;> simp), hne⟩
  rcases h with h | h
  · exact .inl (go _ h)
  · exact .inr (go _ h)
theorem bld_lt {B b : Nat} {l : Bs} {w : World} (h : Bld B b l w) : b < w.heap.size := by
  rcases h with h | h <;> exact h.lt
end Go.Proofs.YthpmocfdnoehoaaGreatDoor
/- Contract of archive.Write. -/
namespace Go.Proofs.YthpmocfdnoehoaaGreatDoor
open Go.RowKit
def WrPost (l : List Mem) (w : World) (e : Ending) (w' : World) : Prop :=
  e = .returned (.tuple #[.string ⟨(wrGo l 0 []).2.2.toArray⟩, if (wrGo l 0 []).1 = 0 then .nilIface else faultV (wrGo l 0 []).1 0 (wrGo l 0 []).2.1]) ∧ Below w.heap.size w w'
theorem WrPost.bad {l : List Mem} {w w' : World} {e : Ending} {k : Nat} {acc : Bs} {m : Mem} {r : List Mem} {x : Int} (hg : wrGo l 0 [] = wrGo (m :: r) k acc) (hx : wrBad acc.length m = x) (h0 : x ≠ 0) (he : e = .returned (.tuple #[.string ⟨#[]⟩, faultV x 0 k])) (hb : Below w.heap.size w w') : WrPost l w e w' := by
  have : wrGo l 0 [] = (x, k, []) := by rw [hg, wrGo, hx, if_pos h0]
  refine ⟨?_, hb⟩
  rw [this, he]
  simp only [if_neg h0]
theorem WrPost.ok {l : List Mem} {w w' : World} {e : Ending} {k : Nat} {acc : Bs} (hg : wrGo l 0 [] = wrGo [] k acc) (he : e = .returned (.tuple #[.string ⟨(acc ++ List.replicate 1024 0).toArray⟩, .nilIface])) (hb : Below w.heap.size w w') : WrPost l w e w' := by
  have : wrGo l 0 [] = (0, 0, acc ++ List.replicate 1024 0) := by rw [hg, wrGo]
  refine ⟨?_, hb⟩
  rw [this, he]
  rfl
theorem whole_cast (n : Nat) : ((n : Int) + 511) / 512 * 512 = ((Go.Proofs.YthpmocfdnoehoaaGreatDoor.whole n : Nat) : Int) := by unfold whole; omega
theorem whole_le (n : Nat) : n ≤ Go.Proofs.YthpmocfdnoehoaaGreatDoor.whole n ∧ Go.Proofs.YthpmocfdnoehoaaGreatDoor.whole n ≤ n + 511 := by unfold whole; omega
theorem test_big {a q : Nat} (h : 33554432 < a + q + 1536) (ha : a ≤ 33554432) (hq : q ≤ 281474976710656) : decide ((33554432 : Int) < wrap64 (wrap64 ((a : Int) + (q : Int)) + 1536)) = true := by
  have e1 : wrap64 ((a : Int) + (q : Int)) = (a : Int) + q := IntWalk.wrap64_in _ ⟨by omega, by omega⟩
  rw [e1, IntWalk.wrap64_in _ ⟨by omega, by omega⟩]; simp; omega
theorem test_small {a q : Nat} (h : ¬ 33554432 < a + q + 1536) : decide ((33554432 : Int) < wrap64 (wrap64 ((a : Int) + (q : Int)) + 1536)) = false := by
  have e1 : wrap64 ((a : Int) + (q : Int)) = (a : Int) + q := IntWalk.wrap64_in _ ⟨by omega, by omega⟩
  rw [e1, IntWalk.wrap64_in _ ⟨by omega, by omega⟩]; simp; omega
theorem row_cell {w : World} {b off i j : Nat} {m : Mem} {v : Value} (h : ∀ j, j < 13 → w.cell? ⟨b, off + (i * 13 + j), none⟩ = m.cells[j]?) (hj : j < 13) (hv : m.cells[j]? = some v) : w.cell? ⟨b, off + i * 13 + j, none⟩ = some v := by
  rw [Nat.add_assoc]; exact (h j hj).trans hv
set_option maxHeartbeats 1600000 in
set_option maxRecDepth 100000 in
theorem write_any (l : List Mem) (p : Option Addr) (cap : Nat) (w : World) (hM : MemsAt w p l) (hn : l.length ≤ 1152921504606846975) (hs : ∀ m ∈ l, m.small) :
    Calls Tryz.prog 9 #[.slice p l.length cap] w (WrPost l w) := by
  go_enter Tryz.func9, Tryz.ntmps9
  go_wp2_with fail
  obtain ⟨n, hnl⟩ : ∃ n, l.length = n := ⟨_, rfl⟩
  rw [hnl] at hn ⊢
  have HN := Lib.hid hnl
  have HM := Lib.hid hM
  have HS := Lib.hid hs
  clear hnl hM hs
  go_loopw [12] (fun iv wr => ∃ (k : Nat) (acc : Bs), k ≤ n ∧ iv = .int .i64 k ∧ acc.length ≤ 33554432 ∧ Hid (Bld w.heap.size w.heap.size acc wr) ∧ Hid (Below w.heap.size w wr) ∧ Hid (wrGo l 0 [] = wrGo (l.drop k) k acc)) (fun iv _ => n - (intOf iv).toNat)
  case atStart => exact ⟨0, [], Nat.zero_le _, rfl, by simp, bld_new w, (Below.refl _ _).alloc (Nat.le_refl _) _, rfl⟩
  case round =>
    obtain ⟨k, acc, hk, rfl, hacc, hbld, hbel, hgo⟩ := hrel
    have hbl := bld_lt hbld.out
    by_cases hlt : k < n
    · obtain ⟨m, hm⟩ : ∃ m, l[k]? = some m := ⟨_, List.getElem?_eq_getElem (i := k) (by have := HN.out; omega)⟩
      have hdrop : l.drop k = m :: l.drop (k + 1) := by
        have h1 : k < l.length := by have := HN.out; omega
        rw [List.drop_eq_getElem_cons h1]
        congr 1
        exact (List.getElem?_eq_some_iff.1 hm).2
      have HG := Lib.hid (show wrGo l 0 [] = wrGo (m :: l.drop (k + 1)) k acc by rw [hgo.out, hdrop])
      have hsm : m.small := HS.out m (List.mem_of_getElem? hm)
      obtain ⟨b, off, rfl, hb⟩ := HM.out.1 k (by have := HN.out; omega)
      have hrow : ∀ j, j < 13 → wr.cell? ⟨b, off + (k * 13 + j), none⟩ = m.cells[j]? := fun j hj => (hbel.out.cell (p := ⟨b, off + (k * 13 + j), none⟩) hb).trans (HM.out.2 b off rfl k m hm j hj)
      have c0 : wr.cell? ⟨b, off + k * 13, none⟩ = some (.string m.hdr.path) := row_cell hrow (j := 0) (by decide) rfl
      have c1 := row_cell hrow (j := 1) (by decide) rfl
      have c2 := row_cell hrow (j := 2) (by decide) rfl
      have c3 := row_cell hrow (j := 3) (by decide) rfl
      have c4 := row_cell hrow (j := 4) (by decide) rfl
      have c5 := row_cell hrow (j := 5) (by decide) rfl
      have c6 := row_cell hrow (j := 6) (by decide) rfl
      have c7 := row_cell hrow (j := 7) (by decide) rfl
      have c8 := row_cell hrow (j := 8) (by decide) rfl
      have c9 := row_cell hrow (j := 9) (by decide) rfl
      have c10 := row_cell hrow (j := 10) (by decide) rfl
      have c11 := row_cell hrow (j := 11) (by decide) rfl
      have c12 := row_cell hrow (j := 12) (by decide) rfl
      have HSM := Lib.hid hsm
      clear hm hdrop hsm hrow
      go_wp2_with fail
      clear c0 c1 c2 c3 c4 c5 c6 c7 c8 c9 c10 c11 c12
      have hz1 : wr.heap.size < (wr.alloc (.cells m.cells 26)).heap.size := by simp
      have HB1 := Lib.hid (bld_keep hbld.out ((Below.refl wr.heap.size wr).alloc (Nat.le_refl _) (.cells m.cells 26)))
      have HL1 := Lib.hid (hbel.out.alloc (Nat.le_of_lt hbl) (.cells m.cells 26))
      refine (encode_any m.hdr _ HSM.out.1).mono ?_
      rintro e w1 ⟨rfl, hb1⟩
      have cm : ∀ i : Nat, w1.cell? ⟨wr.heap.size, i, none⟩ = m.cells[i]? := fun i => (hb1.cell (p := ⟨wr.heap.size, i, none⟩) hz1).trans (cell_new wr m.cells _ i)
      have HMB := Lib.hid ((hb1.block wr.heap.size hz1).trans (heap_new wr (.cells m.cells 26)))
      have hz2 : wr.heap.size < w1.heap.size := Nat.lt_of_lt_of_le hz1 hb1.size
      have HB2 := Lib.hid (bld_keep HB1.out hb1)
      have HL2 := Lib.hid (HL1.out.trans (hb1.mono (by simp; omega)))
      clear hb1 HB1 HL1 hz1 hbld hbel hgo
      obtain ⟨x, hx⟩ : ∃ x, encErr m.hdr = x := ⟨_, rfl⟩
      rw [hx]
      have HX := Lib.hid hx
      clear hx
      by_cases h0 : x = 0
      · rw [if_pos h0, if_pos h0]
        have HX0 := Lib.hid h0
        clear h0
        have hds : m.data.size ≤ 140737488351232 := HSM.out.2
        by_cases h1 : m.hdr.size = (m.data.size : Int)
        · have hne : (m.hdr.size != (m.data.size : Int)) = false := by rw [h1]; simp
          have HSZ := Lib.hid h1
          clear h1
          go_wp2_with fail
          refine (bld_len _ _ acc _ HB2.out).mono ?_
          rintro e w2 ⟨rfl, rfl⟩
          go_wp2_with fail
          refine (whole_any _ _ (by omega) (by omega)).mono ?_
          rintro e w2 ⟨rfl, rfl⟩
          rw [whole_cast]
          have hwl := whole_le m.data.size
          obtain ⟨q, hq⟩ : ∃ q, Go.Proofs.YthpmocfdnoehoaaGreatDoor.whole m.data.size = q := ⟨_, rfl⟩
          rw [hq] at hwl ⊢
          have HQ := Lib.hid hq
          clear hq
          by_cases h2 : 33554432 < acc.length + q + 1536
          · have H2 := Lib.hid h2
            have H2b := test_big h2 (by omega) (by omega)
            have HA := Lib.hid hacc
            have HWL := Lib.hid hwl
            have HDS := Lib.hid hds
            clear h2 hacc hwl hds
            go_wp2_with fail
            go_ret2
            exact WrPost.bad HG.out (by rw [wrBad, if_neg (by rw [HX.out]; exact fun h => h HX0.out), if_neg (by rw [HSZ.out]; exact fun h => h rfl), if_pos (by rw [HQ.out]; exact H2.out)]) (by decide) rfl HL2.out
          · have H2 := Lib.hid h2
            have H2b := test_small h2
            have HA := Lib.hid hacc
            have HWL := Lib.hid hwl
            have HDS := Lib.hid hds
            clear h2 hacc hwl hds
            go_wp2_with fail
            have hel := encOf_length (HX.out.trans HX0.out)
            refine (bld_write _ _ acc _ _ HB2.out (by have h1 := HA.out; show acc.length + (encOf m.hdr).length ≤ _; omega) (Nat.le_of_lt (Nat.lt_trans hbl hz2))).mono ?_
            rintro e w2 ⟨rfl, hB, hL, hO⟩
            have HB3 := Lib.hid hB
            have HL3 := Lib.hid (HL2.out.trans hL)
            have HMB2 := Lib.hid (hO wr.heap.size _ HMB.out (by simp; omega) (by intro c fz hc; cases hc))
            have cm2 : ∀ i : Nat, w2.cell? ⟨wr.heap.size, i, none⟩ = m.cells[i]? := fun i => cell_of_heapN HMB2.out
            have hz3 : w.heap.size < w2.heap.size := Nat.lt_of_lt_of_le (Nat.lt_trans hbl hz2) hL.size
            clear hB hL hO HB2 HL2 HMB cm
            go_wp2_with fail
            refine (bld_write _ _ _ m.data _ HB3.out (by have h1 := HA.out; have h3 := H2.out; have h4 := HWL.out; simp only [List.length_append, hel]; omega) (Nat.le_of_lt hz3)).mono ?_
            rintro e w3 ⟨rfl, hB, hL, hO⟩
            have HB4 := Lib.hid hB
            have HL4 := Lib.hid (HL3.out.trans hL)
            have hz4 : w.heap.size < w3.heap.size := Nat.lt_of_lt_of_le hz3 hL.size
            clear hB hL hO HB3 HL3 HMB2 cm2
            go_wp2_with fail
            have hds := HDS.out
            have hwl := HWL.out
            refine (whole_any _ _ (by omega) (by omega)).mono ?_
            rintro e w4 ⟨rfl, rfl⟩
            rw [whole_cast, HQ.out]
            go_wp2_with fail
            have eqd : ((q : Int) - (m.data.size : Int)) = ((q - m.data.size : Nat) : Int) := by omega
            rw [eqd]
            clear eqd
            refine (repeat_zero _ _ (by have h3 := H2.out; omega)).mono ?_
            rintro e w4 ⟨rfl, hb4⟩
            have HB5 := Lib.hid (bld_keep HB4.out hb4)
            have HL5 := Lib.hid (HL4.out.trans (hb4.mono (Nat.le_of_lt hz4)))
            have hz5 : w.heap.size < w4.heap.size := Nat.lt_of_lt_of_le hz4 hb4.size
            clear hb4 HB4 HL4 hz4
            go_wp2_with fail
            refine (bld_write _ _ _ _ _ HB5.out (by have h1 := HA.out; have h3 := H2.out; have h4 := HWL.out; have h5 : m.data.data.toList.length = m.data.size := rfl; simp only [List.length_append, hel, h5]; show _ + (List.replicate (q - m.data.size) (0 : UInt8)).length ≤ _; rw [List.length_replicate]; omega) (Nat.le_of_lt hz5)).mono ?_
            rintro e w5 ⟨rfl, hB, hL, _⟩
            have HB6 := Lib.hid hB
            have HL6 := Lib.hid (HL5.out.trans hL)
            clear hB hL HB5 HL5
            go_wp2_with fail
            go_roundw
            case rel =>
              have hmb : acc ++ encOf m.hdr ++ m.data.data.toList ++ (⟨(List.replicate (q - m.data.size) 0).toArray⟩ : ByteArray).data.toList = acc ++ memBytes m := by
                rw [memBytes, HQ.out]; simp
              refine ⟨k + 1, acc ++ memBytes m, by omega, by go_num, ?_, ?_, HL6.out, ?_⟩
              · have h3 := H2.out
                have h4 := HWL.out
                rw [memBytes, HQ.out]
                have h5 : m.data.data.toList.length = m.data.size := rfl
                simp only [List.length_append, hel, h5, List.length_replicate]
                omega
              · rw [← hmb]; exact HB6.out
              · show wrGo l 0 [] = wrGo (l.drop (k + 1)) (k + 1) (acc ++ memBytes m)
                rw [HG.out, wrGo, if_neg]
                rw [wrBad, if_neg (by rw [HX.out]; exact fun h => h HX0.out), if_neg (by rw [HSZ.out]; exact fun h => h rfl), if_neg (by rw [HQ.out]; exact H2.out)]
                exact fun h => h rfl
            case measure => simp [intOf]; omega
        · have hne : (m.hdr.size != (m.data.size : Int)) = true := by rw [bne_iff_ne]; exact h1
          have HSZ := Lib.hid h1
          clear h1
          go_wp2_with fail
          go_ret2
          exact WrPost.bad HG.out (by rw [wrBad, if_neg (by rw [HX.out]; exact fun h => h HX0.out), if_pos HSZ.out]) (by decide) rfl HL2.out
      · rw [if_neg h0, if_neg h0]
        have HX0 := Lib.hid h0
        clear h0
        unfold errV
        go_wp2_with fail
        refine (fault_any x k _).mono ?_
        rintro e w2 ⟨rfl, rfl⟩
        go_wp2_with fail
        go_ret2
        exact WrPost.bad HG.out (by rw [wrBad, HX.out, if_pos HX0.out]) HX0.out rfl HL2.out
    · have hkn : k = n := by omega
      have HG := Lib.hid (show wrGo l 0 [] = wrGo [] k acc by rw [hgo.out, List.drop_eq_nil_of_le (by have := HN.out; omega)])
      have HA := Lib.hid hacc
      clear hgo hkn hacc
      go_wp2_with fail
      have e1024 : (1024 : Int) = ((1024 : Nat) : Int) := rfl
      rw [e1024]
      refine (repeat_zero 1024 _ (by omega)).mono ?_
      rintro e w1 ⟨rfl, hb1⟩
      have HB1 := Lib.hid (bld_keep hbld.out hb1)
      have HL1 := Lib.hid (hbel.out.trans (hb1.mono (Nat.le_of_lt hbl)))
      have hz1 : w.heap.size < w1.heap.size := Nat.lt_of_lt_of_le hbl hb1.size
      clear hb1 hbld hbel e1024
      obtain ⟨Z, hZ⟩ : ∃ Z, List.replicate 1024 (0 : UInt8) = Z := ⟨_, rfl⟩
      have hZl : Z.length = 1024 := by rw [← hZ]; exact List.length_replicate
      rw [hZ]
      have HZ := Lib.hid hZ
      have HZL := Lib.hid hZl
      clear hZ hZl
      go_wp2_with fail
      refine (bld_write _ _ _ _ _ HB1.out (by have h1 := HA.out; have h2 := HZL.out; show _ + Z.length ≤ _; omega) (Nat.le_of_lt hz1)).mono ?_
      rintro e w2 ⟨rfl, hB, hL, _⟩
      have HB2 := Lib.hid hB
      have HL2 := Lib.hid (HL1.out.trans hL)
      have hz2 : w.heap.size < w2.heap.size := Nat.lt_of_lt_of_le hz1 hL.size
      clear hB hL HB1 HL1
      go_wp2_with fail
      refine (bld_string _ _ _ _ HB2.out (Nat.le_of_lt hz2)).mono ?_
      rintro e w3 ⟨rfl, hB, hL, _⟩
      have HL3 := Lib.hid (HL2.out.trans hL)
      clear hB hL HB2 HL2
      go_wp2_with fail
      go_ret2
      exact WrPost.ok HG.out (by rw [HZ.out]; rfl) HL3.out
end Go.Proofs.YthpmocfdnoehoaaGreatDoor
/- Contracts of the reference's small functions: Sum, nought, in, Blocks, filled, added. -/
namespace Go.Proofs.YthpmocfdnoehoaaGreatDoor
open Go.RowKit
set_option maxHeartbeats 1600000 in
set_option maxRecDepth 100000 in
theorem Sum_any (s : ByteArray) (w : World) (hs : (s.size : Int) ≤ 33554432) :
    Calls Tryz.prog 39 #[.string s] w fun e w' => e = .returned (.int .i64 (sumTo s.data.toList s.size)) ∧ Below w.heap.size w w' := by
  go_enter Tryz.func39, Tryz.ntmps39
  go_wp2_with fail
  go_loopw [3, 4] (fun sv iv wr => ∃ k : Nat, k ≤ s.size ∧ iv = .int .i64 k ∧ sv = .int .i64 (sumTo s.data.toList k) ∧ Hid (Below w.heap.size w wr)) (fun _ iv _ => s.size - (intOf iv).toNat)
  case atStart => exact ⟨0, Nat.zero_le _, rfl, rfl, Below.refl _ _⟩
  case round =>
    obtain ⟨k, hk, rfl, rfl, hbel⟩ := hrel
    have hbd := sumTo_bd s.data.toList k
    obtain ⟨y, hy⟩ : ∃ y, sumTo s.data.toList k = y := ⟨_, rfl⟩
    rw [hy] at hbd ⊢
    have HY := Lib.hid hy
    clear hy
    by_cases hlt : k < s.size
    · have hget := get_eq s k hlt
      have hub := (s[k]).toNat_lt
      by_cases h1 : 148 ≤ k
      · by_cases h2 : k < 156
        · have HS := Lib.hid (show sumTo s.data.toList (k + 1) = y + 32 by rw [sumTo, if_pos ⟨h1, h2⟩, HY.out])
          clear hget
          go_wp2_with fail
          exact ⟨⟨k + 1, by omega, by rw [Int.natCast_add]; rfl, by rw [HS.out], hbel⟩, by simp [intOf]; omega⟩
        · have HS := Lib.hid (show sumTo s.data.toList (k + 1) = y + (s[k].toNat : Int) by rw [sumTo, if_neg (by omega), hget, HY.out])
          clear hget
          go_wp2_with fail
          exact ⟨⟨k + 1, by omega, by rw [Int.natCast_add]; rfl, by rw [HS.out], hbel⟩, by simp [intOf]; omega⟩
      · have HS := Lib.hid (show sumTo s.data.toList (k + 1) = y + (s[k].toNat : Int) by rw [sumTo, if_neg (by omega), hget, HY.out])
        clear hget
        go_wp2_with fail
        exact ⟨⟨k + 1, by omega, by rw [Int.natCast_add]; rfl, by rw [HS.out], hbel⟩, by simp [intOf]; omega⟩
    · obtain rfl : k = s.size := by omega
      go_wp2_with fail
      go_ret
      exact ⟨ret_int HY.out.symm, hbel.out⟩
set_option maxHeartbeats 1600000 in
set_option maxRecDepth 100000 in
theorem nought_any (s : ByteArray) (w : World) (hs : (s.size : Int) ≤ 140737488355328) :
    Calls Tryz.prog 41 #[.string s] w fun e w' => e = .returned (.bool (nulIn s)) ∧ Below w.heap.size w w' := by
  go_enter Tryz.func41, Tryz.ntmps41
  go_wp2_with fail
  go_loopw [3] (fun iv wr => ∃ k : Nat, k ≤ s.size ∧ iv = .int .i64 k ∧ Hid (∀ i, i < k → s.data.toList.getD i 0 ≠ 0) ∧ Hid (Below w.heap.size w wr)) (fun iv _ => s.size - (intOf iv).toNat)
  case atStart => exact ⟨0, Nat.zero_le _, rfl, (fun i hi => absurd hi (by omega)), Below.refl _ _⟩
  case round =>
    obtain ⟨k, hk, rfl, hno, hbel⟩ := hrel
    by_cases hlt : k < s.size
    · have hget := get_eq s k hlt
      by_cases h0 : s[k] = 0
      · have h0' : (s[k]).toNat = 0 := by rw [h0]; rfl
        have HG := Lib.hid hget
        have H0 := Lib.hid h0
        clear hget h0
        go_wp2_with fail
        go_ret
        refine ⟨ret_bool ?_, hbel.out⟩
        unfold nulIn
        symm
        rw [List.contains_iff_mem]
        have hl : k < s.data.toList.length := hlt
        have : s.data.toList[k] = 0 := by
          have h := HG.out
          rw [H0.out, List.getD_eq_getElem?_getD, List.getElem?_eq_getElem hl] at h
          exact h
        rw [← this]
        exact List.getElem_mem hl
      · have h0' : ¬ (s[k]).toNat = 0 := fun e => h0 (UInt8.toNat_inj.1 e)
        have HG := Lib.hid hget
        have H0 := Lib.hid h0
        clear hget h0
        go_wp2_with fail
        refine ⟨⟨k + 1, by omega, by rw [Int.natCast_add]; rfl, fun i hi => ?_, hbel⟩, by simp [intOf]; omega⟩
        by_cases hik : i < k
        · exact hno.out i hik
        · obtain rfl : i = k := by omega
          rw [HG.out]
          exact H0.out
    · obtain rfl : k = s.size := by omega
      go_wp2_with fail
      go_ret
      refine ⟨ret_bool ?_, hbel.out⟩
      unfold nulIn
      symm
      rw [← Bool.not_eq_true, List.contains_iff_mem]
      intro hm
      obtain ⟨i, hi, he⟩ := List.getElem_of_mem hm
      refine hno.out i hi ?_
      rw [List.getD_eq_getElem?_getD, List.getElem?_eq_getElem hi, he]
      rfl
theorem in_any (x m : Int) (w : World) :
    Calls Tryz.prog 43 #[.int .i64 x, .int .i64 m] w fun e w' => e = .returned (.bool (inB m x)) ∧ w = w' := by
  go_enter Tryz.func43, Tryz.ntmps43
  go_wp2_with fail
  all_goals go_ret
  · exact ⟨ret_bool (by unfold inB; rw [decide_eq_true (show 0 ≤ x by omega), Bool.true_and]), rfl⟩
  · exact ⟨ret_bool (by unfold inB; rw [decide_eq_false (show ¬ 0 ≤ x by omega), Bool.false_and]), rfl⟩
theorem blocksR_any (n : Nat) (w : World) (h : (n : Int) ≤ 9223372036854774784) : Calls Tryz.prog 19 #[.int .i64 n] w fun e w' => e = .returned (.int .i64 ((Go.Proofs.YthpmocfdnoehoaaGreatDoor.whole n / 512 : Nat) : Int)) ∧ w = w' := by
  cases h0 : ((n : Int) % 512 == 0)
  all_goals
    go_enter Tryz.func19, Tryz.ntmps19
    go_wp2_with fail
    go_ret
    refine ⟨ret_int ?_, rfl⟩
    first
      | rw [beq_iff_eq] at h0
      | rw [beq_eq_false_iff_ne] at h0
    unfold whole
    omega
set_option maxHeartbeats 1600000 in
set_option maxRecDepth 100000 in
theorem added_any (base : Nat) (l : Bs) (v : Value) (s : ByteArray) (w : World) (hv : OwnB base l v w) (hb : base ≤ w.heap.size) (hs : (l.length : Int) + (s.size : Int) ≤ 140737488355328) :
    Calls Tryz.prog 20 #[v, .string s] w fun e w' => ∃ v', e = .returned v' ∧ OwnB base (l ++ s.data.toList) v' w' ∧ Below base w w' := by
  obtain ⟨i0, hi, hz0, hz1, hz2⟩ := info_parts infoB
  have HV := Lib.hid hv
  clear hv
  go_enter Tryz.func20, Tryz.ntmps20
  go_wp2_with fail
  go_loopw [0, 5] (fun v iv wr => ∃ k : Nat, k ≤ s.size ∧ iv = .int .i64 k ∧ Hid (OwnB base (l ++ s.data.toList.take k) v wr) ∧ Hid (Below base w wr)) (fun _ iv _ => s.size - (intOf iv).toNat)
  case atStart => exact ⟨0, Nat.zero_le _, rfl, (by rw [List.take_zero, List.append_nil]; exact HV.out), Below.refl _ _⟩
  case round =>
    obtain ⟨k, hk, rfl, hown, hbel⟩ := hrel
    have hsl : s.data.toList.length = s.size := rfl
    have hfl : (l ++ s.data.toList.take k).length = l.length + k := by rw [List.length_append, List.length_take]; omega
    have hsz := Nat.le_trans hb hbel.out.size
    by_cases hlt : k < s.size
    · have HS := Lib.hid (show l ++ s.data.toList.take (k + 1) = (l ++ s.data.toList.take k) ++ [s[k]] by
        rw [List.append_assoc, List.take_add_one, List.getElem?_eq_getElem (by exact hlt)]; rfl)
      clear hsl
      go_wp2_with (first
        | (at_builtin; refine wpList_append_own _ rfl _ _ 48 rfl base 5 i0 (.int .u8 0) 1 1 Tryz.underlying48 hi hz0 hz1 hz2 rfl (by decide) _ _ _ rfl (hown.out.alloc _) ⟨wr.heap.size, 0, none⟩ 1 1 [byteV (s[k]'(by omega))] rfl rfl (new1 wr _ _) (one1 _) (by rw [hfl]; unfold maxLen; omega) (by rw [hfl]; omega) (by rw [World.size_alloc]; omega) ?_; intro v' w1 hown' hgrow _)
        | go_in)
      case roundEnd =>
        have h := hown.out.app hbel.out hsz hown' hgrow
        rw [← HS.out] at h
        exact ⟨⟨k + 1, by omega, by rw [Int.natCast_add]; rfl, h.1, h.2⟩, by simp [intOf]; omega⟩
    · have e : s.data.toList.take k = s.data.toList := List.take_of_length_le (by omega)
      have h := hown.out
      rw [e] at h
      have HH := Lib.hid h
      clear h e
      go_wp2_with fail
      go_ret
      exact ⟨_, rfl, HH.out, hbel.out⟩
theorem filledOf_nil (n : Nat) : filledOf [] n = List.replicate n 0 := by
  unfold filledOf; rw [List.nil_append, List.take_of_length_le (by rw [List.length_replicate]; omega)]
set_option maxHeartbeats 1600000 in
set_option maxRecDepth 100000 in
theorem filled_any (d : ByteArray) (w : World) (hd : (d.size : Int) ≤ 33554432) :
    Calls Tryz.prog 21 #[.string d] w fun e w' => e = .returned (.string ⟨(List.replicate (Go.Proofs.YthpmocfdnoehoaaGreatDoor.whole d.size - d.size) 0).toArray⟩) ∧ Below w.heap.size w w' := by
  have hw := whole_le d.size
  have hq : Go.Proofs.YthpmocfdnoehoaaGreatDoor.whole d.size / 512 * 512 = Go.Proofs.YthpmocfdnoehoaaGreatDoor.whole d.size := by unfold whole; omega
  have hbk := fun w1 => blocksR_any d.size w1 (by omega)
  obtain ⟨Q, hQ⟩ : ∃ Q, Go.Proofs.YthpmocfdnoehoaaGreatDoor.whole d.size = Q := ⟨_, rfl⟩
  rw [hQ] at hw hq hbk ⊢
  have hF := fun w1 => Filled_any ⟨#[]⟩ (Q - d.size) w1 (by omega)
  rw [show (ByteArray.mk #[]).data.toList = [] from rfl, filledOf_nil] at hF
  have hsub : ((Q - d.size : Nat) : Int) = (Q : Int) / 512 * 512 - (d.size : Int) := by omega
  have hqb : (Q : Int) / 512 ≤ 65537 := by omega
  have hqn : (0 : Int) ≤ (Q : Int) / 512 := by omega
  clear hQ
  rw [hsub] at hF
  go_enter Tryz.func21, Tryz.ntmps21
  go_wp2_with fail
  refine (hbk _).mono ?_
  rintro e w1 ⟨rfl, rfl⟩
  clear hbk
  go_wp2_with fail
  refine (hF _).mono ?_
  rintro e w2 ⟨rfl, hb⟩
  have HB := Lib.hid hb
  clear hb hF
  go_wp2_with fail
  go_ret
  exact ⟨rfl, HB.out⟩
end Go.Proofs.YthpmocfdnoehoaaGreatDoor
/- Contracts of ustar.text and ustar.value: a header's fields read. -/
namespace Go.Proofs.YthpmocfdnoehoaaGreatDoor
open Go.RowKit
/-- A text's field: what stands ahead of the first byte 0. -/
def textOf (l : Bs) : Bs := l.takeWhile (· != 0)
theorem takeWhile_all {α : Type} {p : α → Bool} : ∀ {l : List α}, (∀ x ∈ l, p x = true) → l.takeWhile p = l
  | [], _ => rfl
  | x :: l, h => by rw [List.takeWhile_cons, if_pos (h x (by simp)), takeWhile_all (fun y hy => h y (by simp [hy]))]
theorem textOf_none {l : Bs} (h : Lib.indexByte l 0 = -1) : textOf l = l := by
  have := Lib.indexByte_none h
  unfold textOf
  refine takeWhile_all (fun x hx => ?_)
  obtain ⟨k, hk⟩ := List.getElem?_of_mem hx
  have h2 := this k
  rw [hk] at h2
  simp at h2 ⊢
  exact h2
theorem textOf_some {l : Bs} {o : Nat} (h : Lib.indexByte l 0 = o) : textOf l = l.take o := by
  obtain ⟨h1, h2⟩ := Lib.indexByte_some h
  have ho : o < l.length := (List.getElem?_eq_some_iff.1 h1).1
  unfold textOf
  have e : l = l.take o ++ 0 :: l.drop (o + 1) := by
    have h3 := (List.getElem?_eq_some_iff.1 h1).2
    rw [← h3, List.getElem_cons_drop, List.take_append_drop]
  conv => lhs; rw [e]
  rw [List.takeWhile_append_of_pos]
  · simp
  · intro x hx
    obtain ⟨k, hk⟩ := List.getElem?_of_mem hx
    rw [List.getElem?_take] at hk
    split at hk
    · have := h2 k (by assumption)
      rw [hk] at this
      simp at this ⊢
      exact this
    · simp at hk
theorem bytes_eq {s : ByteArray} {l : Bs} (h : s.data.toList = l) : s = ⟨l.toArray⟩ := by
  cases s with
  | mk d => subst h; simp
set_option maxHeartbeats 400000 in
theorem text_any (s : ByteArray) (w : World) (hs : s.size ≤ 140737488355328) :
    Calls Tryz.prog 84 #[.string s] w fun e w' => e = .returned (.string ⟨(textOf s.data.toList).toArray⟩) ∧ w = w' := by
  obtain ⟨i, hi⟩ : ∃ i, Lib.indexByte s.data.toList 0 = i := ⟨_, rfl⟩
  have hg := Lib.indexByte_ge s.data.toList 0
  have hl := indexByte_le s.data.toList 0
  rw [hi] at hg hl
  have hl2 : i ≤ s.size := by have : s.data.toList.length = s.size := rfl; omega
  have HI := Lib.hid hi
  clear hi hl
  go_enter Tryz.func84, Tryz.ntmps84
  go_wp2_with fail
  refine (idx_eq s 0 _ i HI.out).mono ?_
  rintro e w' ⟨rfl, rfl⟩
  by_cases h0 : i < 0
  · go_wp2_with fail
    go_ret
    refine ⟨?_, rfl⟩
    rw [textOf_none (by have := HI.out; omega), ← bytes_eq rfl]
    rfl
  · obtain ⟨o, rfl⟩ := Int.eq_ofNat_of_zero_le (a := i) (by omega)
    go_wp2_with fail
    go_ret
    refine ⟨?_, rfl⟩
    rw [textOf_some HI.out]
    show Ending.returned (.string (s.extract 0 o)) = _
    rw [bytes_eq (s := s.extract 0 o) (l := s.data.toList.take o) (by rw [Lib.extract_data]; simp)]
end Go.Proofs.YthpmocfdnoehoaaGreatDoor
