/- Plain: the numbers behind a block; a hash in memory. -/
import Derived.Test.YtecgikanophonaaGreatDoorTurn
import Derived.Test.YtecgikanophonaaGreatDoorDisk
import Derived.Test.YtecgikanophonaaGreatDoorM7
import Derived.Test.YtecgikanophonaaGreatDoorTabAt
namespace Go.Proofs.YtecgikanophonaaGreatDoor
open Go Go.RowKit
theorem mixedB : Tryz.prog.follows .mixedOrders = true := by kernel_rfl
theorem quietT {P : Program} {f : FuncId} {args : Array Value} {W : World} {a x : Nat} {v : Value} (h : Calls P f args (W.drewN (a + x)) fun e w' => e = .returned v ∧ ∃ q, w' = (W.drewN (a + x)).drewN q) : Calls P f args (W.drewN (a + x)) fun e w'' => e = .returned v ∧ ∃ n, w'' = W.drewN (a + n) :=
  h.mono fun _ _ ⟨he, q, hq⟩ => ⟨he, x + q, by rw [hq, World.drewN_drewN, Nat.add_assoc]⟩
def u32V (x : Int) : Value := .int .u32 x
/-- The constants of the rounds. -/
def rk : List Int := [0x428a2f98, 0x71374491, 0xb5c0fbcf, 0xe9b5dba5, 0x3956c25b, 0x59f111f1, 0x923f82a4, 0xab1c5ed5, 0xd807aa98, 0x12835b01, 0x243185be, 0x550c7dc3, 0x72be5d74, 0x80deb1fe, 0x9bdc06a7, 0xc19bf174, 0xe49b69c1, 0xefbe4786, 0x0fc19dc6, 0x240ca1cc, 0x2de92c6f, 0x4a7484aa, 0x5cb0a9dc, 0x76f988da, 0x983e5152, 0xa831c66d, 0xb00327c8, 0xbf597fc7, 0xc6e00bf3, 0xd5a79147, 0x06ca6351, 0x14292967, 0x27b70a85, 0x2e1b2138, 0x4d2c6dfc, 0x53380d13, 0x650a7354, 0x766a0abb, 0x81c2c92e, 0x92722c85, 0xa2bfe8a1, 0xa81a664b, 0xc24b8b70, 0xc76c51a3, 0xd192e819, 0xd6990624, 0xf40e3585, 0x106aa070, 0x19a4c116, 0x1e376c08, 0x2748774c, 0x34b0bcb5, 0x391c0cb3, 0x4ed8aa4a, 0x5b9cca4f, 0x682e6ff3, 0x748f82ee, 0x78a5636f, 0x84c87814, 0x8cc70208, 0x90befffa, 0xa4506ceb, 0xbef9a3f7, 0xc67178f2]
def r8i : R8 := ⟨0x6a09e667, 0xbb67ae85, 0x3c6ef372, 0xa54ff53a, 0x510e527f, 0x9b05688c, 0x1f83d9ab, 0x5be0cd19⟩
/-- Four bytes as a number. -/
def word4 (x0 x1 x2 x3 : Int) : Int :=
  bits .or .u32 (bits .or .u32 (bits .or .u32 (x0 % 4294967296 * 16777216 % 4294967296) (x1 % 4294967296 * 65536 % 4294967296)) (x2 % 4294967296 * 256 % 4294967296)) (x3 % 4294967296)
/-- A word of a block. -/
def word (r : List UInt8) (i : Nat) : Int := word4 (r.getD (4 * i) 0).toNat (r.getD (4 * i + 1) 0).toNat (r.getD (4 * i + 2) 0).toNat (r.getD (4 * i + 3) 0).toNat
def s0 (x : Int) : Int := bits .xor .u32 (bits .xor .u32 (rotr x 7) (rotr x 18)) (x / 8)
def s1 (y : Int) : Int := bits .xor .u32 (bits .xor .u32 (rotr y 17) (rotr y 19)) (y / 1024)
def wnext (l : List Int) (k : Nat) : Int := (((l.getD k 0 + l.getD (k + 9) 0) % 4294967296 + s0 (l.getD (k + 1) 0)) % 4294967296 + s1 (l.getD (k + 14) 0)) % 4294967296
/-- The words, and k more. -/
def sch (r : List UInt8) : Nat → List Int
  | 0 => (List.range 16).map (word r)
  | k + 1 => sch r k ++ [wnext (sch r k) k]
theorem sch_length (r : List UInt8) : ∀ k, (sch r k).length = 16 + k
  | 0 => by rw [sch, List.length_map, List.length_range]
  | k + 1 => by rw [sch, List.length_append, sch_length r k]; rfl
def rone (s : R8) (kt wt : Int) : Int := ((((s.k + bits .xor .u32 (bits .xor .u32 (rotr s.e 6) (rotr s.e 11)) (rotr s.e 25)) % 4294967296 + bits .xor .u32 (bits .and .u32 s.e s.f) (bits .and .u32 (bits .xor .u32 4294967295 s.e) s.g)) % 4294967296 + kt) % 4294967296 + wt) % 4294967296
def rtwo (s : R8) : Int := (bits .xor .u32 (bits .xor .u32 (rotr s.a 2) (rotr s.a 13)) (rotr s.a 22) + bits .xor .u32 (bits .xor .u32 (bits .and .u32 s.a s.b) (bits .and .u32 s.a s.c)) (bits .and .u32 s.b s.c)) % 4294967296
/-- A round. -/
def rnd (s : R8) (kt wt : Int) : R8 := ⟨(rone s kt wt + rtwo s) % 4294967296, s.a, s.b, s.c, (s.d + rone s kt wt) % 4294967296, s.e, s.f, s.g⟩
def rnds (s : R8) (l : List Int) : Nat → R8
  | 0 => s
  | i + 1 => rnd (rnds s l i) (rk.getD i 0) (l.getD i 0)
def R8.add (h v : R8) : R8 := ⟨(h.a + v.a) % 4294967296, (h.b + v.b) % 4294967296, (h.c + v.c) % 4294967296, (h.d + v.d) % 4294967296, (h.e + v.e) % 4294967296, (h.f + v.f) % 4294967296, (h.g + v.g) % 4294967296, (h.k + v.k) % 4294967296⟩
def R8.part (h v : R8) (i : Nat) : R8 := ⟨if 0 < i then (h.a + v.a) % 4294967296 else h.a, if 1 < i then (h.b + v.b) % 4294967296 else h.b, if 2 < i then (h.c + v.c) % 4294967296 else h.c, if 3 < i then (h.d + v.d) % 4294967296 else h.d, if 4 < i then (h.e + v.e) % 4294967296 else h.e, if 5 < i then (h.f + v.f) % 4294967296 else h.f, if 6 < i then (h.g + v.g) % 4294967296 else h.g, if 7 < i then (h.k + v.k) % 4294967296 else h.k⟩
/-- The numbers behind a block. -/
def compress (h : R8) (r : List UInt8) : R8 := h.add (rnds h (sch r 48) 64)
/-- A hash in memory. -/
def hashO (wd : Int) (h : R8) (r : List UInt8) (n : Nat) : Obj :=
  .cells (.int .i64 wd :: u32V h.a :: u32V h.b :: u32V h.c :: u32V h.d :: u32V h.e :: u32V h.f :: u32V h.g :: u32V h.k :: (r.map byteV ++ [.int .i64 n])).toArray 190 (0, 0)
/-- The constants, in their variable. -/
def RoundsT (w : World) : Prop := (∀ i k, rk[i]? = some k → w.cell? ⟨3, i, none⟩ = some (.int .u32 k)) ∧ 3 < w.heap.size
/-- The words of a block in memory; what is not made yet is 0. -/
def wordsO (L : List Int) : Obj := .cells ((List.range 64).map fun i => u32V (L.getD i 0)).toArray 169 (0, 0)
theorem hash_rest {w : World} {hb : Nat} {wd : Int} {h : R8} {r : List UInt8} {n : Nat} (hh : w.heap[hb]? = some (hashO wd h r n)) {j : Nat} (hj : j < r.length) : w.cell? ⟨hb, 9 + j, none⟩ = some (byteV (r.getD j 0)) := by
  rw [cell_of_heapN hh, List.getElem?_toArray, show 9 + j = j + 1 + 1 + 1 + 1 + 1 + 1 + 1 + 1 + 1 by omega]
  simp only [List.getElem?_cons_succ]
  rw [List.getElem?_append_left (by rw [List.length_map]; exact hj), List.getElem?_map, List.getElem?_eq_getElem hj, List.getD_eq_getElem?_getD, List.getElem?_eq_getElem hj]
  rfl
theorem words_cell {w : World} {b : Nat} {L : List Int} (h : w.heap[b]? = some (wordsO L)) {i : Nat} (hi : i < 64) : w.cell? ⟨b, i, none⟩ = some (.int .u32 (L.getD i 0)) := by
  rw [cell_of_heapN h, List.getElem?_toArray, List.getElem?_map, List.getElem?_range hi]
  rfl
theorem words_set {w : World} {b : Nat} {L : List Int} (h : w.heap[b]? = some (wordsO L)) {i : Nat} (hl : L.length = i) (hi : i < 64) (x : Int) : (w.setCell ⟨b, i, none⟩ (.int .u32 x)).heap[b]? = some (wordsO (L ++ [x])) := by
  rw [setCell_blk h, setBlk_heap (blk_lt h)]
  unfold wordsO
  rw [List.setIfInBounds_toArray]
  congr 2
  congr 1
  refine List.ext_getElem? fun k => ?_
  rw [List.getElem?_set, List.getElem?_map, List.getElem?_map, List.length_map, List.length_range]
  by_cases hk : i = k
  · subst hk
    rw [if_pos rfl, if_pos hi, List.getElem?_range hi]
    show some _ = some (u32V ((L ++ [x]).getD i 0))
    rw [List.getD_eq_getElem?_getD, List.getElem?_append_right (by omega), hl, Nat.sub_self]
    rfl
  · rw [if_neg hk]
    by_cases hk2 : k < 64
    · rw [List.getElem?_range hk2]
      show some (u32V (L.getD k 0)) = some (u32V ((L ++ [x]).getD k 0))
      rw [List.getD_eq_getElem?_getD, List.getD_eq_getElem?_getD]
      by_cases hk3 : k < L.length
      · rw [List.getElem?_append_left hk3]
      · rw [List.getElem?_eq_none (by omega), List.getElem?_eq_none (by rw [List.length_append, List.length_singleton]; omega)]
    · rw [List.getElem?_eq_none (by rw [List.length_range]; omega)]
      rfl
theorem words_new : wordsO [] = .cells (Array.replicate 64 (.int .u32 0)) 169 (0, 0) := by
  unfold wordsO
  rfl
theorem updL_keep {L : Nat → Bool} {i k : Nat} (h : L k = true) : updL L i k = true := by
  by_cases e : k = i
  · subst e; exact updL_self
  · rw [updL_ne e]; exact h
/-- What stands in the words' box while one more is made. -/
structure SchW (w : World) (r : List UInt8) (k : Nat) (L : Nat → Bool) (W : World) : Prop where
  bel : Below w.heap.size w W
  lo : L 29 = false → W.heap[w.heap.size]? = some (wordsO (sch r k))
  hi : L 29 = true → W.heap[w.heap.size]? = some (wordsO (sch r (k + 1)))
  dep : L 29 = true → L 4 = true ∧ L 8 = true
section
variable {w W : World} {r : List UInt8} {k : Nat} {L : Nat → Bool}
theorem SchW.upd (h : SchW w r k L W) (j : Nat) (hj : j ≠ 29) : SchW w r k (updL L j) W := by
  have e : updL L j 29 = L 29 := updL_ne (show 29 ≠ j by omega)
  refine ⟨h.bel, fun e2 => h.lo (e ▸ e2), fun e2 => h.hi (e ▸ e2), fun e2 => ?_⟩
  obtain ⟨h4, h8⟩ := h.dep (e ▸ e2)
  exact ⟨updL_keep h4, updL_keep h8⟩
theorem SchW.drews (h : SchW w r k L W) (q : Nat) : SchW w r k L (W.drewN q) := ⟨⟨h.bel.os, h.bel.tape, h.bel.output, h.bel.size, h.bel.block⟩, h.lo, h.hi, h.dep⟩
theorem SchW.cell (h : SchW w r k L W) (hl : L 4 = false ∨ L 8 = false) {j : Nat} (hj : j < 64) : W.cell? ⟨w.heap.size, j, none⟩ = some (.int .u32 ((sch r k).getD j 0)) := by
  refine words_cell (h.lo ?_) hj
  cases e : L 29 with
  | false => rfl
  | true =>
    have := h.dep e
    rcases hl with hl | hl
    · rw [hl] at this; cases this.1
    · rw [hl] at this; cases this.2
theorem SchW.set (h : SchW w r k L W) (hl : L 29 = false) (hk : k < 48) (h4 : L 4 = true) (h8 : L 8 = true) : SchW w r k (updL L 29) (W.setCell ⟨w.heap.size, k + 16, none⟩ (.int .u32 (wnext (sch r k) k))) :=
  ⟨h.bel.setCell (Nat.le_refl _) _, fun e => by rw [updL_self] at e; (cases e), fun _ => words_set (h.lo hl) (by rw [sch_length]; omega) (by omega) _, fun _ => ⟨updL_keep h4, updL_keep h8⟩⟩
end
set_option maxRecDepth 100000 in
theorem idx8 (W : World) (a b c d e f g k x : Int) (j : Nat) (h : [a, b, c, d, e, f, g, k][j]? = some x) :
    Sem.run Tryz.prog (Instr.index 97 (.agg #[.int .u32 a, .int .u32 b, .int .u32 c, .int .u32 d, .int .u32 e, .int .u32 f, .int .u32 g, .int .u32 k]) (.int .i64 j)) W = .ok (.int .u32 x) W := by
  match j, h with
  | 0, h | 1, h | 2, h | 3, h | 4, h | 5, h | 6, h | 7, h =>
    cases h
    first | kernel_rfl | (simp [Instr.index, go_sem]; done)
end Go.Proofs.YtecgikanophonaaGreatDoor
