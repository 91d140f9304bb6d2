/- Texts of the seat, one behind the other: Value, DecState, FreeAlloc, Decode, Piece, RefR, RefNum. -/
import Derived.Test.YthpmocfdnoehoaaGreatDoorM1
import Derived.StillTail
import Derived.StillTactics
import Derived.WalkKit
import Derived.RegionTactic
/- Contract of ustar.value: a number's field read. -/
namespace Go.Proofs.YthpmocfdnoehoaaGreatDoor
open Go.RowKit
def isOct (b : UInt8) : Bool := decide (48 ≤ b.toNat) && decide (b.toNat ≤ 55)
def octVal (l : Bs) : Int := l.foldl (fun x b => 8 * x + ((b.toNat : Int) - 48)) 0
theorem octVal_snoc (l : Bs) (b : UInt8) : octVal (l ++ [b]) = 8 * octVal l + ((b.toNat : Int) - 48) := by simp [octVal]
theorem octVal_bd : ∀ (n : Nat) (l : Bs), l.length = n → (∀ b ∈ l, isOct b = true) → 0 ≤ octVal l ∧ octVal l < 8 ^ n := by
  intro n
  induction n with
  | zero => intro l hl _; rw [List.eq_nil_of_length_eq_zero hl]; simp [octVal]
  | succ n ih =>
    intro l hl h
    have hne : l ≠ [] := by intro e; subst e; simp at hl
    have e := (List.dropLast_concat_getLast hne).symm
    have h1 := ih l.dropLast (by simp; omega) (fun b hb => h b (List.dropLast_subset _ hb))
    have h2 := h _ (List.getLast_mem hne)
    simp only [isOct, Bool.and_eq_true, decide_eq_true_eq] at h2
    rw [e, octVal_snoc]
    have : (8 : Int) ^ (n + 1) = 8 * 8 ^ n := by rw [Int.pow_succ, Int.mul_comm]
    omega
/-- Behind the blanks ahead. -/
def numD (l : Bs) : Bs := l.dropWhile (· == 32)
/-- The digits. -/
def numR (l : Bs) : Bs := (numD l).takeWhile isOct
def numX (l : Bs) : Int := octVal (numR l)
def numOk (l : Bs) : Bool := decide (0 < (numR l).length) && ((numD l).drop (numR l).length).all (fun b => b == 32 || b == 0)
theorem takeWhile_at {α : Type} (p : α → Bool) : ∀ (l : List α) (k : Nat) (x : α), k < (l.takeWhile p).length → l[k]? = some x → p x = true
  | [], k, x, h, _ => by simp at h
  | a :: l, k, x, h, hx => by
    rw [List.takeWhile_cons] at h
    split at h
    · rename_i ha
      cases k with
      | zero => simp at hx; rw [← hx]; exact ha
      | succ k => exact takeWhile_at p l k x (by simpa using h) (by simpa using hx)
    · simp at h
theorem takeWhile_end {α : Type} (p : α → Bool) : ∀ (l : List α) (x : α), l[(l.takeWhile p).length]? = some x → p x = false
  | [], x, h => by simp at h
  | a :: l, x, h => by
    rw [List.takeWhile_cons] at h
    split at h
    · exact takeWhile_end p l x (by simpa using h)
    · rename_i ha
      simp at h
      rw [← h]; simpa using ha
theorem takeWhile_take {α : Type} (p : α → Bool) : ∀ (l : List α), l.takeWhile p = l.take (l.takeWhile p).length
  | [] => by simp
  | a :: l => by
    rw [List.takeWhile_cons]
    split
    · rw [List.length_cons, List.take_succ_cons, ← takeWhile_take p l]
    · simp
theorem dropWhile_nil {p : UInt8 → Bool} : ∀ {l : Bs}, l.dropWhile p = [] ↔ l.all p = true
  | [] => by simp
  | a :: l => by
    rw [List.dropWhile_cons]
    split
    · rename_i h; rw [dropWhile_nil]; simp [h]
    · rename_i h; simp at h; simp [h]
theorem trimS_nil (l cs : Bs) : Lib.trimS l cs = [] ↔ l.all (cs.contains ·) = true := by
  unfold Lib.trimS Lib.trimLeftS Lib.trimRightS
  constructor
  · intro h
    rw [dropWhile_nil] at h
    have h1 : (l.reverse.dropWhile (cs.contains ·)).reverse.all (cs.contains ·) = true := h
    rw [List.all_reverse] at h1
    cases hd : l.reverse.dropWhile (cs.contains ·) with
    | nil => rw [dropWhile_nil, List.all_reverse] at hd; exact hd
    | cons a r =>
      exfalso
      rw [hd] at h1
      have ha : cs.contains a = true := by simp at h1 ⊢; exact h1.1
      have h3 : ∀ (m : Bs) (a : UInt8) (r : Bs), m.dropWhile (cs.contains ·) = a :: r → cs.contains a = false := by
        intro m
        induction m with
        | nil => intro a r h; simp at h
        | cons x m ih =>
          intro a r h
          rw [List.dropWhile_cons] at h
          split at h
          · exact ih a r h
          · rename_i hx
            simp only [List.cons.injEq] at h
            rw [← h.1]; simpa using hx
      rw [h3 _ _ _ hd] at ha
      cases ha
  · intro h
    have h2 : l.reverse.dropWhile (cs.contains ·) = [] := dropWhile_nil.2 (by rw [List.all_reverse]; exact h)
    rw [h2]
    rfl
theorem trim_any (s : ByteArray) (w : World) (hs : s.size ≤ 9223372036854775807) :
    Calls Tryz.prog 88 #[.string s, .string ⟨#[32, 0]⟩] w fun e w' => e = .returned (.string ⟨(Lib.trimS s.data.toList [32, 0]).toArray⟩) ∧ Below w.heap.size w w' :=
  Any.strings_Trim_laid Tryz.lays160 (by kernel_rfl) s ⟨#[32, 0]⟩ w hs (by decide) (ascii_of_all (by decide))
theorem cont2 : (fun x : UInt8 => List.contains [32, 0] x) = fun b => b == 32 || b == 0 := by
  funext b
  show (b == 32 || (b == 0 || false)) = _
  rw [Bool.or_false]
theorem ret_xb {x y : Int} {a b : Bool} (h : x = y) (g : a = b) : Ending.returned (.tuple #[.int .i64 x, .bool a]) = .returned (.tuple #[.int .i64 y, .bool b]) := by rw [h, g]
theorem trim_yes (s : ByteArray) (w : World) (hs : s.size ≤ 9223372036854775807) (h : s.data.toList.all (fun b => b == 32 || b == 0) = true) :
    Calls Tryz.prog 88 #[.string s, .string ⟨#[32, 0]⟩] w fun e w' => e = .returned (.string ⟨#[]⟩) ∧ Below w.heap.size w w' := by
  refine (trim_any s w hs).mono fun e w' ⟨he, hw⟩ => ⟨?_, hw⟩
  rw [he, (trimS_nil s.data.toList [32, 0]).2 (by rw [cont2]; exact h)]
theorem trim_no (s : ByteArray) (w : World) (hs : s.size ≤ 9223372036854775807) (h : s.data.toList.all (fun b => b == 32 || b == 0) = false) :
    ∃ t : ByteArray, t.toList.isEmpty = false ∧ Calls Tryz.prog 88 #[.string s, .string ⟨#[32, 0]⟩] w fun e w' => e = .returned (.string t) ∧ Below w.heap.size w w' := by
  refine ⟨_, ?_, trim_any s w hs⟩
  have : Lib.trimS s.data.toList [32, 0] ≠ [] := fun e => by
    rw [trimS_nil] at e
    rw [cont2, h] at e
    cases e
  rw [Lib.toList_data]
  simpa using this
theorem numR_le (l : Bs) : (numR l).length ≤ (numD l).length := by unfold numR; exact (List.takeWhile_sublist _).length_le
theorem numD_le (l : Bs) : (numD l).length ≤ l.length := by unfold numD; exact (List.dropWhile_sublist _).length_le
theorem num_zero (l : Bs) (d : ByteArray) (_hd : d.data.toList = numD l) (h : (numR l).length = 0) : numX l = 0 ∧ numOk l = false := by
  have h1 := List.eq_nil_of_length_eq_zero h
  constructor
  · rw [numX, h1]; rfl
  · rw [numOk, h1]; rfl
theorem num_some (l : Bs) (d : ByteArray) {k : Nat} (hd : d.data.toList = numD l) (h : (numR l).length = k) (hk : k ≠ 0) :
    numX l = octVal (d.data.toList.take k) ∧ numOk l = (d.extract k d.size).data.toList.all (fun b => b == 32 || b == 0) := by
  constructor
  · rw [numX, hd, ← h]; unfold numR; rw [← takeWhile_take]
  · rw [numOk, h, Lib.extract_data, hd]
    have : d.size = (numD l).length := by rw [← hd]; rfl
    rw [this, List.take_of_length_le (by simp)]
    simp [Nat.pos_of_ne_zero hk]
set_option maxHeartbeats 800000 in
set_option maxRecDepth 100000 in
theorem value_any (s : ByteArray) (w : World) (hs : s.size ≤ 12) :
    Calls Tryz.prog 85 #[.string s] w fun e w' => e = .returned (.tuple #[.int .i64 (numX s.data.toList), .bool (numOk s.data.toList)]) ∧ Below w.heap.size w w' := by
  go_enter Tryz.func85, Tryz.ntmps85
  go_wp2_with fail
  refine (Tryz.strings_TrimLeft_one s 32 (by decide) _).mono ?_
  rintro e w' ⟨rfl, rfl⟩
  have hdl := numD_le s.data.toList
  obtain ⟨d, hd⟩ : ∃ d : ByteArray, (⟨(Lib.trimLeftB s.data.toList 32).toArray⟩ : ByteArray) = d := ⟨_, rfl⟩
  rw [hd]
  have hdd : d.data.toList = numD s.data.toList := by rw [← hd]; rfl
  have hds : d.size ≤ 12 := by
    have : d.size = (numD s.data.toList).length := by rw [← hdd]; rfl
    have h2 : s.data.toList.length = s.size := rfl
    omega
  have hrl := numR_le s.data.toList
  obtain ⟨q, hq⟩ : ∃ q, (numR s.data.toList).length = q := ⟨_, rfl⟩
  have hqd : q ≤ d.size := by
    have : d.size = (numD s.data.toList).length := by rw [← hdd]; rfl
    omega
  have HD := Lib.hid hdd
  have HQ := Lib.hid hq
  clear hd hdd hq hdl hrl
  go_wp2_with fail
  go_loopw [4, 5] (fun xv nv wr => ∃ (k : Nat) (x : Int), k ≤ q ∧ 0 ≤ x ∧ Hid (x < 8 ^ k) ∧ Hid (x = octVal (d.data.toList.take k)) ∧ nv = .int .i64 k ∧ xv = .int .i64 x ∧ wr = w')
    (fun _ nv _ => d.size - (intOf nv).toNat)
  case atStart => exact ⟨0, 0, Nat.zero_le _, Int.le_refl _, show (0 : Int) < 8 ^ 0 by decide, rfl, rfl, rfl, rfl⟩
  case round =>
    obtain ⟨k, x, hk, hx0, hx8, hx, rfl, rfl, rfl⟩ := hrel
    have hxb : k ≤ 11 → x ≤ 8589934591 := by
      intro hk11
      have h1 := hx8.out
      have h2 : (8 : Int) ^ k ≤ 8 ^ 11 := by exact_mod_cast Nat.pow_le_pow_right (by decide) hk11
      have h3 : (8 : Int) ^ 11 = 8589934592 := by decide
      omega
    by_cases hlt : k < d.size
    · have hgk : d.data.toList[k]? = some d[k] := by
        rw [List.getElem?_eq_getElem (by simpa using hlt)]
        rfl
      obtain ⟨c, hc⟩ : ∃ c, d[k] = c := ⟨_, rfl⟩
      rw [hc] at hgk
      have hcl := c.toNat_lt
      by_cases hkq : k < q
      · have hoct : isOct c = true := takeWhile_at isOct (numD s.data.toList) k c (by have := HQ.out; unfold numR at this; omega) (by rw [← HD.out]; exact hgk)
        simp only [isOct, Bool.and_eq_true, decide_eq_true_eq] at hoct
        have hxb := hxb (by omega)
        have HG := Lib.hid hgk
        clear hgk
        go_wp2_with fail
        go_roundw
        case rel =>
          refine ⟨k + 1, 8 * x + ((c.toNat : Int) - 48), by omega, by omega, ?_, ?_, by go_num, rfl, trivial⟩
          · show 8 * x + ((c.toNat : Int) - 48) < 8 ^ (k + 1)
            have h1 := hx8.out
            rw [Int.pow_succ]
            omega
          · show 8 * x + ((c.toNat : Int) - 48) = octVal (d.data.toList.take (k + 1))
            rw [List.take_add_one, HG.out, Option.toList_some, octVal_snoc, ← hx.out]
        case measure => simp [intOf]; omega
      · have hkq' : k = q := by omega
        have h1 := HQ.out
        unfold numR at h1
        have hno : isOct c = false := takeWhile_end isOct (numD s.data.toList) c (by rw [h1, ← HD.out, ← hkq']; exact hgk)
        simp only [isOct, Bool.and_eq_false_iff, decide_eq_false_iff_not] at hno
        subst hkq'
        clear h1 hgk hkq hxb
        by_cases hq0 : k = 0
        · subst hq0
          have HX := Lib.hid (num_zero s.data.toList d HD.out HQ.out)
          obtain rfl : x = 0 := by rw [hx.out]; rfl
          clear hx hx8
          by_cases hlo : c.toNat < 48
          · go_wp2_with fail
            go_ret2
            exact ⟨ret_xb HX.out.1.symm HX.out.2.symm, Below.refl _ _⟩
          · have hhi : 55 < c.toNat := by omega
            go_wp2_with fail
            go_ret2
            exact ⟨ret_xb HX.out.1.symm HX.out.2.symm, Below.refl _ _⟩
        · have hX := num_some s.data.toList d HD.out HQ.out hq0
          have HX1 := Lib.hid hX.1
          have hX2 := hX.2
          clear hX
          cases hall : (d.extract k d.size).data.toList.all (fun b => b == 32 || b == 0) with
          | true =>
            rw [hall] at hX2
            have HX2 := Lib.hid hX2
            have HA := Lib.hid hall
            clear hX2 hall
            by_cases hlo : c.toNat < 48
            · go_wp2_with fail
              refine (trim_yes _ _ (by simp; omega) HA.out).mono ?_
              rintro e w1 ⟨rfl, hb1⟩
              have HB := Lib.hid hb1
              clear hb1
              go_wp2_with fail
              go_ret2
              exact ⟨ret_xb (hx.out.trans HX1.out.symm) HX2.out.symm, HB.out⟩
            · have hhi : 55 < c.toNat := by omega
              go_wp2_with fail
              refine (trim_yes _ _ (by simp; omega) HA.out).mono ?_
              rintro e w1 ⟨rfl, hb1⟩
              have HB := Lib.hid hb1
              clear hb1
              go_wp2_with fail
              go_ret2
              exact ⟨ret_xb (hx.out.trans HX1.out.symm) HX2.out.symm, HB.out⟩
          | false =>
            rw [hall] at hX2
            have HX2 := Lib.hid hX2
            have HA := Lib.hid hall
            clear hX2 hall
            by_cases hlo : c.toNat < 48
            · go_wp2_with fail
              obtain ⟨t, ht, hc⟩ := trim_no _ wr (by simp; omega) HA.out
              refine hc.mono ?_
              clear hc
              rintro e w1 ⟨rfl, hb1⟩
              have HB := Lib.hid hb1
              clear hb1
              go_wp2_with fail
              go_ret2
              exact ⟨ret_xb (hx.out.trans HX1.out.symm) HX2.out.symm, HB.out⟩
            · have hhi : 55 < c.toNat := by omega
              go_wp2_with fail
              obtain ⟨t, ht, hc⟩ := trim_no _ wr (by simp; omega) HA.out
              refine hc.mono ?_
              clear hc
              rintro e w1 ⟨rfl, hb1⟩
              have HB := Lib.hid hb1
              clear hb1
              go_wp2_with fail
              go_ret2
              exact ⟨ret_xb (hx.out.trans HX1.out.symm) HX2.out.symm, HB.out⟩
    · have hkq' : k = q := by omega
      have hkd : k = d.size := by omega
      subst hkq'
      clear hxb
      by_cases hq0 : k = 0
      · subst hq0
        have HX := Lib.hid (num_zero s.data.toList d HD.out HQ.out)
        obtain rfl : x = 0 := by rw [hx.out]; rfl
        clear hx hx8
        have hkd2 : d.size ≤ 0 := by omega
        clear hkd
        go_wp2_with fail
        go_ret2
        exact ⟨ret_xb HX.out.1.symm HX.out.2.symm, Below.refl _ _⟩
      · have hX := num_some s.data.toList d HD.out HQ.out hq0
        have HX1 := Lib.hid hX.1
        have hall : (d.extract k d.size).data.toList.all (fun b => b == 32 || b == 0) = true := by
          rw [Lib.extract_data, hkd]; simp
        have HX2 := Lib.hid (hX.2.trans hall)
        have HA := Lib.hid hall
        have hkd1 : k ≤ d.size := by omega
        have hkd2 : d.size ≤ k := by omega
        clear hX hall hkd
        go_wp2_with fail
        refine (trim_yes _ _ (by simp; omega) HA.out).mono ?_
        rintro e w1 ⟨rfl, hb1⟩
        have HB := Lib.hid hb1
        clear hb1
        go_wp2_with fail
        go_ret2
        exact ⟨ret_xb (hx.out.trans HX1.out.symm) HX2.out.symm, HB.out⟩
end Go.Proofs.YthpmocfdnoehoaaGreatDoor
/- Plain: the state inside Decode's loop over the fields of numbers. -/
namespace Go.Proofs.YthpmocfdnoehoaaGreatDoor
open Go.RowKit
def fld (l : Bs) (a b : Nat) : Bs := (l.drop a).take (b - a)
theorem extract_fld (s : ByteArray) (a b : Nat) : (s.extract a b).data.toList = fld s.data.toList a b := by rw [Lib.extract_data]; rfl
/-- The cells of a header without anything. -/
@[reducible] def zh : Array Value := #[.string ⟨#[]⟩, .int .i64 0, .int .i64 0, .int .i64 0, .int .i64 0, .int .i64 0, .int .u8 0, .string ⟨#[]⟩, .string ⟨#[]⟩, .string ⟨#[]⟩, .int .i64 0, .int .i64 0]
/-- A header whose first k numbers are read. -/
def hdrK (l : Bs) (k : Nat) : Hdr where
  path := ⟨(textOf (l.take 100)).toArray⟩
  mode := if 0 < k then numX (fld l 100 108) else 0
  uid := if 1 < k then numX (fld l 108 116) else 0
  gid := if 2 < k then numX (fld l 116 124) else 0
  size := if 3 < k then numX (fld l 124 136) else 0
  time := if 4 < k then numX (fld l 136 148) else 0
  typ := l.getD 156 0
  link := ⟨(textOf (fld l 157 257)).toArray⟩
  user := ⟨(textOf (fld l 265 297)).toArray⟩
  group := ⟨(textOf (fld l 297 329)).toArray⟩
  major := if 6 < k then numX (fld l 329 337) else 0
  minor := if 7 < k then numX (fld l 337 345) else 0
@[reducible] def arrP (r : Nat) : Array Value := #[.int .i64 100, .int .i64 108, .pointer (some ⟨r + 2, 1, none⟩), .int .i64 108, .int .i64 116, .pointer (some ⟨r + 2, 2, none⟩), .int .i64 116, .int .i64 124, .pointer (some ⟨r + 2, 3, none⟩),
  .int .i64 124, .int .i64 136, .pointer (some ⟨r + 2, 4, none⟩), .int .i64 136, .int .i64 148, .pointer (some ⟨r + 2, 5, none⟩), .int .i64 148, .int .i64 156, .pointer (some ⟨r + 3, 0, none⟩),
  .int .i64 329, .int .i64 337, .pointer (some ⟨r + 2, 10, none⟩), .int .i64 337, .int .i64 345, .pointer (some ⟨r + 2, 11, none⟩)]
/-- Where field k lies. -/
def fromK : Nat → Nat | 0 => 100 | 1 => 108 | 2 => 116 | 3 => 124 | 4 => 136 | 5 => 148 | 6 => 329 | _ => 337
def toK : Nat → Nat | 0 => 108 | 1 => 116 | 2 => 124 | 3 => 136 | 4 => 148 | 5 => 156 | 6 => 337 | _ => 345
structure DecS (w0 : World) (l : Bs) (k : Nat) (w : World) : Prop where
  size : w0.heap.size + 5 ≤ w.heap.size
  hr : w.heap[w0.heap.size]? = some (.cells zh 24 (0, 0))
  hc : w.heap[w0.heap.size + 1]? = some (blk 90 l)
  hh : w.heap[w0.heap.size + 2]? = some (.cells (hdrK l k).cells 24 (0, 0))
  hs : w.heap[w0.heap.size + 3]? = some (.cells #[.int .i64 (if 5 < k then numX (fld l 148 156) else 0)] 2 (0, 0))
  ha : w.heap[w0.heap.size + 4]? = some (.cells (arrP w0.heap.size) 162 (0, 0))
  bel : Below w0.heap.size w0 w
theorem DecS.keep {w0 : World} {l : Bs} {k : Nat} {w w' : World} (h : DecS w0 l k w) (hb : Below w.heap.size w w') : DecS w0 l k w' := by
  have hz := h.size
  exact ⟨Nat.le_trans hz hb.size, (hb.block _ (by omega)).trans h.hr, (hb.block _ (by omega)).trans h.hc, (hb.block _ (by omega)).trans h.hh, (hb.block _ (by omega)).trans h.hs, (hb.block _ (by omega)).trans h.ha, h.bel.trans (hb.mono (by omega))⟩
theorem DecS.drewN {w0 : World} {l : Bs} {k : Nat} {w : World} (h : DecS w0 l k w) (n : Nat) : DecS w0 l k (w.drewN n) :=
  ⟨h.size, h.hr, h.hc, h.hh, h.hs, h.ha, below_drewN h.bel n⟩
theorem setCell_blk {w : World} {b i : Nat} {c : Array Value} {t : TypeId} {v : Value} (h : w.heap[b]? = some (.cells c t (0, 0))) : w.setCell ⟨b, i, none⟩ v = setBlk w b (.cells (c.setIfInBounds i v) t (0, 0)) := by
  refine heap_ext (fun k => ?_) rfl rfl rfl rfl
  rw [setBlk_at]
  simp only [World.setCell, Array.getElem?_modify]
  by_cases e : b = k
  · subst e
    rw [if_pos rfl, if_pos rfl, if_pos (blk_lt h), h]
    simp
  · rw [if_neg e, if_neg e]
theorem frozen_blk {w : World} {b i : Nat} {c : Array Value} {t : TypeId} (h : w.heap[b]? = some (.cells c t (0, 0))) : w.frozen? ⟨b, i, none⟩ = false := by
  simp [World.frozen?, h]
theorem DecS.setH {w0 : World} {l : Bs} {k i : Nat} {w : World} {x : Int} (h : DecS w0 l k w) (he : (hdrK l k).cells.setIfInBounds i (.int .i64 x) = (hdrK l (k + 1)).cells) (hk : (5 < k) = (5 < k + 1)) :
    DecS w0 l (k + 1) (w.setCell ⟨w0.heap.size + 2, i, none⟩ (.int .i64 x)) := by
  rw [setCell_blk h.hh, he]
  have hz := h.size
  refine ⟨by rw [setBlk_size]; exact hz, (setBlk_other (by omega)).trans h.hr, (setBlk_other (by omega)).trans h.hc, setBlk_heap (by omega), ?_, (setBlk_other (by omega)).trans h.ha, ?_⟩
  · rw [setBlk_other (by omega), h.hs]; simp only [hk]
  · exact ⟨h.bel.os, h.bel.tape, h.bel.output, by rw [setBlk_size]; exact h.bel.size, fun j hj => (setBlk_other (by omega)).trans (h.bel.block j hj)⟩
theorem DecS.setS {w0 : World} {l : Bs} {w : World} (h : DecS w0 l 5 w) :
    DecS w0 l 6 (w.setCell ⟨w0.heap.size + 3, 0, none⟩ (.int .i64 (numX (fld l 148 156)))) := by
  rw [setCell_blk h.hs]
  have hz := h.size
  refine ⟨by rw [setBlk_size]; exact hz, (setBlk_other (by omega)).trans h.hr, (setBlk_other (by omega)).trans h.hc, ?_, ?_, (setBlk_other (by omega)).trans h.ha, ?_⟩
  · rw [setBlk_other (by omega), h.hh]; rfl
  · rw [setBlk_heap (by omega)]; rfl
  · exact ⟨h.bel.os, h.bel.tape, h.bel.output, by rw [setBlk_size]; exact h.bel.size, fun j hj => (setBlk_other (by omega)).trans (h.bel.block j hj)⟩
/-- What the round of field k reads and writes. -/
theorem DecS.round {w0 : World} {l : Bs} {k : Nat} {w : World} (h : DecS w0 l k w) (hk : k < 8) : ∃ (tb te : Nat) (old : Int),
    w.cell? ⟨w0.heap.size + 4, k * 3, none⟩ = some (.int .i64 (fromK k : Nat)) ∧ w.cell? ⟨w0.heap.size + 4, k * 3 + 1, none⟩ = some (.int .i64 (toK k : Nat)) ∧ w.cell? ⟨w0.heap.size + 4, k * 3 + 2, none⟩ = some (.pointer (some ⟨tb, te, none⟩)) ∧
    tb < w.heap.size ∧ w.cell? ⟨tb, te, none⟩ = some (.int .i64 old) ∧ w.frozen? ⟨tb, te, none⟩ = false ∧
    ∀ w', DecS w0 l k w' → DecS w0 l (k + 1) (w'.setCell ⟨tb, te, none⟩ (.int .i64 (numX (fld l (fromK k) (toK k))))) := by
  have hz := h.size
  have ca := fun i => cell_of_heapN (i := i) h.ha
  have ch := fun i => cell_of_heapN (i := i) h.hh
  have cs := fun i => cell_of_heapN (i := i) h.hs
  match k, hk with
  | 0, _ => exact ⟨_, 1, _, ca 0, ca 1, ca 2, by omega, ch 1, frozen_blk h.hh, fun w' h' => h'.setH rfl (by decide)⟩
  | 1, _ => exact ⟨_, 2, _, ca 3, ca 4, ca 5, by omega, ch 2, frozen_blk h.hh, fun w' h' => h'.setH rfl (by decide)⟩
  | 2, _ => exact ⟨_, 3, _, ca 6, ca 7, ca 8, by omega, ch 3, frozen_blk h.hh, fun w' h' => h'.setH rfl (by decide)⟩
  | 3, _ => exact ⟨_, 4, _, ca 9, ca 10, ca 11, by omega, ch 4, frozen_blk h.hh, fun w' h' => h'.setH rfl (by decide)⟩
  | 4, _ => exact ⟨_, 5, _, ca 12, ca 13, ca 14, by omega, ch 5, frozen_blk h.hh, fun w' h' => h'.setH rfl (by decide)⟩
  | 5, _ => exact ⟨_, 0, _, ca 15, ca 16, ca 17, by omega, cs 0, frozen_blk h.hs, fun w' h' => h'.setS⟩
  | 6, _ => exact ⟨_, 10, _, ca 18, ca 19, ca 20, by omega, ch 10, frozen_blk h.hh, fun w' h' => h'.setH rfl (by decide)⟩
  | 7, _ => exact ⟨_, 11, _, ca 21, ca 22, ca 23, by omega, ch 11, frozen_blk h.hh, fun w' h' => h'.setH rfl (by decide)⟩
theorem fromK_to (k : Nat) : fromK k ≤ toK k ∧ toK k ≤ 345 ∧ toK k - fromK k ≤ 12 := by
  unfold fromK toK
  split <;> simp
end Go.Proofs.YthpmocfdnoehoaaGreatDoor
/- A law on regions that draw their order: all operations but the last ones are still, save one new block that may be made at any time. -/
namespace Go.Proofs.YthpmocfdnoehoaaGreatDoor
open Go
section
variable {P : Program} {ops : Array Oper} {md : Region.Mode} {W0 W1 : World} {A : Nat} {ptr : Value}
/-- Operation i gives v, in both worlds alike; the one that makes the block gives its pointer. -/
def Yb (P : Program) (ops : Array Oper) (W0 W1 : World) (A : Nat) (ptr : Value) (i : Nat) (o : Oper) (v : Value) (a : Act) : Prop :=
  if i = A then v = ptr else YieldsAt P ops W0 o v a ∧ YieldsAt P ops W1 o v a
theorem Yb.keep {i : Nat} {oi oj : Oper} {v u : Value} {a : Act} (hap : oi.apart ops oj = true) (hsi : ∀ cs b, oi.op ≠ .select cs b)
    (h : Yb P ops W0 W1 A ptr i oi v a) : Yb P ops W0 W1 A ptr i oi v (a.put oj.dst u) := by
  obtain ⟨_, _, h3⟩ := Oper.apart_spec hap
  unfold Yb at *
  split
  · rename_i e; rw [if_pos e] at h; exact h
  · rename_i e
    rw [if_neg e] at h
    exact ⟨h.1.of_same (execOp_put oi hsi a oj.dst u h3) (wanted_put oi a oj.dst u h3), h.2.of_same (execOp_put oi hsi a oj.dst u h3) (wanted_put oi a oj.dst u h3)⟩
theorem Yb.back {j : Nat} {oi oj : Oper} {v u : Value} {a : Act} (hap : oi.apart ops oj = true) (hsj : ∀ cs b, oj.op ≠ .select cs b)
    (h : Yb P ops W0 W1 A ptr j oj u (a.put oi.dst v)) : Yb P ops W0 W1 A ptr j oj u a := by
  obtain ⟨h1, _, _⟩ := Oper.apart_spec hap
  unfold Yb at *
  split
  · rename_i e; rw [if_pos e] at h; exact h
  · rename_i e
    rw [if_neg e] at h
    exact ⟨h.1.of_same (execOp_put oj hsj a oi.dst v h1).symm (wanted_put oj a oi.dst v h1).symm, h.2.of_same (execOp_put oj hsj a oi.dst v h1).symm (wanted_put oj a oi.dst v h1).symm⟩
def wpAnyY (P : Program) (md : Region.Mode) (ops : Array Oper) (W0 W1 : World) (A : Nat) (ptr : Value) (n : Nat) (L : Array Bool → Act → Prop) : Nat → Array Bool → Act → Prop
  | 0, listed, a => L listed a
  | f + 1, listed, a => Region.ready md ops listed ≠ [] ∧ ∀ i ∈ Region.ready md ops listed, i < n ∧ ∃ o v, ops[i]? = some o ∧ Yb P ops W0 W1 A ptr i o v a ∧
      wpAnyY P md ops W0 W1 A ptr n L f (listed.setIfInBounds i true) (a.put o.dst v)
theorem wpAnyY_first {n i : Nat} {oi : Oper} {v : Value} {L : Array Bool → Act → Prop} (hi : ops[i]? = some oi) (hsel : ∀ (j : Nat) (o : Oper) cs b, ops[j]? = some o → o.op ≠ .select cs b)
    (hs : Region.sinkB md ops n = true) (hc : Region.chainB md ops n = true) (hn : n < ops.size) (hin : i < n)
    (hdone : ∀ listed a, L listed a → ∀ j ∈ Region.ready md ops listed, n ≤ j) :
    ∀ (f : Nat) (listed : Array Bool) (a : Act), HeadInv md ops n listed →
      (∀ j oj, ops[j]? = some oj → j ≠ i → listed.getD j true = false → (∀ e ∈ oj.after, Region.binds md e = true → e.on ≠ i) → oi.apart ops oj = true) →
      i ∈ Region.ready md ops listed → Yb P ops W0 W1 A ptr i oi v a →
      wpAnyY P md ops W0 W1 A ptr n L f (listed.setIfInBounds i true) (a.put oi.dst v) → wpAnyY P md ops W0 W1 A ptr n L (f + 1) listed a := by
  intro f
  induction f with
  | zero =>
    intro listed a inv _ hr hy H
    have hun := (mem_ready.1 hr).1
    refine ⟨fun h => (by rw [h] at hr; cases hr), fun j hj => ?_⟩
    have hjn : j < n := by
      rcases Nat.lt_or_ge j n with h | h
      · exact h
      · exact absurd hj (tail_waits hs hc hn inv _ i rfl hin hun j h)
    refine ⟨hjn, ?_⟩
    by_cases hji : j = i
    · subst hji; exact ⟨oi, v, hi, hy, H⟩
    · have := hdone _ _ H j (ready_mono hj hji)
      omega
  | succ f ih =>
    intro listed a inv hfree hr hy H
    have hun := (mem_ready.1 hr).1
    refine ⟨fun h => (by rw [h] at hr; cases hr), fun j hj => ?_⟩
    have hjn : j < n := by
      rcases Nat.lt_or_ge j n with h | h
      · exact h
      · exact absurd hj (tail_waits hs hc hn inv _ i rfl hin hun j h)
    refine ⟨hjn, ?_⟩
    by_cases hji : j = i
    · subst hji; exact ⟨oi, v, hi, hy, H⟩
    · obtain ⟨oj', u, hoj', hyj, hK⟩ := (H.2 j (ready_mono hj hji)).2
      obtain ⟨hjun, oj, hoj, hall⟩ := mem_ready.1 hj
      obtain rfl : oj' = oj := Option.some.inj (hoj'.symm.trans hoj)
      have hnot : ∀ e ∈ oj'.after, Region.binds md e = true → e.on ≠ i := fun e he hb heq => by
        have h1 := hall e he hb
        rw [heq, getD_both hun] at h1
        cases h1
      have hap := hfree j oj' hoj hji hjun hnot
      obtain ⟨_, h2, _⟩ := Oper.apart_spec hap
      have hfree' : ∀ k ok, ops[k]? = some ok → k ≠ i → (listed.setIfInBounds j true).getD k true = false →
          (∀ e ∈ ok.after, Region.binds md e = true → e.on ≠ i) → oi.apart ops ok = true := fun k ok hk hki hun hno => by
        refine hfree k ok hk hki ?_ hno
        by_cases hjk : j = k
        · subst hjk; exact hjun
        · rw [getD_set_ne true hjk] at hun; exact hun
      refine ⟨oj', u, hoj, hyj.back hap (fun cs b => hsel j oj' cs b hoj), ih (listed.setIfInBounds j true) _ (inv.set hj hjn) hfree' (ready_mono hr (Ne.symm hji)) (hy.keep hap (fun cs b => hsel i oi cs b hi)) ?_⟩
      rw [Array.setIfInBounds_comm _ _ hji, ← Act.put_comm a v u h2]
      exact hK
/-- The operations in the text's order, from number k on. -/
def wpLex (P : Program) (ops : Array Oper) (W0 W1 : World) (A : Nat) (ptr : Value) (Q : Act → Prop) : Nat → List Oper → Act → Prop
  | _, [], a => Q a
  | k, o :: l, a => ∃ v, Yb P ops W0 W1 A ptr k o v a ∧ wpLex P ops W0 W1 A ptr Q (k + 1) l (a.put o.dst v)
theorem wpAnyY_lex {n g : Nat} {Lq : Act → Prop} (hsel : Region.noSelect ops = true) (hs : Region.sinkB md ops n = true) (hc : Region.chainB md ops n = true) (hn : n < ops.size) :
    ∀ (l : List Oper) (k : Nat) (listed : Array Bool) (a : Act), (∀ j, j < l.length → l[j]? = ops[k + j]?) → k + l.length = n → HeadInv md ops n listed →
    Region.lexHead md ops g l.length k listed = true → wpLex P ops W0 W1 A ptr Lq k l a →
    wpAnyY P md ops W0 W1 A ptr n (fun listed' a' => Region.seqB md ops g n listed' = true ∧ Lq a') l.length listed a
  | [], k, listed, a, _, hk, _, hB, h => by
    have : k = n := by simpa using hk
    subst this
    exact ⟨by simpa [Region.lexHead] using hB, h⟩
  | o :: l, k, listed, a, hl, hk, inv, hB, h => by
    have h0 : ops[k]? = some o := by simpa using (hl 0 (by simp)).symm
    simp only [List.length_cons, Region.lexHead, Bool.and_eq_true] at hB
    obtain ⟨⟨hr, hf⟩, hB'⟩ := hB
    have hkn : k < n := by simp only [List.length_cons] at hk; omega
    have hr' : k ∈ Region.ready md ops listed := by simpa using hr
    obtain ⟨v, hy, hK⟩ := h
    exact wpAnyY_first h0 (Region.noSelect_spec hsel) hs hc hn hkn (fun listed' a' hL => seqB_ready hL.1) l.length listed a inv (Region.free_spec h0 hf) hr' hy
      (wpAnyY_lex hsel hs hc hn l (k + 1) _ _ (fun j hj => by have := hl (j + 1) (by simp; omega); simpa [Nat.add_assoc, Nat.add_comm 1 j] using this) (by simp only [List.length_cons] at hk; omega) (inv.set hr' hkn) hB' hK)
/-- The world in which an operation runs: the second, once the block is made. -/
def wAt (W0 W1 : World) (A : Nat) (listed : Array Bool) : World := if listed.getD A false = true then W1 else W0
theorem wpAny_of_Y {n g : Nat} {oA : Oper} {L : Array Bool → Act → Prop} {Q' : Exit → Act → World → Prop} (hA : ops[A]? = some oA) (hg : oA.guard = none)
    (hrun : ∀ a : Act, (execOp a.eval oA).run P W0 = .ok (.value ptr) W1)
    (hL : ∀ listed a, L listed a → wpAny P md ops Q' g listed a (wAt W0 W1 A listed)) :
    ∀ (f : Nat) (listed : Array Bool) (a : Act), wpAnyY P md ops W0 W1 A ptr n L f listed a → listed.size = ops.size → wpAny P md ops Q' (f + g) listed a (wAt W0 W1 A listed)
  | 0, listed, a, h, _ => by rw [Nat.zero_add]; exact hL _ _ h
  | f + 1, listed, a, h, hsz => by
    rw [show f + 1 + g = (f + g) + 1 by omega]
    refine ⟨fun h0 => absurd h0 h.1, fun i hi => ?_⟩
    obtain ⟨_, o, v, ho, hy, hK⟩ := h.2 i hi
    have hrec := wpAny_of_Y hA hg hrun hL f _ _ hK (by simpa using hsz)
    obtain ⟨hun, _⟩ := mem_ready.1 hi
    have hil : i < listed.size := by rw [hsz]; exact (Array.getElem?_eq_some_iff.1 ho).1
    by_cases hiA : i = A
    · subst hiA
      obtain rfl : o = oA := Option.some.inj (ho.symm.trans hA)
      have hv : v = ptr := by unfold Yb at hy; rw [if_pos rfl] at hy; exact hy
      subst hv
      have hw0 : wAt W0 W1 i listed = W0 := by unfold wAt; rw [getD_both hun]; rfl
      have hw1 : wAt W0 W1 i (listed.setIfInBounds i true) = W1 := by unfold wAt; simp [hil]
      rw [hw1] at hrec
      rw [hw0]
      unfold wpOp
      simp only [ho]
      rw [if_pos (by simp [Region.wanted, hg])]
      left
      unfold Oper.wp
      rw [hrun]
      exact hrec
    · unfold Yb at hy
      rw [if_neg hiA] at hy
      have hw : wAt W0 W1 A (listed.setIfInBounds i true) = wAt W0 W1 A listed := by unfold wAt; rw [getD_set_ne false hiA]
      rw [hw] at hrec
      have hy' : YieldsAt P ops (wAt W0 W1 A listed) o v a := by
        unfold wAt; split
        · exact hy.2
        · exact hy.1
      exact wpOp_of_stOp (K := fun a' => wpAny P md ops Q' (f + g) (listed.setIfInBounds i true) a' (wAt W0 W1 A listed)) (fun _ h => h) (hy'.stOp ho hrec)
theorem yb_pure {i : Nat} {o : Oper} {v : Value} {a : Act} (hk : i ≠ A) (hg : o.guard = none) (h : ∀ W, (execOp a.eval o).run P W = .ok (.value v) W) : Yb P ops W0 W1 A ptr i o v a := by
  unfold Yb
  rw [if_neg hk]
  exact ⟨.inl ⟨by simp [Region.wanted, hg], .inl (h _)⟩, .inl ⟨by simp [Region.wanted, hg], .inl (h _)⟩⟩
theorem yb_call {i : Nat} {o : Oper} {v : Value} {a : Act} {f : FuncId} {args : Array Value} (hk : i ≠ A) (hg : o.guard = none) (h : ∀ W, (execOp a.eval o).run P W = .ok (.enter f args) W)
    (hc : ∀ W, Calls P f args W (fun e w'' => e = .returned v ∧ w'' = W)) : Yb P ops W0 W1 A ptr i o v a := by
  unfold Yb
  rw [if_neg hk]
  exact ⟨.inl ⟨by simp [Region.wanted, hg], .inr (.inr ⟨f, args, h _, hc _⟩)⟩, .inl ⟨by simp [Region.wanted, hg], .inr (.inr ⟨f, args, h _, hc _⟩)⟩⟩
theorem yb_alloc {o : Oper} {a : Act} : Yb P ops W0 W1 A ptr A o ptr a := by
  unfold Yb
  rw [if_pos rfl]
/-- The law: n operations ahead of a forced tail; number A of them makes a block. -/
theorem wp_region_free_alloc {id : Nat} {Q : Exit → Act → World → Prop} {a : Act} {w : World} {l : List Oper} (n A : Nat) (oA : Oper) (ptr : Value) (W1 : World) (hm : P.follows .mixedOrders = true) (hB : Region.lexTailB .any l.toArray n = true)
    (hA : l[A]? = some oA) (hg : oA.guard = none) (hrun : ∀ a : Act, (execOp a.eval oA).run P { w with drawn := w.drawn + 1 } = .ok (.value ptr) W1)
    (hwf : Region.waitsFor .any l.toArray n A = true)
    (h : wpLex P l.toArray { w with drawn := w.drawn + 1 } W1 A ptr (fun a' => wpList P l.toArray Q (l.drop n) a' W1) 0 (l.take n) a) : (Code.region id l.toArray true).wp P Q a w := by
  simp only [Region.lexTailB, Bool.and_eq_true, decide_eq_true_eq] at hB
  obtain ⟨⟨⟨⟨hsel, hn⟩, hs⟩, hc⟩, hlex⟩ := hB
  have hn' : n < l.length := by simpa using hn
  have htl : (l.take n).length = n := by simp; omega
  have hdl : (l.drop n).length = l.toArray.size - n := by simp
  have hlist : ∀ listed : Array Bool, Region.seqB .any l.toArray (l.toArray.size - n) n listed = true → listed.getD A false = true := by
    intro listed hq
    obtain ⟨g, hg2⟩ : ∃ g, l.toArray.size - n = g + 1 := ⟨l.toArray.size - n - 1, by omega⟩
    rw [hg2] at hq
    simp only [Region.seqB, Bool.and_eq_true, decide_eq_true_eq] at hq
    have hr : n ∈ Region.ready .any l.toArray listed := by rw [hq.1]; simp
    obtain ⟨_, o, ho, hall⟩ := mem_ready.1 hr
    obtain ⟨o', ho', e, he, hb, hon⟩ := Region.waitsFor_spec hwf
    obtain rfl : o' = o := Option.some.inj (ho'.symm.trans ho)
    have := hall e he hb
    rwa [hon] at this
  have inv0 : HeadInv .any l.toArray n (Array.replicate l.toArray.size false) :=
    ⟨by simp, fun j oj _ hl => (by rw [getD_replicate_false] at hl; cases hl), fun t _ ht => getD_in (by simpa using ht) (getD_replicate_false _ _)⟩
  have H := wpAnyY_lex (md := .any) (g := l.toArray.size - n) hsel hs hc hn (l.take n) 0 _ a (fun j hj => by
    have hj' : j < n := by rw [htl] at hj; exact hj
    simp [hj']) (by simpa using htl) inv0 (by rw [htl]; exact hlex) h
  refine wp_region_any hm ?_
  have := wpAny_of_Y (Q' := Q) (g := l.toArray.size - n) (ops := l.toArray) (by simpa using hA) hg hrun (fun listed a' hL => by
    have h1 := wpAny_of_seq (md := .any) (Q' := Q) (l.drop n) n listed a' W1 (fun j => by simp [List.getElem?_drop]) (by rw [hdl]; exact hL.1) hL.2
    rw [hdl] at h1
    have hw : wAt { w with drawn := w.drawn + 1 } W1 A listed = W1 := by unfold wAt; rw [if_pos (hlist listed hL.1)]
    rw [hw]
    exact h1) _ _ _ H (by simp)
  rw [htl, show n + (l.toArray.size - n) = l.toArray.size by omega] at this
  have hw0 : wAt { w with drawn := w.drawn + 1 } W1 A (Array.replicate l.toArray.size false) = { w with drawn := w.drawn + 1 } := by
    unfold wAt; rw [getD_replicate_false]; rfl
  rw [hw0] at this
  exact this
end
end Go.Proofs.YthpmocfdnoehoaaGreatDoor
/- Contract of ustar.Decode. -/
namespace Go.Proofs.YthpmocfdnoehoaaGreatDoor
open Go.RowKit
def magicB (l : Bs) : Bool := fld l 257 265 == [117, 115, 116, 97, 114, 0, 48, 48]
theorem copy512 (w : World) (c : Nat) (s : ByteArray) (hs : s.size = 512) (hb : w.heap[c]? = some (blk 90 z512)) (ty : TypeId) :
    (Builtin.copy_ #[48, 9] ty #[.slice (some ⟨c, 0, none⟩) 512 512, .string s]).run Tryz.prog w = .ok (.int .i64 512) (setBlk w c (blk 90 s.data.toList)) := by
  have h := run_copy_str (P := Tryz.prog) w 48 9 ty 5 c 0 512 512 s 90 z512 Tryz.underlying48 (by kernel_rfl) hb (by omega) (by rw [z512_len]; omega)
  have h2 : over z512 0 s.data.toList = s.data.toList := by
    have h3 : s.data.toList.length = 512 := hs
    rw [over, h3, List.drop_of_length_le (by rw [z512_len]; omega)]
    simp
  rw [h2, hs] at h
  exact h
theorem text_q (s : ByteArray) (w : World) (hs : s.size ≤ 140737488355328) :
    Calls Tryz.prog 84 #[.string s] w fun e w' => e = .returned (.string ⟨(textOf s.data.toList).toArray⟩) ∧ w' = w :=
  (text_any s w hs).mono fun _ _ ⟨he, hw⟩ => ⟨he, hw.symm⟩
theorem dec_copy (w : World) (s : ByteArray) (hs : s.size = 512) (ty : TypeId) : ∃ w2 : World,
    (Builtin.copy_ #[48, 9] ty #[.slice (some ⟨w.heap.size + 1, 0, none⟩) 512 512, .string s]).run Tryz.prog ((w.alloc (.cells zh 24)).alloc (.cells Tryz.zeroCells90 90)) = .ok (.int .i64 512) w2 ∧
    w2.heap.size = w.heap.size + 2 ∧ w2.heap[w.heap.size]? = some (.cells zh 24 (0, 0)) ∧ w2.heap[w.heap.size + 1]? = some (blk 90 s.data.toList) ∧ Below w.heap.size w w2 := by
  have hb : ((w.alloc (.cells zh 24)).alloc (.cells Tryz.zeroCells90 90)).heap[w.heap.size + 1]? = some (blk 90 z512) := by
    have := heap_new (w.alloc (.cells zh 24)) (.cells Tryz.zeroCells90 90)
    rw [World.size_alloc] at this
    rw [this, zero512]; rfl
  refine ⟨_, copy512 _ _ s hs hb ty, ?_, ?_, setBlk_heap (by simp), ?_⟩
  · rw [setBlk_size]; simp
  · rw [setBlk_other (by omega), Below.heap_alloc _ _ _ (by simp)]; exact heap_new _ _
  · have hB := ((Below.refl w.heap.size w).alloc (Nat.le_refl _) (.cells zh 24)).alloc (by simp) (.cells Tryz.zeroCells90 90)
    exact ⟨hB.os, hB.tape, hB.output, by rw [setBlk_size]; exact hB.size, fun k hk => (setBlk_other (by omega)).trans (hB.block k hk)⟩
/-- All numbers of a header can be read. -/
def okAll (l : Bs) : Bool := (List.range 8).all fun j => numOk (fld l (fromK j) (toK j))
theorem okAll_not {l : Bs} {k x y : Nat} (hx : fromK k = x) (hy : toK k = y) (h : numOk (fld l x y) = false) (hk : k < 8) : okAll l = false := by
  unfold okAll
  rw [List.all_eq_false]
  exact ⟨k, by simpa using hk, by rw [hx, hy, h]; simp⟩
theorem okAll_yes {l : Bs} (h : ∀ j, j < 8 → numOk (fld l (fromK j) (toK j)) = true) : okAll l = true := by
  unfold okAll
  rw [List.all_eq_true]
  exact fun j hj => h j (by simpa using hj)
theorem textOf_le (l : Bs) : (textOf l).length ≤ l.length := (List.takeWhile_sublist _).length_le
/-- A header's fields, the path put together. -/
def decHdr (l : Bs) : Hdr := { hdrK l 8 with path := if textOf (fld l 345 500) = [] then ⟨(textOf (l.take 100)).toArray⟩ else ⟨(textOf (fld l 345 500) ++ [47] ++ textOf (l.take 100)).toArray⟩ }
theorem decHdr_empty {l : Bs} (h : textOf (fld l 345 500) = []) : decHdr l = hdrK l 8 := by
  unfold decHdr; rw [if_pos h]; rfl
theorem decHdr_some {l : Bs} (h : textOf (fld l 345 500) ≠ []) : decHdr l = { hdrK l 8 with path := ⟨(textOf (fld l 345 500) ++ [47] ++ textOf (l.take 100)).toArray⟩ } := by
  unfold decHdr; rw [if_neg h]
/-- What Decode comes to. -/
def decErr (l : Bs) : Int := if okAll l = false then 6 else if numX (fld l 148 156) ≠ sumTo l 512 then 7 else 0
def DecPost (l : Bs) (w : World) (e : Ending) (w' : World) : Prop :=
  e = .returned (.tuple #[.agg (if decErr l = 0 then (decHdr l).cells else zh), if decErr l = 0 then .nilIface else errV (decErr l)]) ∧ Below w.heap.size w w'
theorem DecPost.text {l : Bs} {w w' : World} {e : Ending} (h : okAll l = false) (he : e = .returned (.tuple #[.agg zh, errV 6])) (hb : Below w.heap.size w w') : DecPost l w e w' := by
  have : decErr l = 6 := by rw [decErr, if_pos h]
  exact ⟨by rw [this, if_neg (by decide), if_neg (by decide)]; exact he, hb⟩
theorem DecPost.sum {l : Bs} {w w' : World} {e : Ending} (h : okAll l = true) (h2 : numX (fld l 148 156) ≠ sumTo l 512) (he : e = .returned (.tuple #[.agg zh, errV 7])) (hb : Below w.heap.size w w') : DecPost l w e w' := by
  have : decErr l = 7 := by rw [decErr, if_neg (by simp [h]), if_pos h2]
  exact ⟨by rw [this, if_neg (by decide), if_neg (by decide)]; exact he, hb⟩
theorem DecPost.ok {l : Bs} {w w' : World} {e : Ending} (h : okAll l = true) (h2 : numX (fld l 148 156) = sumTo l 512) (he : e = .returned (.tuple #[.agg (decHdr l).cells, .nilIface])) (hb : Below w.heap.size w w') : DecPost l w e w' := by
  have : decErr l = 0 := by rw [decErr, if_neg (by simp [h]), if_neg (by simp [h2])]
  exact ⟨by rw [this, if_pos rfl, if_pos rfl]; exact he, hb⟩
theorem setBlk_setCell {w : World} {b i : Nat} {c : Array Value} {t : TypeId} {v : Value} (hb : b < w.heap.size) : (setBlk w b (.cells c t (0, 0))).setCell ⟨b, i, none⟩ v = setBlk w b (.cells (c.setIfInBounds i v) t (0, 0)) := by
  rw [setCell_blk (setBlk_heap hb), setBlk_setBlk]
theorem set12 {w : World} {b : Nat} {t : TypeId} (h : w.heap[b]? = some (.cells zh t (0, 0))) (v0 v1 v2 v3 v4 v5 v6 v7 v8 v9 v10 v11 : Value) :
    ((((((((((((w.setCell ⟨b, 0, none⟩ v0).setCell ⟨b, 1, none⟩ v1).setCell ⟨b, 2, none⟩ v2).setCell ⟨b, 3, none⟩ v3).setCell ⟨b, 4, none⟩ v4).setCell ⟨b, 5, none⟩ v5).setCell ⟨b, 6, none⟩ v6).setCell ⟨b, 7, none⟩ v7).setCell ⟨b, 8, none⟩ v8).setCell ⟨b, 9, none⟩ v9).setCell ⟨b, 10, none⟩ v10).setCell ⟨b, 11, none⟩ v11) = setBlk w b (.cells #[v0, v1, v2, v3, v4, v5, v6, v7, v8, v9, v10, v11] t (0, 0)) := by
  have hb := blk_lt h
  simp only [setCell_blk h, setBlk_setCell hb]
  simp only [zh, List.setIfInBounds_toArray, List.set_cons_zero, List.set_cons_succ]
theorem sum_q (b : Nat) (l : Bs) (w : World) (hb : w.heap[b]? = some (blk 90 l)) (hl : l.length = 512) :
    Calls Tryz.prog 49 #[.pointer (some ⟨b, 0, none⟩)] w fun e w' => e = .returned (.int .i64 (sumTo l 512)) ∧ ∃ n, w' = w.drewN n :=
  (sum_any b l w hb hl).mono fun _ _ ⟨he, n, hn⟩ => ⟨he, n, hn.symm⟩
theorem typ_eq (s : ByteArray) (h : 156 < s.size) : s.data.toList.getD 156 0 = s[156] := by
  rw [List.getD_eq_getElem?_getD, List.getElem?_eq_getElem (by simpa using h)]
  rfl
theorem dec_start (w w2 : World) (l : Bs) (hz : w2.heap.size = w.heap.size + 2) (hr : w2.heap[w.heap.size]? = some (.cells zh 24 (0, 0))) (hc : w2.heap[w.heap.size + 1]? = some (blk 90 l)) (hb : Below w.heap.size w w2) (cs : Array Value) (hcs : cs = (hdrK l 0).cells) :
    DecS w l 0 ((((w2.alloc (.cells cs 24)).alloc (.cells #[.int .i64 0] 2)).alloc (.cells (arrP w.heap.size) 162)).drew) := by
  subst hcs
  have e1 : (w2.alloc (.cells (hdrK l 0).cells 24)).heap.size = w.heap.size + 3 := by rw [World.size_alloc, hz]
  have e2 : ((w2.alloc (.cells (hdrK l 0).cells 24)).alloc (.cells #[.int .i64 0] 2)).heap.size = w.heap.size + 4 := by rw [World.size_alloc, e1]
  have n1 := heap_new w2 (.cells (hdrK l 0).cells 24)
  have n2 := heap_new (w2.alloc (.cells (hdrK l 0).cells 24)) (.cells #[.int .i64 0] 2)
  have n3 := heap_new ((w2.alloc (.cells (hdrK l 0).cells 24)).alloc (.cells #[.int .i64 0] 2)) (.cells (arrP w.heap.size) 162)
  rw [hz] at n1
  rw [e1] at n2
  rw [e2] at n3
  refine ⟨?_, ?_, ?_, ?_, ?_, n3, ?_⟩
  · show w.heap.size + 5 ≤ (((w2.alloc (.cells (hdrK l 0).cells 24)).alloc (.cells #[.int .i64 0] 2)).alloc (.cells (arrP w.heap.size) 162)).heap.size
    rw [World.size_alloc, e2]
    omega
  · exact (Below.heap_alloc _ _ _ (by omega)).trans ((Below.heap_alloc _ _ _ (by omega)).trans ((Below.heap_alloc _ _ _ (by omega)).trans hr))
  · exact (Below.heap_alloc _ _ _ (by omega)).trans ((Below.heap_alloc _ _ _ (by omega)).trans ((Below.heap_alloc _ _ _ (by omega)).trans hc))
  · exact (Below.heap_alloc _ _ _ (by omega)).trans ((Below.heap_alloc _ _ _ (by omega)).trans n1)
  · exact (Below.heap_alloc _ _ _ (by omega)).trans n2
  · exact (((hb.alloc (by omega) _).alloc (by omega) _).alloc (by omega) _).drew
set_option maxHeartbeats 800000 in
set_option maxRecDepth 100000 in
theorem decode_any (s : ByteArray) (w : World) (hs : s.size = 512) (hm : magicB s.data.toList = true) :
    Calls Tryz.prog 79 #[.string s] w (DecPost s.data.toList w) := by
  have hs1 : 512 ≤ s.size := by omega
  have hs2 : s.size ≤ 512 := by omega
  have hs3 : (s.size : Int) = 512 := by omega
  obtain ⟨w2, hcp, hz, hr, hc, hb2⟩ := dec_copy w s hs 3
  have HS := Lib.hid hs
  have HZ := Lib.hid hz
  have HR := Lib.hid hr
  have HC := Lib.hid hc
  have HB := Lib.hid hb2
  clear hs hz hr hc hb2
  have hmg : ((s.extract 257 265).toList == [117, 115, 116, 97, 114, 0, 48, 48]) = true := by
    rw [Lib.toList_data, Lib.extract_data]; exact hm
  have HM := Lib.hid hm
  clear hm
  go_enter Tryz.func79, Tryz.ntmps79
  go_wp2_with fail
  clear hcp
  refine wp_region_free_alloc 16 15 _ (.pointer (some ⟨w.heap.size + 2, 0, none⟩)) (w2.drew.alloc (.cells zh 24)) (by kernel_rfl) (by kernel_rfl) rfl rfl ?run (by kernel_rfl) ?lex
  case run =>
    intro a
    have hz2 : ({ w2 with drawn := w2.drawn + 1 } : World).heap.size = w.heap.size + 2 := HZ.out
    go_simp
  simp only [List.take_succ_cons, List.take_zero, List.drop_succ_cons, List.drop_zero]
  refine ⟨_, yb_pure (by decide) rfl (fun W => by go_simp; rfl), ?_⟩
  refine ⟨_, yb_pure (by decide) rfl (fun W => by go_simp; rfl), ?_⟩
  refine ⟨_, yb_call (by decide) rfl (fun W => by go_simp; rfl) (fun W => text_q _ W (by simp; omega)), ?_⟩
  refine ⟨_, yb_pure (by decide) rfl (fun W => by go_simp; rfl), ?_⟩
  refine ⟨_, yb_pure (by decide) rfl (fun W => by go_simp; rfl), ?_⟩
  refine ⟨_, yb_pure (by decide) rfl (fun W => by go_simp; rfl), ?_⟩
  refine ⟨_, yb_pure (by decide) rfl (fun W => by go_simp; rfl), ?_⟩
  refine ⟨_, yb_call (by decide) rfl (fun W => by go_simp; rfl) (fun W => text_q _ W (by simp; omega)), ?_⟩
  refine ⟨_, yb_pure (by decide) rfl (fun W => by go_simp; rfl), ?_⟩
  refine ⟨_, yb_pure (by decide) rfl (fun W => by go_simp; rfl), ?_⟩
  refine ⟨_, yb_call (by decide) rfl (fun W => by go_simp; rfl) (fun W => text_q _ W (by simp; omega)), ?_⟩
  refine ⟨_, yb_pure (by decide) rfl (fun W => by go_simp; rfl), ?_⟩
  refine ⟨_, yb_pure (by decide) rfl (fun W => by go_simp; rfl), ?_⟩
  refine ⟨_, yb_call (by decide) rfl (fun W => by go_simp; rfl) (fun W => text_q _ W (by simp; omega)), ?_⟩
  refine ⟨_, yb_pure (by decide) rfl (fun W => by go_simp; rfl), ?_⟩
  refine ⟨_, yb_alloc, ?_⟩
  have hzd : (w2.drew.alloc (.cells zh 24)).heap.size = w.heap.size + 3 := by
    rw [World.size_alloc]; show w2.heap.size + 1 = _; rw [HZ.out]
  have hz2 : w2.heap.size = w.heap.size + 2 := HZ.out
  change wpList _ _ _ _ _ (w2.drew.alloc (.cells zh 24))
  go_wp2_with fail
  clear hzd hz2 hmg
  go_loopw [67] (fun iv wr => ∃ k : Nat, k ≤ 8 ∧ iv = .int .i64 k ∧ Hid (DecS w s.data.toList k wr) ∧ Hid (∀ j, j < k → numOk (fld s.data.toList (fromK j) (toK j)) = true)) (fun iv _ => 8 - (intOf iv).toNat)
  case atStart =>
    refine ⟨0, Nat.zero_le _, rfl, ?_, fun j hj => absurd hj (Nat.not_lt_zero _)⟩
    refine dec_start w w2 s.data.toList HZ.out HR.out HC.out HB.out _ ?_
    have e := typ_eq s (by omega)
    rw [← e]
    rfl
  case round =>
    obtain ⟨k, hk, rfl, hd, hall⟩ := hrel
    by_cases hlt : k < 8
    · obtain ⟨tb, te, old, c0, c1, c2, htb, ct, cf, hst⟩ := hd.out.round hlt
      obtain ⟨hf1, hf2, hf3⟩ := fromK_to k
      obtain ⟨x, hx⟩ : ∃ x, fromK k = x := ⟨_, rfl⟩
      obtain ⟨y, hy⟩ : ∃ y, toK k = y := ⟨_, rfl⟩
      rw [hx] at c0 hf1 hf3 hst
      rw [hy] at c1 hf1 hf2 hf3 hst
      have HX := Lib.hid hx
      have HY := Lib.hid hy
      have HST := Lib.hid hst
      clear hx hy hst
      go_wp2_with fail
      refine (value_any (s.extract x y) _ (by simp; omega)).mono ?_
      rintro e w4 ⟨rfl, hb4⟩
      rw [extract_fld]
      have hdk := hd.out
      have h4 : Below wr.heap.size wr w4 := ((Below.refl _ wr).alloc (Nat.le_refl _) (.cells #[.int .i64 x, .int .i64 y, .pointer (some ⟨tb, te, none⟩)] 162)).trans (hb4.mono (by simp))
      have D4 := Lib.hid (hdk.keep h4)
      have ct4 : w4.cell? ⟨tb, te, none⟩ = some (.int .i64 old) := (h4.cell (p := ⟨tb, te, none⟩) htb).trans ct
      have cf4 : w4.frozen? ⟨tb, te, none⟩ = false := (h4.frozen (p := ⟨tb, te, none⟩) htb).trans cf
      have cp4 : w4.cell? ⟨wr.heap.size, 2, none⟩ = some (.pointer (some ⟨tb, te, none⟩)) := (hb4.cell (p := ⟨wr.heap.size, 2, none⟩) (by simp)).trans (cell_new _ _ _ _)
      clear hb4 h4 hdk hd
      obtain ⟨z, hz⟩ : ∃ z, numX (fld s.data.toList x y) = z := ⟨_, rfl⟩
      rw [hz] at HST ⊢
      have HZ2 := Lib.hid hz
      clear hz
      cases hok : numOk (fld s.data.toList x y) with
      | false =>
        have HOK := Lib.hid hok
        clear hok
        have cr : ∀ i : Nat, w4.cell? ⟨w.heap.size, i, none⟩ = zh[i]? := fun i => cell_of_heapN D4.out.hr
        have fr : ∀ i : Nat, w4.frozen? ⟨w.heap.size, i, none⟩ = false := fun i => frozen_blk D4.out.hr
        go_wp2_with fail
        rw [set12 D4.out.hr]
        have hW : (setBlk w4 w.heap.size (.cells zh 24 (0, 0))).heap[w.heap.size]? = some (.cells zh 24 (0, 0)) := setBlk_heap (by have := D4.out.size; omega)
        have hcw : ∀ i : Nat, (setBlk w4 w.heap.size (.cells zh 24 (0, 0))).cell? ⟨w.heap.size, i, none⟩ = zh[i]? := fun i => cell_of_heapN hW
        refine bodyPost_ret (v := .tuple #[.agg zh, errV 6]) ?_ rfl (DecPost.text (okAll_not HX.out HY.out HOK.out hlt) rfl (D4.out.bel.setBlk (Nat.le_refl _)))
        simp [results, Tryz.results79, go_sem, hcw]
        rfl
      | true =>
        have HOK := Lib.hid hok
        clear hok
        go_wp2_with fail
        go_roundw
        case rel =>
          refine ⟨k + 1, by omega, by go_num, HST.out _ D4.out, ?_⟩
          intro j hj
          by_cases hjk : j = k
          · subst hjk
            rw [HX.out, HY.out]; exact HOK.out
          · exact hall.out j (by omega)
        case measure => simp [intOf]; omega
    · obtain rfl : k = 8 := by omega
      have hd := hd.out
      have hs3' : numX (fld s.data.toList 148 156) = numX (fld s.data.toList 148 156) := rfl
      obtain ⟨x, hx⟩ : ∃ x, numX (fld s.data.toList 148 156) = x := ⟨_, rfl⟩
      obtain ⟨y, hy⟩ : ∃ y, sumTo s.data.toList 512 = y := ⟨_, rfl⟩
      have cs : wr.cell? ⟨w.heap.size + 3, 0, none⟩ = some (.int .i64 x) := by
        have := cell_of_heapN (i := 0) hd.hs
        rw [if_pos (by decide), hx] at this
        exact this
      have hsum := fun n => sum_q (w.heap.size + 1) s.data.toList (wr.drewN n) hd.hc HS.out
      rw [hy] at hsum
      have HSUM := Lib.hid hsum
      have HX := Lib.hid hx
      have HY := Lib.hid hy
      have HD := Lib.hid hd
      clear hsum hx hy hd hs3'
      go_wp2_with fail
      go_quiet ((go_at_call 49; exact Calls.quiet_of (HSUM.out _)))
      rename_i nq
      obtain ⟨W, hW⟩ : ∃ W, wr.drewN nq = W := ⟨_, rfl⟩
      rw [hW]
      have HD2 := Lib.hid (show DecS w s.data.toList 8 W by rw [← hW]; exact HD.out.drewN nq)
      clear hW HSUM cs HD
      have cr : ∀ i : Nat, W.cell? ⟨w.heap.size, i, none⟩ = zh[i]? := fun i => cell_of_heapN HD2.out.hr
      have fr : ∀ i : Nat, W.frozen? ⟨w.heap.size, i, none⟩ = false := fun i => frozen_blk HD2.out.hr
      by_cases hxy : x = y
      · have HNE := Lib.hid hxy
        have hne : (x != y) = false := by rw [hxy]; simp
        clear hxy
        go_wp2_with fail
        refine (text_any (s.extract 345 500) _ (by simp; omega)).mono ?_
        rintro e W2 ⟨rfl, rfl⟩
        rw [extract_fld]
        obtain ⟨p, hp⟩ : ∃ p : ByteArray, (⟨(textOf (fld s.data.toList 345 500)).toArray⟩ : ByteArray) = p := ⟨_, rfl⟩
        have hpd : p.data.toList = textOf (fld s.data.toList 345 500) := by rw [← hp]
        rw [hp]
        have hps : p.size ≤ 155 := by
          have h1 : p.size = p.data.toList.length := rfl
          have h2 := textOf_le (fld s.data.toList 345 500)
          have h3 : (fld s.data.toList 345 500).length ≤ 155 := by unfold fld; simp only [List.length_take]; omega
          rw [h1, hpd]; omega
        have HP := Lib.hid hpd
        clear hp hpd
        have ch : ∀ i : Nat, W.cell? ⟨w.heap.size + 2, i, none⟩ = (hdrK s.data.toList 8).cells[i]? := fun i => cell_of_heapN HD2.out.hh
        have fh : ∀ i : Nat, W.frozen? ⟨w.heap.size + 2, i, none⟩ = false := fun i => frozen_blk HD2.out.hh
        obtain ⟨H, hH⟩ : ∃ H, hdrK s.data.toList 8 = H := ⟨_, rfl⟩
        rw [hH] at ch
        have hpl : H.path.size ≤ 100 := by
          rw [← hH]
          have h2 := textOf_le (s.data.toList.take 100)
          have h3 : (s.data.toList.take 100).length ≤ 100 := by simp only [List.length_take]; omega
          show (textOf (s.data.toList.take 100)).length ≤ 100
          omega
        have HH := Lib.hid hH
        clear hH
        by_cases he : p.toList = []
        · have he2 : p.toList.isEmpty = true := by rw [he]; rfl
          have HE := Lib.hid he
          clear he
          go_wp2_with fail
          rw [set12 HD2.out.hr]
          have hcw : ∀ i : Nat, (setBlk W w.heap.size (.cells H.cells 24 (0, 0))).cell? ⟨w.heap.size, i, none⟩ = H.cells[i]? := fun i => cell_of_heapN (setBlk_heap (by have := HD2.out.size; omega))
          have hdec : decHdr s.data.toList = H := by rw [decHdr_empty (by rw [← HP.out, ← Lib.toList_data]; exact HE.out)]; exact HH.out
          refine bodyPost_ret (v := .tuple #[.agg H.cells, .nilIface]) ?_ rfl (DecPost.ok (okAll_yes hall.out) (HX.out.trans (HNE.out.trans HY.out.symm)) (by rw [hdec]) (HD2.out.bel.setBlk (Nat.le_refl _)))
          simp [results, Tryz.results79, go_sem, hcw]
        · have he2 : p.toList.isEmpty = false := by simpa using he
          have HE := Lib.hid he
          clear he
          go_wp2_with fail
          have hW3 : ∀ v : Value, (W.setCell ⟨w.heap.size + 2, 0, none⟩ v).heap[w.heap.size]? = some (.cells zh 24 (0, 0)) := fun v => (Below.heap_setCell _ _ _ _ (by simp)).trans HD2.out.hr
          rw [set12 (hW3 _)]
          obtain ⟨V, hV⟩ : ∃ V, W.setCell ⟨w.heap.size + 2, 0, none⟩ (.string (p ++ ⟨#[47]⟩ ++ H.path)) = V := ⟨_, rfl⟩
          have hVs : w.heap.size < V.heap.size := by rw [← hV]; have := HD2.out.size; simp; omega
          have hVb : Below w.heap.size w V := by rw [← hV]; exact HD2.out.bel.setCell (p := ⟨w.heap.size + 2, 0, none⟩) (by simp) _
          rw [hV]
          have hcw : ∀ i : Nat, (setBlk V w.heap.size (.cells ({ H with path := p ++ ⟨#[47]⟩ ++ H.path } : Hdr).cells 24 (0, 0))).cell? ⟨w.heap.size, i, none⟩ = ({ H with path := p ++ ⟨#[47]⟩ ++ H.path } : Hdr).cells[i]? := fun i => cell_of_heapN (setBlk_heap hVs)
          have hdec : decHdr s.data.toList = { H with path := p ++ ⟨#[47]⟩ ++ H.path } := by
            rw [decHdr_some (by rw [← HP.out, ← Lib.toList_data]; exact HE.out), ← HH.out, ← HP.out]
            have hpe : p ++ ⟨#[47]⟩ ++ (hdrK s.data.toList 8).path = ⟨(p.data.toList ++ [47] ++ textOf (s.data.toList.take 100)).toArray⟩ := bytes_eq (by simp [hdrK])
            rw [hpe]
          refine bodyPost_ret (v := .tuple #[.agg ({ H with path := p ++ ⟨#[47]⟩ ++ H.path } : Hdr).cells, .nilIface]) ?_ rfl (DecPost.ok (okAll_yes hall.out) (HX.out.trans (HNE.out.trans HY.out.symm)) (by rw [hdec]) (hVb.setBlk (Nat.le_refl _)))
          simp [results, Tryz.results79, go_sem, hcw]
      · have HNE := Lib.hid hxy
        have hne : (x != y) = true := by rw [bne_iff_ne]; exact hxy
        clear hxy
        go_wp2_with fail
        rw [set12 HD2.out.hr]
        have hW : (setBlk W w.heap.size (.cells zh 24 (0, 0))).heap[w.heap.size]? = some (.cells zh 24 (0, 0)) := setBlk_heap (by have := HD2.out.size; omega)
        have hcw : ∀ i : Nat, (setBlk W w.heap.size (.cells zh 24 (0, 0))).cell? ⟨w.heap.size, i, none⟩ = zh[i]? := fun i => cell_of_heapN hW
        refine bodyPost_ret (v := .tuple #[.agg zh, errV 7]) ?_ rfl (DecPost.sum (okAll_yes hall.out) (fun e => HNE.out (HX.out.symm.trans (e.trans HY.out))) rfl (HD2.out.bel.setBlk (Nat.le_refl _)))
        simp [results, Tryz.results79, go_sem, hcw]
        rfl
set_option maxHeartbeats 800000 in
set_option maxRecDepth 100000 in
theorem decode_magic (s : ByteArray) (w : World) (hs : s.size = 512) (hm : magicB s.data.toList = false) :
    Calls Tryz.prog 79 #[.string s] w fun e w' => e = .returned (.tuple #[.agg zh, errV 4]) ∧ Below w.heap.size w w' := by
  have hs1 : 512 ≤ s.size := by omega
  have hs2 : s.size ≤ 512 := by omega
  have hs3 : (s.size : Int) = 512 := by omega
  clear hs
  have hmg : ((s.extract 257 265).toList == [117, 115, 116, 97, 114, 0, 48, 48]) = false := by
    rw [Lib.toList_data, Lib.extract_data]; exact hm
  have HM := Lib.hid hm
  clear hm
  go_enter Tryz.func79, Tryz.ntmps79
  go_wp2_with fail
  refine bodyPost_ret (v := .tuple #[.agg zh, errV 4]) ?_ rfl ⟨rfl, (Below.refl _ _).alloc (Nat.le_refl _) _⟩
  simp [results, Tryz.results79, go_sem]
  rfl
/-- What Decode of 512 bytes is refused by; 0: by nothing. -/
def decErrM (l : Bs) : Int := if magicB l then decErr l else 4
theorem decode_all (s : ByteArray) (w : World) (hs : s.size = 512) :
    Calls Tryz.prog 79 #[.string s] w fun e w' =>
      e = .returned (.tuple #[.agg (if decErrM s.data.toList = 0 then (decHdr s.data.toList).cells else zh), if decErrM s.data.toList = 0 then .nilIface else errV (decErrM s.data.toList)]) ∧ Below w.heap.size w w' := by
  cases hm : magicB s.data.toList with
  | true =>
    have : decErrM s.data.toList = decErr s.data.toList := by rw [decErrM, if_pos hm]
    rw [this]
    exact (decode_any s w hs hm).mono fun _ _ h => h
  | false =>
    have : decErrM s.data.toList = 4 := by rw [decErrM, if_neg (by simp [hm])]
    rw [this, if_neg (by decide), if_neg (by decide)]
    exact decode_magic s w hs hm
end Go.Proofs.YthpmocfdnoehoaaGreatDoor
/- Contracts of archive.piece, empty, end: blocks of an archive's bytes. -/
namespace Go.Proofs.YthpmocfdnoehoaaGreatDoor
open Go.RowKit
/-- The bytes l lie in block b, from its first cell on. -/
def ByAt (w : World) (b : Nat) (l : Bs) : Prop := b < w.heap.size ∧ ∀ (i : Nat) (x : UInt8), l[i]? = some x → w.cell? ⟨b, i, none⟩ = some (byteV x)
theorem ByAt.keep {w w' : World} {b : Nat} {l : Bs} (h : ByAt w b l) {B : Nat} (hb : Below B w w') (hB : b < B) : ByAt w' b l :=
  ⟨Nat.lt_of_lt_of_le h.1 hb.size, fun i x hx => (hb.cell (p := ⟨b, i, none⟩) hB).trans (h.2 i x hx)⟩
/-- Are the 512 bytes from a place on all 0? -/
def zeroAt (l : Bs) (i : Nat) : Bool := ((l.drop i).take 512).all (· == 0)
set_option maxHeartbeats 400000 in
set_option maxRecDepth 100000 in
theorem piece_no (b n cap : Nat) (at' : Int) (w : World) (h0 : 0 ≤ at') (h1 : at' ≤ 1152921504606846975) (hn : n ≤ 1152921504606846975) (h : (n : Int) < at' + 512) :
    Calls Tryz.prog 60 #[.slice (some ⟨b, 0, none⟩) n cap, .int .i64 at'] w fun e w' => e = .returned (.tuple #[.slice none 0 0, .bool false]) ∧ w = w' := by
  have h2 : (n : Int) - at' < 512 := by omega
  go_enter Tryz.func60, Tryz.ntmps60
  go_wp2_with fail
  go_ret2
  exact ⟨rfl, rfl⟩
set_option maxHeartbeats 400000 in
set_option maxRecDepth 100000 in
theorem piece_yes (b n cap k : Nat) (w : World) (hn : n ≤ 1152921504606846975) (hc : n ≤ cap) (hc2 : cap ≤ 9223372036854775807) (h : k + 512 ≤ n) :
    Calls Tryz.prog 60 #[.slice (some ⟨b, 0, none⟩) n cap, .int .i64 k] w fun e w' => e = .returned (.tuple #[.slice (some ⟨b, k, none⟩) 512 512, .bool true]) ∧ w = w' := by
  have h2 : ¬ (n : Int) - k < 512 := by omega
  go_enter Tryz.func60, Tryz.ntmps60
  go_wp2_with fail
  go_ret2
  exact ⟨rfl, rfl⟩
set_option maxHeartbeats 400000 in
set_option maxRecDepth 100000 in
theorem empty_any (b k : Nat) (l : Bs) (w : World) (hb : ByAt w b l) (hk : k + 512 ≤ l.length) :
    Calls Tryz.prog 61 #[.slice (some ⟨b, k, none⟩) 512 512] w fun e w' => e = .returned (.bool (zeroAt l k)) ∧ w = w' := by
  have HB := Lib.hid hb.2
  have HK := Lib.hid hk
  clear hb hk
  go_enter Tryz.func61, Tryz.ntmps61
  go_wp2_with fail
  go_loop [7] (fun iv => ∃ j : Nat, j ≤ 512 ∧ iv = .int .i64 j ∧ Hid (((l.drop k).take j).all (· == 0) = true)) (fun iv => 512 - (intOf iv).toNat)
  case atStart => exact ⟨0, by omega, rfl, rfl⟩
  case round =>
    obtain ⟨j, hj, rfl, hall⟩ := hrel
    by_cases hlt : j < 512
    · obtain ⟨x, hx⟩ : ∃ x, l[k + j]? = some x := ⟨_, List.getElem?_eq_getElem (i := k + j) (by have := HK.out; omega)⟩
      have hcell : w.cell? ⟨b, k + j, none⟩ = some (.int .u8 (x.toNat : Int)) := HB.out _ _ hx
      have hsn : (l.drop k).take (j + 1) = (l.drop k).take j ++ [x] := by
        rw [List.take_add_one, List.getElem?_drop, hx]; rfl
      have HX := Lib.hid hx
      have HN := Lib.hid hsn
      clear hx hsn
      by_cases h0 : x = 0
      · subst h0
        go_wp2_with fail
        go_round
        case rel => exact ⟨j + 1, by omega, by go_num, by show _ = true; rw [HN.out, List.all_append, hall.out]; rfl⟩
        case measure => simp [intOf]; omega
      · have hne : ((x.toNat : Int) != 0) = true := by
          rw [bne_iff_ne]
          intro e
          exact h0 (UInt8.toNat_inj.1 (by simpa using e))
        have H0 := Lib.hid h0
        clear h0
        go_wp2_with fail
        go_ret
        refine ⟨?_, rfl⟩
        have : zeroAt l k = false := by
          unfold zeroAt
          rw [List.all_eq_false]
          refine ⟨x, ?_, by simpa using H0.out⟩
          rw [List.mem_iff_getElem?]
          exact ⟨j, by rw [List.getElem?_take, if_pos hlt, List.getElem?_drop]; exact HX.out⟩
        rw [this]; rfl
    · go_wp2_with fail
      go_ret
      refine ⟨?_, rfl⟩
      have : zeroAt l k = true := by
        unfold zeroAt
        have := hall.out
        rwa [show j = 512 from by omega] at this
      rw [this]; rfl
/-- What stands behind the first block of bytes 0: the error and its place; 0: none. -/
def endGo (l : Bs) : Nat → Nat → Int × Nat
  | 0, _ => (0, 0)
  | f + 1, i => if l.length < i + 512 then (2, i) else if zeroAt l i = false then (3, i) else if l.length ≤ i + 512 then (0, 0) else endGo l f (i + 512)
/-- A bool as a number. -/
def bv : Value → Nat
  | .bool true => 1
  | _ => 0
def endV (x : Int × Nat) : Value := if x.1 = 0 then .nilIface else faultV x.1 0 x.2
set_option maxHeartbeats 800000 in
set_option maxRecDepth 100000 in
theorem end_any (b k cap : Nat) (l : Bs) (w : World) (hb : ByAt w b l) (hl : l.length ≤ 1152921504606846975) (hc : l.length ≤ cap) (hc2 : cap ≤ 9223372036854775807) (hk : k ≤ l.length) :
    Calls Tryz.prog 62 #[.slice (some ⟨b, 0, none⟩) l.length cap, .int .i64 (k : Nat)] w fun e w' => e = .returned (endV (endGo l (l.length + 1) k)) ∧ w = w' := by
  have HB := Lib.hid hb
  obtain ⟨n, hn⟩ : ∃ n, l.length = n := ⟨_, rfl⟩
  obtain ⟨R, hR⟩ : ∃ R, endV (endGo l (l.length + 1) k) = R := ⟨_, rfl⟩
  rw [hR]
  rw [hn] at hR hl hc hk ⊢
  have HN := Lib.hid hn
  have HR := Lib.hid hR
  clear hb hn hR
  go_enter Tryz.func62, Tryz.ntmps62
  go_wp2_with fail
  go_loop [1, 5] (fun av fv => ∃ (i f : Nat) (first : Bool), i ≤ n ∧ av = .int .i64 i ∧ fv = .bool first ∧ n < i + f ∧ Hid ((first = true ∨ i < n) → endV (endGo l f i) = R) ∧ Hid ((first = false ∧ ¬ i < n) → R = .nilIface)) (fun av fv => 2 * (n - (intOf av).toNat) + bv fv)
  case atStart => exact ⟨k, n + 1, true, hk, rfl, rfl, by omega, fun _ => HR.out, fun h => by cases h.1⟩
  case round =>
    obtain ⟨i, f, first, hi, rfl, rfl, hf, h1, h2⟩ := hrel
    by_cases hgo : first = true ∨ i < n
    · obtain ⟨f', rfl⟩ : ∃ f', f = f' + 1 := ⟨f - 1, by omega⟩
      have h1 := h1.out hgo
      rw [endGo, HN.out] at h1
      by_cases hs : n < i + 512
      · rw [if_pos hs] at h1
        have H1 := Lib.hid h1
        clear h1 h2
        cases first with
        | true =>
          go_wp2_with fail
          refine (piece_no b n cap i _ (by omega) (by omega) hl (by omega)).mono ?_
          rintro e w1 ⟨rfl, rfl⟩
          go_wp2_with fail
          go_ret
          exact ⟨by rw [← H1.out]; rfl, rfl⟩
        | false =>
          have hin : i < n := by rcases hgo with h | h; cases h; exact h
          clear hgo
          go_wp2_with fail
          refine (piece_no b n cap i _ (by omega) (by omega) hl (by omega)).mono ?_
          rintro e w1 ⟨rfl, rfl⟩
          go_wp2_with fail
          go_ret
          exact ⟨by rw [← H1.out]; rfl, rfl⟩
      · rw [if_neg hs] at h1
        have hib : i + 512 ≤ n := by omega
        have hie : ((i : Int) < n) = ((i : Int) < n) := rfl
        cases hz : zeroAt l i with
        | false =>
          rw [if_pos hz] at h1
          have H1 := Lib.hid h1
          have HZ := Lib.hid hz
          clear h1 h2 hz hie
          cases first with
          | true =>
            go_wp2_with fail
            refine (piece_yes b n cap i _ hl hc hc2 hib).mono ?_
            rintro e w1 ⟨rfl, rfl⟩
            go_wp2_with fail
            refine (empty_any b i l _ HB.out (by rw [HN.out]; exact hib)).mono ?_
            rintro e w1 ⟨rfl, rfl⟩
            rw [HZ.out]
            go_wp2_with fail
            go_ret
            exact ⟨by rw [← H1.out]; rfl, rfl⟩
          | false =>
            have hin : i < n := by omega
            clear hgo
            go_wp2_with fail
            refine (piece_yes b n cap i _ hl hc hc2 hib).mono ?_
            rintro e w1 ⟨rfl, rfl⟩
            go_wp2_with fail
            refine (empty_any b i l _ HB.out (by rw [HN.out]; exact hib)).mono ?_
            rintro e w1 ⟨rfl, rfl⟩
            rw [HZ.out]
            go_wp2_with fail
            go_ret
            exact ⟨by rw [← H1.out]; rfl, rfl⟩
        | true =>
          rw [if_neg (by rw [hz]; simp)] at h1
          have HZ := Lib.hid hz
          have H1 := Lib.hid h1
          clear h1 h2 hz hie
          cases first with
          | true =>
            go_wp2_with fail
            refine (piece_yes b n cap i _ hl hc hc2 hib).mono ?_
            rintro e w1 ⟨rfl, rfl⟩
            go_wp2_with fail
            refine (empty_any b i l _ HB.out (by rw [HN.out]; exact hib)).mono ?_
            rintro e w1 ⟨rfl, rfl⟩
            rw [HZ.out]
            go_wp2_with fail
            go_round
            case rel =>
              refine ⟨i + 512, f', false, hib, by go_num, rfl, by omega, ?_, ?_⟩
              · intro h
                have h3 : i + 512 < n := by rcases h with h | h; cases h; exact h
                have := H1.out
                rwa [if_neg (by omega)] at this
              · intro h
                have := H1.out
                rw [if_pos (by omega)] at this
                exact this.symm
            case measure => simp [intOf, bv]; omega
          | false =>
            have hin : i < n := by omega
            clear hgo
            go_wp2_with fail
            refine (piece_yes b n cap i _ hl hc hc2 hib).mono ?_
            rintro e w1 ⟨rfl, rfl⟩
            go_wp2_with fail
            refine (empty_any b i l _ HB.out (by rw [HN.out]; exact hib)).mono ?_
            rintro e w1 ⟨rfl, rfl⟩
            rw [HZ.out]
            go_wp2_with fail
            go_round
            case rel =>
              refine ⟨i + 512, f', false, hib, by go_num, rfl, by omega, ?_, ?_⟩
              · intro h
                have h3 : i + 512 < n := by rcases h with h | h; cases h; exact h
                have := H1.out
                rwa [if_neg (by omega)] at this
              · intro h
                have := H1.out
                rw [if_pos (by omega)] at this
                exact this.symm
            case measure => simp [intOf, bv]; omega
    · have hff : first = false := by cases first with | true => exact absurd (.inl rfl) hgo | false => rfl
      subst hff
      have hin : ¬ i < n := fun h => hgo (.inr h)
      have hR := h2.out ⟨rfl, hin⟩
      subst hR
      clear h1 h2 hgo
      go_wp2_with fail
      go_ret
      exact ⟨rfl, rfl⟩
end Go.Proofs.YthpmocfdnoehoaaGreatDoor
/- Contracts of the reference's functions that read: text, noughts, behind. -/
namespace Go.Proofs.YthpmocfdnoehoaaGreatDoor
open Go.RowKit
theorem textOf_at : ∀ {l : Bs} {k : Nat}, (∀ i, i < k → l.getD i 0 ≠ 0) → l[k]? = some 0 → textOf l = l.take k
  | [], k, _, h => by simp at h
  | x :: r, 0, _, h => by
    obtain rfl : x = 0 := by simpa using h
    rfl
  | x :: r, k + 1, h, h1 => by
    have hx : x ≠ 0 := by simpa using h 0 (by omega)
    have ih := textOf_at (l := r) (k := k) (fun i hi => by simpa using h (i + 1) (by omega)) (by simpa using h1)
    unfold textOf at ih ⊢
    rw [List.takeWhile_cons, if_pos (by simpa using hx), ih]
    rfl
theorem textOf_no {l : Bs} (h : ∀ i, i < l.length → l.getD i 0 ≠ 0) : textOf l = l := by
  unfold textOf
  refine takeWhile_all fun x hx => ?_
  obtain ⟨i, hi, rfl⟩ := List.getElem_of_mem hx
  have := h i hi
  rw [List.getD_eq_getElem?_getD, List.getElem?_eq_getElem hi] at this
  simpa using this
set_option maxHeartbeats 1600000 in
set_option maxRecDepth 100000 in
theorem textR_any (s : ByteArray) (w : World) (hs : (s.size : Int) ≤ 140737488355328) :
    Calls Tryz.prog 78 #[.string s] w fun e w' => e = .returned (.string ⟨(textOf s.data.toList).toArray⟩) ∧ Below w.heap.size w w' := by
  go_enter Tryz.func78, Tryz.ntmps78
  go_wp2_with fail
  go_loopw [3] (fun iv wr => ∃ k : Nat, k ≤ s.size ∧ iv = .int .i64 k ∧ Hid (∀ i, i < k → s.data.toList.getD i 0 ≠ 0) ∧ Hid (Below w.heap.size w wr)) (fun iv _ => s.size - (intOf iv).toNat)
  case atStart => exact ⟨0, Nat.zero_le _, rfl, (fun i hi => absurd hi (by omega)), Below.refl _ _⟩
  case round =>
    obtain ⟨k, hk, rfl, hno, hbel⟩ := hrel
    by_cases hlt : k < s.size
    · have hget := get_eq s k hlt
      have hl : s.data.toList[k]? = some s[k] := List.getElem?_eq_getElem (by exact hlt)
      have HL := Lib.hid hl
      clear hl
      by_cases h0 : s[k] = 0
      · have h0' : (s[k]).toNat = 0 := by rw [h0]; rfl
        have H0 := Lib.hid h0
        clear hget h0
        go_wp2_with fail
        go_ret
        refine ⟨?_, hbel.out⟩
        rw [textOf_at hno.out (by rw [HL.out, H0.out])]
        refine congrArg (fun b => Ending.returned (.string b)) (ByteArray.ext (Array.ext' ?_))
        rw [Lib.extract_data, List.drop_zero, Nat.sub_zero]
      · have h0' : ¬ (s[k]).toNat = 0 := fun e => h0 (UInt8.toNat_inj.1 e)
        have HG := Lib.hid hget
        have H0 := Lib.hid h0
        clear hget h0
        go_wp2_with fail
        refine ⟨⟨k + 1, by omega, by rw [Int.natCast_add]; rfl, fun i hi => ?_, hbel⟩, by simp [intOf]; omega⟩
        by_cases hik : i < k
        · exact hno.out i hik
        · obtain rfl : i = k := by omega
          rw [HG.out]
          exact H0.out
    · obtain rfl : k = s.size := by omega
      go_wp2_with fail
      go_ret
      refine ⟨?_, hbel.out⟩
      rw [textOf_no hno.out, ← bytes_eq rfl]
      rfl
set_option maxHeartbeats 1600000 in
set_option maxRecDepth 100000 in
theorem noughts_any (s : ByteArray) (f : Nat) (w : World) (hf : f + 512 ≤ s.size) (hs : (s.size : Int) ≤ 140737488355328) :
    Calls Tryz.prog 56 #[.string s, .int .i64 f, .int .i64 ((f : Int) + 512)] w fun e w' => e = .returned (.bool (zeroAt s.data.toList f)) ∧ Below w.heap.size w w' := by
  have hf2 : (f : Int) + 512 ≤ (s.size : Int) := by omega
  go_enter Tryz.func56, Tryz.ntmps56
  go_wp2_with fail
  go_loopw [7] (fun iv wr => ∃ k : Nat, f ≤ k ∧ k ≤ f + 512 ∧ iv = .int .i64 k ∧ Hid (∀ i, f ≤ i → i < k → s.data.toList.getD i 0 = 0) ∧ Hid (Below w.heap.size w wr)) (fun iv _ => f + 512 - (intOf iv).toNat)
  case atStart => exact ⟨f, Nat.le_refl _, by omega, rfl, (fun i h1 h2 => absurd h2 (by omega)), Below.refl _ _⟩
  case round =>
    obtain ⟨k, hk1, hk2, rfl, hno, hbel⟩ := hrel
    have HK1 := Lib.hid hk1
    have HK2 := Lib.hid hk2
    clear hk1 hk2
    have hsl : s.data.toList.length = s.size := rfl
    by_cases hlt : (k : Int) < (f : Int) + 512
    · have hks : k < s.size := by omega
      have hget := get_eq s k hks
      by_cases h0 : s[k] = 0
      · have h0' : (s[k]).toNat = 0 := by rw [h0]; rfl
        have HG := Lib.hid hget
        have H0 := Lib.hid h0
        clear hget h0 hsl
        go_wp2_with fail
        refine ⟨⟨k + 1, by have := HK1.out; omega, by omega, by rw [Int.natCast_add]; rfl, fun i h1 h2 => ?_, hbel⟩, by simp [intOf]; omega⟩
        by_cases hik : i < k
        · exact hno.out i h1 hik
        · obtain rfl : i = k := by omega
          rw [HG.out]
          exact H0.out
      · have h0' : ¬ (s[k]).toNat = 0 := fun e => h0 (UInt8.toNat_inj.1 e)
        have HG := Lib.hid hget
        have H0 := Lib.hid h0
        have HSL := Lib.hid hsl
        clear hget h0 hsl
        go_wp2_with fail
        go_ret
        refine ⟨ret_bool ?_, hbel.out⟩
        symm
        unfold zeroAt
        rw [← Bool.not_eq_true, List.all_eq_true]
        intro hz
        have he : ((s.data.toList.drop f).take 512)[k - f]? = some s[k] := by
          rw [List.getElem?_take, if_pos (by have := HK1.out; omega), List.getElem?_drop, show f + (k - f) = k by have := HK1.out; omega]
          exact List.getElem?_eq_getElem (by exact hks)
        have := hz _ (List.mem_of_getElem? he)
        exact H0.out (by simpa using this)
    · go_wp2_with fail
      go_ret
      refine ⟨ret_bool ?_, hbel.out⟩
      symm
      unfold zeroAt
      rw [List.all_eq_true]
      intro x hx
      obtain ⟨i, hi⟩ := List.getElem?_of_mem hx
      rw [List.getElem?_take] at hi
      split at hi
      · rw [List.getElem?_drop] at hi
        have h2 := hno.out (f + i) (by omega) (by omega)
        rw [List.getD_eq_getElem?_getD, hi] at h2
        simpa using h2
      · cases hi
theorem endGo_step {l : Bs} {f i : Nat} (hf : 0 < f) : endGo l f i = if l.length < i + 512 then (2, i) else if zeroAt l i = false then (3, i) else if l.length ≤ i + 512 then (0, 0) else endGo l (f - 1) (i + 512) := by
  obtain ⟨g, rfl⟩ : ∃ g, f = g + 1 := ⟨f - 1, by omega⟩
  rfl
def endT (x : Int × Nat) : Value := .tuple #[.int .i64 x.1, .int .i64 x.2]
set_option maxHeartbeats 1600000 in
set_option maxRecDepth 100000 in
theorem behindR_any (s : ByteArray) (a : Nat) (w : World) (ha : a ≤ s.size) (hs : (s.size : Int) ≤ 140737488355328) :
    Calls Tryz.prog 57 #[.string s, .int .i64 a] w fun e w' => e = .returned (endT (endGo s.data.toList (s.size + 1) a)) ∧ Below w.heap.size w w' := by
  obtain ⟨E, hE⟩ : ∃ E, endGo s.data.toList (s.size + 1) a = E := ⟨_, rfl⟩
  have HE := Lib.hid hE
  have hsl : s.data.toList.length = s.size := rfl
  rw [hE]
  have ha2 : (a : Int) ≤ (s.size : Int) := by omega
  clear hE
  go_enter Tryz.func57, Tryz.ntmps57
  go_wp2_with fail
  go_loopw [1, 6] (fun av bv wr => ∃ (i f b : Nat), av = .int .i64 i ∧ bv = .int .i64 b ∧ (i : Int) ≤ (s.size : Int) + 512 ∧ (b : Int) ≤ (i : Int) ∧ Hid (s.size < f + i) ∧ Hid ((b = 0 ∧ i ≤ s.size) ∨ (0 < b ∧ i < s.size) → E = endGo s.data.toList f i) ∧ Hid (0 < b → s.size ≤ i → E = (0, 0)) ∧ Hid (b = 0 → i ≤ s.size) ∧ Hid (Below w.heap.size w wr)) (fun av _ _ => s.size + 1024 - (intOf av).toNat)
  case atStart => exact ⟨a, s.size + 1, 0, rfl, rfl, by omega, by omega, (by show _ < _; omega), fun _ => HE.out.symm, (fun h => absurd h (by omega)), fun _ => by omega, Below.refl _ _⟩
  case round =>
    obtain ⟨i, f, b, rfl, rfl, hi, hbi, hf, h1, h2, h3, hbel⟩ := hrel
    by_cases hin : (i : Int) < (s.size : Int)
    · have hEq := Lib.hid (show E = endGo s.data.toList f i from h1.out (by omega))
      have hf0 := Lib.hid (show 0 < f by have := hf.out; omega)
      by_cases hsh : (s.size : Int) < (i : Int) + 512
      · go_wp2_with fail
        go_ret2
        exact ⟨congrArg Ending.returned (show _ = endT E by rw [hEq.out, endGo_step hf0.out, if_pos (by omega)]; rfl), hbel.out⟩
      · have hnn := fun w1 => noughts_any s i w1 (by omega) hs
        have HNN := Lib.hid hnn
        clear hnn
        go_wp2_with fail
        refine (HNN.out _).mono ?_
        rintro e w1 ⟨rfl, hb1⟩
        have HB1 := Lib.hid (hbel.out.trans (hb1.mono hbel.out.size))
        clear hb1 HNN
        cases hz : zeroAt s.data.toList i with
        | false =>
          go_wp2_with fail
          go_ret2
          exact ⟨congrArg Ending.returned (show _ = endT E by rw [hEq.out, endGo_step hf0.out, if_neg (by omega), if_pos hz]; rfl), HB1.out⟩
        | true =>
          have HZ := Lib.hid hz
          have hbz : (0 : Int) ≤ (b : Int) := by omega
          have HSL := Lib.hid hsl
          clear hz hsl
          go_wp2_with fail
          refine ⟨⟨i + 512, f - 1, b + 1, by rw [Int.natCast_add]; rfl, by rw [Int.natCast_add]; rfl, by omega, by omega, (by have := hf.out; show _ < _; omega), fun h => ?_, fun _ h => ?_, fun h => by omega, HB1⟩, by simp [intOf]; omega⟩
          · have hh : i + 512 < s.size := by omega
            rw [hEq.out, endGo_step hf0.out, if_neg (by rw [HSL.out]; omega), if_neg (by rw [HZ.out]; simp), if_neg (by rw [HSL.out]; omega)]
          · rw [hEq.out, endGo_step hf0.out, if_neg (by rw [HSL.out]; omega), if_neg (by rw [HZ.out]; simp), if_pos (by rw [HSL.out]; omega)]
    · by_cases hb0 : (b : Int) = 0
      · have hb00 : b = 0 := by omega
        have hle := h3.out hb00
        have hEq := Lib.hid (show E = endGo s.data.toList f i from h1.out (.inl ⟨hb00, hle⟩))
        have hf0 := Lib.hid (show 0 < f by have := hf.out; omega)
        clear hb00
        have hsh : (s.size : Int) < (i : Int) + 512 := by omega
        go_wp2_with fail
        go_ret2
        exact ⟨congrArg Ending.returned (show _ = endT E by rw [hEq.out, endGo_step hf0.out, if_pos (by omega)]; rfl), hbel.out⟩
      · have he := Lib.hid (h2.out (by omega) (by omega))
        go_wp2_with fail
        go_ret2
        exact ⟨congrArg Ending.returned (show _ = endT E by rw [he.out]; rfl), hbel.out⟩
end Go.Proofs.YthpmocfdnoehoaaGreatDoor
/- Contract of the reference's number. -/
namespace Go.Proofs.YthpmocfdnoehoaaGreatDoor
open Go.RowKit
/-- What number answers. -/
def numV (l : Bs) : Value := .tuple #[.int .i64 (if numOk l = true then numX l else 0), .bool (numOk l)]
theorem numD_at : ∀ {l : Bs} {k : Nat}, k ≤ l.length → (∀ i, i < k → l.getD i 0 = 32) → (k < l.length → l.getD k 0 ≠ 32) → numD l = l.drop k
  | l, 0, _, _, h => by
    cases l with
    | nil => rfl
    | cons x r =>
      have hx : x ≠ 32 := by simpa using h (by simp)
      unfold numD
      rw [List.dropWhile_cons, if_neg (by simpa using hx)]
      rfl
  | [], k + 1, hk, _, _ => by simp at hk
  | x :: r, k + 1, hk, h, h2 => by
    have hx : x = 32 := by simpa using h 0 (by omega)
    have ih := numD_at (l := r) (k := k) (by simpa using hk) (fun i hi => by simpa using h (i + 1) (by omega)) (fun hlt => by simpa using h2 (by simpa using hlt))
    unfold numD at ih ⊢
    rw [List.dropWhile_cons, if_pos (by simpa using hx), ih]
    rfl
theorem takeWhile_eq {p : UInt8 → Bool} : ∀ {l : Bs} {k : Nat}, k ≤ l.length → (∀ i, i < k → p (l.getD i 0) = true) → (k < l.length → p (l.getD k 0) = false) → l.takeWhile p = l.take k
  | l, 0, _, _, h => by
    cases l with
    | nil => rfl
    | cons x r =>
      have hx : p x = false := by simpa using h (by simp)
      rw [List.takeWhile_cons, if_neg (by simp [hx])]
      rfl
  | [], k + 1, hk, _, _ => by simp at hk
  | x :: r, k + 1, hk, h, h2 => by
    have hx : p x = true := by simpa using h 0 (by omega)
    rw [List.takeWhile_cons, if_pos hx, takeWhile_eq (l := r) (k := k) (by simpa using hk) (fun i hi => by simpa using h (i + 1) (by omega)) (fun hlt => by simpa using h2 (by simpa using hlt))]
    rfl
theorem drop_getD (l : Bs) (a i : Nat) : (l.drop a).getD i 0 = l.getD (a + i) 0 := by
  rw [List.getD_eq_getElem?_getD, List.getElem?_drop, List.getD_eq_getElem?_getD]
theorem numV_no {l : Bs} {k j : Nat} (hD : numD l = l.drop k) (hR : (numD l).takeWhile isOct = (l.drop k).take j) (hj : j = 0) : numV l = .tuple #[.int .i64 0, .bool false] := by
  have h0 : (numR l).length = 0 := by unfold numR; rw [hR, hj]; rfl
  have hok : numOk l = false := by unfold numOk; rw [h0]; rfl
  unfold numV; rw [hok]; rfl
theorem numV_bad {l : Bs} {k j t : Nat} (hD : numD l = l.drop k) (hR : (numD l).takeWhile isOct = (l.drop k).take j) (hjl : k + j ≤ t) (ht : t < l.length) (hb : ¬ l.getD t 0 = 0) (hb2 : ¬ l.getD t 0 = 32) : numV l = .tuple #[.int .i64 0, .bool false] := by
  have hlen : (numR l).length = j := by unfold numR; rw [hR, List.length_take, List.length_drop]; omega
  have hok : numOk l = false := by
    unfold numOk
    rw [hlen, hD, List.drop_drop, Bool.and_eq_false_iff]
    right
    rw [← Bool.not_eq_true, List.all_eq_true]
    intro h
    have he : (l.drop (k + j))[t - (k + j)]? = some (l.getD t 0) := by
      rw [List.getElem?_drop, show k + j + (t - (k + j)) = t by omega, List.getD_eq_getElem?_getD, List.getElem?_eq_getElem ht]
      rfl
    have := h _ (List.mem_of_getElem? he)
    simp only [Bool.or_eq_true, beq_iff_eq] at this
    rcases this with h | h
    · exact hb2 h
    · exact hb h
  unfold numV; rw [hok]; rfl
theorem numV_yes {l : Bs} {k j : Nat} (hD : numD l = l.drop k) (hR : (numD l).takeWhile isOct = (l.drop k).take j) (hj : 0 < j) (hjl : k + j ≤ l.length) (hr : ∀ t, k + j ≤ t → t < l.length → l.getD t 0 = 0 ∨ l.getD t 0 = 32) : numV l = .tuple #[.int .i64 (octVal ((l.drop k).take j)), .bool true] := by
  have hlen : (numR l).length = j := by unfold numR; rw [hR, List.length_take, List.length_drop]; omega
  have hok : numOk l = true := by
    unfold numOk
    rw [hlen, hD, List.drop_drop, decide_eq_true hj, Bool.true_and, List.all_eq_true]
    intro x hx
    obtain ⟨i, hi⟩ := List.getElem?_of_mem hx
    rw [List.getElem?_drop] at hi
    have hlt := (List.getElem?_eq_some_iff.1 hi).1
    have := hr (k + j + i) (by omega) hlt
    rw [List.getD_eq_getElem?_getD, hi] at this
    rcases this with h | h
    · have : x = 0 := h
      simp [this]
    · have : x = 32 := h
      simp [this]
  unfold numV; rw [hok, if_pos rfl]
  unfold numX numR
  rw [hR]
theorem octVal_next {l : Bs} {j : Nat} (h : j < l.length) : octVal (l.take (j + 1)) = 8 * octVal (l.take j) + (((l.getD j 0).toNat : Int) - 48) := by
  rw [List.take_succ_eq_append_getElem h, octVal_snoc, List.getD_eq_getElem?_getD, List.getElem?_eq_getElem h]
  rfl
theorem octVal_small {l : Bs} {j : Nat} (hj : j ≤ l.length) (hj2 : j ≤ 12) (h : ∀ i, i < j → isOct (l.getD i 0) = true) : 0 ≤ octVal (l.take j) ∧ octVal (l.take j) ≤ 68719476736 := by
  have hb := octVal_bd j (l.take j) (by rw [List.length_take]; omega) (fun b hb => by
    obtain ⟨i, hi⟩ := List.getElem?_of_mem hb
    rw [List.getElem?_take] at hi
    split at hi
    · rename_i hij
      have := h i hij
      rw [List.getD_eq_getElem?_getD, hi] at this
      exact this
    · cases hi)
  have h12 : (8 : Int) ^ j ≤ 8 ^ 12 := by
    have := Nat.pow_le_pow_right (n := 8) (by decide) hj2
    exact_mod_cast this
  have h13 : (8 : Int) ^ 12 = 68719476736 := by decide
  exact ⟨hb.1, by omega⟩
set_option maxHeartbeats 3200000 in
set_option maxRecDepth 100000 in
theorem numberR_any (s : ByteArray) (w : World) (hs : s.size ≤ 12) :
    Calls Tryz.prog 77 #[.string s] w fun e w' => e = .returned (numV s.data.toList) ∧ Below w.heap.size w w' := by
  have hsl : s.data.toList.length = s.size := rfl
  have hs2 : (s.size : Int) ≤ 12 := by omega
  have HSL := Lib.hid hsl
  have HS := Lib.hid hs
  clear hsl hs
  go_enter Tryz.func77, Tryz.ntmps77
  go_wp2_with fail
  go_loopw [4] (fun iv wr => ∃ k : Nat, (k : Int) ≤ (s.size : Int) ∧ iv = .int .i64 k ∧ Hid (∀ i, i < k → s.data.toList.getD i 0 = 32) ∧ Hid (Below w.heap.size w wr)) (fun iv _ => s.size - (intOf iv).toNat)
  case atStart => exact ⟨0, by omega, rfl, (fun i hi => absurd hi (by omega)), Below.refl _ _⟩
  case round =>
    obtain ⟨k, hk, rfl, hno, hbel⟩ := hrel
    have hor : ((k : Int) < (s.size : Int) ∧ s.data.toList.getD k 0 = 32) ∨ ¬ ((k : Int) < (s.size : Int) ∧ s.data.toList.getD k 0 = 32) := Classical.em _
    rcases hor with ⟨hlt, h32⟩ | hex
    · have hks : k < s.size := by omega
      have hget := get_eq s k hks
      rw [h32] at hget
      have h0' : (s[k]).toNat = 32 := by rw [← hget]; rfl
      have HG := Lib.hid h32
      clear hget h32
      go_wp2_with fail
      refine ⟨⟨k + 1, by omega, by rw [Int.natCast_add]; rfl, fun i hi => ?_, hbel⟩, by simp [intOf]; omega⟩
      by_cases hik : i < k
      · exact hno.out i hik
      · obtain rfl : i = k := by omega
        exact HG.out
    · have HD := Lib.hid (show numD s.data.toList = s.data.toList.drop k from numD_at (by have := HSL.out; omega) hno.out (fun hlt h32 => hex ⟨by have := HSL.out; omega, h32⟩))
      have hq : (∃ hks : k < s.size, ¬ (s[k]).toNat = 32) ∨ ¬ (k : Int) < (s.size : Int) := by
        by_cases hlt : k < s.size
        · left
          refine ⟨hlt, fun e => hex ⟨by omega, ?_⟩⟩
          rw [get_eq s k hlt]
          exact UInt8.toNat_inj.1 e
        · right; omega
      clear hex hno
      rcases hq with ⟨hks, h0'⟩ | hlt
      all_goals
        go_wp2_with fail
        go_loopw [4, 6] (fun iv xv wr2 => ∃ q : Nat, Hid (k ≤ q) ∧ (q : Int) ≤ (s.size : Int) ∧ iv = .int .i64 q ∧ Hid (∀ i, i < q - k → isOct ((s.data.toList.drop k).getD i 0) = true) ∧ xv = .int .i64 (octVal ((s.data.toList.drop k).take (q - k))) ∧ Hid (Below w.heap.size w wr2)) (fun iv _ _ => s.size - (intOf iv).toNat)
        case atStart => exact ⟨k, Nat.le_refl _, by omega, rfl, (fun i hi => absurd hi (by omega)), by rw [Nat.sub_self]; rfl, hbel⟩
        case round =>
          obtain ⟨q, hkq, hjs, rfl, hoct, rfl, hbel2⟩ := hrel
          have hsm := octVal_small (l := s.data.toList.drop k) (j := q - k) (by rw [List.length_drop]; have := HSL.out; have := hkq.out; omega) (by omega) hoct.out
          obtain ⟨X, hX⟩ : ∃ X, octVal ((s.data.toList.drop k).take (q - k)) = X := ⟨_, rfl⟩
          rw [hX] at hsm ⊢
          have HX := Lib.hid hX
          clear hX
          have hor2 : (∃ hq : q < s.size, (48 : Int) ≤ (((s[q]).toNat : Nat) : Int) ∧ (((s[q]).toNat : Nat) : Int) ≤ 55) ∨ ¬ (∃ hq : q < s.size, (48 : Int) ≤ (((s[q]).toNat : Nat) : Int) ∧ (((s[q]).toNat : Nat) : Int) ≤ 55) := Classical.em _
          rcases hor2 with ⟨hqs, h48, h55⟩ | hex2
          · have hget := get_eq s q hqs
            have hub := (s[q]).toNat_lt
            have HGD := Lib.hid (show (s.data.toList.drop k).getD (q - k) 0 = s[q] by rw [drop_getD, show k + (q - k) = q by have := hkq.out; omega]; exact hget)
            have HNX := Lib.hid (octVal_next (l := s.data.toList.drop k) (j := q - k) (by rw [List.length_drop]; have := HSL.out; have := hkq.out; omega))
            clear hget
            go_wp2_with fail
            refine ⟨⟨q + 1, (by have := hkq.out; show _ ≤ _; omega), by omega, by rw [Int.natCast_add]; rfl, fun i hi => ?_, ?_, hbel2⟩, by simp [intOf]; omega⟩
            · by_cases hik : i < q - k
              · exact hoct.out i hik
              · obtain rfl : i = q - k := by omega
                rw [HGD.out]
                unfold isOct
                rw [decide_eq_true (by omega), decide_eq_true (by omega)]
                rfl
            · rw [show q + 1 - k = q - k + 1 by have := hkq.out; omega, HNX.out, HGD.out, HX.out]
              exact congrArg (Value.int .i64) (by omega)
          · have HR := Lib.hid (show (numD s.data.toList).takeWhile isOct = (s.data.toList.drop k).take (q - k) by
              rw [HD.out]
              refine takeWhile_eq (by rw [List.length_drop]; have := HSL.out; have := hkq.out; omega) hoct.out (fun hlt3 => ?_)
              rw [List.length_drop] at hlt3
              have hq2 : q < s.size := by have := HSL.out; have := hkq.out; omega
              rw [drop_getD, show k + (q - k) = q by have := hkq.out; omega, get_eq s q hq2]
              rw [← Bool.not_eq_true]
              intro hoc
              unfold isOct at hoc
              rw [Bool.and_eq_true, decide_eq_true_eq, decide_eq_true_eq] at hoc
              exact hex2 ⟨hq2, by omega, by omega⟩)
            have hq3 : (∃ hq : q < s.size, ¬ (48 : Int) ≤ (((s[q]).toNat : Nat) : Int)) ∨ (∃ hq : q < s.size, (48 : Int) ≤ (((s[q]).toNat : Nat) : Int) ∧ ¬ (((s[q]).toNat : Nat) : Int) ≤ 55) ∨ ¬ (q : Int) < (s.size : Int) := by
              by_cases hq2 : q < s.size
              · by_cases h48 : (48 : Int) ≤ (((s[q]).toNat : Nat) : Int)
                · exact .inr (.inl ⟨hq2, h48, fun h55 => hex2 ⟨hq2, h48, h55⟩⟩)
                · exact .inl ⟨hq2, h48⟩
              · exact .inr (.inr (by omega))
            clear hex2 hoct
            rcases hq3 with ⟨hq2, h48⟩ | ⟨hq2, h48, h55⟩ | hq2
            all_goals
              by_cases hj0 : (q : Int) = (k : Int)
              · obtain rfl : q = k := by omega
                have HV := Lib.hid (numV_no HD.out HR.out (by omega))
                clear hj0
                first
                  | (go_wp2_with fail; go_ret2; exact ⟨congrArg Ending.returned HV.out.symm, hbel2.out⟩)
                  | (exfalso; omega)
              · have hjp : 0 < q - k := by have := hkq.out; omega
                have hbq : ((q : Int) == (k : Int)) = false := by rw [beq_eq_false_iff_ne]; exact hj0
                go_wp2_with fail
                go_loopw [4] (fun iv ws => ∃ t : Nat, Hid (k + (q - k) ≤ t) ∧ (t : Int) ≤ (s.size : Int) ∧ iv = .int .i64 t ∧ Hid (∀ i, k + (q - k) ≤ i → i < t → s.data.toList.getD i 0 = 0 ∨ s.data.toList.getD i 0 = 32) ∧ Hid (Below w.heap.size w ws)) (fun iv _ => s.size - (intOf iv).toNat)
                case atStart => exact ⟨q, (by have := hkq.out; show _ ≤ _; omega), by omega, rfl, (fun i h1 h2 => absurd h1 (by have := hkq.out; omega)), hbel2⟩
                case round =>
                  obtain ⟨t, ht1, ht2, rfl, hno3, hbel3⟩ := hrel
                  by_cases htl : (t : Int) < (s.size : Int)
                  · have hts : t < s.size := by omega
                    have hget3 := get_eq s t hts
                    by_cases hz0 : s.data.toList.getD t 0 = 0
                    · rw [hz0] at hget3
                      have h03 : (s[t]).toNat = 0 := by rw [← hget3]; rfl
                      have HZ := Lib.hid hz0
                      clear hget3 hz0
                      go_wp2_with fail
                      refine ⟨⟨t + 1, (by have := ht1.out; show _ ≤ _; omega), by omega, by rw [Int.natCast_add]; rfl, fun i h1 h2 => ?_, hbel3⟩, by simp [intOf]; omega⟩
                      by_cases hik : i < t
                      · exact hno3.out i h1 hik
                      · obtain rfl : i = t := by omega
                        exact .inl HZ.out
                    · by_cases hz1 : s.data.toList.getD t 0 = 32
                      · rw [hz1] at hget3
                        have h03 : (s[t]).toNat = 32 := by rw [← hget3]; rfl
                        have HZ := Lib.hid hz1
                        clear hget3 hz0 hz1
                        go_wp2_with fail
                        refine ⟨⟨t + 1, (by have := ht1.out; show _ ≤ _; omega), by omega, by rw [Int.natCast_add]; rfl, fun i h1 h2 => ?_, hbel3⟩, by simp [intOf]; omega⟩
                        by_cases hik : i < t
                        · exact hno3.out i h1 hik
                        · obtain rfl : i = t := by omega
                          exact .inr HZ.out
                      · have h03 : ¬ (s[t]).toNat = 0 := fun e => hz0 (by rw [hget3]; exact UInt8.toNat_inj.1 e)
                        have h04 : ¬ (s[t]).toNat = 32 := fun e => hz1 (by rw [hget3]; exact UInt8.toNat_inj.1 e)
                        have hb3 : ((((s[t]).toNat : Nat) : Int) == 0) = false := by rw [beq_eq_false_iff_ne]; omega
                        have hb4 : ((((s[t]).toNat : Nat) : Int) == 32) = false := by rw [beq_eq_false_iff_ne]; omega
                        have HV := Lib.hid (numV_bad HD.out HR.out ht1.out (by have := HSL.out; omega) hz0 hz1)
                        clear hget3 hz0 hz1
                        first
                          | (go_wp2_with fail; done)
                          | (go_wp2_with fail; go_ret2; exact ⟨congrArg Ending.returned HV.out.symm, hbel3.out⟩; done)
                          | (go_wp2_with fail; go_ret2; exact ⟨congrArg Ending.returned HV.out.symm, hbel3.out⟩; all_goals (exfalso; first | omega | simp_all))
                          | (go_wp2_with fail; trace_state; all_goals (exfalso; first | omega | simp_all))
                  · have HV := Lib.hid (numV_yes HD.out HR.out hjp (by have := HSL.out; have := hkq.out; omega) (fun i h1 h2 => hno3.out i h1 (by have := HSL.out; omega)))
                    rw [HX.out] at HV
                    go_wp2_with fail
                    go_ret2
                    exact ⟨congrArg Ending.returned HV.out.symm, hbel3.out⟩
end Go.Proofs.YthpmocfdnoehoaaGreatDoor
