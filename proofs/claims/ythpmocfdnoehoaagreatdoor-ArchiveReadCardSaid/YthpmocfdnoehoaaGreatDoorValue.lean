/- Contract of ustar.value: a number's field read. -/
import Derived.Test.YthpmocfdnoehoaaGreatDoorField
namespace Go.Proofs.YthpmocfdnoehoaaGreatDoor
open Go.RowKit
def isOct (b : UInt8) : Bool := decide (48 ≤ b.toNat) && decide (b.toNat ≤ 55)
def octVal (l : Bs) : Int := l.foldl (fun x b => 8 * x + ((b.toNat : Int) - 48)) 0
theorem octVal_snoc (l : Bs) (b : UInt8) : octVal (l ++ [b]) = 8 * octVal l + ((b.toNat : Int) - 48) := by simp [octVal]
theorem octVal_bd : ∀ (n : Nat) (l : Bs), l.length = n → (∀ b ∈ l, isOct b = true) → 0 ≤ octVal l ∧ octVal l < 8 ^ n := by
  intro n
  induction n with
  | zero => intro l hl _; rw [List.eq_nil_of_length_eq_zero hl]; simp [octVal]
  | succ n ih =>
    intro l hl h
    have hne : l ≠ [] := by intro e; subst e; simp at hl
    have e := (List.dropLast_concat_getLast hne).symm
    have h1 := ih l.dropLast (by simp; omega) (fun b hb => h b (List.dropLast_subset _ hb))
    have h2 := h _ (List.getLast_mem hne)
    simp only [isOct, Bool.and_eq_true, decide_eq_true_eq] at h2
    rw [e, octVal_snoc]
    have : (8 : Int) ^ (n + 1) = 8 * 8 ^ n := by rw [Int.pow_succ, Int.mul_comm]
    omega
/-- Behind the blanks ahead. -/
def numD (l : Bs) : Bs := l.dropWhile (· == 32)
/-- The digits. -/
def numR (l : Bs) : Bs := (numD l).takeWhile isOct
def numX (l : Bs) : Int := octVal (numR l)
def numOk (l : Bs) : Bool := decide (0 < (numR l).length) && ((numD l).drop (numR l).length).all (fun b => b == 32 || b == 0)
theorem takeWhile_at {α : Type} (p : α → Bool) : ∀ (l : List α) (k : Nat) (x : α), k < (l.takeWhile p).length → l[k]? = some x → p x = true
  | [], k, x, h, _ => by simp at h
  | a :: l, k, x, h, hx => by
    rw [List.takeWhile_cons] at h
    split at h
    · rename_i ha
      cases k with
      | zero => simp at hx; rw [← hx]; exact ha
      | succ k => exact takeWhile_at p l k x (by simpa using h) (by simpa using hx)
    · simp at h
theorem takeWhile_end {α : Type} (p : α → Bool) : ∀ (l : List α) (x : α), l[(l.takeWhile p).length]? = some x → p x = false
  | [], x, h => by simp at h
  | a :: l, x, h => by
    rw [List.takeWhile_cons] at h
    split at h
    · exact takeWhile_end p l x (by simpa using h)
    · rename_i ha
      simp at h
      rw [← h]; simpa using ha
theorem takeWhile_take {α : Type} (p : α → Bool) : ∀ (l : List α), l.takeWhile p = l.take (l.takeWhile p).length
  | [] => by simp
  | a :: l => by
    rw [List.takeWhile_cons]
    split
    · rw [List.length_cons, List.take_succ_cons, ← takeWhile_take p l]
    · simp
theorem dropWhile_nil {p : UInt8 → Bool} : ∀ {l : Bs}, l.dropWhile p = [] ↔ l.all p = true
  | [] => by simp
  | a :: l => by
    rw [List.dropWhile_cons]
    split
    · rename_i h; rw [dropWhile_nil]; simp [h]
    · rename_i h; simp at h; simp [h]
theorem trimS_nil (l cs : Bs) : Lib.trimS l cs = [] ↔ l.all (cs.contains ·) = true := by
  unfold Lib.trimS Lib.trimLeftS Lib.trimRightS
  constructor
  · intro h
    rw [dropWhile_nil] at h
    have h1 : (l.reverse.dropWhile (cs.contains ·)).reverse.all (cs.contains ·) = true := h
    rw [List.all_reverse] at h1
    cases hd : l.reverse.dropWhile (cs.contains ·) with
    | nil => rw [dropWhile_nil, List.all_reverse] at hd; exact hd
    | cons a r =>
      exfalso
      rw [hd] at h1
      have ha : cs.contains a = true := by simp at h1 ⊢; exact h1.1
      have h3 : ∀ (m : Bs) (a : UInt8) (r : Bs), m.dropWhile (cs.contains ·) = a :: r → cs.contains a = false := by
        intro m
        induction m with
        | nil => intro a r h; simp at h
        | cons x m ih =>
          intro a r h
          rw [List.dropWhile_cons] at h
          split at h
          · exact ih a r h
          · rename_i hx
            simp only [List.cons.injEq] at h
            rw [← h.1]; simpa using hx
      rw [h3 _ _ _ hd] at ha
      cases ha
  · intro h
    have h2 : l.reverse.dropWhile (cs.contains ·) = [] := dropWhile_nil.2 (by rw [List.all_reverse]; exact h)
    rw [h2]
    rfl
theorem trim_any (s : ByteArray) (w : World) (hs : s.size ≤ 9223372036854775807) :
    Calls Tryz.prog 88 #[.string s, .string ⟨#[32, 0]⟩] w fun e w' => e = .returned (.string ⟨(Lib.trimS s.data.toList [32, 0]).toArray⟩) ∧ Below w.heap.size w w' :=
  Any.strings_Trim_laid Tryz.lays160 (by kernel_rfl) s ⟨#[32, 0]⟩ w hs (by decide) (ascii_of_all (by decide))
theorem cont2 : (fun x : UInt8 => List.contains [32, 0] x) = fun b => b == 32 || b == 0 := by
  funext b
  show (b == 32 || (b == 0 || false)) = _
  rw [Bool.or_false]
theorem ret_xb {x y : Int} {a b : Bool} (h : x = y) (g : a = b) : Ending.returned (.tuple #[.int .i64 x, .bool a]) = .returned (.tuple #[.int .i64 y, .bool b]) := by rw [h, g]
theorem trim_yes (s : ByteArray) (w : World) (hs : s.size ≤ 9223372036854775807) (h : s.data.toList.all (fun b => b == 32 || b == 0) = true) :
    Calls Tryz.prog 88 #[.string s, .string ⟨#[32, 0]⟩] w fun e w' => e = .returned (.string ⟨#[]⟩) ∧ Below w.heap.size w w' := by
  refine (trim_any s w hs).mono fun e w' ⟨he, hw⟩ => ⟨?_, hw⟩
  rw [he, (trimS_nil s.data.toList [32, 0]).2 (by rw [cont2]; exact h)]
theorem trim_no (s : ByteArray) (w : World) (hs : s.size ≤ 9223372036854775807) (h : s.data.toList.all (fun b => b == 32 || b == 0) = false) :
    ∃ t : ByteArray, t.toList.isEmpty = false ∧ Calls Tryz.prog 88 #[.string s, .string ⟨#[32, 0]⟩] w fun e w' => e = .returned (.string t) ∧ Below w.heap.size w w' := by
  refine ⟨_, ?_, trim_any s w hs⟩
  have : Lib.trimS s.data.toList [32, 0] ≠ [] := fun e => by
    rw [trimS_nil] at e
    rw [cont2, h] at e
    cases e
  rw [Lib.toList_data]
  simpa using this
theorem numR_le (l : Bs) : (numR l).length ≤ (numD l).length := by unfold numR; exact (List.takeWhile_sublist _).length_le
theorem numD_le (l : Bs) : (numD l).length ≤ l.length := by unfold numD; exact (List.dropWhile_sublist _).length_le
theorem num_zero (l : Bs) (d : ByteArray) (_hd : d.data.toList = numD l) (h : (numR l).length = 0) : numX l = 0 ∧ numOk l = false := by
  have h1 := List.eq_nil_of_length_eq_zero h
  constructor
  · rw [numX, h1]; rfl
  · rw [numOk, h1]; rfl
theorem num_some (l : Bs) (d : ByteArray) {k : Nat} (hd : d.data.toList = numD l) (h : (numR l).length = k) (hk : k ≠ 0) :
    numX l = octVal (d.data.toList.take k) ∧ numOk l = (d.extract k d.size).data.toList.all (fun b => b == 32 || b == 0) := by
  constructor
  · rw [numX, hd, ← h]; unfold numR; rw [← takeWhile_take]
  · rw [numOk, h, Lib.extract_data, hd]
    have : d.size = (numD l).length := by rw [← hd]; rfl
    rw [this, List.take_of_length_le (by simp)]
    simp [Nat.pos_of_ne_zero hk]
set_option maxHeartbeats 800000 in
set_option maxRecDepth 100000 in
theorem value_any (s : ByteArray) (w : World) (hs : s.size ≤ 12) :
    Calls Tryz.prog 85 #[.string s] w fun e w' => e = .returned (.tuple #[.int .i64 (numX s.data.toList), .bool (numOk s.data.toList)]) ∧ Below w.heap.size w w' := by
  go_enter Tryz.func85, Tryz.ntmps85
  go_wp2_with fail
  refine (Tryz.strings_TrimLeft_one s 32 (by decide) _).mono ?_
  rintro e w' ⟨rfl, rfl⟩
  have hdl := numD_le s.data.toList
  obtain ⟨d, hd⟩ : ∃ d : ByteArray, (⟨(Lib.trimLeftB s.data.toList 32).toArray⟩ : ByteArray) = d := ⟨_, rfl⟩
  rw [hd]
  have hdd : d.data.toList = numD s.data.toList := by rw [← hd]; rfl
  have hds : d.size ≤ 12 := by
    have : d.size = (numD s.data.toList).length := by rw [← hdd]; rfl
    have h2 : s.data.toList.length = s.size := rfl
    omega
  have hrl := numR_le s.data.toList
  obtain ⟨q, hq⟩ : ∃ q, (numR s.data.toList).length = q := ⟨_, rfl⟩
  have hqd : q ≤ d.size := by
    have : d.size = (numD s.data.toList).length := by rw [← hdd]; rfl
    omega
  have HD := Lib.hid hdd
  have HQ := Lib.hid hq
  clear hd hdd hq hdl hrl
  go_wp2_with fail
  go_loopw [4, 5] (fun xv nv wr => ∃ (k : Nat) (x : Int), k ≤ q ∧ 0 ≤ x ∧ Hid (x < 8 ^ k) ∧ Hid (x = octVal (d.data.toList.take k)) ∧ nv = .int .i64 k ∧ xv = .int .i64 x ∧ wr = w')
    (fun _ nv _ => d.size - (intOf nv).toNat)
  case atStart => exact ⟨0, 0, Nat.zero_le _, Int.le_refl _, show (0 : Int) < 8 ^ 0 by decide, rfl, rfl, rfl, rfl⟩
  case round =>
    obtain ⟨k, x, hk, hx0, hx8, hx, rfl, rfl, rfl⟩ := hrel
    have hxb : k ≤ 11 → x ≤ 8589934591 := by
      intro hk11
      have h1 := hx8.out
      have h2 : (8 : Int) ^ k ≤ 8 ^ 11 := by exact_mod_cast Nat.pow_le_pow_right (by decide) hk11
      have h3 : (8 : Int) ^ 11 = 8589934592 := by decide
      omega
    by_cases hlt : k < d.size
    · have hgk : d.data.toList[k]? = some d[k] := by
        rw [List.getElem?_eq_getElem (by simpa using hlt)]
        rfl
      obtain ⟨c, hc⟩ : ∃ c, d[k] = c := ⟨_, rfl⟩
      rw [hc] at hgk
      have hcl := c.toNat_lt
      by_cases hkq : k < q
      · have hoct : isOct c = true := takeWhile_at isOct (numD s.data.toList) k c (by have := HQ.out; unfold numR at this; omega) (by rw [← HD.out]; exact hgk)
        simp only [isOct, Bool.and_eq_true, decide_eq_true_eq] at hoct
        have hxb := hxb (by omega)
        have HG := Lib.hid hgk
        clear hgk
        go_wp2_with fail
        go_roundw
        case rel =>
          refine ⟨k + 1, 8 * x + ((c.toNat : Int) - 48), by omega, by omega, ?_, ?_, by go_num, rfl, trivial⟩
          · show 8 * x + ((c.toNat : Int) - 48) < 8 ^ (k + 1)
            have h1 := hx8.out
            rw [Int.pow_succ]
            omega
          · show 8 * x + ((c.toNat : Int) - 48) = octVal (d.data.toList.take (k + 1))
            rw [List.take_add_one, HG.out, Option.toList_some, octVal_snoc, ← hx.out]
        case measure => simp [intOf]; omega
      · have hkq' : k = q := by omega
        have h1 := HQ.out
        unfold numR at h1
        have hno : isOct c = false := takeWhile_end isOct (numD s.data.toList) c (by rw [h1, ← HD.out, ← hkq']; exact hgk)
        simp only [isOct, Bool.and_eq_false_iff, decide_eq_false_iff_not] at hno
        subst hkq'
        clear h1 hgk hkq hxb
        by_cases hq0 : k = 0
        · subst hq0
          have HX := Lib.hid (num_zero s.data.toList d HD.out HQ.out)
          obtain rfl : x = 0 := by rw [hx.out]; rfl
          clear hx hx8
          by_cases hlo : c.toNat < 48
          · go_wp2_with fail
            go_ret2
            exact ⟨ret_xb HX.out.1.symm HX.out.2.symm, Below.refl _ _⟩
          · have hhi : 55 < c.toNat := by omega
            go_wp2_with fail
            go_ret2
            exact ⟨ret_xb HX.out.1.symm HX.out.2.symm, Below.refl _ _⟩
        · have hX := num_some s.data.toList d HD.out HQ.out hq0
          have HX1 := Lib.hid hX.1
          have hX2 := hX.2
          clear hX
          cases hall : (d.extract k d.size).data.toList.all (fun b => b == 32 || b == 0) with
          | true =>
            rw [hall] at hX2
            have HX2 := Lib.hid hX2
            have HA := Lib.hid hall
            clear hX2 hall
            by_cases hlo : c.toNat < 48
            · go_wp2_with fail
              refine (trim_yes _ _ (by simp; omega) HA.out).mono ?_
              rintro e w1 ⟨rfl, hb1⟩
              have HB := Lib.hid hb1
              clear hb1
              go_wp2_with fail
              go_ret2
              exact ⟨ret_xb (hx.out.trans HX1.out.symm) HX2.out.symm, HB.out⟩
            · have hhi : 55 < c.toNat := by omega
              go_wp2_with fail
              refine (trim_yes _ _ (by simp; omega) HA.out).mono ?_
              rintro e w1 ⟨rfl, hb1⟩
              have HB := Lib.hid hb1
              clear hb1
              go_wp2_with fail
              go_ret2
              exact ⟨ret_xb (hx.out.trans HX1.out.symm) HX2.out.symm, HB.out⟩
          | false =>
            rw [hall] at hX2
            have HX2 := Lib.hid hX2
            have HA := Lib.hid hall
            clear hX2 hall
            by_cases hlo : c.toNat < 48
            · go_wp2_with fail
              obtain ⟨t, ht, hc⟩ := trim_no _ wr (by simp; omega) HA.out
              refine hc.mono ?_
              clear hc
              rintro e w1 ⟨rfl, hb1⟩
              have HB := Lib.hid hb1
              clear hb1
              go_wp2_with fail
              go_ret2
              exact ⟨ret_xb (hx.out.trans HX1.out.symm) HX2.out.symm, HB.out⟩
            · have hhi : 55 < c.toNat := by omega
              go_wp2_with fail
              obtain ⟨t, ht, hc⟩ := trim_no _ wr (by simp; omega) HA.out
              refine hc.mono ?_
              clear hc
              rintro e w1 ⟨rfl, hb1⟩
              have HB := Lib.hid hb1
              clear hb1
              go_wp2_with fail
              go_ret2
              exact ⟨ret_xb (hx.out.trans HX1.out.symm) HX2.out.symm, HB.out⟩
    · have hkq' : k = q := by omega
      have hkd : k = d.size := by omega
      subst hkq'
      clear hxb
      by_cases hq0 : k = 0
      · subst hq0
        have HX := Lib.hid (num_zero s.data.toList d HD.out HQ.out)
        obtain rfl : x = 0 := by rw [hx.out]; rfl
        clear hx hx8
        have hkd2 : d.size ≤ 0 := by omega
        clear hkd
        go_wp2_with fail
        go_ret2
        exact ⟨ret_xb HX.out.1.symm HX.out.2.symm, Below.refl _ _⟩
      · have hX := num_some s.data.toList d HD.out HQ.out hq0
        have HX1 := Lib.hid hX.1
        have hall : (d.extract k d.size).data.toList.all (fun b => b == 32 || b == 0) = true := by
          rw [Lib.extract_data, hkd]; simp
        have HX2 := Lib.hid (hX.2.trans hall)
        have HA := Lib.hid hall
        have hkd1 : k ≤ d.size := by omega
        have hkd2 : d.size ≤ k := by omega
        clear hX hall hkd
        go_wp2_with fail
        refine (trim_yes _ _ (by simp; omega) HA.out).mono ?_
        rintro e w1 ⟨rfl, hb1⟩
        have HB := Lib.hid hb1
        clear hb1
        go_wp2_with fail
        go_ret2
        exact ⟨ret_xb (hx.out.trans HX1.out.symm) HX2.out.symm, HB.out⟩
end Go.Proofs.YthpmocfdnoehoaaGreatDoor
