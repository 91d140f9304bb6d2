/- Plain: a header that was written is read as it was. -/
import Derived.Test.YthpmocfdnoehoaaGreatDoorMem
import Derived.Test.YthpmocfdnoehoaaGreatDoorDecode
namespace Go.Proofs.YthpmocfdnoehoaaGreatDoor
open Go.RowKit
theorem fld_get (l : Bs) (a b k : Nat) : (fld l a b)[k]? = if k < b - a then l[a + k]? else none := by
  unfold fld
  rw [List.getElem?_take]
  split
  · rw [List.getElem?_drop]
  · rfl
theorem over_get {l s : Bs} {i : Nat} (h : i + s.length ≤ l.length) (k : Nat) : (over l i s)[k]? = if i ≤ k ∧ k < i + s.length then s[k - i]? else l[k]? := by
  unfold over
  rw [List.append_assoc, List.getElem?_append, List.length_take, Nat.min_eq_left (by omega)]
  by_cases h1 : k < i
  · rw [if_pos h1, if_neg (by omega), List.getElem?_take, if_pos h1]
  · rw [if_neg h1, List.getElem?_append]
    by_cases h2 : k - i < s.length
    · rw [if_pos h2, if_pos (by omega)]
    · rw [if_neg h2, if_neg (by omega), List.getElem?_drop]
      congr 1
      omega
theorem fld_out {l s : Bs} {i a b : Nat} (h : i + s.length ≤ l.length) (hd : b ≤ i ∨ i + s.length ≤ a) : fld (over l i s) a b = fld l a b := by
  apply List.ext_getElem?
  intro k
  rw [fld_get, fld_get]
  split
  · rw [over_get h, if_neg (by omega)]
  · rfl
theorem fld_in {l s : Bs} {a b : Nat} (h : a + s.length ≤ b) (hb : b ≤ l.length) : fld (over l a s) a b = s ++ fld l (a + s.length) b := by
  apply List.ext_getElem?
  intro k
  rw [fld_get, List.getElem?_append, fld_get]
  by_cases h1 : k < s.length
  · rw [if_pos (by omega), over_get (by omega), if_pos (by omega), if_pos h1]
    congr 1
    omega
  · rw [if_neg h1]
    by_cases h2 : k < b - a
    · rw [if_pos h2, over_get (by omega), if_neg (by omega), if_pos (by omega)]
      congr 1
      omega
    · rw [if_neg h2, if_neg (by omega)]
/-- Pieces laid one over another. -/
def lay (L : List (Nat × Bs)) (l : Bs) : Bs := L.foldl (fun l p => over l p.1 p.2) l
theorem lay_len : ∀ (L : List (Nat × Bs)) (l : Bs), l.length = 512 → (∀ p ∈ L, p.1 + p.2.length ≤ 512) → (lay L l).length = 512
  | [], _, h, _ => h
  | p :: L, l, h, hp => lay_len L _ (by have := hp p (List.mem_cons_self ..); rw [over_length (by omega), h]) (fun q hq => hp q (List.mem_cons_of_mem _ hq))
theorem lay_out (a b : Nat) : ∀ (L : List (Nat × Bs)) (l : Bs), l.length = 512 → (∀ p ∈ L, p.1 + p.2.length ≤ 512) → (∀ p ∈ L, b ≤ p.1 ∨ p.1 + p.2.length ≤ a) → fld (lay L l) a b = fld l a b
  | [], _, _, _, _ => rfl
  | p :: L, l, h, hp, hd => by
    have h1 := hp p (List.mem_cons_self ..)
    show fld (lay L (over l p.1 p.2)) a b = _
    rw [lay_out a b L _ (by rw [over_length (by omega), h]) (fun q hq => hp q (List.mem_cons_of_mem _ hq)) (fun q hq => hd q (List.mem_cons_of_mem _ hq)), fld_out (by omega) (hd p (List.mem_cons_self ..))]
theorem fld_z512 (a b : Nat) (h : b ≤ 512) : fld z512 a b = List.replicate (b - a) 0 := by
  unfold fld z512
  rw [List.drop_replicate, List.take_replicate, Nat.min_eq_left (by omega)]
theorem lay_fld (pre post : List (Nat × Bs)) (a b : Nat) (s : Bs) (h0 : ∀ p ∈ pre, p.1 + p.2.length ≤ 512) (h3 : ∀ p ∈ post, p.1 + p.2.length ≤ 512) (h1 : ∀ p ∈ pre, b ≤ p.1 ∨ p.1 + p.2.length ≤ a + s.length) (h2 : ∀ p ∈ post, b ≤ p.1 ∨ p.1 + p.2.length ≤ a) (hs : a + s.length ≤ b) (hb : b ≤ 512) :
    fld (lay (pre ++ (a, s) :: post) z512) a b = s ++ List.replicate (b - a - s.length) 0 := by
  have e : lay (pre ++ (a, s) :: post) z512 = lay post (over (lay pre z512) a s) := by unfold lay; rw [List.foldl_append]; rfl
  have hl := lay_len pre z512 z512_len h0
  rw [e, lay_out a b post _ (by rw [over_length (by omega), hl]) h3 h2, fld_in hs (by omega), lay_out _ b pre _ z512_len h0 h1, fld_z512 _ _ hb]
  congr 2
  omega
theorem over_over {l s t : Bs} {i : Nat} (h : i + (s ++ t).length ≤ l.length) : over (over l i s) (i + s.length) t = over l i (s ++ t) := by
  rw [List.length_append] at h
  apply List.ext_getElem?
  intro k
  rw [over_get (by rw [over_length (by omega)]; omega), over_get (by omega), over_get (by rw [List.length_append]; omega), List.length_append]
  by_cases h1 : i + s.length ≤ k ∧ k < i + s.length + t.length
  · rw [if_pos h1, if_pos (by omega), List.getElem?_append_right (by omega)]
    congr 1
    omega
  · rw [if_neg h1]
    by_cases h2 : i ≤ k ∧ k < i + s.length
    · rw [if_pos h2, if_pos (by omega), List.getElem?_append_left (by omega)]
    · rw [if_neg h2, if_neg (by omega)]
/-- The pieces of a header. -/
@[reducible] def hdrL (h : Hdr) (pre name : Bs) : List (Nat × Bs) :=
  [(0, name), (100, octal 7 h.mode), (108, octal 7 h.uid), (116, octal 7 h.gid), (124, octal 11 h.size), (136, octal 11 h.time), (156, [h.typ]), (157, h.link.data.toList), (257, [117, 115, 116, 97, 114, 0, 48, 48]), (265, h.user.data.toList), (297, h.group.data.toList), (329, octal 7 h.major), (337, octal 7 h.minor), (345, pre)]
theorem chain_lay (h : Hdr) (pre name : Bs) : chain h pre name = lay (hdrL h pre name) z512 := rfl
theorem hdrL_fit {h : Hdr} {pre name : Bs} (hp : pre.length ≤ 155) (hn : name.length ≤ 100) (hk : h.link.data.toList.length ≤ 100) (hu : h.user.data.toList.length ≤ 31) (hg : h.group.data.toList.length ≤ 31) : ∀ p ∈ hdrL h pre name, p.1 + p.2.length ≤ 512 := by
  simp only [List.forall_mem_cons, octal_length, List.length_cons, List.length_nil]
  refine ⟨?_, ?_, ?_, ?_, ?_, ?_, ?_, ?_, ?_, ?_, ?_, ?_, ?_, ?_, fun _ h => nomatch h⟩ <;> omega
theorem hdrBytes_lay {h : Hdr} {pre name : Bs} (hp : pre.length ≤ 155) (hn : name.length ≤ 100) (hk : h.link.data.toList.length ≤ 100) (hu : h.user.data.toList.length ≤ 31) (hg : h.group.data.toList.length ≤ 31) :
    hdrBytes h pre name = lay (hdrL h pre name ++ [(148, octal 6 (sumTo (chain h pre name) 512) ++ [0, 32])]) z512 := by
  have hc : (chain h pre name).length = 512 := by rw [chain_lay]; exact lay_len _ _ z512_len (hdrL_fit hp hn hk hu hg)
  have e := over_over (l := chain h pre name) (s := octal 6 (sumTo (chain h pre name) 512)) (t := [0, 32]) (i := 148) (by simp [octal_length]; omega)
  rw [octal_length] at e
  unfold hdrBytes lay
  rw [List.foldl_append]
  exact e
theorem oct_byte (x : Int) : isOct (48 + x % 8).toNat.toUInt8 = true ∧ (((48 + x % 8).toNat.toUInt8).toNat : Int) = 48 + x % 8 := by
  have h : ((48 + x % 8).toNat.toUInt8).toNat = (48 + x % 8).toNat := by
    rw [Nat.toUInt8, UInt8.toNat_ofNat']
    exact Nat.mod_eq_of_lt (by omega)
  refine ⟨?_, by rw [h]; omega⟩
  unfold isOct
  rw [h]
  simp only [Bool.and_eq_true, decide_eq_true_eq]
  omega
theorem octal_isOct (d : Nat) : ∀ x, ∀ b ∈ octal d x, isOct b = true := by
  induction d with
  | zero => intro x b hb; cases hb
  | succ d ih =>
    intro x b hb
    rw [octal, List.mem_append] at hb
    rcases hb with hb | hb
    · exact ih _ b hb
    · rw [List.mem_singleton] at hb
      rw [hb]
      exact (oct_byte x).1
theorem octVal_octal (d : Nat) : ∀ x : Int, 0 ≤ x → x < 8 ^ d → octVal (octal d x) = x := by
  induction d with
  | zero => intro x h0 h1; simp at h1; simp [octal, octVal]; omega
  | succ d ih =>
    intro x h0 h1
    have : (8 : Int) ^ (d + 1) = 8 * 8 ^ d := by rw [Int.pow_succ, Int.mul_comm]
    rw [octal, octVal_snoc, ih (x / 8) (by omega) (by omega), (oct_byte x).2]
    omega
theorem num_octal (d : Nat) (x : Int) (z : Bs) (hd : 0 < d) (h0 : 0 ≤ x) (h1 : x < 8 ^ d) (hz : ∀ b ∈ z, b = 32 ∨ b = 0) : numX (octal d x ++ z) = x ∧ numOk (octal d x ++ z) = true := by
  have ho := octal_isOct d x
  have hl := octal_length d x
  have hD : numD (octal d x ++ z) = octal d x ++ z := by
    unfold numD
    cases hc : octal d x with
    | nil => rw [hc] at hl; simp at hl; omega
    | cons c r =>
      have := ho c (by rw [hc]; exact List.mem_cons_self ..)
      rw [List.cons_append, List.dropWhile_cons, if_neg]
      intro e
      rw [beq_iff_eq] at e
      subst e
      revert this
      decide
  have hR : numR (octal d x ++ z) = octal d x := by
    unfold numR
    rw [hD, List.takeWhile_append_of_pos ho]
    have : z.takeWhile isOct = [] := by
      cases z with
      | nil => rfl
      | cons c r =>
        rw [List.takeWhile_cons, if_neg]
        rcases hz c (List.mem_cons_self ..) with rfl | rfl <;> decide
    rw [this, List.append_nil]
  refine ⟨by unfold numX; rw [hR, octVal_octal d x h0 h1], ?_⟩
  unfold numOk
  rw [hR, hD, hl, decide_eq_true hd, Bool.true_and, List.drop_append_of_le_length (by omega), List.drop_eq_nil_of_le (by omega), List.nil_append, List.all_eq_true]
  intro b hb
  rcases hz b hb with rfl | rfl <;> decide
theorem rep_z (k : Nat) : ∀ b ∈ List.replicate k (0 : UInt8), b = 32 ∨ b = 0 := fun _ h => .inr (List.eq_of_mem_replicate h)
theorem textOf_rep (s : Bs) (k : Nat) (h : ∀ b ∈ s, b ≠ 0) : textOf (s ++ List.replicate k 0) = s := by
  unfold textOf
  rw [List.takeWhile_append_of_pos (fun b hb => by simpa using h b hb)]
  cases k with
  | zero => simp
  | succ k => simp [List.replicate_succ]
theorem sumTo_congr {l l' : Bs} : ∀ n, (∀ k, k < n → ¬ (148 ≤ k ∧ k < 156) → l.getD k 0 = l'.getD k 0) → sumTo l n = sumTo l' n
  | 0, _ => rfl
  | n + 1, h => by
    rw [sumTo, sumTo, sumTo_congr n (fun k hk => h k (by omega))]
    by_cases hb : 148 ≤ n ∧ n < 156
    · rw [if_pos hb, if_pos hb]
    · rw [if_neg hb, if_neg hb, h n (by omega) hb]
theorem splitOf_join {p a b : ByteArray} (h : splitOf p = some (a, b)) : (a.data.toList = [] ∧ b = p) ∨ (a.data.toList ≠ [] ∧ p.data.toList = a.data.toList ++ [47] ++ b.data.toList) := by
  unfold splitOf at h
  split at h
  · cases h
    exact .inl ⟨rfl, rfl⟩
  · rename_i h1
    split at h
    · cases h
    · rename_i h2
      right
      simp only [not_or] at h2
      obtain ⟨k, hk⟩ : ∃ k : Nat, Lib.indexByte (win p) 47 = k := ⟨(Lib.indexByte (win p) 47).toNat, by omega⟩
      have hs := (Lib.indexByte_some hk).1
      rw [hk] at h h2
      simp only [Option.some.injEq, Prod.mk.injEq, Int.toNat_natCast] at h
      obtain ⟨rfl, rfl⟩ := h
      have hpl : p.data.toList.length = p.size := rfl
      have hw : p.data.toList[p.size - 100 - 1 + k]? = some 47 := by
        unfold win at hs
        rw [List.getElem?_take] at hs
        split at hs
        · rw [List.getElem?_drop] at hs
          exact hs
        · cases hs
      have hlt := (List.getElem?_eq_some_iff.1 hw).1
      rw [Lib.extract_data, Lib.extract_data, List.drop_zero, Nat.sub_zero]
      refine ⟨fun e => ?_, ?_⟩
      · have h4 : (List.take (p.size - 100 - 1 + k) p.data.toList).length = 0 := by rw [e]; rfl
        rw [List.length_take, hpl] at h4
        omega
      · have h3 := (List.getElem?_eq_some_iff.1 hw).2
        rw [List.take_of_length_le (l := List.drop _ _) (by rw [List.length_drop]; omega), List.append_assoc, List.singleton_append, ← h3, List.getElem_cons_drop, List.take_append_drop]
set_option linter.unusedSimpArgs false in
theorem hdr_back {h : Hdr} (he : encErr h = 0) : decErrM (encOf h) = 0 ∧ decHdr (encOf h) = h := by
  obtain ⟨pre, name, hs, hw, hk, h7, h11, e, hp, hn, hu, hg⟩ := enc_ok he
  have hj := splitOf_join hs
  simp only [wrongB, Bool.or_eq_false_iff, nulIn, List.contains_eq_mem, decide_eq_false_iff_not] at hw
  simp only [nums7, nums11, inB, Bool.and_eq_true, decide_eq_true_eq] at h7 h11
  obtain ⟨⟨⟨⟨⟨wp, wl⟩, wu⟩, wg⟩, -⟩, -⟩ := hw
  obtain ⟨⟨⟨⟨⟨m0, m1⟩, ⟨u0, u1⟩⟩, ⟨g0, g1⟩⟩, ⟨j0, j1⟩⟩, ⟨n0, n1⟩⟩ := h7
  obtain ⟨⟨s0, s1⟩, ⟨t0, t1⟩⟩ := h11
  have np : (∀ b ∈ pre.data.toList, b ≠ 0) ∧ (∀ b ∈ name.data.toList, b ≠ 0) := by
    rcases hj with ⟨h1, rfl⟩ | ⟨_, h2⟩
    · refine ⟨by rw [h1]; exact (fun _ hb => by cases hb), fun b hb e => wp (by rw [← e]; exact hb)⟩
    · refine ⟨fun b hb e => wp ?_, fun b hb e => wp ?_⟩
      · rw [h2, List.mem_append, List.mem_append]; exact .inl (.inl (by rw [← e]; exact hb))
      · rw [h2, List.mem_append]; exact .inr (by rw [← e]; exact hb)
  have hp' : pre.data.toList.length ≤ 155 := hp
  have hn' : name.data.toList.length ≤ 100 := hn
  have hk' : h.link.data.toList.length ≤ 100 := hk
  have hu' : h.user.data.toList.length ≤ 31 := hu
  have hg' : h.group.data.toList.length ≤ 31 := hg
  have hb := hdrBytes_lay hp' hn' hk' hu' hg'
  rw [e, hb]
  have hSb := sumTo_bd (chain h pre.data.toList name.data.toList) 512
  have hcl : (chain h pre.data.toList name.data.toList).length = 512 := by rw [chain_lay]; exact lay_len _ _ z512_len (hdrL_fit hp' hn' hk' hu' hg')
  obtain ⟨S, hS⟩ : ∃ S, sumTo (chain h pre.data.toList name.data.toList) 512 = S := ⟨_, rfl⟩
  have hSS : sumTo (lay (hdrL h pre.data.toList name.data.toList ++ [(148, octal 6 S ++ [0, 32])]) z512) 512 = S := by
    rw [← hS]
    have e2 : lay (hdrL h pre.data.toList name.data.toList ++ [(148, octal 6 (sumTo (chain h pre.data.toList name.data.toList) 512) ++ [0, 32])]) z512 = over (chain h pre.data.toList name.data.toList) 148 (octal 6 (sumTo (chain h pre.data.toList name.data.toList) 512) ++ [0, 32]) := by unfold lay; rw [List.foldl_append]; rfl
    rw [e2]
    refine sumTo_congr 512 fun k _ hk8 => ?_
    rw [List.getD_eq_getElem?_getD, List.getD_eq_getElem?_getD, over_get (by rw [hcl]; simp [octal_length]), if_neg (by simp [octal_length]; omega)]
  rw [hS] at hSb ⊢
  have F := fun (pr po : List (Nat × Bs)) (a b : Nat) (s : Bs) => lay_fld pr po a b s
  obtain ⟨l, hl⟩ : ∃ l, lay (hdrL h pre.data.toList name.data.toList ++ [(148, octal 6 S ++ [0, 32])]) z512 = l := ⟨_, rfl⟩
  have A0 : fld l 0 100 = name.data.toList ++ List.replicate (100 - 0 - (name.data.toList).length) 0 := by
    rw [← hl]; exact lay_fld [] _ 0 100 (name.data.toList) (by first | (intro _ hq; cases hq; done) | omega | ((simp only [List.append_eq, List.cons_append, List.nil_append, List.forall_mem_cons, List.not_mem_nil, false_implies, implies_true, List.length_append, octal_length, List.length_cons, List.length_nil, and_true, true_and]); (repeat' apply And.intro) <;> omega)) (by first | (intro _ hq; cases hq; done) | omega | ((simp only [List.append_eq, List.cons_append, List.nil_append, List.forall_mem_cons, List.not_mem_nil, false_implies, implies_true, List.length_append, octal_length, List.length_cons, List.length_nil, and_true, true_and]); (repeat' apply And.intro) <;> omega)) (by first | (intro _ hq; cases hq; done) | omega | ((simp only [List.append_eq, List.cons_append, List.nil_append, List.forall_mem_cons, List.not_mem_nil, false_implies, implies_true, List.length_append, octal_length, List.length_cons, List.length_nil, and_true, true_and]); (repeat' apply And.intro) <;> omega)) (by first | (intro _ hq; cases hq; done) | omega | ((simp only [List.append_eq, List.cons_append, List.nil_append, List.forall_mem_cons, List.not_mem_nil, false_implies, implies_true, List.length_append, octal_length, List.length_cons, List.length_nil, and_true, true_and]); (repeat' apply And.intro) <;> omega)) (by first | (intro _ hq; cases hq; done) | omega | ((simp only [List.append_eq, List.cons_append, List.nil_append, List.forall_mem_cons, List.not_mem_nil, false_implies, implies_true, List.length_append, octal_length, List.length_cons, List.length_nil, and_true, true_and]); (repeat' apply And.intro) <;> omega)) (by omega)
  have A100 : fld l 100 108 = octal 7 h.mode ++ List.replicate (108 - 100 - (octal 7 h.mode).length) 0 := by
    rw [← hl]; exact lay_fld [(0, name.data.toList)] _ 100 108 (octal 7 h.mode) (by first | (intro _ hq; cases hq; done) | omega | ((simp only [List.append_eq, List.cons_append, List.nil_append, List.forall_mem_cons, List.not_mem_nil, false_implies, implies_true, List.length_append, octal_length, List.length_cons, List.length_nil, and_true, true_and]); (repeat' apply And.intro) <;> omega)) (by first | (intro _ hq; cases hq; done) | omega | ((simp only [List.append_eq, List.cons_append, List.nil_append, List.forall_mem_cons, List.not_mem_nil, false_implies, implies_true, List.length_append, octal_length, List.length_cons, List.length_nil, and_true, true_and]); (repeat' apply And.intro) <;> omega)) (by first | (intro _ hq; cases hq; done) | omega | ((simp only [List.append_eq, List.cons_append, List.nil_append, List.forall_mem_cons, List.not_mem_nil, false_implies, implies_true, List.length_append, octal_length, List.length_cons, List.length_nil, and_true, true_and]); (repeat' apply And.intro) <;> omega)) (by first | (intro _ hq; cases hq; done) | omega | ((simp only [List.append_eq, List.cons_append, List.nil_append, List.forall_mem_cons, List.not_mem_nil, false_implies, implies_true, List.length_append, octal_length, List.length_cons, List.length_nil, and_true, true_and]); (repeat' apply And.intro) <;> omega)) (by first | (intro _ hq; cases hq; done) | omega | ((simp only [List.append_eq, List.cons_append, List.nil_append, List.forall_mem_cons, List.not_mem_nil, false_implies, implies_true, List.length_append, octal_length, List.length_cons, List.length_nil, and_true, true_and]); (repeat' apply And.intro) <;> omega)) (by omega)
  have A108 : fld l 108 116 = octal 7 h.uid ++ List.replicate (116 - 108 - (octal 7 h.uid).length) 0 := by
    rw [← hl]; exact lay_fld [(0, name.data.toList), (100, octal 7 h.mode)] _ 108 116 (octal 7 h.uid) (by first | (intro _ hq; cases hq; done) | omega | ((simp only [List.append_eq, List.cons_append, List.nil_append, List.forall_mem_cons, List.not_mem_nil, false_implies, implies_true, List.length_append, octal_length, List.length_cons, List.length_nil, and_true, true_and]); (repeat' apply And.intro) <;> omega)) (by first | (intro _ hq; cases hq; done) | omega | ((simp only [List.append_eq, List.cons_append, List.nil_append, List.forall_mem_cons, List.not_mem_nil, false_implies, implies_true, List.length_append, octal_length, List.length_cons, List.length_nil, and_true, true_and]); (repeat' apply And.intro) <;> omega)) (by first | (intro _ hq; cases hq; done) | omega | ((simp only [List.append_eq, List.cons_append, List.nil_append, List.forall_mem_cons, List.not_mem_nil, false_implies, implies_true, List.length_append, octal_length, List.length_cons, List.length_nil, and_true, true_and]); (repeat' apply And.intro) <;> omega)) (by first | (intro _ hq; cases hq; done) | omega | ((simp only [List.append_eq, List.cons_append, List.nil_append, List.forall_mem_cons, List.not_mem_nil, false_implies, implies_true, List.length_append, octal_length, List.length_cons, List.length_nil, and_true, true_and]); (repeat' apply And.intro) <;> omega)) (by first | (intro _ hq; cases hq; done) | omega | ((simp only [List.append_eq, List.cons_append, List.nil_append, List.forall_mem_cons, List.not_mem_nil, false_implies, implies_true, List.length_append, octal_length, List.length_cons, List.length_nil, and_true, true_and]); (repeat' apply And.intro) <;> omega)) (by omega)
  have A116 : fld l 116 124 = octal 7 h.gid ++ List.replicate (124 - 116 - (octal 7 h.gid).length) 0 := by
    rw [← hl]; exact lay_fld [(0, name.data.toList), (100, octal 7 h.mode), (108, octal 7 h.uid)] _ 116 124 (octal 7 h.gid) (by first | (intro _ hq; cases hq; done) | omega | ((simp only [List.append_eq, List.cons_append, List.nil_append, List.forall_mem_cons, List.not_mem_nil, false_implies, implies_true, List.length_append, octal_length, List.length_cons, List.length_nil, and_true, true_and]); (repeat' apply And.intro) <;> omega)) (by first | (intro _ hq; cases hq; done) | omega | ((simp only [List.append_eq, List.cons_append, List.nil_append, List.forall_mem_cons, List.not_mem_nil, false_implies, implies_true, List.length_append, octal_length, List.length_cons, List.length_nil, and_true, true_and]); (repeat' apply And.intro) <;> omega)) (by first | (intro _ hq; cases hq; done) | omega | ((simp only [List.append_eq, List.cons_append, List.nil_append, List.forall_mem_cons, List.not_mem_nil, false_implies, implies_true, List.length_append, octal_length, List.length_cons, List.length_nil, and_true, true_and]); (repeat' apply And.intro) <;> omega)) (by first | (intro _ hq; cases hq; done) | omega | ((simp only [List.append_eq, List.cons_append, List.nil_append, List.forall_mem_cons, List.not_mem_nil, false_implies, implies_true, List.length_append, octal_length, List.length_cons, List.length_nil, and_true, true_and]); (repeat' apply And.intro) <;> omega)) (by first | (intro _ hq; cases hq; done) | omega | ((simp only [List.append_eq, List.cons_append, List.nil_append, List.forall_mem_cons, List.not_mem_nil, false_implies, implies_true, List.length_append, octal_length, List.length_cons, List.length_nil, and_true, true_and]); (repeat' apply And.intro) <;> omega)) (by omega)
  have A124 : fld l 124 136 = octal 11 h.size ++ List.replicate (136 - 124 - (octal 11 h.size).length) 0 := by
    rw [← hl]; exact lay_fld [(0, name.data.toList), (100, octal 7 h.mode), (108, octal 7 h.uid), (116, octal 7 h.gid)] _ 124 136 (octal 11 h.size) (by first | (intro _ hq; cases hq; done) | omega | ((simp only [List.append_eq, List.cons_append, List.nil_append, List.forall_mem_cons, List.not_mem_nil, false_implies, implies_true, List.length_append, octal_length, List.length_cons, List.length_nil, and_true, true_and]); (repeat' apply And.intro) <;> omega)) (by first | (intro _ hq; cases hq; done) | omega | ((simp only [List.append_eq, List.cons_append, List.nil_append, List.forall_mem_cons, List.not_mem_nil, false_implies, implies_true, List.length_append, octal_length, List.length_cons, List.length_nil, and_true, true_and]); (repeat' apply And.intro) <;> omega)) (by first | (intro _ hq; cases hq; done) | omega | ((simp only [List.append_eq, List.cons_append, List.nil_append, List.forall_mem_cons, List.not_mem_nil, false_implies, implies_true, List.length_append, octal_length, List.length_cons, List.length_nil, and_true, true_and]); (repeat' apply And.intro) <;> omega)) (by first | (intro _ hq; cases hq; done) | omega | ((simp only [List.append_eq, List.cons_append, List.nil_append, List.forall_mem_cons, List.not_mem_nil, false_implies, implies_true, List.length_append, octal_length, List.length_cons, List.length_nil, and_true, true_and]); (repeat' apply And.intro) <;> omega)) (by first | (intro _ hq; cases hq; done) | omega | ((simp only [List.append_eq, List.cons_append, List.nil_append, List.forall_mem_cons, List.not_mem_nil, false_implies, implies_true, List.length_append, octal_length, List.length_cons, List.length_nil, and_true, true_and]); (repeat' apply And.intro) <;> omega)) (by omega)
  have A136 : fld l 136 148 = octal 11 h.time ++ List.replicate (148 - 136 - (octal 11 h.time).length) 0 := by
    rw [← hl]; exact lay_fld [(0, name.data.toList), (100, octal 7 h.mode), (108, octal 7 h.uid), (116, octal 7 h.gid), (124, octal 11 h.size)] _ 136 148 (octal 11 h.time) (by first | (intro _ hq; cases hq; done) | omega | ((simp only [List.append_eq, List.cons_append, List.nil_append, List.forall_mem_cons, List.not_mem_nil, false_implies, implies_true, List.length_append, octal_length, List.length_cons, List.length_nil, and_true, true_and]); (repeat' apply And.intro) <;> omega)) (by first | (intro _ hq; cases hq; done) | omega | ((simp only [List.append_eq, List.cons_append, List.nil_append, List.forall_mem_cons, List.not_mem_nil, false_implies, implies_true, List.length_append, octal_length, List.length_cons, List.length_nil, and_true, true_and]); (repeat' apply And.intro) <;> omega)) (by first | (intro _ hq; cases hq; done) | omega | ((simp only [List.append_eq, List.cons_append, List.nil_append, List.forall_mem_cons, List.not_mem_nil, false_implies, implies_true, List.length_append, octal_length, List.length_cons, List.length_nil, and_true, true_and]); (repeat' apply And.intro) <;> omega)) (by first | (intro _ hq; cases hq; done) | omega | ((simp only [List.append_eq, List.cons_append, List.nil_append, List.forall_mem_cons, List.not_mem_nil, false_implies, implies_true, List.length_append, octal_length, List.length_cons, List.length_nil, and_true, true_and]); (repeat' apply And.intro) <;> omega)) (by first | (intro _ hq; cases hq; done) | omega | ((simp only [List.append_eq, List.cons_append, List.nil_append, List.forall_mem_cons, List.not_mem_nil, false_implies, implies_true, List.length_append, octal_length, List.length_cons, List.length_nil, and_true, true_and]); (repeat' apply And.intro) <;> omega)) (by omega)
  have A156 : fld l 156 157 = [h.typ] ++ List.replicate (157 - 156 - ([h.typ]).length) 0 := by
    rw [← hl]; exact lay_fld [(0, name.data.toList), (100, octal 7 h.mode), (108, octal 7 h.uid), (116, octal 7 h.gid), (124, octal 11 h.size), (136, octal 11 h.time)] _ 156 157 ([h.typ]) (by first | (intro _ hq; cases hq; done) | omega | ((simp only [List.append_eq, List.cons_append, List.nil_append, List.forall_mem_cons, List.not_mem_nil, false_implies, implies_true, List.length_append, octal_length, List.length_cons, List.length_nil, and_true, true_and]); (repeat' apply And.intro) <;> omega)) (by first | (intro _ hq; cases hq; done) | omega | ((simp only [List.append_eq, List.cons_append, List.nil_append, List.forall_mem_cons, List.not_mem_nil, false_implies, implies_true, List.length_append, octal_length, List.length_cons, List.length_nil, and_true, true_and]); (repeat' apply And.intro) <;> omega)) (by first | (intro _ hq; cases hq; done) | omega | ((simp only [List.append_eq, List.cons_append, List.nil_append, List.forall_mem_cons, List.not_mem_nil, false_implies, implies_true, List.length_append, octal_length, List.length_cons, List.length_nil, and_true, true_and]); (repeat' apply And.intro) <;> omega)) (by first | (intro _ hq; cases hq; done) | omega | ((simp only [List.append_eq, List.cons_append, List.nil_append, List.forall_mem_cons, List.not_mem_nil, false_implies, implies_true, List.length_append, octal_length, List.length_cons, List.length_nil, and_true, true_and]); (repeat' apply And.intro) <;> omega)) (by first | (intro _ hq; cases hq; done) | omega | ((simp only [List.append_eq, List.cons_append, List.nil_append, List.forall_mem_cons, List.not_mem_nil, false_implies, implies_true, List.length_append, octal_length, List.length_cons, List.length_nil, and_true, true_and]); (repeat' apply And.intro) <;> omega)) (by omega)
  have A157 : fld l 157 257 = h.link.data.toList ++ List.replicate (257 - 157 - (h.link.data.toList).length) 0 := by
    rw [← hl]; exact lay_fld [(0, name.data.toList), (100, octal 7 h.mode), (108, octal 7 h.uid), (116, octal 7 h.gid), (124, octal 11 h.size), (136, octal 11 h.time), (156, [h.typ])] _ 157 257 (h.link.data.toList) (by first | (intro _ hq; cases hq; done) | omega | ((simp only [List.append_eq, List.cons_append, List.nil_append, List.forall_mem_cons, List.not_mem_nil, false_implies, implies_true, List.length_append, octal_length, List.length_cons, List.length_nil, and_true, true_and]); (repeat' apply And.intro) <;> omega)) (by first | (intro _ hq; cases hq; done) | omega | ((simp only [List.append_eq, List.cons_append, List.nil_append, List.forall_mem_cons, List.not_mem_nil, false_implies, implies_true, List.length_append, octal_length, List.length_cons, List.length_nil, and_true, true_and]); (repeat' apply And.intro) <;> omega)) (by first | (intro _ hq; cases hq; done) | omega | ((simp only [List.append_eq, List.cons_append, List.nil_append, List.forall_mem_cons, List.not_mem_nil, false_implies, implies_true, List.length_append, octal_length, List.length_cons, List.length_nil, and_true, true_and]); (repeat' apply And.intro) <;> omega)) (by first | (intro _ hq; cases hq; done) | omega | ((simp only [List.append_eq, List.cons_append, List.nil_append, List.forall_mem_cons, List.not_mem_nil, false_implies, implies_true, List.length_append, octal_length, List.length_cons, List.length_nil, and_true, true_and]); (repeat' apply And.intro) <;> omega)) (by first | (intro _ hq; cases hq; done) | omega | ((simp only [List.append_eq, List.cons_append, List.nil_append, List.forall_mem_cons, List.not_mem_nil, false_implies, implies_true, List.length_append, octal_length, List.length_cons, List.length_nil, and_true, true_and]); (repeat' apply And.intro) <;> omega)) (by omega)
  have A257 : fld l 257 265 = [117, 115, 116, 97, 114, 0, 48, 48] ++ List.replicate (265 - 257 - ([117, 115, 116, 97, 114, 0, 48, 48]).length) 0 := by
    rw [← hl]; exact lay_fld [(0, name.data.toList), (100, octal 7 h.mode), (108, octal 7 h.uid), (116, octal 7 h.gid), (124, octal 11 h.size), (136, octal 11 h.time), (156, [h.typ]), (157, h.link.data.toList)] _ 257 265 ([117, 115, 116, 97, 114, 0, 48, 48]) (by first | (intro _ hq; cases hq; done) | omega | ((simp only [List.append_eq, List.cons_append, List.nil_append, List.forall_mem_cons, List.not_mem_nil, false_implies, implies_true, List.length_append, octal_length, List.length_cons, List.length_nil, and_true, true_and]); (repeat' apply And.intro) <;> omega)) (by first | (intro _ hq; cases hq; done) | omega | ((simp only [List.append_eq, List.cons_append, List.nil_append, List.forall_mem_cons, List.not_mem_nil, false_implies, implies_true, List.length_append, octal_length, List.length_cons, List.length_nil, and_true, true_and]); (repeat' apply And.intro) <;> omega)) (by first | (intro _ hq; cases hq; done) | omega | ((simp only [List.append_eq, List.cons_append, List.nil_append, List.forall_mem_cons, List.not_mem_nil, false_implies, implies_true, List.length_append, octal_length, List.length_cons, List.length_nil, and_true, true_and]); (repeat' apply And.intro) <;> omega)) (by first | (intro _ hq; cases hq; done) | omega | ((simp only [List.append_eq, List.cons_append, List.nil_append, List.forall_mem_cons, List.not_mem_nil, false_implies, implies_true, List.length_append, octal_length, List.length_cons, List.length_nil, and_true, true_and]); (repeat' apply And.intro) <;> omega)) (by first | (intro _ hq; cases hq; done) | omega | ((simp only [List.append_eq, List.cons_append, List.nil_append, List.forall_mem_cons, List.not_mem_nil, false_implies, implies_true, List.length_append, octal_length, List.length_cons, List.length_nil, and_true, true_and]); (repeat' apply And.intro) <;> omega)) (by omega)
  have A265 : fld l 265 297 = h.user.data.toList ++ List.replicate (297 - 265 - (h.user.data.toList).length) 0 := by
    rw [← hl]; exact lay_fld [(0, name.data.toList), (100, octal 7 h.mode), (108, octal 7 h.uid), (116, octal 7 h.gid), (124, octal 11 h.size), (136, octal 11 h.time), (156, [h.typ]), (157, h.link.data.toList), (257, [117, 115, 116, 97, 114, 0, 48, 48])] _ 265 297 (h.user.data.toList) (by first | (intro _ hq; cases hq; done) | omega | ((simp only [List.append_eq, List.cons_append, List.nil_append, List.forall_mem_cons, List.not_mem_nil, false_implies, implies_true, List.length_append, octal_length, List.length_cons, List.length_nil, and_true, true_and]); (repeat' apply And.intro) <;> omega)) (by first | (intro _ hq; cases hq; done) | omega | ((simp only [List.append_eq, List.cons_append, List.nil_append, List.forall_mem_cons, List.not_mem_nil, false_implies, implies_true, List.length_append, octal_length, List.length_cons, List.length_nil, and_true, true_and]); (repeat' apply And.intro) <;> omega)) (by first | (intro _ hq; cases hq; done) | omega | ((simp only [List.append_eq, List.cons_append, List.nil_append, List.forall_mem_cons, List.not_mem_nil, false_implies, implies_true, List.length_append, octal_length, List.length_cons, List.length_nil, and_true, true_and]); (repeat' apply And.intro) <;> omega)) (by first | (intro _ hq; cases hq; done) | omega | ((simp only [List.append_eq, List.cons_append, List.nil_append, List.forall_mem_cons, List.not_mem_nil, false_implies, implies_true, List.length_append, octal_length, List.length_cons, List.length_nil, and_true, true_and]); (repeat' apply And.intro) <;> omega)) (by first | (intro _ hq; cases hq; done) | omega | ((simp only [List.append_eq, List.cons_append, List.nil_append, List.forall_mem_cons, List.not_mem_nil, false_implies, implies_true, List.length_append, octal_length, List.length_cons, List.length_nil, and_true, true_and]); (repeat' apply And.intro) <;> omega)) (by omega)
  have A297 : fld l 297 329 = h.group.data.toList ++ List.replicate (329 - 297 - (h.group.data.toList).length) 0 := by
    rw [← hl]; exact lay_fld [(0, name.data.toList), (100, octal 7 h.mode), (108, octal 7 h.uid), (116, octal 7 h.gid), (124, octal 11 h.size), (136, octal 11 h.time), (156, [h.typ]), (157, h.link.data.toList), (257, [117, 115, 116, 97, 114, 0, 48, 48]), (265, h.user.data.toList)] _ 297 329 (h.group.data.toList) (by first | (intro _ hq; cases hq; done) | omega | ((simp only [List.append_eq, List.cons_append, List.nil_append, List.forall_mem_cons, List.not_mem_nil, false_implies, implies_true, List.length_append, octal_length, List.length_cons, List.length_nil, and_true, true_and]); (repeat' apply And.intro) <;> omega)) (by first | (intro _ hq; cases hq; done) | omega | ((simp only [List.append_eq, List.cons_append, List.nil_append, List.forall_mem_cons, List.not_mem_nil, false_implies, implies_true, List.length_append, octal_length, List.length_cons, List.length_nil, and_true, true_and]); (repeat' apply And.intro) <;> omega)) (by first | (intro _ hq; cases hq; done) | omega | ((simp only [List.append_eq, List.cons_append, List.nil_append, List.forall_mem_cons, List.not_mem_nil, false_implies, implies_true, List.length_append, octal_length, List.length_cons, List.length_nil, and_true, true_and]); (repeat' apply And.intro) <;> omega)) (by first | (intro _ hq; cases hq; done) | omega | ((simp only [List.append_eq, List.cons_append, List.nil_append, List.forall_mem_cons, List.not_mem_nil, false_implies, implies_true, List.length_append, octal_length, List.length_cons, List.length_nil, and_true, true_and]); (repeat' apply And.intro) <;> omega)) (by first | (intro _ hq; cases hq; done) | omega | ((simp only [List.append_eq, List.cons_append, List.nil_append, List.forall_mem_cons, List.not_mem_nil, false_implies, implies_true, List.length_append, octal_length, List.length_cons, List.length_nil, and_true, true_and]); (repeat' apply And.intro) <;> omega)) (by omega)
  have A329 : fld l 329 337 = octal 7 h.major ++ List.replicate (337 - 329 - (octal 7 h.major).length) 0 := by
    rw [← hl]; exact lay_fld [(0, name.data.toList), (100, octal 7 h.mode), (108, octal 7 h.uid), (116, octal 7 h.gid), (124, octal 11 h.size), (136, octal 11 h.time), (156, [h.typ]), (157, h.link.data.toList), (257, [117, 115, 116, 97, 114, 0, 48, 48]), (265, h.user.data.toList), (297, h.group.data.toList)] _ 329 337 (octal 7 h.major) (by first | (intro _ hq; cases hq; done) | omega | ((simp only [List.append_eq, List.cons_append, List.nil_append, List.forall_mem_cons, List.not_mem_nil, false_implies, implies_true, List.length_append, octal_length, List.length_cons, List.length_nil, and_true, true_and]); (repeat' apply And.intro) <;> omega)) (by first | (intro _ hq; cases hq; done) | omega | ((simp only [List.append_eq, List.cons_append, List.nil_append, List.forall_mem_cons, List.not_mem_nil, false_implies, implies_true, List.length_append, octal_length, List.length_cons, List.length_nil, and_true, true_and]); (repeat' apply And.intro) <;> omega)) (by first | (intro _ hq; cases hq; done) | omega | ((simp only [List.append_eq, List.cons_append, List.nil_append, List.forall_mem_cons, List.not_mem_nil, false_implies, implies_true, List.length_append, octal_length, List.length_cons, List.length_nil, and_true, true_and]); (repeat' apply And.intro) <;> omega)) (by first | (intro _ hq; cases hq; done) | omega | ((simp only [List.append_eq, List.cons_append, List.nil_append, List.forall_mem_cons, List.not_mem_nil, false_implies, implies_true, List.length_append, octal_length, List.length_cons, List.length_nil, and_true, true_and]); (repeat' apply And.intro) <;> omega)) (by first | (intro _ hq; cases hq; done) | omega | ((simp only [List.append_eq, List.cons_append, List.nil_append, List.forall_mem_cons, List.not_mem_nil, false_implies, implies_true, List.length_append, octal_length, List.length_cons, List.length_nil, and_true, true_and]); (repeat' apply And.intro) <;> omega)) (by omega)
  have A337 : fld l 337 345 = octal 7 h.minor ++ List.replicate (345 - 337 - (octal 7 h.minor).length) 0 := by
    rw [← hl]; exact lay_fld [(0, name.data.toList), (100, octal 7 h.mode), (108, octal 7 h.uid), (116, octal 7 h.gid), (124, octal 11 h.size), (136, octal 11 h.time), (156, [h.typ]), (157, h.link.data.toList), (257, [117, 115, 116, 97, 114, 0, 48, 48]), (265, h.user.data.toList), (297, h.group.data.toList), (329, octal 7 h.major)] _ 337 345 (octal 7 h.minor) (by first | (intro _ hq; cases hq; done) | omega | ((simp only [List.append_eq, List.cons_append, List.nil_append, List.forall_mem_cons, List.not_mem_nil, false_implies, implies_true, List.length_append, octal_length, List.length_cons, List.length_nil, and_true, true_and]); (repeat' apply And.intro) <;> omega)) (by first | (intro _ hq; cases hq; done) | omega | ((simp only [List.append_eq, List.cons_append, List.nil_append, List.forall_mem_cons, List.not_mem_nil, false_implies, implies_true, List.length_append, octal_length, List.length_cons, List.length_nil, and_true, true_and]); (repeat' apply And.intro) <;> omega)) (by first | (intro _ hq; cases hq; done) | omega | ((simp only [List.append_eq, List.cons_append, List.nil_append, List.forall_mem_cons, List.not_mem_nil, false_implies, implies_true, List.length_append, octal_length, List.length_cons, List.length_nil, and_true, true_and]); (repeat' apply And.intro) <;> omega)) (by first | (intro _ hq; cases hq; done) | omega | ((simp only [List.append_eq, List.cons_append, List.nil_append, List.forall_mem_cons, List.not_mem_nil, false_implies, implies_true, List.length_append, octal_length, List.length_cons, List.length_nil, and_true, true_and]); (repeat' apply And.intro) <;> omega)) (by first | (intro _ hq; cases hq; done) | omega | ((simp only [List.append_eq, List.cons_append, List.nil_append, List.forall_mem_cons, List.not_mem_nil, false_implies, implies_true, List.length_append, octal_length, List.length_cons, List.length_nil, and_true, true_and]); (repeat' apply And.intro) <;> omega)) (by omega)
  have A345 : fld l 345 500 = pre.data.toList ++ List.replicate (500 - 345 - (pre.data.toList).length) 0 := by
    rw [← hl]; exact lay_fld [(0, name.data.toList), (100, octal 7 h.mode), (108, octal 7 h.uid), (116, octal 7 h.gid), (124, octal 11 h.size), (136, octal 11 h.time), (156, [h.typ]), (157, h.link.data.toList), (257, [117, 115, 116, 97, 114, 0, 48, 48]), (265, h.user.data.toList), (297, h.group.data.toList), (329, octal 7 h.major), (337, octal 7 h.minor)] _ 345 500 (pre.data.toList) (by first | (intro _ hq; cases hq; done) | omega | ((simp only [List.append_eq, List.cons_append, List.nil_append, List.forall_mem_cons, List.not_mem_nil, false_implies, implies_true, List.length_append, octal_length, List.length_cons, List.length_nil, and_true, true_and]); (repeat' apply And.intro) <;> omega)) (by first | (intro _ hq; cases hq; done) | omega | ((simp only [List.append_eq, List.cons_append, List.nil_append, List.forall_mem_cons, List.not_mem_nil, false_implies, implies_true, List.length_append, octal_length, List.length_cons, List.length_nil, and_true, true_and]); (repeat' apply And.intro) <;> omega)) (by first | (intro _ hq; cases hq; done) | omega | ((simp only [List.append_eq, List.cons_append, List.nil_append, List.forall_mem_cons, List.not_mem_nil, false_implies, implies_true, List.length_append, octal_length, List.length_cons, List.length_nil, and_true, true_and]); (repeat' apply And.intro) <;> omega)) (by first | (intro _ hq; cases hq; done) | omega | ((simp only [List.append_eq, List.cons_append, List.nil_append, List.forall_mem_cons, List.not_mem_nil, false_implies, implies_true, List.length_append, octal_length, List.length_cons, List.length_nil, and_true, true_and]); (repeat' apply And.intro) <;> omega)) (by first | (intro _ hq; cases hq; done) | omega | ((simp only [List.append_eq, List.cons_append, List.nil_append, List.forall_mem_cons, List.not_mem_nil, false_implies, implies_true, List.length_append, octal_length, List.length_cons, List.length_nil, and_true, true_and]); (repeat' apply And.intro) <;> omega)) (by omega)
  have A148 : fld l 148 156 = octal 6 S ++ [0, 32] ++ List.replicate (156 - 148 - (octal 6 S ++ [0, 32]).length) 0 := by
    rw [← hl]; exact lay_fld [(0, name.data.toList), (100, octal 7 h.mode), (108, octal 7 h.uid), (116, octal 7 h.gid), (124, octal 11 h.size), (136, octal 11 h.time), (156, [h.typ]), (157, h.link.data.toList), (257, [117, 115, 116, 97, 114, 0, 48, 48]), (265, h.user.data.toList), (297, h.group.data.toList), (329, octal 7 h.major), (337, octal 7 h.minor), (345, pre.data.toList)] _ 148 156 (octal 6 S ++ [0, 32]) (by first | (intro _ hq; cases hq; done) | omega | ((simp only [List.append_eq, List.cons_append, List.nil_append, List.forall_mem_cons, List.not_mem_nil, false_implies, implies_true, List.length_append, octal_length, List.length_cons, List.length_nil, and_true, true_and]); (repeat' apply And.intro) <;> omega)) (by first | (intro _ hq; cases hq; done) | omega | ((simp only [List.append_eq, List.cons_append, List.nil_append, List.forall_mem_cons, List.not_mem_nil, false_implies, implies_true, List.length_append, octal_length, List.length_cons, List.length_nil, and_true, true_and]); (repeat' apply And.intro) <;> omega)) (by first | (intro _ hq; cases hq; done) | omega | ((simp only [List.append_eq, List.cons_append, List.nil_append, List.forall_mem_cons, List.not_mem_nil, false_implies, implies_true, List.length_append, octal_length, List.length_cons, List.length_nil, and_true, true_and]); (repeat' apply And.intro) <;> omega)) (by first | (intro _ hq; cases hq; done) | omega | ((simp only [List.append_eq, List.cons_append, List.nil_append, List.forall_mem_cons, List.not_mem_nil, false_implies, implies_true, List.length_append, octal_length, List.length_cons, List.length_nil, and_true, true_and]); (repeat' apply And.intro) <;> omega)) (by first | (intro _ hq; cases hq; done) | omega | ((simp only [List.append_eq, List.cons_append, List.nil_append, List.forall_mem_cons, List.not_mem_nil, false_implies, implies_true, List.length_append, octal_length, List.length_cons, List.length_nil, and_true, true_and]); (repeat' apply And.intro) <;> omega)) (by omega)
  rw [hl] at hSS ⊢
  clear hl F
  have ntx : ∀ s : ByteArray, ¬ (0 : UInt8) ∈ s.data.toList → ∀ b ∈ s.data.toList, b ≠ 0 := fun s hs b hb e => hs (by rw [← e]; exact hb)
  have N := fun (d : Nat) (x : Int) (k : Nat) (hd : 0 < d) (h0 : 0 ≤ x) (h1 : x < 8 ^ d) => num_octal d x (List.replicate k 0) hd h0 h1 (rep_z k)
  have B100 := N 7 h.mode (108 - 100 - (octal 7 h.mode).length) (by decide) m0 (by omega)
  have B108 := N 7 h.uid (116 - 108 - (octal 7 h.uid).length) (by decide) u0 (by omega)
  have B116 := N 7 h.gid (124 - 116 - (octal 7 h.gid).length) (by decide) g0 (by omega)
  have B124 := N 11 h.size (136 - 124 - (octal 11 h.size).length) (by decide) s0 (by omega)
  have B136 := N 11 h.time (148 - 136 - (octal 11 h.time).length) (by decide) t0 (by omega)
  have B329 := N 7 h.major (337 - 329 - (octal 7 h.major).length) (by decide) j0 (by omega)
  have B337 := N 7 h.minor (345 - 337 - (octal 7 h.minor).length) (by decide) n0 (by omega)
  have B148 := num_octal 6 S [0, 32] (by decide) (by omega) (by omega) (by decide)
  rw [← A100] at B100
  rw [← A108] at B108
  rw [← A116] at B116
  rw [← A124] at B124
  rw [← A136] at B136
  rw [← A329] at B329
  rw [← A337] at B337
  have z8 : List.length (octal 6 S ++ [0, 32]) = 8 := by rw [List.length_append, octal_length]; rfl
  rw [z8, Nat.sub_self, List.replicate_zero, List.append_nil] at A148
  rw [← A148] at B148
  have T157 : textOf (fld l 157 257) = h.link.data.toList := by rw [A157]; exact textOf_rep _ _ (ntx _ wl)
  have T265 : textOf (fld l 265 297) = h.user.data.toList := by rw [A265]; exact textOf_rep _ _ (ntx _ wu)
  have T297 : textOf (fld l 297 329) = h.group.data.toList := by rw [A297]; exact textOf_rep _ _ (ntx _ wg)
  have T345 : textOf (fld l 345 500) = pre.data.toList := by rw [A345]; exact textOf_rep _ _ np.1
  have T0 : textOf (l.take 100) = name.data.toList := by
    have : fld l 0 100 = l.take 100 := rfl
    rw [← this, A0]; exact textOf_rep _ _ np.2
  have hty : l.getD 156 0 = h.typ := by
    have e3 := fld_get l 156 157 0
    rw [A156] at e3
    rw [List.getD_eq_getElem?_getD]
    rw [if_pos (by decide)] at e3
    rw [← show (156 + 0) = 156 from rfl, ← e3]
    rfl
  constructor
  · have hm : magicB l = true := by
      unfold magicB
      rw [A257]
      decide
    have hok : okAll l = true := by
      refine okAll_yes fun j hj => ?_
      match j, hj with
      | 0, _ => exact B100.2
      | 1, _ => exact B108.2
      | 2, _ => exact B116.2
      | 3, _ => exact B124.2
      | 4, _ => exact B136.2
      | 5, _ => exact B148.2
      | 6, _ => exact B329.2
      | 7, _ => exact B337.2
      | j + 8, hj => exact absurd hj (by omega)
    rw [decErrM, if_pos hm, decErr, if_neg (by simp [hok]), if_neg (by rw [B148.1, hSS]; simp)]
  · have hb2 : ∀ s : ByteArray, (⟨s.data.toList.toArray⟩ : ByteArray) = s := fun s => (bytes_eq rfl).symm
    have hpath : (if textOf (fld l 345 500) = [] then (⟨(textOf (l.take 100)).toArray⟩ : ByteArray) else ⟨(textOf (fld l 345 500) ++ [47] ++ textOf (l.take 100)).toArray⟩) = h.path := by
      rw [T345, T0]
      rcases hj with ⟨h1, h2⟩ | ⟨h1, h2⟩
      · rw [if_pos h1, hb2, h2]
      · rw [if_neg h1, ← h2, hb2]
    unfold decHdr
    rw [hpath]
    unfold hdrK
    simp only [Nat.zero_lt_succ, if_true, Nat.lt_add_one, show (1 : Nat) < 8 from by decide, show (2 : Nat) < 8 from by decide, show (3 : Nat) < 8 from by decide, show (4 : Nat) < 8 from by decide, show (6 : Nat) < 8 from by decide, B100.1, B108.1, B116.1, B124.1, B136.1, B329.1, B337.1, T157, T265, T297, hty, hb2]
end Go.Proofs.YthpmocfdnoehoaaGreatDoor
