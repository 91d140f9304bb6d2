/- Plain: an archive that was written is read as its members; a shorter beginning is not. -/
import Derived.Test.YthpmocfdnoehoaaGreatDoorBack
import Derived.Test.YthpmocfdnoehoaaGreatDoorSeq
import Derived.Test.YthpmocfdnoehoaaGreatDoorWrite
namespace Go.Proofs.YthpmocfdnoehoaaGreatDoor
open Go.RowKit
/-- The bytes of an archive. -/
def arcOf (l : List Mem) : Bs := l.flatMap memBytes ++ List.replicate 1024 0
theorem arcOf_cons (m : Mem) (r : List Mem) : arcOf (m :: r) = memBytes m ++ arcOf r := by
  unfold arcOf; rw [List.flatMap_cons, List.append_assoc]
/-- A member that may be written. -/
def MemOk (m : Mem) : Prop := encErr m.hdr = 0 ∧ m.hdr.size = (m.data.size : Int)
theorem wrGo_fst : ∀ (l : List Mem) (i : Nat) (acc : Bs), (wrGo l i acc).1 = 0 → wrGo l i acc = (0, 0, acc ++ arcOf l) ∧ (∀ m ∈ l, MemOk m) ∧ (l ≠ [] → acc.length + (arcOf l).length ≤ 33554432)
  | [], i, acc, _ => ⟨rfl, (fun _ h => by cases h), fun h => absurd rfl h⟩
  | m :: r, i, acc, h => by
    rw [wrGo] at h ⊢
    by_cases hb : wrBad acc.length m ≠ 0
    · rw [if_pos hb] at h
      exact absurd h hb
    · rw [if_neg hb] at h ⊢
      have hb' : wrBad acc.length m = 0 := by simpa using hb
      unfold wrBad at hb'
      split at hb'
      · rename_i h1; exact absurd hb' h1
      · rename_i h1
        split at hb'
        · cases hb'
        · rename_i h2
          split at hb'
          · cases hb'
          · rename_i h3
            have he : encErr m.hdr = 0 := by simpa using h1
            have hml : (memBytes m).length = 512 + whole m.data.size := by
              have hd : m.data.data.toList.length = m.data.size := rfl
              unfold memBytes
              rw [List.length_append, encOf_length he, List.length_append, List.length_replicate, hd]
              unfold whole
              omega
            obtain ⟨g1, g2, g3⟩ := wrGo_fst r (i + 1) _ h
            refine ⟨by rw [g1, arcOf_cons, List.append_assoc], fun x hx => ?_, fun _ => ?_⟩
            · rcases List.mem_cons.1 hx with rfl | hx
              · exact ⟨he, by simpa using h2⟩
              · exact g2 x hx
            · rw [arcOf_cons, List.length_append, hml]
              cases r with
              | nil =>
                have : (arcOf []).length = 1024 := List.length_replicate
                omega
              | cons y ys =>
                have := g3 (by simp)
                rw [List.length_append, hml] at this
                omega
theorem memBytes_length {m : Mem} (h : MemOk m) : (memBytes m).length = 512 + whole m.data.size := by
  have hd : m.data.data.toList.length = m.data.size := rfl
  unfold memBytes
  rw [List.length_append, encOf_length h.1, List.length_append, List.length_replicate, hd]
  unfold whole
  omega
/-- What stands at a place. -/
theorem take_drop_app {A B C : Bs} {i n : Nat} (hi : A.length = i) (hn : B.length = n) : ((A ++ (B ++ C)).drop i).take n = B := by
  subst hi hn
  rw [List.drop_append_of_le_length (Nat.le_refl _), List.drop_length, List.nil_append, List.take_append_of_le_length (Nat.le_refl _), List.take_length]
theorem enc_magic {h : Hdr} (he : encErr h = 0) : (encOf h).all (· == 0) = false := by
  have hm : magicB (encOf h) = true := by
    have := (hdr_back he).1
    unfold decErrM at this
    split at this
    · assumption
    · cases this
  rw [← Bool.not_eq_true, List.all_eq_true]
  intro hz
  unfold magicB at hm
  rw [beq_iff_eq] at hm
  have h1 := fld_get (encOf h) 257 265 0
  rw [hm, if_pos (by decide)] at h1
  have h2 := hz 117 (List.mem_of_getElem? h1.symm)
  cases h2
/-- A member is read where it was written; R stands behind it. -/
theorem memAt_back {P R : Bs} {m : Mem} {i : Nat} (h : MemOk m) (hi : P.length = i) :
    zeroAt (P ++ (memBytes m ++ R)) i = false ∧ memAt (P ++ (memBytes m ++ R)) i = .good m (i + 512 + whole m.data.size) := by
  obtain ⟨he, hsz⟩ := h
  have hml := memBytes_length ⟨he, hsz⟩
  have hel := encOf_length he
  have hd : m.data.data.toList.length = m.data.size := rfl
  have hb : blkAt (P ++ (memBytes m ++ R)) i = encOf m.hdr := by
    unfold blkAt memBytes
    rw [List.append_assoc]
    exact take_drop_app hi hel
  obtain ⟨b1, b2⟩ := hdr_back he
  refine ⟨by have := enc_magic he; rw [← hb] at this; exact this, ?_⟩
  have hdt : ((P ++ (memBytes m ++ R)).drop (i + 512)).take m.data.size = m.data.data.toList := by
    unfold memBytes
    rw [show P ++ (encOf m.hdr ++ (m.data.data.toList ++ List.replicate (whole m.data.size - m.data.size) 0) ++ R) = (P ++ encOf m.hdr) ++ (m.data.data.toList ++ (List.replicate (whole m.data.size - m.data.size) 0 ++ R)) by simp only [List.append_assoc]]
    exact take_drop_app (by rw [List.length_append]; omega) hd
  have hw := whole_le m.data.size
  unfold memAt
  rw [hb, b1, b2, hsz, if_neg (by simp), Int.toNat_natCast, if_neg (by rw [List.length_append, List.length_append]; omega), hdt]
theorem zero_tail {P : Bs} {i : Nat} (hi : P.length = i) : zeroAt (P ++ List.replicate 1024 0) i = true ∧ zeroAt (P ++ List.replicate 1024 0) (i + 512) = true := by
  subst hi
  have h : ∀ n : Nat, ((List.replicate n (0 : UInt8)).take 512).all (· == 0) = true := fun n => by
    rw [List.all_eq_true]
    intro x hx
    have := List.eq_of_mem_replicate (List.mem_of_mem_take hx)
    simp [this]
  refine ⟨?_, ?_⟩
  · unfold zeroAt
    rw [List.drop_append_of_le_length (Nat.le_refl _), List.drop_length, List.nil_append]
    exact h _
  · unfold zeroAt
    rw [← List.drop_drop, List.drop_append_of_le_length (Nat.le_refl _), List.drop_length, List.nil_append, List.drop_replicate]
    exact h _
theorem rd_arc : ∀ (r : List Mem) (P T : Bs) (f i : Nat), T = P ++ arcOf r → P.length = i → r.length < f → (∀ m ∈ r, MemOk m) → rdGo T f i = r.map .mem
  | [], P, T, f, i, hT, hi, hf, _ => by
    have e : arcOf [] = List.replicate 1024 0 := rfl
    rw [e] at hT
    have hl : T.length = i + 1024 := by rw [hT, List.length_append, List.length_replicate, hi]
    obtain ⟨z1, z2⟩ := zero_tail hi
    rw [← hT] at z1 z2
    have h0 : endGo T (T.length + 1) (i + 512) = (0, 0) := by
      rw [endGo, if_neg (by omega), if_neg (by simp [z2]), if_pos (by omega)]
    rw [rdGo_end hf (by omega) z1, h0, if_pos rfl]
    rfl
  | m :: r, P, T, f, i, hT, hi, hf, hok => by
    rw [arcOf_cons] at hT
    have hm := hok m (List.mem_cons_self ..)
    obtain ⟨h1, h2⟩ := memAt_back (R := arcOf r) hm hi
    have hml := memBytes_length hm
    rw [← hT] at h1 h2
    have hl : T.length = i + (512 + whole m.data.size) + (arcOf r).length := by rw [hT, List.length_append, List.length_append]; omega
    rw [List.length_cons] at hf
    rw [rdGo_mem (by omega) (by omega) h1 h2, rd_arc r (P ++ memBytes m) T (f - 1) _ (by rw [hT, List.append_assoc]) (by rw [List.length_append]; omega) (by omega) (fun x hx => hok x (List.mem_cons_of_mem _ hx))]
    rfl
theorem take_in {T : Bs} {k i n : Nat} (h : i + n ≤ k) : ((T.take k).drop i).take n = (T.drop i).take n := by
  rw [List.drop_take, List.take_take, Nat.min_eq_left (by omega)]
theorem zero_in {T : Bs} {k i : Nat} (h : i + 512 ≤ k) : zeroAt (T.take k) i = zeroAt T i := by
  unfold zeroAt; rw [take_in h]
theorem memAt_in {T : Bs} {m : Mem} {k i n : Nat} (h : memAt T i = .good m n) (hk : k ≤ T.length) (h1 : i + 512 ≤ k) : (k < n ∧ memAt (T.take k) i = .bad 2 (i + 512)) ∨ (n ≤ k ∧ memAt (T.take k) i = .good m n) := by
  have hb : blkAt (T.take k) i = blkAt T i := by unfold blkAt; exact take_in h1
  have hl : (T.take k).length = k := by rw [List.length_take]; omega
  have hs := decSize_bd (blkAt T i)
  have hw := whole_le (decHdr (blkAt T i)).size.toNat
  unfold memAt at h ⊢
  rw [hb, hl]
  by_cases h2 : decErrM (blkAt T i) ≠ 0
  · rw [if_pos h2] at h; cases h
  · rw [if_neg h2] at h ⊢
    split at h
    · cases h
    · rename_i hn
      obtain ⟨rfl, rfl⟩ := MemR.good.inj h
      by_cases h3 : k < i + 512 + whole (decHdr (blkAt T i)).size.toNat
      · exact .inl ⟨h3, by rw [if_pos (.inr h3)]⟩
      · refine .inr ⟨by omega, ?_⟩
        rw [if_neg (by omega), take_in (by omega)]
theorem rd_cut : ∀ (r : List Mem) (P T : Bs) (f i k : Nat), T = P ++ arcOf r → P.length = i → k < i + f → (∀ m ∈ r, MemOk m) → i ≤ k → k < T.length → ∃ (ms : List Mem) (j : Nat), rdGo (T.take k) f i = ms.map .mem ++ [.bad 2 j]
  | [], P, T, f, i, k, hT, hi, hf, _, h1, h2 => by
    have e : arcOf [] = List.replicate 1024 0 := rfl
    rw [e] at hT
    have hl : T.length = i + 1024 := by rw [hT, List.length_append, List.length_replicate, hi]
    have hk : (T.take k).length = k := by rw [List.length_take]; omega
    by_cases h3 : k < i + 512
    · exact ⟨[], i, rdGo_short (by omega) (by omega)⟩
    · obtain ⟨z1, -⟩ := zero_tail hi
      rw [← hT] at z1
      have h0 : endGo (T.take k) ((T.take k).length + 1) (i + 512) = (2, i + 512) := by
        rw [endGo, if_pos (by omega)]
      refine ⟨[], i + 512, ?_⟩
      rw [rdGo_end (by omega) (by omega) (by rw [zero_in (by omega)]; exact z1), h0, if_neg (show ¬ (2 : Int) = 0 by decide)]
      rfl
  | m :: r, P, T, f, i, k, hT, hi, hf, hok, h1, h2 => by
    rw [arcOf_cons] at hT
    have hm := hok m (List.mem_cons_self ..)
    obtain ⟨g1, g2⟩ := memAt_back (R := arcOf r) hm hi
    have hml := memBytes_length hm
    rw [← hT] at g1 g2
    have hl : T.length = i + (512 + whole m.data.size) + (arcOf r).length := by rw [hT, List.length_append, List.length_append]; omega
    have hk : (T.take k).length = k := by rw [List.length_take]; omega
    by_cases h3 : k < i + 512
    · exact ⟨[], i, rdGo_short (by omega) (by omega)⟩
    · rcases memAt_in (k := k) g2 (by omega) (by omega) with ⟨h4, h5⟩ | ⟨h4, h5⟩
      · exact ⟨[], _, rdGo_bad (by omega) (by omega) (by rw [zero_in (by omega)]; exact g1) h5⟩
      · obtain ⟨ms, j, h6⟩ := rd_cut r (P ++ memBytes m) T (f - 1) (i + 512 + whole m.data.size) k (by rw [hT, List.append_assoc]) (by rw [List.length_append]; omega) (by omega) (fun x hx => hok x (List.mem_cons_of_mem _ hx)) h4 h2
        exact ⟨m :: ms, j, by rw [rdGo_mem (by omega) (by omega) (by rw [zero_in (by omega)]; exact g1) h5, h6]; rfl⟩
theorem arc_len (l : List Mem) : l.length + 1024 ≤ (arcOf l).length ∨ ∃ m ∈ l, ¬ MemOk m := by
  induction l with
  | nil => left; unfold arcOf; rw [List.length_append, List.length_replicate]; simp
  | cons m r ih =>
    by_cases h : MemOk m
    · rcases ih with ih | ⟨x, hx, hn⟩
      · left
        rw [arcOf_cons, List.length_append, memBytes_length h, List.length_cons]
        omega
      · exact .inr ⟨x, List.mem_cons_of_mem _ hx, hn⟩
    · exact .inr ⟨m, List.mem_cons_self .., h⟩
/-- All members of an archive that was written. -/
theorem rd_all {l : List Mem} (h : ∀ m ∈ l, MemOk m) : rdGo (arcOf l) ((arcOf l).length + 1) 0 = l.map .mem := by
  refine rd_arc l [] _ _ 0 rfl rfl ?_ h
  rcases arc_len l with h1 | ⟨m, hm, hn⟩
  · omega
  · exact absurd (h m hm) hn
/-- A shorter beginning. -/
theorem rd_less {l : List Mem} (h : ∀ m ∈ l, MemOk m) {k : Nat} (hk : k < (arcOf l).length) : ∃ (ms : List Mem) (j : Nat), rdGo ((arcOf l).take k) (((arcOf l).take k).length + 1) 0 = ms.map .mem ++ [.bad 2 j] :=
  rd_cut l [] _ _ 0 k rfl rfl (by rw [List.length_take]; omega) h (Nat.zero_le _) hk
end Go.Proofs.YthpmocfdnoehoaaGreatDoor
