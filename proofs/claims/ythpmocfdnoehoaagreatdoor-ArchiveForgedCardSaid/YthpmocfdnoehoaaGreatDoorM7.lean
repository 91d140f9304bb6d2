/- Texts of the seat, one behind the other: RefBytes, RefEncA, RefWrite, RefEnc, Open, OpenEd. -/
import Derived.Test.YthpmocfdnoehoaaGreatDoorM5
import Derived.Test.YthpmocfdnoehoaaGreatDoorM1
import Derived.Test.YthpmocfdnoehoaaGreatDoorM6
import Derived.Test.YthpmocfdnoehoaaGreatDoorM3
import Derived.Deep.Slices
import Derived.Deep.Fields
import Derived.ChangeSame
import Derived.Carry
import Derived.ProofKit
import Derived.OpenShut
/- Plain: the bytes of a header, as the reference puts them together. -/
namespace Go.Proofs.YthpmocfdnoehoaaGreatDoor
open Go.RowKit
theorem filledOf_le {l : Bs} {n : Nat} (h : l.length ≤ n) : filledOf l n = l ++ List.replicate (n - l.length) 0 := by
  unfold filledOf
  rw [List.take_append, List.take_of_length_le h, List.take_replicate, Nat.min_eq_left (by omega)]
theorem fld_cat (l : Bs) (a b c : Nat) (h1 : a ≤ b) (h2 : b ≤ c) : fld l a c = fld l a b ++ fld l b c := by
  apply List.ext_getElem?
  intro k
  rw [List.getElem?_append, fld_get, fld_get]
  by_cases hl : b ≤ l.length
  · have e : (fld l a b).length = b - a := by unfold fld; rw [List.length_take, List.length_drop]; omega
    rw [e]
    by_cases h : k < b - a
    · rw [if_pos h, if_pos (by omega), if_pos h]
    · rw [if_neg h, fld_get]
      by_cases h3 : k < c - a
      · rw [if_pos h3, if_pos (by omega)]
        congr 1
        omega
      · rw [if_neg h3, if_neg (by omega)]
  · have e : (fld l a b).length = l.length - a := by unfold fld; rw [List.length_take, List.length_drop]; omega
    rw [e]
    by_cases h : k < l.length - a
    · rw [if_pos h, if_pos (by omega), if_pos (by omega)]
    · rw [if_neg h, fld_get, List.getElem?_eq_none (show l.length ≤ a + k by omega)]
      split <;> (rw [List.getElem?_eq_none (by omega)]; try simp)
def aheadOf (h : Hdr) (name : Bs) : Bs := filledOf name 100 ++ (octal 7 h.mode ++ ([0] ++ (octal 7 h.uid ++ ([0] ++ (octal 7 h.gid ++ ([0] ++ (octal 11 h.size ++ ([0] ++ (octal 11 h.time ++ [0])))))))))
def behindOf (h : Hdr) (pre : Bs) : Bs := [h.typ] ++ (filledOf h.link.data.toList 100 ++ ([117, 115, 116, 97, 114, 0, 48, 48] ++ (filledOf h.user.data.toList 32 ++ (filledOf h.group.data.toList 32 ++ (octal 7 h.major ++ ([0] ++ (octal 7 h.minor ++ ([0] ++ (filledOf pre 155 ++ List.replicate 12 0)))))))))
set_option linter.unusedSimpArgs false in
theorem chain_flds {h : Hdr} {pre name : Bs} (hp' : pre.length ≤ 155) (hn' : name.length ≤ 100) (hk' : h.link.data.toList.length ≤ 100) (hu' : h.user.data.toList.length ≤ 31) (hg' : h.group.data.toList.length ≤ 31) :
    fld (chain h pre name) 0 148 = aheadOf h name ∧ fld (chain h pre name) 156 512 = behindOf h pre ∧ (chain h pre name).length = 512 := by
  have hcl : (chain h pre name).length = 512 := by rw [chain_lay]; exact lay_len _ _ z512_len (hdrL_fit hp' hn' hk' hu' hg')
  obtain ⟨l, hl⟩ : ∃ l, chain h pre name = l := ⟨_, rfl⟩
  have hl2 : lay (hdrL h pre name) z512 = l := hl
  have A0 : fld l 0 100 = name ++ List.replicate (100 - 0 - (name).length) 0 := by
    rw [← hl2]; exact lay_fld [] _ 0 100 (name) (by first | (intro _ hq; cases hq; done) | omega | ((simp only [List.append_eq, List.cons_append, List.nil_append, List.forall_mem_cons, List.not_mem_nil, false_implies, implies_true, List.length_append, octal_length, List.length_cons, List.length_nil, and_true, true_and]); (repeat' apply And.intro) <;> omega)) (by first | (intro _ hq; cases hq; done) | omega | ((simp only [List.append_eq, List.cons_append, List.nil_append, List.forall_mem_cons, List.not_mem_nil, false_implies, implies_true, List.length_append, octal_length, List.length_cons, List.length_nil, and_true, true_and]); (repeat' apply And.intro) <;> omega)) (by first | (intro _ hq; cases hq; done) | omega | ((simp only [List.append_eq, List.cons_append, List.nil_append, List.forall_mem_cons, List.not_mem_nil, false_implies, implies_true, List.length_append, octal_length, List.length_cons, List.length_nil, and_true, true_and]); (repeat' apply And.intro) <;> omega)) (by first | (intro _ hq; cases hq; done) | omega | ((simp only [List.append_eq, List.cons_append, List.nil_append, List.forall_mem_cons, List.not_mem_nil, false_implies, implies_true, List.length_append, octal_length, List.length_cons, List.length_nil, and_true, true_and]); (repeat' apply And.intro) <;> omega)) (by first | (intro _ hq; cases hq; done) | omega | ((simp only [List.append_eq, List.cons_append, List.nil_append, List.forall_mem_cons, List.not_mem_nil, false_implies, implies_true, List.length_append, octal_length, List.length_cons, List.length_nil, and_true, true_and]); (repeat' apply And.intro) <;> omega)) (by omega)
  have A100 : fld l 100 108 = octal 7 h.mode ++ List.replicate (108 - 100 - (octal 7 h.mode).length) 0 := by
    rw [← hl2]; exact lay_fld [(0, name)] _ 100 108 (octal 7 h.mode) (by first | (intro _ hq; cases hq; done) | omega | ((simp only [List.append_eq, List.cons_append, List.nil_append, List.forall_mem_cons, List.not_mem_nil, false_implies, implies_true, List.length_append, octal_length, List.length_cons, List.length_nil, and_true, true_and]); (repeat' apply And.intro) <;> omega)) (by first | (intro _ hq; cases hq; done) | omega | ((simp only [List.append_eq, List.cons_append, List.nil_append, List.forall_mem_cons, List.not_mem_nil, false_implies, implies_true, List.length_append, octal_length, List.length_cons, List.length_nil, and_true, true_and]); (repeat' apply And.intro) <;> omega)) (by first | (intro _ hq; cases hq; done) | omega | ((simp only [List.append_eq, List.cons_append, List.nil_append, List.forall_mem_cons, List.not_mem_nil, false_implies, implies_true, List.length_append, octal_length, List.length_cons, List.length_nil, and_true, true_and]); (repeat' apply And.intro) <;> omega)) (by first | (intro _ hq; cases hq; done) | omega | ((simp only [List.append_eq, List.cons_append, List.nil_append, List.forall_mem_cons, List.not_mem_nil, false_implies, implies_true, List.length_append, octal_length, List.length_cons, List.length_nil, and_true, true_and]); (repeat' apply And.intro) <;> omega)) (by first | (intro _ hq; cases hq; done) | omega | ((simp only [List.append_eq, List.cons_append, List.nil_append, List.forall_mem_cons, List.not_mem_nil, false_implies, implies_true, List.length_append, octal_length, List.length_cons, List.length_nil, and_true, true_and]); (repeat' apply And.intro) <;> omega)) (by omega)
  have A108 : fld l 108 116 = octal 7 h.uid ++ List.replicate (116 - 108 - (octal 7 h.uid).length) 0 := by
    rw [← hl2]; exact lay_fld [(0, name), (100, octal 7 h.mode)] _ 108 116 (octal 7 h.uid) (by first | (intro _ hq; cases hq; done) | omega | ((simp only [List.append_eq, List.cons_append, List.nil_append, List.forall_mem_cons, List.not_mem_nil, false_implies, implies_true, List.length_append, octal_length, List.length_cons, List.length_nil, and_true, true_and]); (repeat' apply And.intro) <;> omega)) (by first | (intro _ hq; cases hq; done) | omega | ((simp only [List.append_eq, List.cons_append, List.nil_append, List.forall_mem_cons, List.not_mem_nil, false_implies, implies_true, List.length_append, octal_length, List.length_cons, List.length_nil, and_true, true_and]); (repeat' apply And.intro) <;> omega)) (by first | (intro _ hq; cases hq; done) | omega | ((simp only [List.append_eq, List.cons_append, List.nil_append, List.forall_mem_cons, List.not_mem_nil, false_implies, implies_true, List.length_append, octal_length, List.length_cons, List.length_nil, and_true, true_and]); (repeat' apply And.intro) <;> omega)) (by first | (intro _ hq; cases hq; done) | omega | ((simp only [List.append_eq, List.cons_append, List.nil_append, List.forall_mem_cons, List.not_mem_nil, false_implies, implies_true, List.length_append, octal_length, List.length_cons, List.length_nil, and_true, true_and]); (repeat' apply And.intro) <;> omega)) (by first | (intro _ hq; cases hq; done) | omega | ((simp only [List.append_eq, List.cons_append, List.nil_append, List.forall_mem_cons, List.not_mem_nil, false_implies, implies_true, List.length_append, octal_length, List.length_cons, List.length_nil, and_true, true_and]); (repeat' apply And.intro) <;> omega)) (by omega)
  have A116 : fld l 116 124 = octal 7 h.gid ++ List.replicate (124 - 116 - (octal 7 h.gid).length) 0 := by
    rw [← hl2]; exact lay_fld [(0, name), (100, octal 7 h.mode), (108, octal 7 h.uid)] _ 116 124 (octal 7 h.gid) (by first | (intro _ hq; cases hq; done) | omega | ((simp only [List.append_eq, List.cons_append, List.nil_append, List.forall_mem_cons, List.not_mem_nil, false_implies, implies_true, List.length_append, octal_length, List.length_cons, List.length_nil, and_true, true_and]); (repeat' apply And.intro) <;> omega)) (by first | (intro _ hq; cases hq; done) | omega | ((simp only [List.append_eq, List.cons_append, List.nil_append, List.forall_mem_cons, List.not_mem_nil, false_implies, implies_true, List.length_append, octal_length, List.length_cons, List.length_nil, and_true, true_and]); (repeat' apply And.intro) <;> omega)) (by first | (intro _ hq; cases hq; done) | omega | ((simp only [List.append_eq, List.cons_append, List.nil_append, List.forall_mem_cons, List.not_mem_nil, false_implies, implies_true, List.length_append, octal_length, List.length_cons, List.length_nil, and_true, true_and]); (repeat' apply And.intro) <;> omega)) (by first | (intro _ hq; cases hq; done) | omega | ((simp only [List.append_eq, List.cons_append, List.nil_append, List.forall_mem_cons, List.not_mem_nil, false_implies, implies_true, List.length_append, octal_length, List.length_cons, List.length_nil, and_true, true_and]); (repeat' apply And.intro) <;> omega)) (by first | (intro _ hq; cases hq; done) | omega | ((simp only [List.append_eq, List.cons_append, List.nil_append, List.forall_mem_cons, List.not_mem_nil, false_implies, implies_true, List.length_append, octal_length, List.length_cons, List.length_nil, and_true, true_and]); (repeat' apply And.intro) <;> omega)) (by omega)
  have A124 : fld l 124 136 = octal 11 h.size ++ List.replicate (136 - 124 - (octal 11 h.size).length) 0 := by
    rw [← hl2]; exact lay_fld [(0, name), (100, octal 7 h.mode), (108, octal 7 h.uid), (116, octal 7 h.gid)] _ 124 136 (octal 11 h.size) (by first | (intro _ hq; cases hq; done) | omega | ((simp only [List.append_eq, List.cons_append, List.nil_append, List.forall_mem_cons, List.not_mem_nil, false_implies, implies_true, List.length_append, octal_length, List.length_cons, List.length_nil, and_true, true_and]); (repeat' apply And.intro) <;> omega)) (by first | (intro _ hq; cases hq; done) | omega | ((simp only [List.append_eq, List.cons_append, List.nil_append, List.forall_mem_cons, List.not_mem_nil, false_implies, implies_true, List.length_append, octal_length, List.length_cons, List.length_nil, and_true, true_and]); (repeat' apply And.intro) <;> omega)) (by first | (intro _ hq; cases hq; done) | omega | ((simp only [List.append_eq, List.cons_append, List.nil_append, List.forall_mem_cons, List.not_mem_nil, false_implies, implies_true, List.length_append, octal_length, List.length_cons, List.length_nil, and_true, true_and]); (repeat' apply And.intro) <;> omega)) (by first | (intro _ hq; cases hq; done) | omega | ((simp only [List.append_eq, List.cons_append, List.nil_append, List.forall_mem_cons, List.not_mem_nil, false_implies, implies_true, List.length_append, octal_length, List.length_cons, List.length_nil, and_true, true_and]); (repeat' apply And.intro) <;> omega)) (by first | (intro _ hq; cases hq; done) | omega | ((simp only [List.append_eq, List.cons_append, List.nil_append, List.forall_mem_cons, List.not_mem_nil, false_implies, implies_true, List.length_append, octal_length, List.length_cons, List.length_nil, and_true, true_and]); (repeat' apply And.intro) <;> omega)) (by omega)
  have A136 : fld l 136 148 = octal 11 h.time ++ List.replicate (148 - 136 - (octal 11 h.time).length) 0 := by
    rw [← hl2]; exact lay_fld [(0, name), (100, octal 7 h.mode), (108, octal 7 h.uid), (116, octal 7 h.gid), (124, octal 11 h.size)] _ 136 148 (octal 11 h.time) (by first | (intro _ hq; cases hq; done) | omega | ((simp only [List.append_eq, List.cons_append, List.nil_append, List.forall_mem_cons, List.not_mem_nil, false_implies, implies_true, List.length_append, octal_length, List.length_cons, List.length_nil, and_true, true_and]); (repeat' apply And.intro) <;> omega)) (by first | (intro _ hq; cases hq; done) | omega | ((simp only [List.append_eq, List.cons_append, List.nil_append, List.forall_mem_cons, List.not_mem_nil, false_implies, implies_true, List.length_append, octal_length, List.length_cons, List.length_nil, and_true, true_and]); (repeat' apply And.intro) <;> omega)) (by first | (intro _ hq; cases hq; done) | omega | ((simp only [List.append_eq, List.cons_append, List.nil_append, List.forall_mem_cons, List.not_mem_nil, false_implies, implies_true, List.length_append, octal_length, List.length_cons, List.length_nil, and_true, true_and]); (repeat' apply And.intro) <;> omega)) (by first | (intro _ hq; cases hq; done) | omega | ((simp only [List.append_eq, List.cons_append, List.nil_append, List.forall_mem_cons, List.not_mem_nil, false_implies, implies_true, List.length_append, octal_length, List.length_cons, List.length_nil, and_true, true_and]); (repeat' apply And.intro) <;> omega)) (by first | (intro _ hq; cases hq; done) | omega | ((simp only [List.append_eq, List.cons_append, List.nil_append, List.forall_mem_cons, List.not_mem_nil, false_implies, implies_true, List.length_append, octal_length, List.length_cons, List.length_nil, and_true, true_and]); (repeat' apply And.intro) <;> omega)) (by omega)
  have A156 : fld l 156 157 = [h.typ] ++ List.replicate (157 - 156 - ([h.typ]).length) 0 := by
    rw [← hl2]; exact lay_fld [(0, name), (100, octal 7 h.mode), (108, octal 7 h.uid), (116, octal 7 h.gid), (124, octal 11 h.size), (136, octal 11 h.time)] _ 156 157 ([h.typ]) (by first | (intro _ hq; cases hq; done) | omega | ((simp only [List.append_eq, List.cons_append, List.nil_append, List.forall_mem_cons, List.not_mem_nil, false_implies, implies_true, List.length_append, octal_length, List.length_cons, List.length_nil, and_true, true_and]); (repeat' apply And.intro) <;> omega)) (by first | (intro _ hq; cases hq; done) | omega | ((simp only [List.append_eq, List.cons_append, List.nil_append, List.forall_mem_cons, List.not_mem_nil, false_implies, implies_true, List.length_append, octal_length, List.length_cons, List.length_nil, and_true, true_and]); (repeat' apply And.intro) <;> omega)) (by first | (intro _ hq; cases hq; done) | omega | ((simp only [List.append_eq, List.cons_append, List.nil_append, List.forall_mem_cons, List.not_mem_nil, false_implies, implies_true, List.length_append, octal_length, List.length_cons, List.length_nil, and_true, true_and]); (repeat' apply And.intro) <;> omega)) (by first | (intro _ hq; cases hq; done) | omega | ((simp only [List.append_eq, List.cons_append, List.nil_append, List.forall_mem_cons, List.not_mem_nil, false_implies, implies_true, List.length_append, octal_length, List.length_cons, List.length_nil, and_true, true_and]); (repeat' apply And.intro) <;> omega)) (by first | (intro _ hq; cases hq; done) | omega | ((simp only [List.append_eq, List.cons_append, List.nil_append, List.forall_mem_cons, List.not_mem_nil, false_implies, implies_true, List.length_append, octal_length, List.length_cons, List.length_nil, and_true, true_and]); (repeat' apply And.intro) <;> omega)) (by omega)
  have A157 : fld l 157 257 = h.link.data.toList ++ List.replicate (257 - 157 - (h.link.data.toList).length) 0 := by
    rw [← hl2]; exact lay_fld [(0, name), (100, octal 7 h.mode), (108, octal 7 h.uid), (116, octal 7 h.gid), (124, octal 11 h.size), (136, octal 11 h.time), (156, [h.typ])] _ 157 257 (h.link.data.toList) (by first | (intro _ hq; cases hq; done) | omega | ((simp only [List.append_eq, List.cons_append, List.nil_append, List.forall_mem_cons, List.not_mem_nil, false_implies, implies_true, List.length_append, octal_length, List.length_cons, List.length_nil, and_true, true_and]); (repeat' apply And.intro) <;> omega)) (by first | (intro _ hq; cases hq; done) | omega | ((simp only [List.append_eq, List.cons_append, List.nil_append, List.forall_mem_cons, List.not_mem_nil, false_implies, implies_true, List.length_append, octal_length, List.length_cons, List.length_nil, and_true, true_and]); (repeat' apply And.intro) <;> omega)) (by first | (intro _ hq; cases hq; done) | omega | ((simp only [List.append_eq, List.cons_append, List.nil_append, List.forall_mem_cons, List.not_mem_nil, false_implies, implies_true, List.length_append, octal_length, List.length_cons, List.length_nil, and_true, true_and]); (repeat' apply And.intro) <;> omega)) (by first | (intro _ hq; cases hq; done) | omega | ((simp only [List.append_eq, List.cons_append, List.nil_append, List.forall_mem_cons, List.not_mem_nil, false_implies, implies_true, List.length_append, octal_length, List.length_cons, List.length_nil, and_true, true_and]); (repeat' apply And.intro) <;> omega)) (by first | (intro _ hq; cases hq; done) | omega | ((simp only [List.append_eq, List.cons_append, List.nil_append, List.forall_mem_cons, List.not_mem_nil, false_implies, implies_true, List.length_append, octal_length, List.length_cons, List.length_nil, and_true, true_and]); (repeat' apply And.intro) <;> omega)) (by omega)
  have A257 : fld l 257 265 = [117, 115, 116, 97, 114, 0, 48, 48] ++ List.replicate (265 - 257 - ([117, 115, 116, 97, 114, 0, 48, 48]).length) 0 := by
    rw [← hl2]; exact lay_fld [(0, name), (100, octal 7 h.mode), (108, octal 7 h.uid), (116, octal 7 h.gid), (124, octal 11 h.size), (136, octal 11 h.time), (156, [h.typ]), (157, h.link.data.toList)] _ 257 265 ([117, 115, 116, 97, 114, 0, 48, 48]) (by first | (intro _ hq; cases hq; done) | omega | ((simp only [List.append_eq, List.cons_append, List.nil_append, List.forall_mem_cons, List.not_mem_nil, false_implies, implies_true, List.length_append, octal_length, List.length_cons, List.length_nil, and_true, true_and]); (repeat' apply And.intro) <;> omega)) (by first | (intro _ hq; cases hq; done) | omega | ((simp only [List.append_eq, List.cons_append, List.nil_append, List.forall_mem_cons, List.not_mem_nil, false_implies, implies_true, List.length_append, octal_length, List.length_cons, List.length_nil, and_true, true_and]); (repeat' apply And.intro) <;> omega)) (by first | (intro _ hq; cases hq; done) | omega | ((simp only [List.append_eq, List.cons_append, List.nil_append, List.forall_mem_cons, List.not_mem_nil, false_implies, implies_true, List.length_append, octal_length, List.length_cons, List.length_nil, and_true, true_and]); (repeat' apply And.intro) <;> omega)) (by first | (intro _ hq; cases hq; done) | omega | ((simp only [List.append_eq, List.cons_append, List.nil_append, List.forall_mem_cons, List.not_mem_nil, false_implies, implies_true, List.length_append, octal_length, List.length_cons, List.length_nil, and_true, true_and]); (repeat' apply And.intro) <;> omega)) (by first | (intro _ hq; cases hq; done) | omega | ((simp only [List.append_eq, List.cons_append, List.nil_append, List.forall_mem_cons, List.not_mem_nil, false_implies, implies_true, List.length_append, octal_length, List.length_cons, List.length_nil, and_true, true_and]); (repeat' apply And.intro) <;> omega)) (by omega)
  have A265 : fld l 265 297 = h.user.data.toList ++ List.replicate (297 - 265 - (h.user.data.toList).length) 0 := by
    rw [← hl2]; exact lay_fld [(0, name), (100, octal 7 h.mode), (108, octal 7 h.uid), (116, octal 7 h.gid), (124, octal 11 h.size), (136, octal 11 h.time), (156, [h.typ]), (157, h.link.data.toList), (257, [117, 115, 116, 97, 114, 0, 48, 48])] _ 265 297 (h.user.data.toList) (by first | (intro _ hq; cases hq; done) | omega | ((simp only [List.append_eq, List.cons_append, List.nil_append, List.forall_mem_cons, List.not_mem_nil, false_implies, implies_true, List.length_append, octal_length, List.length_cons, List.length_nil, and_true, true_and]); (repeat' apply And.intro) <;> omega)) (by first | (intro _ hq; cases hq; done) | omega | ((simp only [List.append_eq, List.cons_append, List.nil_append, List.forall_mem_cons, List.not_mem_nil, false_implies, implies_true, List.length_append, octal_length, List.length_cons, List.length_nil, and_true, true_and]); (repeat' apply And.intro) <;> omega)) (by first | (intro _ hq; cases hq; done) | omega | ((simp only [List.append_eq, List.cons_append, List.nil_append, List.forall_mem_cons, List.not_mem_nil, false_implies, implies_true, List.length_append, octal_length, List.length_cons, List.length_nil, and_true, true_and]); (repeat' apply And.intro) <;> omega)) (by first | (intro _ hq; cases hq; done) | omega | ((simp only [List.append_eq, List.cons_append, List.nil_append, List.forall_mem_cons, List.not_mem_nil, false_implies, implies_true, List.length_append, octal_length, List.length_cons, List.length_nil, and_true, true_and]); (repeat' apply And.intro) <;> omega)) (by first | (intro _ hq; cases hq; done) | omega | ((simp only [List.append_eq, List.cons_append, List.nil_append, List.forall_mem_cons, List.not_mem_nil, false_implies, implies_true, List.length_append, octal_length, List.length_cons, List.length_nil, and_true, true_and]); (repeat' apply And.intro) <;> omega)) (by omega)
  have A297 : fld l 297 329 = h.group.data.toList ++ List.replicate (329 - 297 - (h.group.data.toList).length) 0 := by
    rw [← hl2]; exact lay_fld [(0, name), (100, octal 7 h.mode), (108, octal 7 h.uid), (116, octal 7 h.gid), (124, octal 11 h.size), (136, octal 11 h.time), (156, [h.typ]), (157, h.link.data.toList), (257, [117, 115, 116, 97, 114, 0, 48, 48]), (265, h.user.data.toList)] _ 297 329 (h.group.data.toList) (by first | (intro _ hq; cases hq; done) | omega | ((simp only [List.append_eq, List.cons_append, List.nil_append, List.forall_mem_cons, List.not_mem_nil, false_implies, implies_true, List.length_append, octal_length, List.length_cons, List.length_nil, and_true, true_and]); (repeat' apply And.intro) <;> omega)) (by first | (intro _ hq; cases hq; done) | omega | ((simp only [List.append_eq, List.cons_append, List.nil_append, List.forall_mem_cons, List.not_mem_nil, false_implies, implies_true, List.length_append, octal_length, List.length_cons, List.length_nil, and_true, true_and]); (repeat' apply And.intro) <;> omega)) (by first | (intro _ hq; cases hq; done) | omega | ((simp only [List.append_eq, List.cons_append, List.nil_append, List.forall_mem_cons, List.not_mem_nil, false_implies, implies_true, List.length_append, octal_length, List.length_cons, List.length_nil, and_true, true_and]); (repeat' apply And.intro) <;> omega)) (by first | (intro _ hq; cases hq; done) | omega | ((simp only [List.append_eq, List.cons_append, List.nil_append, List.forall_mem_cons, List.not_mem_nil, false_implies, implies_true, List.length_append, octal_length, List.length_cons, List.length_nil, and_true, true_and]); (repeat' apply And.intro) <;> omega)) (by first | (intro _ hq; cases hq; done) | omega | ((simp only [List.append_eq, List.cons_append, List.nil_append, List.forall_mem_cons, List.not_mem_nil, false_implies, implies_true, List.length_append, octal_length, List.length_cons, List.length_nil, and_true, true_and]); (repeat' apply And.intro) <;> omega)) (by omega)
  have A329 : fld l 329 337 = octal 7 h.major ++ List.replicate (337 - 329 - (octal 7 h.major).length) 0 := by
    rw [← hl2]; exact lay_fld [(0, name), (100, octal 7 h.mode), (108, octal 7 h.uid), (116, octal 7 h.gid), (124, octal 11 h.size), (136, octal 11 h.time), (156, [h.typ]), (157, h.link.data.toList), (257, [117, 115, 116, 97, 114, 0, 48, 48]), (265, h.user.data.toList), (297, h.group.data.toList)] _ 329 337 (octal 7 h.major) (by first | (intro _ hq; cases hq; done) | omega | ((simp only [List.append_eq, List.cons_append, List.nil_append, List.forall_mem_cons, List.not_mem_nil, false_implies, implies_true, List.length_append, octal_length, List.length_cons, List.length_nil, and_true, true_and]); (repeat' apply And.intro) <;> omega)) (by first | (intro _ hq; cases hq; done) | omega | ((simp only [List.append_eq, List.cons_append, List.nil_append, List.forall_mem_cons, List.not_mem_nil, false_implies, implies_true, List.length_append, octal_length, List.length_cons, List.length_nil, and_true, true_and]); (repeat' apply And.intro) <;> omega)) (by first | (intro _ hq; cases hq; done) | omega | ((simp only [List.append_eq, List.cons_append, List.nil_append, List.forall_mem_cons, List.not_mem_nil, false_implies, implies_true, List.length_append, octal_length, List.length_cons, List.length_nil, and_true, true_and]); (repeat' apply And.intro) <;> omega)) (by first | (intro _ hq; cases hq; done) | omega | ((simp only [List.append_eq, List.cons_append, List.nil_append, List.forall_mem_cons, List.not_mem_nil, false_implies, implies_true, List.length_append, octal_length, List.length_cons, List.length_nil, and_true, true_and]); (repeat' apply And.intro) <;> omega)) (by first | (intro _ hq; cases hq; done) | omega | ((simp only [List.append_eq, List.cons_append, List.nil_append, List.forall_mem_cons, List.not_mem_nil, false_implies, implies_true, List.length_append, octal_length, List.length_cons, List.length_nil, and_true, true_and]); (repeat' apply And.intro) <;> omega)) (by omega)
  have A337 : fld l 337 345 = octal 7 h.minor ++ List.replicate (345 - 337 - (octal 7 h.minor).length) 0 := by
    rw [← hl2]; exact lay_fld [(0, name), (100, octal 7 h.mode), (108, octal 7 h.uid), (116, octal 7 h.gid), (124, octal 11 h.size), (136, octal 11 h.time), (156, [h.typ]), (157, h.link.data.toList), (257, [117, 115, 116, 97, 114, 0, 48, 48]), (265, h.user.data.toList), (297, h.group.data.toList), (329, octal 7 h.major)] _ 337 345 (octal 7 h.minor) (by first | (intro _ hq; cases hq; done) | omega | ((simp only [List.append_eq, List.cons_append, List.nil_append, List.forall_mem_cons, List.not_mem_nil, false_implies, implies_true, List.length_append, octal_length, List.length_cons, List.length_nil, and_true, true_and]); (repeat' apply And.intro) <;> omega)) (by first | (intro _ hq; cases hq; done) | omega | ((simp only [List.append_eq, List.cons_append, List.nil_append, List.forall_mem_cons, List.not_mem_nil, false_implies, implies_true, List.length_append, octal_length, List.length_cons, List.length_nil, and_true, true_and]); (repeat' apply And.intro) <;> omega)) (by first | (intro _ hq; cases hq; done) | omega | ((simp only [List.append_eq, List.cons_append, List.nil_append, List.forall_mem_cons, List.not_mem_nil, false_implies, implies_true, List.length_append, octal_length, List.length_cons, List.length_nil, and_true, true_and]); (repeat' apply And.intro) <;> omega)) (by first | (intro _ hq; cases hq; done) | omega | ((simp only [List.append_eq, List.cons_append, List.nil_append, List.forall_mem_cons, List.not_mem_nil, false_implies, implies_true, List.length_append, octal_length, List.length_cons, List.length_nil, and_true, true_and]); (repeat' apply And.intro) <;> omega)) (by first | (intro _ hq; cases hq; done) | omega | ((simp only [List.append_eq, List.cons_append, List.nil_append, List.forall_mem_cons, List.not_mem_nil, false_implies, implies_true, List.length_append, octal_length, List.length_cons, List.length_nil, and_true, true_and]); (repeat' apply And.intro) <;> omega)) (by omega)
  have A345 : fld l 345 500 = pre ++ List.replicate (500 - 345 - (pre).length) 0 := by
    rw [← hl2]; exact lay_fld [(0, name), (100, octal 7 h.mode), (108, octal 7 h.uid), (116, octal 7 h.gid), (124, octal 11 h.size), (136, octal 11 h.time), (156, [h.typ]), (157, h.link.data.toList), (257, [117, 115, 116, 97, 114, 0, 48, 48]), (265, h.user.data.toList), (297, h.group.data.toList), (329, octal 7 h.major), (337, octal 7 h.minor)] _ 345 500 (pre) (by first | (intro _ hq; cases hq; done) | omega | ((simp only [List.append_eq, List.cons_append, List.nil_append, List.forall_mem_cons, List.not_mem_nil, false_implies, implies_true, List.length_append, octal_length, List.length_cons, List.length_nil, and_true, true_and]); (repeat' apply And.intro) <;> omega)) (by first | (intro _ hq; cases hq; done) | omega | ((simp only [List.append_eq, List.cons_append, List.nil_append, List.forall_mem_cons, List.not_mem_nil, false_implies, implies_true, List.length_append, octal_length, List.length_cons, List.length_nil, and_true, true_and]); (repeat' apply And.intro) <;> omega)) (by first | (intro _ hq; cases hq; done) | omega | ((simp only [List.append_eq, List.cons_append, List.nil_append, List.forall_mem_cons, List.not_mem_nil, false_implies, implies_true, List.length_append, octal_length, List.length_cons, List.length_nil, and_true, true_and]); (repeat' apply And.intro) <;> omega)) (by first | (intro _ hq; cases hq; done) | omega | ((simp only [List.append_eq, List.cons_append, List.nil_append, List.forall_mem_cons, List.not_mem_nil, false_implies, implies_true, List.length_append, octal_length, List.length_cons, List.length_nil, and_true, true_and]); (repeat' apply And.intro) <;> omega)) (by first | (intro _ hq; cases hq; done) | omega | ((simp only [List.append_eq, List.cons_append, List.nil_append, List.forall_mem_cons, List.not_mem_nil, false_implies, implies_true, List.length_append, octal_length, List.length_cons, List.length_nil, and_true, true_and]); (repeat' apply And.intro) <;> omega)) (by omega)
  have A500 : fld l 500 512 = List.replicate 12 0 := by
    rw [← hl2, lay_out 500 512 _ _ z512_len (by first | (intro _ hq; cases hq; done) | omega | ((simp only [List.append_eq, List.cons_append, List.nil_append, List.forall_mem_cons, List.not_mem_nil, false_implies, implies_true, List.length_append, octal_length, List.length_cons, List.length_nil, and_true, true_and]); (repeat' apply And.intro) <;> omega)) (by first | (intro _ hq; cases hq; done) | omega | ((simp only [List.append_eq, List.cons_append, List.nil_append, List.forall_mem_cons, List.not_mem_nil, false_implies, implies_true, List.length_append, octal_length, List.length_cons, List.length_nil, and_true, true_and]); (repeat' apply And.intro) <;> omega)), fld_z512 _ _ (by omega)]
  rw [hl] at hcl ⊢
  refine ⟨?_, ?_, hcl⟩
  · rw [fld_cat l 0 100 148 (by omega) (by omega), fld_cat l 100 108 148 (by omega) (by omega), fld_cat l 108 116 148 (by omega) (by omega), fld_cat l 116 124 148 (by omega) (by omega), fld_cat l 124 136 148 (by omega) (by omega), A0, A100, A108, A116, A124, A136]
    unfold aheadOf
    rw [filledOf_le hn']
    simp only [octal_length, List.append_assoc]
    rfl
  · rw [fld_cat l 156 157 512 (by omega) (by omega), fld_cat l 157 257 512 (by omega) (by omega), fld_cat l 257 265 512 (by omega) (by omega), fld_cat l 265 297 512 (by omega) (by omega), fld_cat l 297 329 512 (by omega) (by omega), fld_cat l 329 337 512 (by omega) (by omega), fld_cat l 337 345 512 (by omega) (by omega), fld_cat l 345 500 512 (by omega) (by omega), A156, A157, A257, A265, A297, A329, A337, A345, A500]
    unfold behindOf
    rw [filledOf_le hk', filledOf_le (show h.user.data.toList.length ≤ 32 by omega), filledOf_le (show h.group.data.toList.length ≤ 32 by omega), filledOf_le hp']
    simp only [octal_length, List.append_assoc]
    rfl
theorem over_cat {l s : Bs} (hl : l.length = 512) (hs : s.length = 8) : over l 148 s = fld l 0 148 ++ (s ++ fld l 156 512) := by
  unfold over fld
  rw [hs, List.drop_zero, List.append_assoc, Nat.sub_zero]
  congr 2
  rw [List.take_of_length_le (by rw [List.length_drop]; omega)]
/-- The header's bytes, put together as the reference does. -/
theorem hdr_cat {h : Hdr} {pre name : Bs} (hp' : pre.length ≤ 155) (hn' : name.length ≤ 100) (hk' : h.link.data.toList.length ≤ 100) (hu' : h.user.data.toList.length ≤ 31) (hg' : h.group.data.toList.length ≤ 31) :
    ∃ S : Int, sumTo (aheadOf h name ++ ([32, 32, 32, 32, 32, 32, 32, 32] ++ behindOf h pre)) 512 = S ∧ 0 ≤ S ∧ S ≤ 131072 ∧ hdrBytes h pre name = aheadOf h name ++ ((octal 6 S ++ [0, 32]) ++ behindOf h pre) ∧ (aheadOf h name).length = 148 ∧ (behindOf h pre).length = 356 := by
  obtain ⟨h1, h2, h3⟩ := chain_flds hp' hn' hk' hu' hg'
  have hb := sumTo_bd (chain h pre name) 512
  have e := over_over (l := chain h pre name) (s := octal 6 (sumTo (chain h pre name) 512)) (t := [0, 32]) (i := 148) (by simp [octal_length]; omega)
  rw [octal_length] at e
  have l1 : (aheadOf h name).length = 148 := by rw [← h1]; unfold fld; rw [List.length_take, List.length_drop]; omega
  have l2 : (behindOf h pre).length = 356 := by rw [← h2]; unfold fld; rw [List.length_take, List.length_drop]; omega
  refine ⟨sumTo (chain h pre name) 512, ?_, hb.1, by omega, ?_, l1, l2⟩
  · rw [← h1, ← h2, ← over_cat h3 (by rfl)]
    refine sumTo_congr 512 fun k _ hk8 => ?_
    rw [List.getD_eq_getElem?_getD, List.getD_eq_getElem?_getD, over_get (by rw [h3]; simp), if_neg (by simp; omega)]
  · unfold hdrBytes
    rw [e, over_cat h3 (by rw [List.length_append, octal_length]; rfl), h1, h2]
end Go.Proofs.YthpmocfdnoehoaaGreatDoor
/- What the contract of the reference's Encode speaks of. -/
namespace Go.Proofs.YthpmocfdnoehoaaGreatDoor
open Go.RowKit
/-- The header lies in its box. -/
def EncR (w0 : World) (h : Hdr) (w : World) : Prop := Below w0.heap.size w0 w ∧ w.heap[w0.heap.size]? = some (.cells h.cells 24 (0, 0))
theorem EncR.step {w0 w w' : World} {h : Hdr} (hE : EncR w0 h w) (hb : Below w.heap.size w w') : EncR w0 h w' :=
  ⟨hE.1.trans (hb.mono hE.1.size), (hb.block _ (blk_lt hE.2)).trans hE.2⟩
theorem EncR.cell {w0 w : World} {h : Hdr} (hE : EncR w0 h w) : ∀ i : Nat, w.cell? ⟨w0.heap.size, i, none⟩ = h.cells[i]? := fun _ => cell_of_heapN hE.2
theorem EncR.new (w : World) (h : Hdr) : EncR w h (w.alloc (.cells h.cells 24)) := ⟨(Below.refl _ _).alloc (Nat.le_refl _) _, heap_new _ _⟩
theorem EncR.drew {w0 w : World} {h : Hdr} (hE : EncR w0 h w) : EncR w0 h w.drew := ⟨hE.1.drew, hE.2⟩
/-- What Encode answers. -/
def encV (h : Hdr) : Value := .tuple #[.string ⟨(if encErr h = 0 then encOf h else []).toArray⟩, .int .i64 (encErr h)]
theorem encV_bad {h : Hdr} {x : Int} (he : encErr h = x) (hx : x ≠ 0) : encV h = .tuple #[.string ⟨#[]⟩, .int .i64 x] := by
  unfold encV; rw [he, if_neg hx]
theorem encV_ok {h : Hdr} {X : ByteArray} (he : encErr h = 0) (hX : X.data.toList = encOf h) : encV h = .tuple #[.string X, .int .i64 0] := by
  unfold encV; rw [he, if_pos rfl, bytes_eq hX]
theorem encErr_wrong {h : Hdr} (hw : wrongB h = true) : encErr h = 6 := by unfold encErr; rw [if_pos hw]
theorem encErr_path {h : Hdr} (hw : wrongB h = false) (hs : splitOf h.path = none) : encErr h = 9 := by unfold encErr; rw [if_neg (by simp [hw]), hs]
theorem encErr_link {h : Hdr} {pn : ByteArray × ByteArray} (hw : wrongB h = false) (hs : splitOf h.path = some pn) (hl : 100 < h.link.size) : encErr h = 17 := by unfold encErr; rw [if_neg (by simp [hw]), hs]; simp only [if_pos hl]
theorem encErr_num {h : Hdr} {pn : ByteArray × ByteArray} (hw : wrongB h = false) (hs : splitOf h.path = some pn) (hl : ¬ 100 < h.link.size) (hn : (nums7 h && nums11 h) = false) : encErr h = 1 := by unfold encErr; rw [if_neg (by simp [hw]), hs]; simp only [if_neg hl]; rw [if_neg (by simp [hn])]
theorem encErr_ok {h : Hdr} {pn : ByteArray × ByteArray} (hw : wrongB h = false) (hs : splitOf h.path = some pn) (hl : ¬ 100 < h.link.size) (hn : (nums7 h && nums11 h) = true) : encErr h = 0 := by unfold encErr; rw [if_neg (by simp [hw]), hs]; simp only [if_neg hl]; rw [if_pos hn]
def octB (d : Nat) (x : Int) : ByteArray := ⟨(octal d x).toArray⟩
def filB (s : ByteArray) (n : Nat) : ByteArray := ⟨(filledOf s.data.toList n).toArray⟩
theorem octB_size (d : Nat) (x : Int) : (octB d x).size = d := by
  show (octal d x).toArray.size = d
  rw [List.size_toArray, octal_length]
theorem filB_size (s : ByteArray) (n : Nat) : (filB s n).size = n := by
  show (filledOf s.data.toList n).toArray.size = n
  rw [List.size_toArray]; unfold filledOf; rw [List.length_take, List.length_append, List.length_replicate]; omega
theorem app_list (a b : ByteArray) : (a ++ b).data.toList = a.data.toList ++ b.data.toList := by
  show (a.append b).data.toList = _
  simp
def aheadB (h : Hdr) (name : ByteArray) : ByteArray := filB name 100 ++ octB 7 h.mode ++ ⟨#[0]⟩ ++ octB 7 h.uid ++ ⟨#[0]⟩ ++ octB 7 h.gid ++ ⟨#[0]⟩ ++ octB 11 h.size ++ ⟨#[0]⟩ ++ octB 11 h.time ++ ⟨#[0]⟩
def behindB (h : Hdr) (pre : ByteArray) : ByteArray := ⟨#[h.typ]⟩ ++ filB h.link 100 ++ ⟨#[117, 115, 116, 97, 114, 0, 48, 48]⟩ ++ filB h.user 32 ++ filB h.group 32 ++ octB 7 h.major ++ ⟨#[0]⟩ ++ octB 7 h.minor ++ ⟨#[0]⟩ ++ filB pre 155 ++ filB ⟨#[]⟩ 12
theorem aheadB_list (h : Hdr) (name : ByteArray) : (aheadB h name).data.toList = aheadOf h name.data.toList := by
  unfold aheadB aheadOf octB filB
  simp only [app_list, List.append_assoc]
theorem behindB_list (h : Hdr) (pre : ByteArray) : (behindB h pre).data.toList = behindOf h pre.data.toList := by
  unfold behindB behindOf octB filB
  simp only [app_list, List.append_assoc]
  rw [filledOf_nil]
theorem enc_bytes {h : Hdr} {pre name : ByteArray} (hs : splitOf h.path = some (pre, name)) (hl : ¬ 100 < h.link.size) (hu : h.user.size ≤ 31) (hg : h.group.size ≤ 31) :
    ∃ S : Int, sumTo (aheadB h name ++ ⟨#[32, 32, 32, 32, 32, 32, 32, 32]⟩ ++ behindB h pre).data.toList (aheadB h name ++ ⟨#[32, 32, 32, 32, 32, 32, 32, 32]⟩ ++ behindB h pre).size = S ∧ 0 ≤ S ∧ S ≤ 131072 ∧ (aheadB h name ++ octB 6 S ++ ⟨#[0, 32]⟩ ++ behindB h pre).data.toList = encOf h ∧ (aheadB h name).size = 148 ∧ (behindB h pre).size = 356 := by
  obtain ⟨hp, hn⟩ := splitOf_bd hs
  obtain ⟨S, h1, h2, h3, h4, h5, h6⟩ := hdr_cat (h := h) (pre := pre.data.toList) (name := name.data.toList) hp hn (by show h.link.size ≤ 100; omega) hu hg
  have e1 : (aheadB h name).size = 148 := by rw [← h5, ← aheadB_list]; rfl
  have e2 : (behindB h pre).size = 356 := by rw [← h6, ← behindB_list]; rfl
  refine ⟨S, ?_, h2, h3, ?_, e1, e2⟩
  · have e3 : (aheadB h name ++ ⟨#[32, 32, 32, 32, 32, 32, 32, 32]⟩ ++ behindB h pre).size = 512 := by
      rw [ByteArray.size_append, ByteArray.size_append, e1, e2]; rfl
    rw [e3, app_list, app_list, aheadB_list, behindB_list, List.append_assoc]
    exact h1
  · unfold encOf
    rw [hs]
    show _ = hdrBytes h pre.data.toList name.data.toList
    rw [h4, app_list, app_list, app_list, aheadB_list, behindB_list]
    unfold octB
    simp only [List.append_assoc]
theorem sum_enc {h : Hdr} {pre name : ByteArray} {S : Int} (hS1 : sumTo (aheadB h name ++ ⟨#[32, 32, 32, 32, 32, 32, 32, 32]⟩ ++ behindB h pre).data.toList (aheadB h name ++ ⟨#[32, 32, 32, 32, 32, 32, 32, 32]⟩ ++ behindB h pre).size = S) (hS5 : (aheadB h name).size = 148) (hS6 : (behindB h pre).size = 356) (w : World) :
    Calls Tryz.prog 39 #[.string (aheadB h name ++ ⟨#[32, 32, 32, 32, 32, 32, 32, 32]⟩ ++ behindB h pre)] w fun e w' => e = .returned (.int .i64 S) ∧ Below w.heap.size w w' := by
  have hz : (aheadB h name ++ ⟨#[32, 32, 32, 32, 32, 32, 32, 32]⟩ ++ behindB h pre).size = 512 := by rw [ByteArray.size_append, ByteArray.size_append, hS5, hS6]; rfl
  have := Sum_any (aheadB h name ++ ⟨#[32, 32, 32, 32, 32, 32, 32, 32]⟩ ++ behindB h pre) w (by omega)
  rw [hS1] at this
  exact this
theorem conv_at (w : World) (b : Nat) (x : UInt8) (h : w.heap[b]? = some (.cells #[byteV x] 5 (0, 0))) : (convert 48 9 (.slice (some ⟨b, 0, none⟩) 1 1)).run Tryz.prog w = .ok (.string ⟨#[x]⟩) w := by
  have := run_convert_bytes_back (P := Tryz.prog) w 48 9 5 ⟨b, 0, none⟩ 1 [x] Tryz.underlying48 Tryz.underlying5 Tryz.underlying9 (fun j hj => by
    have hj0 : j = 0 := by simpa using hj
    subst hj0
    show w.cell? ⟨b, 0, none⟩ = _
    rw [cell_of_heapN h]
    rfl)
  exact this
/-- The header, and the block of the type's byte. -/
def EncB (w0 : World) (h : Hdr) (b : Nat) (w : World) : Prop := EncR w0 h w ∧ w.heap[b]? = some (.cells #[byteV h.typ] 5 (0, 0))
theorem EncB.step {w0 w w' : World} {h : Hdr} {b : Nat} (hE : EncB w0 h b w) (hb : Below w.heap.size w w') : EncB w0 h b w' :=
  ⟨hE.1.step hb, (hb.block _ (blk_lt hE.2)).trans hE.2⟩
end Go.Proofs.YthpmocfdnoehoaaGreatDoor
/- Contract of the reference's Write, given that of its Encode. -/
namespace Go.Proofs.YthpmocfdnoehoaaGreatDoor
open Go.RowKit
def EncodeRSaid : Prop := ∀ (h : Hdr) (w : World), h.small → Calls Tryz.prog 18 #[.agg h.cells] w fun e w' => e = .returned (encV h) ∧ Below w.heap.size w w'
theorem wrV_bad {l r : List Mem} {m : Mem} {k : Nat} {acc : Bs} {x : Int} (hg : wrGo l 0 [] = wrGo (m :: r) k acc) (hx : wrBad acc.length m = x) (h0 : x ≠ 0) : wrV (wrGo l 0 []) = .tuple #[.string ⟨#[]⟩, .int .i64 x, .int .i64 k] := by
  have : wrGo l 0 [] = (x, k, []) := by rw [hg, wrGo, hx, if_pos h0]
  rw [this]; rfl
set_option maxHeartbeats 6400000 in
set_option maxRecDepth 100000 in
theorem WriteR_any (hE : EncodeRSaid) : WriteRSaid := by
  intro l p cap w hM hn hs
  have HE := Lib.hid hE
  go_enter Tryz.func7, Tryz.ntmps7
  go_wp2_with fail
  obtain ⟨n, hnl⟩ : ∃ n, l.length = n := ⟨_, rfl⟩
  rw [hnl] at hn ⊢
  have HN := Lib.hid hnl
  have HM := Lib.hid hM
  have HS := Lib.hid hs
  clear hnl hM hs hE
  go_loopw [5, 6, 7] (fun v sv iv wr => ∃ (k : Nat) (acc : Bs), k ≤ n ∧ iv = .int .i64 k ∧ sv = .int .i64 (1024 + (acc.length : Int)) ∧ (acc.length : Int) ≤ 33553408 ∧ Hid (OwnB w.heap.size acc v wr) ∧ Hid (Below w.heap.size w wr) ∧ Hid (wrGo l 0 [] = wrGo (l.drop k) k acc)) (fun _ _ iv _ => n - (intOf iv).toNat)
  case atStart => exact ⟨0, [], Nat.zero_le _, rfl, rfl, by decide, OwnB.nil _ _, Below.refl _ _, rfl⟩
  case round =>
    obtain ⟨k, acc, hk, rfl, rfl, hacc, hown, hbel, hgo⟩ := hrel
    by_cases hlt : k < n
    · obtain ⟨m, hm⟩ : ∃ m, l[k]? = some m := ⟨_, List.getElem?_eq_getElem (i := k) (by have := HN.out; omega)⟩
      have hdrop : l.drop k = m :: l.drop (k + 1) := by
        have h1 : k < l.length := by have := HN.out; omega
        rw [List.drop_eq_getElem_cons h1]
        congr 1
        exact (List.getElem?_eq_some_iff.1 hm).2
      have HG := Lib.hid (show wrGo l 0 [] = wrGo (m :: l.drop (k + 1)) k acc by rw [hgo.out, hdrop])
      have hsm : m.small := HS.out m (List.mem_of_getElem? hm)
      obtain ⟨b, off, rfl, hb⟩ := HM.out.1 k (by have := HN.out; omega)
      have hrow : ∀ j, j < 13 → wr.cell? ⟨b, off + (k * 13 + j), none⟩ = m.cells[j]? := fun j hj => (hbel.out.cell (p := ⟨b, off + (k * 13 + j), none⟩) hb).trans (HM.out.2 b off rfl k m hm j hj)
      have c0 : wr.cell? ⟨b, off + k * 13, none⟩ = some (.string m.hdr.path) := row_cell hrow (j := 0) (by decide) rfl
      have c1 := row_cell hrow (j := 1) (by decide) rfl
      have c2 := row_cell hrow (j := 2) (by decide) rfl
      have c3 := row_cell hrow (j := 3) (by decide) rfl
      have c4 := row_cell hrow (j := 4) (by decide) rfl
      have c5 := row_cell hrow (j := 5) (by decide) rfl
      have c6 := row_cell hrow (j := 6) (by decide) rfl
      have c7 := row_cell hrow (j := 7) (by decide) rfl
      have c8 := row_cell hrow (j := 8) (by decide) rfl
      have c9 := row_cell hrow (j := 9) (by decide) rfl
      have c10 := row_cell hrow (j := 10) (by decide) rfl
      have c11 := row_cell hrow (j := 11) (by decide) rfl
      have c12 := row_cell hrow (j := 12) (by decide) rfl
      have HRW := Lib.hid (show ∀ w2, Below w.heap.size w w2 → ∀ j, j < 13 → w2.cell? ⟨b, off + (k * 13 + j), none⟩ = m.cells[j]? from fun w2 h2 j hj => (h2.cell (p := ⟨b, off + (k * 13 + j), none⟩) hb).trans (HM.out.2 b off rfl k m hm j hj))
      have HSM := Lib.hid hsm
      clear hm hdrop hsm hrow hgo hb
      go_wp2_with fail
      refine (HE.out m.hdr _ HSM.out.1).mono ?_
      rintro e w1 ⟨rfl, hb1⟩
      have HO1 := Lib.hid (hown.out.keep hb1)
      have HB1 := Lib.hid (hbel.out.trans (hb1.mono hbel.out.size))
      clear c0 c1 c2 c3 c4 c5 c6 c7 c8 c9 c10 c11 c12 hb1 hbel hown
      obtain ⟨x, hx⟩ : ∃ x, encErr m.hdr = x := ⟨_, rfl⟩
      have HX := Lib.hid hx
      unfold encV
      rw [hx]
      clear hx
      by_cases h0 : x = 0
      · rw [if_pos h0, h0]
        have HX0 := Lib.hid h0
        clear h0
        have c4 : w1.cell? ⟨b, off + k * 13 + 4, none⟩ = some (.int .i64 m.hdr.size) := row_cell (HRW.out w1 HB1.out) (j := 4) (by decide) rfl
        have c12 : w1.cell? ⟨b, off + k * 13 + 12, none⟩ = some (.string m.data) := row_cell (HRW.out w1 HB1.out) (j := 12) (by decide) rfl
        by_cases h1 : m.hdr.size = (m.data.size : Int)
        · have HSZ := Lib.hid h1
          rw [h1] at c4
          clear h1
          have hds : (m.data.size : Int) ≤ 140737488351232 := by have := HSM.out.2; omega
          have hbk := fun w2 => blocksR_any m.data.size w2 (by omega)
          have hwl := whole_le m.data.size
          obtain ⟨q, hq⟩ : ∃ q, Go.Proofs.YthpmocfdnoehoaaGreatDoor.whole m.data.size = q := ⟨_, rfl⟩
          have hq5 : q / 512 * 512 = q := by rw [← hq]; unfold whole; omega
          rw [hq] at hwl hbk
          have HQ := Lib.hid hq
          have hqb : (q : Int) ≤ 140737488351743 := by omega
          have hq6 : 512 * ((q : Int) / 512) = (q : Int) := by omega
          have hq7 : (0 : Int) ≤ (q : Int) / 512 := by omega
          have hq8 : (q : Int) / 512 ≤ 274877906945 := by omega
          clear hq hwl hq5
          go_wp2_with fail
          go_region
          have HO2 := Lib.hid (show OwnB w.heap.size acc _ w1.drew from HO1.out)
          have HB1' := Lib.hid HB1.out.drew
          have e4 : w1.drew.cell? ⟨b, off + k * 13 + 4, none⟩ = some (.int .i64 m.data.size) := c4
          have e12 : w1.drew.cell? ⟨b, off + k * 13 + 12, none⟩ = some (.string m.data) := c12
          clear HO1 HB1 c4 c12
          generalize w1.drew = w1' at HO2 HB1' e4 e12 ⊢
          go_wp2_with fail
          refine (hbk _).mono ?_
          rintro e w2 ⟨rfl, rfl⟩
          clear hbk
          by_cases h2 : (33554432 : Int) < 1024 + (acc.length : Int) + 512 + 512 * ((q : Int) / 512)
          · have HB2 := Lib.hid (show wrBad acc.length m = 5 by
              unfold wrBad
              rw [if_neg (by rw [HX.out, HX0.out]; simp), if_neg (by rw [HSZ.out]; simp), HQ.out, if_pos (by omega)])
            go_wp2_with fail
            go_ret3
            exact ⟨congrArg Ending.returned (wrV_bad HG.out HB2.out (by decide)).symm, HB1'.out⟩
          · have HB2 := Lib.hid (show wrBad acc.length m = 0 by
              unfold wrBad
              rw [if_neg (by rw [HX.out, HX0.out]; simp), if_neg (by rw [HSZ.out]; simp), HQ.out, if_neg (by omega)])
            have hq9 : (acc.length : Int) + 512 + (q : Int) ≤ 33553408 := by omega
            have hel : (encOf m.hdr).length = 512 := encOf_length (by rw [HX.out, HX0.out])
            have hqs : (m.data.size : Int) ≤ (q : Int) := by rw [← HQ.out]; have := whole_le m.data.size; omega
            have HMB := Lib.hid (show ((acc ++ encOf m.hdr) ++ m.data.data.toList) ++ List.replicate (Go.Proofs.YthpmocfdnoehoaaGreatDoor.whole m.data.size - m.data.size) 0 = acc ++ memBytes m by unfold memBytes; simp only [List.append_assoc])
            have hmbl : ((acc ++ memBytes m).length : Int) = (acc.length : Int) + 512 + (q : Int) := by
              have hd : m.data.data.toList.length = m.data.size := rfl
              have := HQ.out
              unfold memBytes
              rw [List.length_append, List.length_append, List.length_append, hel, List.length_replicate, hd]
              omega
            have HMBL := Lib.hid hmbl
            have HEL := Lib.hid hel
            clear hmbl hel
            go_wp2_with fail
            refine (added_any w.heap.size acc _ ⟨(encOf m.hdr).toArray⟩ w1' HO2.out HB1'.out.size (by show (acc.length : Int) + ((encOf m.hdr).toArray.size : Int) ≤ _; rw [List.size_toArray, HEL.out]; omega)).mono ?_
            rintro e w2 ⟨v2, rfl, ho2, hb2⟩
            have HO3 := Lib.hid (show OwnB w.heap.size (acc ++ encOf m.hdr) v2 w2 from ho2)
            have HB3 := Lib.hid (HB1'.out.trans hb2)
            have d12 : w2.cell? ⟨b, off + k * 13 + 12, none⟩ = some (.string m.data) := row_cell (HRW.out w2 HB3.out) (j := 12) (by decide) rfl
            clear ho2 hb2 HO2 HB1' e4 e12
            have hdl : m.data.data.toList.length = m.data.size := rfl
            go_wp2_with fail
            refine (added_any w.heap.size _ _ m.data w2 HO3.out HB3.out.size (by rw [List.length_append, HEL.out]; omega)).mono ?_
            rintro e w3 ⟨v3, rfl, ho3, hb3⟩
            have HO4 := Lib.hid ho3
            have HB4 := Lib.hid (HB3.out.trans hb3)
            have e12 : w3.cell? ⟨b, off + k * 13 + 12, none⟩ = some (.string m.data) := row_cell (HRW.out w3 HB4.out) (j := 12) (by decide) rfl
            clear ho3 hb3 HO3 HB3 d12
            go_wp2_with fail
            refine (filled_any m.data w3 (by omega)).mono ?_
            rintro e w4 ⟨rfl, hb4⟩
            have HO5 := Lib.hid (HO4.out.keep hb4)
            have HB5 := Lib.hid (HB4.out.trans (hb4.mono HB4.out.size))
            clear hb4 HO4 HB4 e12
            go_wp2_with fail
            refine (added_any w.heap.size _ _ ⟨(List.replicate (Go.Proofs.YthpmocfdnoehoaaGreatDoor.whole m.data.size - m.data.size) 0).toArray⟩ w4 HO5.out HB5.out.size (by rw [List.length_append, List.length_append, HEL.out]; show _ + (((List.replicate (Go.Proofs.YthpmocfdnoehoaaGreatDoor.whole m.data.size - m.data.size) (0 : UInt8)).toArray.size : Nat) : Int) ≤ _; rw [List.size_toArray, List.length_replicate, HQ.out]; omega)).mono ?_
            rintro e w5 ⟨v5, rfl, ho5, hb5⟩
            have HO6 := Lib.hid (show OwnB w.heap.size (acc ++ memBytes m) v5 w5 by rw [← HMB.out]; exact ho5)
            have HB6 := Lib.hid (HB5.out.trans hb5)
            clear ho5 hb5 HO5 HB5 hdl
            go_wp2_with fail
            refine ⟨⟨k + 1, acc ++ memBytes m, by omega, by rw [Int.natCast_add]; rfl, ?_, by rw [HMBL.out]; exact hq9, HO6, HB6, ?_⟩, by simp [intOf]; omega⟩
            · rw [HMBL.out]
              exact congrArg (Value.int .i64) (by omega)
            · show wrGo l 0 [] = _
              rw [HG.out, wrGo, if_neg (by rw [HB2.out]; simp)]
        · have hne : (m.hdr.size != (m.data.size : Int)) = true := by simpa using h1
          have H1 := Lib.hid h1
          clear h1
          go_wp2_with fail
          go_region
          go_wp2_with fail
          go_ret3
          exact ⟨congrArg Ending.returned (wrV_bad HG.out (show wrBad acc.length m = 1 by rw [wrBad, if_neg (by rw [HX.out, HX0.out]; simp), if_pos H1.out]) (by decide)).symm, HB1.out.drew⟩
      · rw [if_neg h0]
        have H0 := Lib.hid h0
        have hne : (x != 0) = true := by simpa using h0
        clear h0
        go_wp2_with fail
        go_ret3
        exact ⟨congrArg Ending.returned (wrV_bad HG.out (show wrBad acc.length m = x by rw [wrBad, if_pos (by rw [HX.out]; exact H0.out), HX.out]) H0.out).symm, HB1.out⟩
    · have ed : l.drop k = [] := List.drop_eq_nil_of_le (by have := HN.out; omega)
      have HG := Lib.hid (show wrGo l 0 [] = (0, 0, acc ++ List.replicate 1024 0) by rw [hgo.out, ed, wrGo])
      have hF : ∀ w1 : World, Calls Tryz.prog 22 #[.string ⟨#[]⟩, .int .i64 1024] w1 fun e w' => e = .returned (.string ⟨(filledOf [] 1024).toArray⟩) ∧ Below w1.heap.size w1 w' := fun w1 => Filled_any ⟨#[]⟩ 1024 w1 (by decide)
      rw [filledOf_nil] at hF
      obtain ⟨Z, hZ⟩ : ∃ Z : Bs, List.replicate 1024 0 = Z := ⟨_, rfl⟩
      have hzl : Z.length = 1024 := by rw [← hZ, List.length_replicate]
      rw [hZ] at hF HG
      clear hZ ed hgo
      go_wp2_with fail
      refine (hF _).mono ?_
      rintro e w1 ⟨rfl, hb1⟩
      have HO1 := Lib.hid (hown.out.keep hb1)
      have HB1 := Lib.hid (hbel.out.trans (hb1.mono hbel.out.size))
      clear hb1 hF hown hbel
      go_wp2_with fail
      refine (added_any w.heap.size acc _ ⟨Z.toArray⟩ w1 HO1.out HB1.out.size (by show (acc.length : Int) + (Z.toArray.size : Int) ≤ _; rw [List.size_toArray, hzl]; omega)).mono ?_
      rintro e w2 ⟨v2, rfl, ho2, hb2⟩
      have HO2 := Lib.hid (show OwnB w.heap.size (acc ++ Z) v2 w2 from ho2)
      have HB2 := Lib.hid (HB1.out.trans hb2)
      have hc := HO2.out.conv
      clear ho2 hb2 HO1 HB1
      go_wp2_with fail
      go_ret3
      exact ⟨congrArg Ending.returned (show _ = wrV (wrGo l 0 []) by rw [HG.out]; rfl), HB2.out⟩
end Go.Proofs.YthpmocfdnoehoaaGreatDoor
/- Contract of the reference's Encode. -/
namespace Go.Proofs.YthpmocfdnoehoaaGreatDoor
open Go.RowKit
set_option maxHeartbeats 6400000 in
set_option maxRecDepth 100000 in
theorem EncodeR_any (h : Hdr) (w : World) (hm : h.small) :
    Calls Tryz.prog 18 #[.agg h.cells] w fun e w' => e = .returned (encV h) ∧ Below w.heap.size w w' := by
  have HM := Lib.hid hm
  clear hm
  have E0 := Lib.hid (EncR.new w h)
  have cm := E0.out.cell
  go_enter Tryz.func18, Tryz.ntmps18
  go_wp2_with fail
  refine (nought_any h.path _ (by have := HM.out.1; omega)).mono ?_
  rintro e w1 ⟨rfl, hb⟩
  have E1 := Lib.hid (E0.out.step hb)
  replace cm := E1.out.cell
  clear hb E0
  cases hf0 : nulIn h.path with
  | true =>
    go_wp2_with fail
    go_ret2
    exact ⟨congrArg Ending.returned (encV_bad (encErr_wrong (by simp [wrongB, hf0])) (by decide)).symm, E1.out.1⟩
  | false =>
    go_wp2_with fail
    refine (nought_any h.link _ (by have := HM.out.2.1; omega)).mono ?_
    rintro e w2 ⟨rfl, hb⟩
    have E2 := Lib.hid (E1.out.step hb)
    replace cm := E2.out.cell
    clear hb E1
    cases hf1 : nulIn h.link with
    | true =>
      go_wp2_with fail
      go_ret2
      exact ⟨congrArg Ending.returned (encV_bad (encErr_wrong (by simp [wrongB, hf1])) (by decide)).symm, E2.out.1⟩
    | false =>
      go_wp2_with fail
      refine (nought_any h.user _ (by have := HM.out.2.2.1; omega)).mono ?_
      rintro e w3 ⟨rfl, hb⟩
      have E3 := Lib.hid (E2.out.step hb)
      replace cm := E3.out.cell
      clear hb E2
      cases hf2 : nulIn h.user with
      | true =>
        go_wp2_with fail
        go_ret2
        exact ⟨congrArg Ending.returned (encV_bad (encErr_wrong (by simp [wrongB, hf2])) (by decide)).symm, E3.out.1⟩
      | false =>
        go_wp2_with fail
        refine (nought_any h.group _ (by have := HM.out.2.2.2; omega)).mono ?_
        rintro e w4 ⟨rfl, hb⟩
        have E4 := Lib.hid (E3.out.step hb)
        replace cm := E4.out.cell
        clear hb E3
        cases hf3 : nulIn h.group with
        | true =>
          go_wp2_with fail
          go_ret2
          exact ⟨congrArg Ending.returned (encV_bad (encErr_wrong (by simp [wrongB, hf3])) (by decide)).symm, E4.out.1⟩
        | false =>
          by_cases hu31 : (31 : Int) < (h.user.size : Int)
          · go_wp2_with fail
            go_ret2
            exact ⟨congrArg Ending.returned (encV_bad (encErr_wrong (by simp only [wrongB, Bool.or_eq_true, decide_eq_true_eq]; omega)) (by decide)).symm, E4.out.1⟩
          by_cases hg31 : (31 : Int) < (h.group.size : Int)
          · go_wp2_with fail
            go_ret2
            exact ⟨congrArg Ending.returned (encV_bad (encErr_wrong (by simp only [wrongB, Bool.or_eq_true, decide_eq_true_eq]; omega)) (by decide)).symm, E4.out.1⟩
          have HW := Lib.hid (show wrongB h = false from (by simp only [wrongB, hf0, hf1, hf2, hf3, Bool.false_or, Bool.or_eq_false_iff, decide_eq_false_iff_not]; omega))
          clear hf0 hf1 hf2 hf3
          go_wp2_with fail
          refine (SplitR_any h.path _ (by have := HM.out.1; omega)).mono ?_
          rintro e w5 ⟨rfl, hb⟩
          have E5 := Lib.hid (E4.out.step hb)
          replace cm := E5.out.cell
          clear hb E4
          cases hs : splitOf h.path with
          | none =>
            have hsv : splitV h.path = .tuple #[.string ⟨#[]⟩, .string ⟨#[]⟩, .int .i64 9] := by unfold splitV; rw [hs]
            rw [hsv]
            go_wp2_with fail
            go_ret2
            exact ⟨congrArg Ending.returned (encV_bad (encErr_path HW.out hs) (by decide)).symm, E5.out.1⟩
          | some pn =>
            obtain ⟨pre, name⟩ := pn
            have hsv : splitV h.path = .tuple #[.string pre, .string name, .int .i64 0] := by unfold splitV; rw [hs]
            rw [hsv]
            have HS := Lib.hid hs
            clear hsv hs
            by_cases hl : (100 : Int) < (h.link.size : Int)
            · go_wp2_with fail
              go_ret2
              exact ⟨congrArg Ending.returned (encV_bad (encErr_link HW.out HS.out (by omega)) (by decide)).symm, E5.out.1⟩
            have HLK := Lib.hid (show ¬ 100 < h.link.size from (by omega))
            go_wp2_with fail
            refine (in_any h.mode 2097151 _).mono ?_
            rintro e w6 ⟨rfl, rfl⟩
            cases hn0 : inB 2097151 h.mode with
            | false =>
              go_wp2_with fail
              go_ret2
              exact ⟨congrArg Ending.returned (encV_bad (encErr_num HW.out HS.out HLK.out (by simp [nums7, nums11, hn0])) (by decide)).symm, E5.out.1⟩
            | true =>
              go_wp2_with fail
              refine (in_any h.uid 2097151 _).mono ?_
              rintro e w6 ⟨rfl, rfl⟩
              cases hn1 : inB 2097151 h.uid with
              | false =>
                go_wp2_with fail
                go_ret2
                exact ⟨congrArg Ending.returned (encV_bad (encErr_num HW.out HS.out HLK.out (by simp [nums7, nums11, hn1])) (by decide)).symm, E5.out.1⟩
              | true =>
                go_wp2_with fail
                refine (in_any h.gid 2097151 _).mono ?_
                rintro e w6 ⟨rfl, rfl⟩
                cases hn2 : inB 2097151 h.gid with
                | false =>
                  go_wp2_with fail
                  go_ret2
                  exact ⟨congrArg Ending.returned (encV_bad (encErr_num HW.out HS.out HLK.out (by simp [nums7, nums11, hn2])) (by decide)).symm, E5.out.1⟩
                | true =>
                  go_wp2_with fail
                  refine (in_any h.major 2097151 _).mono ?_
                  rintro e w6 ⟨rfl, rfl⟩
                  cases hn3 : inB 2097151 h.major with
                  | false =>
                    go_wp2_with fail
                    go_ret2
                    exact ⟨congrArg Ending.returned (encV_bad (encErr_num HW.out HS.out HLK.out (by simp [nums7, nums11, hn3])) (by decide)).symm, E5.out.1⟩
                  | true =>
                    go_wp2_with fail
                    refine (in_any h.minor 2097151 _).mono ?_
                    rintro e w6 ⟨rfl, rfl⟩
                    cases hn4 : inB 2097151 h.minor with
                    | false =>
                      go_wp2_with fail
                      go_ret2
                      exact ⟨congrArg Ending.returned (encV_bad (encErr_num HW.out HS.out HLK.out (by simp [nums7, nums11, hn4])) (by decide)).symm, E5.out.1⟩
                    | true =>
                      go_wp2_with fail
                      refine (in_any h.size 8589934591 _).mono ?_
                      rintro e w6 ⟨rfl, rfl⟩
                      cases hn5 : inB 8589934591 h.size with
                      | false =>
                        go_wp2_with fail
                        go_ret2
                        exact ⟨congrArg Ending.returned (encV_bad (encErr_num HW.out HS.out HLK.out (by simp [nums7, nums11, hn5])) (by decide)).symm, E5.out.1⟩
                      | true =>
                        go_wp2_with fail
                        refine (in_any h.time 8589934591 _).mono ?_
                        rintro e w6 ⟨rfl, rfl⟩
                        cases hn6 : inB 8589934591 h.time with
                        | false =>
                          go_wp2_with fail
                          go_ret2
                          exact ⟨congrArg Ending.returned (encV_bad (encErr_num HW.out HS.out HLK.out (by simp [nums7, nums11, hn6])) (by decide)).symm, E5.out.1⟩
                        | true =>
                          have HN := Lib.hid (show (nums7 h && nums11 h) = true from (by simp [nums7, nums11, hn0, hn1, hn2, hn3, hn4, hn5, hn6]))
                          simp only [inB, Bool.and_eq_true, decide_eq_true_eq] at hn0 hn1 hn2 hn3 hn4 hn5 hn6
                          go_wp2_with fail
                          have hO7 : ∀ (x : Int) (w1 : World), 0 ≤ x → x ≤ 8589934591 → Calls Tryz.prog 38 #[.int .i64 x, .int .i64 7] w1 fun e w' => e = .returned (.string (octB 7 x)) ∧ Below w1.heap.size w1 w' := fun x w1 a b => Octal_any x 7 w1 (by decide) a (by omega)
                          have hO11 : ∀ (x : Int) (w1 : World), 0 ≤ x → x ≤ 8589934591 → Calls Tryz.prog 38 #[.int .i64 x, .int .i64 11] w1 fun e w' => e = .returned (.string (octB 11 x)) ∧ Below w1.heap.size w1 w' := fun x w1 a b => Octal_any x 11 w1 (by decide) a (by omega)
                          have hF : ∀ w1 : World, Calls Tryz.prog 22 #[.string name, .int .i64 100] w1 fun e w' => e = .returned (.string (filB name 100)) ∧ Below w1.heap.size w1 w' := fun w1 => Filled_any name 100 w1 (by decide)
                          have ho7 := octB_size 7
                          have ho11 := octB_size 11
                          have hfn := filB_size name 100
                          have EE := Lib.hid E5.out.drew
                          replace cm := EE.out.cell
                          clear E5
                          have hI0 := EE.out
                          clear cm EE
                          refine wp_region_inv (EncR w h) 27 (by kernel_rfl) (by kernel_rfl) hI0 ?_
                          simp only [List.take_succ_cons, List.take_zero, List.drop_succ_cons, List.drop_zero]
                          refine ⟨_, yi_still rfl (fun W hI => by go_simp; rfl), ?_⟩
                          refine ⟨_, yi_call rfl (fun W hI => by go_simp) (fun W hI => (hF W).mono fun e W' ⟨he, hb⟩ => ⟨he, hI.step hb⟩), ?_⟩
                          refine ⟨_, yi_still rfl (fun W hI => by go_simp; rfl), ?_⟩
                          refine ⟨_, yi_still rfl (fun W hI => by have cm := EncR.cell hI; go_simp; rfl), ?_⟩
                          refine ⟨_, yi_call rfl (fun W hI => by go_simp) (fun W hI => (hO7 h.mode W (by omega) (by omega)).mono fun e W' ⟨he, hb⟩ => ⟨he, hI.step hb⟩), ?_⟩
                          refine ⟨_, yi_still rfl (fun W hI => by go_simp; rfl), ?_⟩
                          refine ⟨_, yi_still rfl (fun W hI => by go_simp; rfl), ?_⟩
                          refine ⟨_, yi_still rfl (fun W hI => by go_simp; rfl), ?_⟩
                          refine ⟨_, yi_still rfl (fun W hI => by have cm := EncR.cell hI; go_simp; rfl), ?_⟩
                          refine ⟨_, yi_call rfl (fun W hI => by go_simp) (fun W hI => (hO7 h.uid W (by omega) (by omega)).mono fun e W' ⟨he, hb⟩ => ⟨he, hI.step hb⟩), ?_⟩
                          refine ⟨_, yi_still rfl (fun W hI => by go_simp; rfl), ?_⟩
                          refine ⟨_, yi_still rfl (fun W hI => by go_simp; rfl), ?_⟩
                          refine ⟨_, yi_still rfl (fun W hI => by go_simp; rfl), ?_⟩
                          refine ⟨_, yi_still rfl (fun W hI => by have cm := EncR.cell hI; go_simp; rfl), ?_⟩
                          refine ⟨_, yi_call rfl (fun W hI => by go_simp) (fun W hI => (hO7 h.gid W (by omega) (by omega)).mono fun e W' ⟨he, hb⟩ => ⟨he, hI.step hb⟩), ?_⟩
                          refine ⟨_, yi_still rfl (fun W hI => by go_simp; rfl), ?_⟩
                          refine ⟨_, yi_still rfl (fun W hI => by go_simp; rfl), ?_⟩
                          refine ⟨_, yi_still rfl (fun W hI => by go_simp; rfl), ?_⟩
                          refine ⟨_, yi_still rfl (fun W hI => by have cm := EncR.cell hI; go_simp; rfl), ?_⟩
                          refine ⟨_, yi_call rfl (fun W hI => by go_simp) (fun W hI => (hO11 h.size W (by omega) (by omega)).mono fun e W' ⟨he, hb⟩ => ⟨he, hI.step hb⟩), ?_⟩
                          refine ⟨_, yi_still rfl (fun W hI => by go_simp; rfl), ?_⟩
                          refine ⟨_, yi_still rfl (fun W hI => by go_simp; rfl), ?_⟩
                          refine ⟨_, yi_still rfl (fun W hI => by go_simp; rfl), ?_⟩
                          refine ⟨_, yi_still rfl (fun W hI => by have cm := EncR.cell hI; go_simp; rfl), ?_⟩
                          refine ⟨_, yi_call rfl (fun W hI => by go_simp) (fun W hI => (hO11 h.time W (by omega) (by omega)).mono fun e W' ⟨he, hb⟩ => ⟨he, hI.step hb⟩), ?_⟩
                          refine ⟨_, yi_still rfl (fun W hI => by go_simp; rfl), ?_⟩
                          refine ⟨_, yi_still rfl (fun W hI => by go_simp; rfl), ?_⟩
                          rintro W7 hI7
                          change wpList _ _ _ _ _ W7
                          have E7 := Lib.hid hI7
                          have cm := hI7.cell
                          clear hI7 hI0
                          go_wp2_with fail
                          have hFl : ∀ w1 : World, Calls Tryz.prog 22 #[.string h.link, .int .i64 100] w1 fun e w' => e = .returned (.string (filB h.link 100)) ∧ Below w1.heap.size w1 w' := fun w1 => Filled_any h.link 100 w1 (by decide)
                          have hFu : ∀ w1 : World, Calls Tryz.prog 22 #[.string h.user, .int .i64 32] w1 fun e w' => e = .returned (.string (filB h.user 32)) ∧ Below w1.heap.size w1 w' := fun w1 => Filled_any h.user 32 w1 (by decide)
                          have hFg : ∀ w1 : World, Calls Tryz.prog 22 #[.string h.group, .int .i64 32] w1 fun e w' => e = .returned (.string (filB h.group 32)) ∧ Below w1.heap.size w1 w' := fun w1 => Filled_any h.group 32 w1 (by decide)
                          have hFp : ∀ w1 : World, Calls Tryz.prog 22 #[.string pre, .int .i64 155] w1 fun e w' => e = .returned (.string (filB pre 155)) ∧ Below w1.heap.size w1 w' := fun w1 => Filled_any pre 155 w1 (by decide)
                          have hFz : ∀ w1 : World, Calls Tryz.prog 22 #[.string ⟨#[]⟩, .int .i64 12] w1 fun e w' => e = .returned (.string (filB ⟨#[]⟩ 12)) ∧ Below w1.heap.size w1 w' := fun w1 => Filled_any ⟨#[]⟩ 12 w1 (by decide)
                          have hfs := filB_size
                          have hI0 := E7.out.drew
                          clear cm hfn
                          refine wp_region_make (EncR w h) (EncB w h) 2 (fun b => .slice (some ⟨b, 0, none⟩) 1 1) 32 (fun _ _ hB => hB.1) (by kernel_rfl) (by kernel_rfl) hI0 ?_
                          clear hI0
                          simp only [List.take_succ_cons, List.take_zero, List.drop_succ_cons, List.drop_zero]
                          refine .inr ⟨by decide, _, yg_still rfl (fun W hI => by go_simp; rfl), ?_⟩
                          refine .inr ⟨by decide, _, yg_still rfl (fun W hI => by have cm := EncR.cell hI; go_simp; rfl), ?_⟩
                          refine .inl ⟨rfl, ⟨rfl, fun W hI => ⟨W.heap.size, W.alloc (.cells #[byteV h.typ] 5), by go_simp; rfl, hI.step ((Below.refl _ _).alloc (Nat.le_refl _) _), heap_new _ _⟩⟩, ?_⟩
                          refine ⟨_, .inr ⟨by kernel_rfl, fun b => yi_still rfl (fun W hI => by have hc := conv_at W b h.typ hI.2; go_simp; rfl)⟩, ?_⟩
                          refine ⟨_, ys_same (fun b => yg_still rfl (fun W hI => by go_simp; rfl)), ?_⟩
                          refine ⟨_, ys_same (fun b => yg_still rfl (fun W hI => by have cm := EncR.cell hI; go_simp; rfl)), ?_⟩
                          refine ⟨_, ys_same (fun b => yg_call rfl (fun W hI => by go_simp) (fun W hI => (hFl W).mono fun e W' ⟨he, hb⟩ => ⟨he, hI.step hb, fun b hB => hB.step hb⟩)), ?_⟩
                          refine ⟨_, ys_same (fun b => yg_still rfl (fun W hI => by go_simp; rfl)), ?_⟩
                          refine ⟨_, ys_same (fun b => yg_still rfl (fun W hI => by go_simp; rfl)), ?_⟩
                          refine ⟨_, ys_same (fun b => yg_still rfl (fun W hI => by go_simp; rfl)), ?_⟩
                          refine ⟨_, ys_same (fun b => yg_still rfl (fun W hI => by have cm := EncR.cell hI; go_simp; rfl)), ?_⟩
                          refine ⟨_, ys_same (fun b => yg_call rfl (fun W hI => by go_simp) (fun W hI => (hFu W).mono fun e W' ⟨he, hb⟩ => ⟨he, hI.step hb, fun b hB => hB.step hb⟩)), ?_⟩
                          refine ⟨_, ys_same (fun b => yg_still rfl (fun W hI => by go_simp; rfl)), ?_⟩
                          refine ⟨_, ys_same (fun b => yg_still rfl (fun W hI => by go_simp; rfl)), ?_⟩
                          refine ⟨_, ys_same (fun b => yg_still rfl (fun W hI => by have cm := EncR.cell hI; go_simp; rfl)), ?_⟩
                          refine ⟨_, ys_same (fun b => yg_call rfl (fun W hI => by go_simp) (fun W hI => (hFg W).mono fun e W' ⟨he, hb⟩ => ⟨he, hI.step hb, fun b hB => hB.step hb⟩)), ?_⟩
                          refine ⟨_, ys_same (fun b => yg_still rfl (fun W hI => by go_simp; rfl)), ?_⟩
                          refine ⟨_, ys_same (fun b => yg_still rfl (fun W hI => by go_simp; rfl)), ?_⟩
                          refine ⟨_, ys_same (fun b => yg_still rfl (fun W hI => by have cm := EncR.cell hI; go_simp; rfl)), ?_⟩
                          refine ⟨_, ys_same (fun b => yg_call rfl (fun W hI => by go_simp) (fun W hI => (hO7 h.major W (by omega) (by omega)).mono fun e W' ⟨he, hb⟩ => ⟨he, hI.step hb, fun b hB => hB.step hb⟩)), ?_⟩
                          refine ⟨_, ys_same (fun b => yg_still rfl (fun W hI => by go_simp; rfl)), ?_⟩
                          refine ⟨_, ys_same (fun b => yg_still rfl (fun W hI => by go_simp; rfl)), ?_⟩
                          refine ⟨_, ys_same (fun b => yg_still rfl (fun W hI => by go_simp; rfl)), ?_⟩
                          refine ⟨_, ys_same (fun b => yg_still rfl (fun W hI => by have cm := EncR.cell hI; go_simp; rfl)), ?_⟩
                          refine ⟨_, ys_same (fun b => yg_call rfl (fun W hI => by go_simp) (fun W hI => (hO7 h.minor W (by omega) (by omega)).mono fun e W' ⟨he, hb⟩ => ⟨he, hI.step hb, fun b hB => hB.step hb⟩)), ?_⟩
                          refine ⟨_, ys_same (fun b => yg_still rfl (fun W hI => by go_simp; rfl)), ?_⟩
                          refine ⟨_, ys_same (fun b => yg_still rfl (fun W hI => by go_simp; rfl)), ?_⟩
                          refine ⟨_, ys_same (fun b => yg_still rfl (fun W hI => by go_simp; rfl)), ?_⟩
                          refine ⟨_, ys_same (fun b => yg_call rfl (fun W hI => by go_simp) (fun W hI => (hFp W).mono fun e W' ⟨he, hb⟩ => ⟨he, hI.step hb, fun b hB => hB.step hb⟩)), ?_⟩
                          refine ⟨_, ys_same (fun b => yg_still rfl (fun W hI => by go_simp; rfl)), ?_⟩
                          refine ⟨_, ys_same (fun b => yg_call rfl (fun W hI => by go_simp) (fun W hI => (hFz W).mono fun e W' ⟨he, hb⟩ => ⟨he, hI.step hb, fun b hB => hB.step hb⟩)), ?_⟩
                          refine ⟨_, ys_same (fun b => yg_still rfl (fun W hI => by go_simp; rfl)), ?_⟩
                          rintro b8 W8 hI8
                          change wpList _ _ _ _ _ W8
                          have E8 := Lib.hid hI8.1
                          have cm := hI8.1.cell
                          clear hI8 E7
                          go_wp2_with fail
                          obtain ⟨S, hS1, hS2, hS3, hS4, hS5, hS6⟩ := enc_bytes (pre := pre) (name := name) HS.out HLK.out (by omega) (by omega)
                          have HENC := Lib.hid hS4
                          have hsum := sum_enc (pre := pre) (name := name) hS1 hS5 hS6 W8
                          have hO6 : ∀ (w1 : World), Calls Tryz.prog 38 #[.int .i64 S, .int .i64 6] w1 fun e w' => e = .returned (.string (octB 6 S)) ∧ Below w1.heap.size w1 w' := fun w1 => Octal_any S 6 w1 (by decide) hS2 (by omega)
                          clear hS1 hS4 hFl hFu hFg hFp hFz hO7 hO11 hF
                          unfold aheadB behindB at hsum
                          refine hsum.mono ?_
                          rintro e w9 ⟨rfl, hb⟩
                          have E9 := Lib.hid (E8.out.step hb)
                          clear hb E8 hsum cm hS5 hS6
                          have cm := E9.out.cell
                          have ho6 := octB_size 6 S
                          go_wp2_with fail
                          refine (hO6 _).mono ?_
                          rintro e w10 ⟨rfl, hb⟩
                          have E10 := Lib.hid (E9.out.step hb)
                          clear hb E9 hO6 cm
                          have henc := encV_ok (encErr_ok HW.out HS.out HLK.out HN.out) HENC.out
                          unfold aheadB behindB at henc
                          have HV := Lib.hid henc
                          clear henc HENC
                          go_wp2_with fail
                          trace "at the end"
                          go_ret2
                          trace "returned"
                          exact ⟨congrArg Ending.returned HV.out.symm, E10.out.1⟩
end Go.Proofs.YthpmocfdnoehoaaGreatDoor
/- A slice of members among the arguments: read as data, and as it lies in memory. -/
namespace Go.Proofs.YthpmocfdnoehoaaGreatDoor
open Go.ChangeShapes Go.WideShapes Go.RowKit Go.Deep
section
variable {H : Type} {enc : TypeId × Value → H} {w : World} {base : Nat} {spare : Nat → Bool} {held : Bool}
def strD (s : ByteArray) : DataW H := .lit (.string s.data.toList)
/-- A member as data. -/
def memD (m : Mem) : DataW H :=
  .agg [.agg [strD m.hdr.path, .lit (.int .i64 m.hdr.mode), .lit (.int .i64 m.hdr.uid), .lit (.int .i64 m.hdr.gid), .lit (.int .i64 m.hdr.size), .lit (.int .i64 m.hdr.time), .lit (.int .u8 (m.hdr.typ.toNat : Int)), strD m.hdr.link, strD m.hdr.user, strD m.hdr.group, .lit (.int .i64 m.hdr.major), .lit (.int .i64 m.hdr.minor)], strD m.data]
theorem len13 {α : Type} {l : List α} (h : l.length = 13) : ∃ a0 a1 a2 a3 a4 a5 a6 a7 a8 a9 a10 a11 a12, l = [a0, a1, a2, a3, a4, a5, a6, a7, a8, a9, a10, a11, a12] := by
  match l, h with
  | [a0, a1, a2, a3, a4, a5, a6, a7, a8, a9, a10, a11, a12], _ => exact ⟨_, _, _, _, _, _, _, _, _, _, _, _, _, rfl⟩
theorem len12 {α : Type} {l : List α} (h : l.length = 12) : ∃ a0 a1 a2 a3 a4 a5 a6 a7 a8 a9 a10 a11, l = [a0, a1, a2, a3, a4, a5, a6, a7, a8, a9, a10, a11] := by
  match l, h with
  | [a0, a1, a2, a3, a4, a5, a6, a7, a8, a9, a10, a11], _ => exact ⟨_, _, _, _, _, _, _, _, _, _, _, _, rfl⟩
theorem len2 {α : Type} {l : List α} (h : l.length = 2) : ∃ a0 a1, l = [a0, a1] := by
  match l, h with
  | [a0, a1], _ => exact ⟨_, _, rfl⟩
theorem read_str {n : Nat} {v : Value} {y : DataW H × List MemPlace} (h : DataW.trod enc Tryz.prog w base spare held n 9 [v] = some y) : ∃ s : ByteArray, v = .string s ∧ y.1 = strD s := by
  obtain ⟨s, h1, h2, _⟩ := DataW.trod_string Tryz.underlying9 h
  exact ⟨s, (List.cons.inj h1).1, by rw [h2]; rfl⟩
theorem read_i64 {n : Nat} {v : Value} {y : DataW H × List MemPlace} (h : DataW.trod enc Tryz.prog w base spare held n 2 [v] = some y) : ∃ x : Int, v = .int .i64 x ∧ y.1 = .lit (.int .i64 x) := by
  obtain ⟨s, h1, h2, _⟩ := DataW.trod_int Tryz.underlying2 h
  exact ⟨s, (List.cons.inj h1).1, by rw [h2]⟩
theorem read_u8 {n : Nat} {v : Value} {y : DataW H × List MemPlace} (h : DataW.trod enc Tryz.prog w base spare held n 5 [v] = some y) : ∃ x : UInt8, v = .int .u8 (x.toNat : Int) ∧ y.1 = .lit (.int .u8 (x.toNat : Int)) := by
  obtain ⟨s, h1, h2, h3⟩ := DataW.trod_int Tryz.underlying5 h
  have hs : 0 ≤ s ∧ s < 256 := by
    simp only [Lit.wf, Bool.and_eq_true, decide_eq_true_eq] at h3
    have e1 : IntKind.u8.min = 0 := rfl
    have e2 : IntKind.u8.max = 255 := rfl
    omega
  refine ⟨UInt8.ofNat s.toNat, ?_, ?_⟩
  · rw [(List.cons.inj h1).1, UInt8.toNat_ofNat', Nat.mod_eq_of_lt (by omega), Int.toNat_of_nonneg hs.1]
  · rw [h2, UInt8.toNat_ofNat', Nat.mod_eq_of_lt (by omega), Int.toNat_of_nonneg hs.1]
set_option maxHeartbeats 800000 in
theorem open_mem {n : Nat} {cs : List Value} {x : DataW H × List MemPlace} (h : DataW.trod enc Tryz.prog w base spare held n 26 cs = some x) : ∃ m : Mem, cs = m.cells.toList ∧ x.1 = memD m := by
  obtain ⟨xs, n1, rfl, rfl, hl, hxl, hf⟩ := DataW.trod_struct Tryz.underlying26 h
  have hcM : Tryz.prog.cellsOf 26 = 13 := by kernel_rfl
  have hcH : Tryz.prog.cellsOf 24 = 12 := by kernel_rfl
  have hcS : Tryz.prog.cellsOf 9 = 1 := by kernel_rfl
  have hcI : Tryz.prog.cellsOf 2 = 1 := by kernel_rfl
  have hcB : Tryz.prog.cellsOf 5 = 1 := by kernel_rfl
  rw [hcM] at hl
  obtain ⟨a0, a1, a2, a3, a4, a5, a6, a7, a8, a9, a10, a11, a12, rfl⟩ := len13 hl
  obtain ⟨y0, y1, rfl⟩ := len2 hxl
  have h0 := hf 0 _ rfl
  have h1 := hf 1 _ rfl
  simp only [List.getElem_toArray, List.getElem_cons_zero, List.getElem_cons_succ, hcH, hcS] at h0 h1
  obtain ⟨zs, n2, rfl, hy0, _, hzl, hg⟩ := DataW.trod_struct Tryz.underlying24 h0
  obtain ⟨z0, z1, z2, z3, z4, z5, z6, z7, z8, z9, z10, z11, rfl⟩ := len12 hzl
  have g0 := hg 0 _ rfl
  have g1 := hg 1 _ rfl
  have g2 := hg 2 _ rfl
  have g3 := hg 3 _ rfl
  have g4 := hg 4 _ rfl
  have g5 := hg 5 _ rfl
  have g6 := hg 6 _ rfl
  have g7 := hg 7 _ rfl
  have g8 := hg 8 _ rfl
  have g9 := hg 9 _ rfl
  have g10 := hg 10 _ rfl
  have g11 := hg 11 _ rfl
  simp only [List.getElem_toArray, List.getElem_cons_zero, List.getElem_cons_succ, hcS, hcI, hcB, List.drop_zero, List.drop_succ_cons, List.take_succ_cons, List.take_zero, List.getElem?_cons_zero, List.getElem?_cons_succ] at g0 g1 g2 g3 g4 g5 g6 g7 g8 g9 g10 g11 h1
  obtain ⟨s0, rfl, e0⟩ := read_str g0
  obtain ⟨s1, rfl, e1⟩ := read_i64 g1
  obtain ⟨s2, rfl, e2⟩ := read_i64 g2
  obtain ⟨s3, rfl, e3⟩ := read_i64 g3
  obtain ⟨s4, rfl, e4⟩ := read_i64 g4
  obtain ⟨s5, rfl, e5⟩ := read_i64 g5
  obtain ⟨s6, rfl, e6⟩ := read_u8 g6
  obtain ⟨s7, rfl, e7⟩ := read_str g7
  obtain ⟨s8, rfl, e8⟩ := read_str g8
  obtain ⟨s9, rfl, e9⟩ := read_str g9
  obtain ⟨s10, rfl, e10⟩ := read_i64 g10
  obtain ⟨s11, rfl, e11⟩ := read_i64 g11
  obtain ⟨s12, rfl, e12⟩ := read_str h1
  refine ⟨⟨{ path := s0, mode := s1, uid := s2, gid := s3, size := s4, time := s5, typ := s6, link := s7, user := s8, group := s9, major := s10, minor := s11 }, s12⟩, rfl, ?_⟩
  have hy : y0.1 = .agg [z0.1, z1.1, z2.1, z3.1, z4.1, z5.1, z6.1, z7.1, z8.1, z9.1, z10.1, z11.1] := by rw [hy0]; rfl
  show DataW.agg [y0.1, y1.1] = _
  rw [hy, e0, e1, e2, e3, e4, e5, e6, e7, e8, e9, e10, e11, e12]
  rfl
instance : Inhabited Mem := ⟨⟨{ path := ⟨#[]⟩, mode := 0, uid := 0, gid := 0, size := 0, time := 0, typ := 0, link := ⟨#[]⟩, user := ⟨#[]⟩, group := ⟨#[]⟩, major := 0, minor := 0 }, ⟨#[]⟩⟩⟩
theorem weightsAll_mem {P : Program} {e : TypeId} : ∀ {l : List (DataW H)} {d : DataW H}, d ∈ l → ∀ k ∈ d.weights P e, k ∈ DataW.weightsAll P e l
  | x :: r, d, hd, k, hk => by
    rw [DataW.weightsAll, List.mem_append]
    rcases List.mem_cons.1 hd with rfl | h
    · exact .inl hk
    · exact .inr (weightsAll_mem h k hk)
theorem memD_small {m : Mem} (h : ∀ k ∈ (memD m : DataW H).weights Tryz.prog 26, k ≤ 140737488351232) : m.small := by
  have e : (memD m : DataW H).weights Tryz.prog 26 = [m.hdr.path.size, m.hdr.link.size, m.hdr.user.size, m.hdr.group.size, m.data.size] := by
    simp only [memD, strD, DataW.weights, DataW.weightsEach, Tryz.underlying26, Tryz.underlying24, List.map_cons, List.map_nil, List.append_nil, List.nil_append, List.cons_append]
    rfl
  rw [e] at h
  simp only [List.mem_cons, List.not_mem_nil, or_false, forall_eq_or_imp, forall_eq] at h
  obtain ⟨h1, h2, h3, h4, h5⟩ := h
  exact ⟨⟨by omega, by omega, by omega, by omega⟩, by omega⟩
theorem memsAt_of {a : Addr} {len : Nat} {F : Nat → Mem} (h : ∀ i, i < len → w.cells? 0 (a.add (i * 13)) 13 = some (F i).cells.toList) : MemsAt w (some a) ((List.range len).map F) := by
  have hc : ∀ i, i < len → ∀ j, j < 13 → w.cell? (a.add (i * 13 + j)) = (F i).cells[j]? := fun i hi j hj => by
    have := (World.cells?_some (h i hi)).2.2 j hj
    rw [Go.Deep.add_add] at this
    rw [this, Array.getElem?_toList]
  refine ⟨fun i hi => ?_, fun b off hb i m hm j hj => ?_⟩
  · have h0 : 0 < len := by simp at hi; omega
    have g := hc 0 h0 0 (by decide)
    rw [Nat.zero_mul, show a.add (0 + 0) = a from rfl] at g
    obtain ⟨b, off, spot⟩ := a
    have g' : w.cell? ⟨b, off, spot⟩ = some (.string (F 0).hdr.path) := g
    have hs : spot = none := by simpa using World.cell?_spot g'
    subst hs
    refine ⟨b, off, rfl, ?_⟩
    unfold World.cell? at g'
    split at g'
    · rename_i hh
      exact blk_lt hh
    · cases g'
  · cases hb
    rw [List.getElem?_map] at hm
    by_cases hi : i < len
    · rw [List.getElem?_range hi] at hm
      obtain rfl : F i = m := by simpa using hm
      rw [← hc i hi j hj]
      unfold Addr.add
      split
      · rename_i e; rw [e]; rfl
      · rfl
    · rw [List.getElem?_eq_none (by simpa using hi)] at hm
      cases hm
set_option maxRecDepth 100000 in
theorem open_members {r : Reach} {b0 : Nat} {v : Value} {d : DataW H} {ps : List MemPlace} (hv : Value.okWide Tryz.prog w r b0 22 v) (h : DataW.Trod enc Tryz.prog w 0 (fun _ => true) true 22 v d ps) (hw : ∀ k ∈ d.weights Tryz.prog 22, k ≤ 140737488351232) :
    ∃ (l : List Mem) (p : Option Addr) (cap : Nat), v = .slice p l.length cap ∧ MemsAt w p l ∧ l.length * 144 ≤ 140737488355328 ∧ (∀ m ∈ l, m.small) := by
  obtain ⟨a, len, cap, rfl⟩ := okWide_slice Tryz.underlying22 hv
  obtain ⟨fuel, hf⟩ := h
  have hcM : Tryz.prog.cellsOf 26 = 13 := by kernel_rfl
  have hbM : Tryz.prog.bytesOf 26 = 144 := by kernel_rfl
  rcases open_slice Tryz.underlying22 hf with ⟨h0, -⟩ | ⟨a', len', cap', m, n, D, Pl, hcs, hb, hl, hm, hmm, hx, hi⟩
  · have e : Value.slice a len cap = .slice none 0 0 := by simpa [Value.cells] using h0
    cases e
    exact ⟨[], none, 0, rfl, ⟨(fun i hi => by cases hi), (fun b off hb => by cases hb)⟩, by rw [List.length_nil]; omega, (fun _ hm => by cases hm)⟩
  · have e : Value.slice a len cap = .slice (some a') len' cap' := by simpa [Value.cells] using hcs
    cases e
    rw [if_pos rfl] at hmm
    subst hmm
    rw [hcM] at hi hx
    have hex : ∀ i, i < len → ∃ x : Mem, w.cells? 0 (a'.add (i * 13)) 13 = some x.cells.toList ∧ D i = memD x := fun i hil => by
      obtain ⟨cs', h1, h2⟩ := hi i (by omega)
      obtain ⟨x, rfl, h3⟩ := open_mem h2
      exact ⟨x, h1, h3⟩
    obtain ⟨F, hF⟩ := choose_lt hex
    obtain ⟨hd, -⟩ := Prod.mk.inj hx
    subst hd
    have hwt : (DataW.slice ((List.range len).map D) ((List.range (m - len)).map fun j => D (len + j)) : DataW H).weights Tryz.prog 22 = (((List.range len).map D).length + ((List.range (m - len)).map fun j => D (len + j)).length) * 144 :: (DataW.weightsAll Tryz.prog 26 ((List.range len).map D) ++ DataW.weightsAll Tryz.prog 26 ((List.range (m - len)).map fun j => D (len + j))) := by
      rw [DataW.weights, Tryz.underlying22]
      simp only [hbM]
    rw [hwt] at hw
    have hlen := hw _ (List.mem_cons_self ..)
    rw [List.length_map, List.length_map, List.length_range, List.length_range] at hlen
    refine ⟨(List.range len).map F, some a', m, by rw [List.length_map, List.length_range], memsAt_of (fun i hil => (hF i hil).1), by rw [List.length_map, List.length_range]; omega, fun x hx => ?_⟩
    obtain ⟨i, hir, rfl⟩ := List.mem_map.1 hx
    have hil := List.mem_range.1 hir
    refine memD_small (H := H) fun k hk => hw k (List.mem_cons_of_mem _ (List.mem_append.2 (.inl (weightsAll_mem (List.mem_map.2 ⟨i, hir, (hF i hil).2⟩) k hk))))
end
end Go.Proofs.YthpmocfdnoehoaaGreatDoor
/- A slice of changes among the arguments: read as data, and as it lies in memory. -/
namespace Go.Proofs.YthpmocfdnoehoaaGreatDoor
open Go.ChangeShapes Go.WideShapes Go.RowKit Go.Deep
section
variable {H : Type} {enc : TypeId × Value → H} {w : World} {base : Nat} {spare : Nat → Bool} {held : Bool}
def edD (e : Ed) : DataW H := .agg [.lit (.int .i64 e.at_), strD e.piece, .lit (.int .i64 e.cut), .lit (.bool e.sum)]
theorem len4 {α : Type} {l : List α} (h : l.length = 4) : ∃ a0 a1 a2 a3, l = [a0, a1, a2, a3] := by
  match l, h with
  | [a0, a1, a2, a3], _ => exact ⟨_, _, _, _, rfl⟩
theorem read_int {n : Nat} {v : Value} {y : DataW H × List MemPlace} (h : DataW.trod enc Tryz.prog w base spare held n 3 [v] = some y) : ∃ x : Int, v = .int .i64 x ∧ y.1 = .lit (.int .i64 x) ∧ -9223372036854775808 ≤ x ∧ x ≤ 9223372036854775807 := by
  obtain ⟨s, h1, h2, h3⟩ := DataW.trod_int Tryz.underlying3 h
  simp only [Lit.wf, Bool.and_eq_true, decide_eq_true_eq] at h3
  exact ⟨s, (List.cons.inj h1).1, by rw [h2], h3⟩
theorem read_bool {n : Nat} {v : Value} {y : DataW H × List MemPlace} (h : DataW.trod enc Tryz.prog w base spare held n 4 [v] = some y) : ∃ x : Bool, v = .bool x ∧ y.1 = .lit (.bool x) := by
  obtain ⟨s, h1, h2⟩ := DataW.trod_bool Tryz.underlying4 h
  exact ⟨s, (List.cons.inj h1).1, by rw [h2]⟩
def Ed.near (e : Ed) : Prop := (-9223372036854775808 ≤ e.at_ ∧ e.at_ ≤ 9223372036854775807) ∧ (-9223372036854775808 ≤ e.cut ∧ e.cut ≤ 9223372036854775807)
theorem open_ed {n : Nat} {cs : List Value} {x : DataW H × List MemPlace} (h : DataW.trod enc Tryz.prog w base spare held n 42 cs = some x) : ∃ m : Ed, cs = m.cells.toList ∧ x.1 = edD m ∧ m.near := by
  obtain ⟨xs, n1, rfl, rfl, hl, hxl, hf⟩ := DataW.trod_struct Tryz.underlying42 h
  have hcM : Tryz.prog.cellsOf 42 = 4 := by kernel_rfl
  have hcS : Tryz.prog.cellsOf 9 = 1 := by kernel_rfl
  have hcI : Tryz.prog.cellsOf 3 = 1 := by kernel_rfl
  have hcB : Tryz.prog.cellsOf 4 = 1 := by kernel_rfl
  rw [hcM] at hl
  obtain ⟨a0, a1, a2, a3, rfl⟩ := len4 hl
  obtain ⟨y0, y1, y2, y3, rfl⟩ := len4 hxl
  have h0 := hf 0 _ rfl
  have h1 := hf 1 _ rfl
  have h2 := hf 2 _ rfl
  have h3 := hf 3 _ rfl
  simp only [List.getElem_toArray, List.getElem_cons_zero, List.getElem_cons_succ, hcS, hcI, hcB, List.drop_zero, List.drop_succ_cons, List.take_succ_cons, List.take_zero, List.getElem?_cons_zero, List.getElem?_cons_succ] at h0 h1 h2 h3
  obtain ⟨s0, rfl, e0, b0⟩ := read_int h0
  obtain ⟨s1, rfl, e1⟩ := read_str h1
  obtain ⟨s2, rfl, e2, b2⟩ := read_int h2
  obtain ⟨s3, rfl, e3⟩ := read_bool h3
  refine ⟨⟨s0, s1, s2, s3⟩, rfl, ?_, ⟨b0, b2⟩⟩
  show DataW.agg [y0.1, y1.1, y2.1, y3.1] = _
  rw [e0, e1, e2, e3]
  rfl
instance : Inhabited Ed := ⟨⟨0, ⟨#[]⟩, 0, false⟩⟩
theorem edD_small {m : Ed} (h0 : m.near) (h : ∀ k ∈ (edD m : DataW H).weights Tryz.prog 42, k ≤ 140737488351232) : m.small := by
  have e : (edD m : DataW H).weights Tryz.prog 42 = [m.piece.size] := by
    simp only [edD, strD, DataW.weights, DataW.weightsEach, Tryz.underlying42, List.map_cons, List.map_nil, List.append_nil, List.nil_append, List.cons_append]
    rfl
  rw [e] at h
  exact ⟨h0.1, h0.2, h _ (List.mem_singleton.2 rfl)⟩
theorem edsAt_of {a : Addr} {len : Nat} {F : Nat → Ed} (h : ∀ i, i < len → w.cells? 0 (a.add (i * 4)) 4 = some (F i).cells.toList) : EdsAt w (some a) ((List.range len).map F) := by
  have hc : ∀ i, i < len → ∀ j, j < 4 → w.cell? (a.add (i * 4 + j)) = (F i).cells[j]? := fun i hi j hj => by
    have := (World.cells?_some (h i hi)).2.2 j hj
    rw [Go.Deep.add_add] at this
    rw [this, Array.getElem?_toList]
  refine ⟨fun i hi => ?_, fun b off hb i m hm j hj => ?_⟩
  · have h0 : 0 < len := by simp at hi; omega
    have g := hc 0 h0 0 (by decide)
    rw [Nat.zero_mul, show a.add (0 + 0) = a from rfl] at g
    obtain ⟨b, off, spot⟩ := a
    have g' : w.cell? ⟨b, off, spot⟩ = some (.int .i64 (F 0).at_) := g
    have hs : spot = none := by simpa using World.cell?_spot g'
    subst hs
    refine ⟨b, off, rfl, ?_⟩
    unfold World.cell? at g'
    split at g'
    · rename_i hh
      exact blk_lt hh
    · cases g'
  · cases hb
    rw [List.getElem?_map] at hm
    by_cases hi : i < len
    · rw [List.getElem?_range hi] at hm
      obtain rfl : F i = m := by simpa using hm
      rw [← hc i hi j hj]
      unfold Addr.add
      split
      · rename_i e; rw [e]; rfl
      · rfl
    · rw [List.getElem?_eq_none (by simpa using hi)] at hm
      cases hm
set_option maxRecDepth 100000 in
theorem open_edits {r : Reach} {b0 : Nat} {v : Value} {d : DataW H} {ps : List MemPlace} (hv : Value.okWide Tryz.prog w r b0 39 v) (h : DataW.Trod enc Tryz.prog w 0 (fun _ => true) true 39 v d ps) (hw : ∀ k ∈ d.weights Tryz.prog 39, k ≤ 140737488351232) :
    ∃ (l : List Ed) (p : Option Addr) (cap : Nat), v = .slice p l.length cap ∧ EdsAt w p l ∧ (l.length : Int) ≤ 9223372036854775807 ∧ (∀ m ∈ l, m.small) := by
  obtain ⟨a, len, cap, rfl⟩ := okWide_slice Tryz.underlying39 hv
  obtain ⟨fuel, hf⟩ := h
  have hcM : Tryz.prog.cellsOf 42 = 4 := by kernel_rfl
  obtain ⟨BB, hbM⟩ : ∃ BB, Tryz.prog.bytesOf 42 = BB + 1 := ⟨39, by kernel_rfl⟩
  rcases open_slice Tryz.underlying39 hf with ⟨h0, -⟩ | ⟨a', len', cap', m, n, D, Pl, hcs, hb, hl, hm, hmm, hx, hi⟩
  · have e : Value.slice a len cap = .slice none 0 0 := by simpa [Value.cells] using h0
    cases e
    exact ⟨[], none, 0, rfl, ⟨(fun i hi => by cases hi), (fun b off hb => by cases hb)⟩, by rw [List.length_nil]; omega, (fun _ hm => by cases hm)⟩
  · have e : Value.slice a len cap = .slice (some a') len' cap' := by simpa [Value.cells] using hcs
    cases e
    rw [if_pos rfl] at hmm
    subst hmm
    rw [hcM] at hi hx
    have hex : ∀ i, i < len → ∃ x : Ed, w.cells? 0 (a'.add (i * 4)) 4 = some x.cells.toList ∧ D i = edD x ∧ x.near := fun i hil => by
      obtain ⟨cs', h1, h2⟩ := hi i (by omega)
      obtain ⟨x, rfl, h3, h4⟩ := open_ed h2
      exact ⟨x, h1, h3, h4⟩
    obtain ⟨F, hF⟩ := choose_lt hex
    obtain ⟨hd, -⟩ := Prod.mk.inj hx
    subst hd
    have hwt : (DataW.slice ((List.range len).map D) ((List.range (m - len)).map fun j => D (len + j)) : DataW H).weights Tryz.prog 39 = (((List.range len).map D).length + ((List.range (m - len)).map fun j => D (len + j)).length) * (BB + 1) :: (DataW.weightsAll Tryz.prog 42 ((List.range len).map D) ++ DataW.weightsAll Tryz.prog 42 ((List.range (m - len)).map fun j => D (len + j))) := by
      rw [DataW.weights, Tryz.underlying39]
      simp only [hbM]
    rw [hwt] at hw
    have hlen := hw _ (List.mem_cons_self ..)
    rw [List.length_map, List.length_map, List.length_range, List.length_range, Nat.mul_succ] at hlen
    refine ⟨(List.range len).map F, some a', m, by rw [List.length_map, List.length_range], edsAt_of (fun i hil => (hF i hil).1), by rw [List.length_map, List.length_range]; omega, fun x hx => ?_⟩
    obtain ⟨i, hir, rfl⟩ := List.mem_map.1 hx
    have hil := List.mem_range.1 hir
    refine edD_small (H := H) (hF i hil).2.2 fun k hk => hw k (List.mem_cons_of_mem _ (List.mem_append.2 (.inl (weightsAll_mem (List.mem_map.2 ⟨i, hir, (hF i hil).2.1⟩) k hk))))
end
end Go.Proofs.YthpmocfdnoehoaaGreatDoor
