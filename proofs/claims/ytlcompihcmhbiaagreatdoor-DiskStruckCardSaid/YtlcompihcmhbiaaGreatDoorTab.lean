/- Plain: tables from names to blocks: sorted lists, and as a map's datum. -/
import Derived.Test.YtlcompihcmhbiaaGreatDoorPlain
import Derived.Maps.Ext
import Derived.Maps.OwnSet
import Derived.WideAt
import Derived.WideShapes
namespace Go.Proofs.YtlcompihcmhbiaaGreatDoor
open Go Go.Maps
/-- A table: rising names, and the number of the block to which each leads. -/
abbrev Tab := List (Bs × Nat)
def tget (l : Tab) (k : Bs) : Option Nat := (l.find? (fun p => p.1 == k)).map (·.2)
def tdel (l : Tab) (k : Bs) : Tab := l.filter fun p => !(p.1 == k)
def tins (x : Bs × Nat) : Tab → Tab
  | [] => [x]
  | y :: r => if bytesBefore x.1 y.1 then x :: y :: r else y :: tins x r
def tput (l : Tab) (k : Bs) (b : Nat) : Tab := tins (k, b) (tdel l k)
def Rising (l : Tab) : Prop := l.Pairwise (fun p q => bytesBefore p.1 q.1 = true)
def tentry (p : Bs × Nat) : Lit × DataW Unit := (.string p.1, .lit (.int .i64 (p.2 : Int)))
def tabD (l : Tab) : DataW Unit := .map (l.map tentry)
theorem tabD_del (l : Tab) (k : Bs) : (tabD l).del (.string k) = tabD (tdel l k) := by
  unfold tabD DataW.del tdel
  simp only [List.filter_map]
  rfl
theorem tabD_ins (x : Bs × Nat) : ∀ l : Tab, DataW.insert (tentry x) (l.map tentry) = (tins x l).map tentry
  | [] => rfl
  | y :: r => by
    unfold tins
    rw [List.map_cons, DataW.insert]
    have e : (tentry x).1.before (tentry y).1 = bytesBefore x.1 y.1 := rfl
    rw [e]
    split
    · rfl
    · rw [tabD_ins x r]; rfl
theorem tabD_put (l : Tab) (k : Bs) (b : Nat) : (tabD l).put (.string k) (.lit (.int .i64 (b : Int))) = tabD (tput l k b) := by
  show DataW.map (DataW.insert (tentry (k, b)) ((l.map tentry).filter fun p => !p.1.sameKey (.string k))) = _
  have e : ((l.map tentry).filter fun p => !p.1.sameKey (.string k)) = (tdel l k).map tentry := by
    unfold tdel
    rw [List.filter_map]
    rfl
  rw [e, tabD_ins]
  rfl
theorem tabD_at (l : Tab) (k : Bs) (z : DataW Unit) : (tabD l).atKey (.string k) z = match tget l k with | some b => .lit (.int .i64 (b : Int)) | none => z := by
  unfold tabD DataW.atKey tget
  simp only [List.find?_map]
  have e : ((fun p : Lit × DataW Unit => p.1.sameKey (.string k)) ∘ tentry) = fun p => p.1 == k := rfl
  rw [e]
  cases l.find? (fun p => p.1 == k) <;> rfl
theorem tabD_canon {D : DataW Unit} {l : Tab} (h : Canon D) (hD : D = tabD l) : Rising l := by
  obtain ⟨es, rfl, hp, -⟩ := h
  have e : es = l.map tentry := by unfold tabD at hD; exact DataW.map.inj hD
  subst e
  unfold Rising
  rw [List.pairwise_map] at hp
  exact hp
theorem bb_ne {a b : Bs} (h : bytesBefore a b = true) : a ≠ b := by
  rintro rfl
  rw [WideAt.bytes_irrefl] at h
  cases h
theorem tins_mem (x : Bs × Nat) : ∀ (l : Tab) (p : Bs × Nat), p ∈ tins x l ↔ p = x ∨ p ∈ l
  | [], p => by simp [tins]
  | y :: r, p => by
    unfold tins
    split
    · simp
    · rw [List.mem_cons, tins_mem x r, List.mem_cons]
      constructor
      · rintro (h | h | h)
        · exact .inr (.inl h)
        · exact .inl h
        · exact .inr (.inr h)
      · rintro (h | h | h)
        · exact .inr (.inl h)
        · exact .inl h
        · exact .inr (.inr h)
theorem tdel_mem {l : Tab} {k : Bs} {p : Bs × Nat} : p ∈ tdel l k ↔ p ∈ l ∧ p.1 ≠ k := by
  unfold tdel
  rw [List.mem_filter]
  simp
theorem tput_mem {l : Tab} {k : Bs} {b : Nat} {p : Bs × Nat} : p ∈ tput l k b ↔ p = (k, b) ∨ (p ∈ l ∧ p.1 ≠ k) := by
  unfold tput
  rw [tins_mem, tdel_mem]
theorem tdel_rising {l : Tab} {k : Bs} (h : Rising l) : Rising (tdel l k) := h.sublist (List.filter_sublist)
theorem tins_rising {x : Bs × Nat} : ∀ {l : Tab}, Rising l → (∀ p ∈ l, p.1 ≠ x.1) → Rising (tins x l)
  | [], _, _ => by unfold tins Rising; exact List.pairwise_singleton _ _
  | y :: r, h, hn => by
    unfold Rising at h ⊢
    rw [List.pairwise_cons] at h
    unfold tins
    split
    · rename_i hb
      rw [List.pairwise_cons]
      refine ⟨fun p hp => ?_, List.pairwise_cons.2 h⟩
      rcases List.mem_cons.1 hp with rfl | hp
      · exact hb
      · exact WideShapes.bytes_trans _ _ _ hb (h.1 p hp)
    · rename_i hb
      rw [List.pairwise_cons]
      refine ⟨fun p hp => ?_, tins_rising h.2 (fun p hp => hn p (List.mem_cons_of_mem _ hp))⟩
      rcases (tins_mem x r p).1 hp with rfl | hp
      · rcases WideAt.bytes_total y.1 p.1 (hn y List.mem_cons_self) with h1 | h1
        · exact h1
        · exact absurd h1 hb
      · exact h.1 p hp
theorem tput_rising {l : Tab} {k : Bs} {b : Nat} (h : Rising l) : Rising (tput l k b) :=
  tins_rising (tdel_rising h) (fun _ hp => (tdel_mem.1 hp).2)
theorem tget_mem {l : Tab} {k : Bs} {b : Nat} (h : tget l k = some b) : (k, b) ∈ l := by
  unfold tget at h
  obtain ⟨p, hp, rfl⟩ := Option.map_eq_some_iff.1 h
  have h1 := List.find?_some hp
  have h2 := List.mem_of_find?_eq_some hp
  have : p.1 = k := by simpa using h1
  rw [← this]
  exact h2
theorem tget_of_mem {l : Tab} (hr : Rising l) {k : Bs} {b : Nat} (h : (k, b) ∈ l) : tget l k = some b := by
  induction l with
  | nil => cases h
  | cons y r ih =>
    unfold Rising at hr
    rw [List.pairwise_cons] at hr
    unfold tget
    rw [List.find?_cons]
    rcases List.mem_cons.1 h with rfl | h
    · simp
    · have hne : (y.1 == k) = false := by rw [beq_eq_false_iff_ne]; exact bb_ne (hr.1 _ h)
      rw [hne]
      exact ih hr.2 h
theorem tget_none {l : Tab} {k : Bs} : tget l k = none ↔ ∀ p ∈ l, p.1 ≠ k := by
  unfold tget
  rw [Option.map_eq_none_iff, List.find?_eq_none]
  simp
theorem tget_put {l : Tab} {k j : Bs} {b : Nat} (hr : Rising l) : tget (tput l k b) j = if j = k then some b else tget l j := by
  by_cases e : j = k
  · rw [if_pos e, e]
    exact tget_of_mem (tput_rising hr) (tput_mem.2 (.inl rfl))
  · rw [if_neg e]
    cases h : tget l j with
    | none =>
      rw [tget_none] at h ⊢
      intro p hp
      rcases tput_mem.1 hp with rfl | ⟨hp, _⟩
      · exact fun h' => e h'.symm
      · exact h p hp
    | some c => exact tget_of_mem (tput_rising hr) (tput_mem.2 (.inr ⟨tget_mem h, e⟩))
theorem tget_del {l : Tab} {k j : Bs} (hr : Rising l) : tget (tdel l k) j = if j = k then none else tget l j := by
  by_cases e : j = k
  · rw [if_pos e, e, tget_none]
    exact fun p hp => (tdel_mem.1 hp).2
  · rw [if_neg e]
    cases h : tget l j with
    | none =>
      rw [tget_none] at h ⊢
      exact fun p hp => h p (tdel_mem.1 hp).1
    | some c => exact tget_of_mem (tdel_rising hr) (tdel_mem.2 ⟨tget_mem h, e⟩)
theorem tab_ext {l m : Tab} (hl : Rising l) (hm : Rising m) (h : ∀ k, tget l k = tget m k) : l = m := by
  have hp : ∀ p : Bs × Nat, p ∈ l ↔ p ∈ m := fun p => ⟨fun hp => tget_mem (by rw [← h]; exact tget_of_mem hl hp), fun hp => tget_mem (by rw [h]; exact tget_of_mem hm hp)⟩
  induction l generalizing m with
  | nil =>
    cases m with
    | nil => rfl
    | cons y r => exact absurd ((hp y).2 List.mem_cons_self) (by simp)
  | cons x xs ih =>
    cases m with
    | nil => exact absurd ((hp x).1 List.mem_cons_self) (by simp)
    | cons y ys =>
      unfold Rising at hl hm
      have hl' := List.pairwise_cons.1 hl
      have hm' := List.pairwise_cons.1 hm
      have e : x = y := by
        rcases List.mem_cons.1 ((hp x).1 List.mem_cons_self) with h1 | h1
        · exact h1
        · rcases List.mem_cons.1 ((hp y).2 List.mem_cons_self) with h2 | h2
          · exact h2.symm
          · have a := hm'.1 x h1
            have b := hl'.1 y h2
            exact absurd (WideShapes.bytes_trans _ _ _ a b) (by rw [WideAt.bytes_irrefl]; simp)
      subst e
      have hne : ∀ p ∈ xs, p ≠ x := fun p hp2 e => by
        have := hl'.1 p hp2
        rw [e, WideAt.bytes_irrefl] at this
        cases this
      have hne2 : ∀ p ∈ ys, p ≠ x := fun p hp2 e => by
        have := hm'.1 p hp2
        rw [e, WideAt.bytes_irrefl] at this
        cases this
      have hp' : ∀ p : Bs × Nat, p ∈ xs ↔ p ∈ ys := fun p => ⟨fun h1 => by
        rcases List.mem_cons.1 ((hp p).1 (List.mem_cons_of_mem _ h1)) with h2 | h2
        · exact absurd h2 (hne p h1)
        · exact h2, fun h1 => by
        rcases List.mem_cons.1 ((hp p).2 (List.mem_cons_of_mem _ h1)) with h2 | h2
        · exact absurd h2 (hne2 p h1)
        · exact h2⟩
      rw [ih hl'.2 hm'.2 (fun k => by
        cases h1 : tget xs k with
        | none =>
          cases h2 : tget ys k with
          | none => rfl
          | some c =>
            have := (hp' (k, c)).2 (tget_mem h2)
            rw [tget_of_mem hl'.2 this] at h1
            cases h1
        | some c =>
          have := (hp' (k, c)).1 (tget_mem h1)
          rw [tget_of_mem hm'.2 this]) hp']
/-- How a pointer to a file reads. -/
def ptrElem : Value → Option (DataW Unit × List MemPlace)
  | .pointer (some ⟨b, 0, none⟩) => some (.lit (.int .i64 (b : Int)), [])
  | .pointer none => some (.nil, [])
  | _ => none
def ptrV : Option Nat → Value
  | some b => .pointer (some ⟨b, 0, none⟩)
  | none => .pointer none
theorem ptrElem_inv {v : Value} {b : Nat} {ps : List MemPlace} (h : ptrElem v = some (.lit (.int .i64 (b : Int)), ps)) : v = .pointer (some ⟨b, 0, none⟩) := by
  unfold ptrElem at h
  split at h
  · rename_i c
    have h1 := (Prod.mk.inj (Option.some.inj h)).1
    have h2 := DataW.lit.inj h1
    have h3 := (Lit.int.inj h2).2
    have : c = b := by exact_mod_cast h3
    rw [this]
  · have h1 := (Prod.mk.inj (Option.some.inj h)).1
    cases h1
  · cases h
theorem ptrElem_nil {v : Value} {ps : List MemPlace} (h : ptrElem v = some (.nil, ps)) : v = .pointer none := by
  unfold ptrElem at h
  split at h
  · have h1 := (Prod.mk.inj (Option.some.inj h)).1
    cases h1
  · rfl
  · cases h
end Go.Proofs.YtlcompihcmhbiaaGreatDoor
