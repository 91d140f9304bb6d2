/- Plain: slices that a call may append to, by their cells alone (also what []byte(s) makes); elements of one cell. -/
import Derived.ArgAppend
import Derived.Test.YtdkedmngeahjiaaGreatDoorWorld
import Derived.Lib.ConvBytes
namespace Go.Proofs.YtdkedmngeahjiaaGreatDoor
open Go Go.RowKit
/-- A slice of the call's own: its cells are l; it may be appended to. -/
def RowC (base : Nat) (l : List Value) (v : Value) (w : World) : Prop :=
  (v = .slice none 0 0 ∧ l = []) ∨ ∃ g cap, v = .slice (some ⟨g, 0, none⟩) l.length cap ∧ base ≤ g ∧ g < w.heap.size ∧ l.length ≤ cap ∧ cap ≤ maxLen ∧ (∀ j u, l[j]? = some u → w.cell? ⟨g, j, none⟩ = some u) ∧
    (∀ j, j < cap → (w.cell? ⟨g, j, none⟩).isSome = true) ∧ ∀ j, j < cap → w.frozen? ⟨g, j, none⟩ = false
section
variable {P : Program} {w w' : World} {base : Nat} {l : List Value} {v : Value}
theorem RowC.nil (base : Nat) (w : World) : RowC base [] (.slice none 0 0) w := .inl ⟨rfl, rfl⟩
theorem frozen_of_heap {w w' : World} {b : Nat} (h : w'.heap[b]? = w.heap[b]?) (i : Nat) : w'.frozen? ⟨b, i, none⟩ = w.frozen? ⟨b, i, none⟩ := by
  unfold World.frozen?
  rw [h]
theorem RowC.keep (h : RowC base l v w) (hb : Below w.heap.size w w') : RowC base l v w' := by
  rcases h with h | ⟨g, cap, h1, h2, h3, h4, h5, h6, h7, h8⟩
  · exact .inl h
  · have hc : ∀ j, w'.cell? ⟨g, j, none⟩ = w.cell? ⟨g, j, none⟩ := fun j => hb.cell (p := ⟨g, j, none⟩) h3
    exact .inr ⟨g, cap, h1, h2, Nat.lt_of_lt_of_le h3 hb.size, h4, h5, fun j u hj => (hc j).trans (h6 j u hj), fun j hj => by rw [hc]; exact h7 j hj, fun j hj => (frozen_of_heap (hb.block g h3) j).trans (h8 j hj)⟩
theorem RowC.lower (h : RowC base l v w) {b : Nat} (hb : b ≤ base) : RowC b l v w := by
  rcases h with h | ⟨g, cap, h1, h2, h3⟩
  · exact .inl h
  · exact .inr ⟨g, cap, h1, Nat.le_trans hb h2, h3⟩
theorem RowC.slice (h : RowC base l v w) : ∃ p cap, v = .slice p l.length cap ∧ ∀ j u, l[j]? = some u → ∃ g, p = some ⟨g, 0, none⟩ ∧ g < w.heap.size ∧ w.cell? ⟨g, j, none⟩ = some u := by
  rcases h with ⟨rfl, rfl⟩ | ⟨g, cap, h1, h2, h3, h4, h5, h6, h7, h8⟩
  · exact ⟨none, 0, rfl, fun j u hj => by cases hj⟩
  · exact ⟨_, cap, h1, fun j u hj => ⟨g, rfl, h3, h6 j u hj⟩⟩
theorem RowC.ofOwn {e : TypeId} {n : Nat} (hown : w.ownsRow base e 1 v n l) : RowC base l v w := by
  obtain ⟨h0, h | ⟨g, cap, cur, h1, h2, h3, h4, h5, h6, h7⟩⟩ := hown
  · obtain ⟨rfl, rfl⟩ := h
    exact .inl ⟨rfl, List.eq_nil_of_length_eq_zero (by omega)⟩
  · have hn : l.length = n := by omega
    rw [Nat.mul_one] at h6 h7
    refine .inr ⟨g, cap, by rw [hn]; exact h1, h2, blk_lt h3, by omega, h5, fun j u hj => ?_, fun j hj => ?_, fun j hj => ?_⟩
    · rw [cell_of_heapN h3, ← Array.getElem?_toList]
      rw [← h7, List.getElem?_take] at hj
      split at hj
      · exact hj
      · cases hj
    · rw [cell_of_heapN h3, Array.getElem?_eq_getElem (by omega)]
      rfl
    · simp [World.frozen?, h3]
/-- One more. -/
theorem RowC.app {t ty e : TypeId} {i : TypeInfo} {z : Value} {bytes : Nat} (h : RowC base l v w) (ht : P.underlying t = some (.slice e)) (hi : P.info? e = some i) (hz : i.zero = some z) (hs : i.size = 1) (hby : i.bytes = bytes) (hzs : z.cells.size = 1)
    (u : Value) (a : Addr) (ha : w.cell? (a.add 0) = some u) (h1 : u.oneCell' = true) (hlen : l.length + 1 ≤ maxLen) (hbytes : (l.length + 1) * bytes ≤ 140737488355328) (hb : base ≤ w.heap.size) :
    ∃ v' w', (Builtin.append_ #[t, t] ty #[v, .slice (some a) 1 1]).run P w = .ok v' w' ∧ RowC base (l ++ [u]) v' w' ∧ Below base w w' := by
  have hnews : ∀ j x, ([u] : List Value)[j]? = some x → w.cell? (a.add j) = some x := fun j x hj => by
    match j, hj with
    | 0, hj => cases hj; exact ha
  have hones : ∀ x ∈ ([u] : List Value), x.oneCell' = true := fun x hx => by rw [List.mem_singleton.1 hx]; exact h1
  rcases h with ⟨rfl, rfl⟩ | ⟨g, cap, rfl, h2, h3, h4, h5, h6, h7, h8⟩
  · have hr := run_append_nil (P := P) w t ty e i z ht hi hz a 1 1 [u] (by rw [hs]; rfl) hnews (by omega) (by omega) (by rw [hby]; simp only [List.length_nil, Nat.zero_add, Nat.one_mul] at hbytes; omega)
    have hge := grownCap_ge w 1 0 e
    have hsz : (#[u] ++ Builtin.zeroCells z.cells (grownCap w 1 0 e - 1)).size = grownCap w 1 0 e := by rw [Array.size_append, size_zeroCells, hzs]; show 1 + _ = _; omega
    have hh := heap_new w.drew (.cells (#[u] ++ Builtin.zeroCells z.cells (grownCap w 1 0 e - 1)) e)
    refine ⟨_, _, hr, .inr ⟨w.heap.size, grownCap w 1 0 e, rfl, hb, blk_lt hh, hge, grownCap_le_maxLen w 1 0 e (by unfold maxLen; omega), fun j x hj => ?_, fun j hj => ?_, fun j hj => ?_⟩, ?_⟩
    · match j, hj with
      | 0, hj =>
        cases hj
        refine (cell_of_heapN hh).trans ?_
        rw [Array.getElem?_append_left (by show 0 < 1; omega)]
        rfl
    · refine (congrArg Option.isSome (cell_of_heapN hh)).trans ?_
      rw [Array.getElem?_eq_getElem (by rw [hsz]; exact hj)]
      rfl
    · show World.frozen? _ _ = false
      unfold World.frozen?
      rw [show (w.drew.alloc (.cells ([u].toArray ++ Builtin.zeroCells z.cells (grownCap w 1 0 e - 1)) e)).heap[w.heap.size]? = _ from hh]
      simp
    · exact (Below.refl base w).grown (row := none) ⟨rfl, rfl, rfl, by simp, fun k hk _ => Below.heap_alloc w.drew _ k hk⟩ hb (fun k hk => by cases hk)
  · by_cases hroom : l.length + 1 ≤ cap
    · have hr := run_append_room_cells (P := P) w t ty e i ht hi g 0 l.length cap a 1 1 [u] (by rw [hs]; rfl) hnews hones hroom (fun j hj => by
        have : j = 0 := by simpa using hj
        subst this
        rw [hs]
        exact h7 _ (by omega)) (fun j hj => by
        have : j = 0 := by simpa using hj
        subst this
        rw [hs]
        exact h8 _ (by omega))
      rw [hs, Nat.mul_one, Nat.zero_add] at hr
      refine ⟨_, _, hr, .inr ⟨g, cap, by rw [List.length_append]; rfl, h2, ?_, by rw [List.length_append]; exact hroom, h5, fun j x hj => ?_, fun j hj => ?_, fun j hj => ?_⟩, ?_⟩
      · show g < (w.setCell _ _).heap.size
        rw [World.size_setCell]
        exact h3
      · show (w.setCell ⟨g, l.length, none⟩ u).cell? _ = _
        by_cases hjl : j = l.length
        · subst hjl
          rw [List.getElem?_append_right (Nat.le_refl _), Nat.sub_self] at hj
          cases hj
          exact World.cell?_setCell_same' _ _ _ (h7 _ (by omega))
        · rw [show (w.setCell ⟨g, l.length, none⟩ u).cell? ⟨g, j, none⟩ = w.cell? ⟨g, j, none⟩ from by apply World.cell?_setCell_other; intro e; cases e; exact hjl rfl]
          have hjl2 : j < l.length := by
            have := (List.getElem?_eq_some_iff.1 hj).1
            rw [List.length_append, List.length_singleton] at this
            omega
          rw [List.getElem?_append_left hjl2] at hj
          exact h6 j x hj
      · show ((w.setCell ⟨g, l.length, none⟩ u).cell? _).isSome = true
        by_cases hjl : j = l.length
        · subst hjl
          rw [World.cell?_setCell_same' _ _ _ (h7 _ (by omega))]
          rfl
        · rw [show (w.setCell ⟨g, l.length, none⟩ u).cell? ⟨g, j, none⟩ = w.cell? ⟨g, j, none⟩ from by apply World.cell?_setCell_other; intro e; cases e; exact hjl rfl]
          exact h7 j hj
      · show (w.setCell ⟨g, l.length, none⟩ u).frozen? _ = false
        rw [World.frozen?_setCell]
        exact h8 j hj
      · exact (Below.refl base w).setCell h2 u
    · obtain ⟨v', w', hr, ho, hg⟩ := run_append_arg_grows (P := P) w t ty e i z 1 bytes ht hi hz hs hby hzs (by omega) ⟨g, 0, none⟩ l.length cap l (by omega) (fun j x hj => by
        rw [show (⟨g, 0, none⟩ : Addr).add j = ⟨g, j, none⟩ by simp [Addr.add]; intro e; exact e.symm]
        exact h6 j x hj) a 1 1 [u] rfl hnews (by omega) hlen hbytes
      have hR := RowC.ofOwn ho
      refine ⟨v', w', hr, ?_, (Below.refl base w).grown hg hb (fun k hk => by cases hk)⟩
      rcases hR with hR | ⟨g', cap', e1, e2, e3⟩
      · exact .inl hR
      · exact .inr ⟨g', cap', e1, Nat.le_trans hb e2, e3⟩
/-- append of one value, as a walk meets it. -/
theorem wpList_appC {ops : Array Oper} {rest : List Oper} {o : Oper} {a : Act} {Q : Exit → Act → World → Prop} (hgd : o.guard = none) (s x : Operand) (t : TypeId)
    (ho : o.op = .call { callee := .builtin .append, args := #[s, x], argTypes := #[t, t] })
    (base : Nat) (e : TypeId) (i : TypeInfo) (z : Value) (bytes : Nat) (ht : P.underlying t = some (.slice e)) (hi : P.info? e = some i) (hz : i.zero = some z)
    (hsz : i.size = 1) (hby : i.bytes = bytes) (hzs : z.cells.size = 1) (l : List Value) (v : Value) (hs : a.eval s = v) (h : RowC base l v w)
    (u : Value) (ad : Addr) (hx : a.eval x = .slice (some ad) 1 1) (ha : w.cell? (ad.add 0) = some u) (h1 : u.oneCell' = true) (hlen : l.length + 1 ≤ maxLen) (hbytes : (l.length + 1) * bytes ≤ 140737488355328) (hb : base ≤ w.heap.size)
    (hk : ∀ v' w', RowC base (l ++ [u]) v' w' → Below base w w' → wpList P ops Q rest (a.put o.dst v') w') : wpList P ops Q (o :: rest) a w := by
  refine wpList_plain hgd fun K hK => ?_
  obtain ⟨v', w', hr, h2, h3⟩ := h.app (P := P) (ty := o.type) ht hi hz hsz hby hzs u ad ha h1 hlen hbytes hb
  unfold Oper.wp execOp
  simp only [ho, resolve, invoke, builtin, Sem.run_bind, Sem.run_pure, Result.andThen_ok, List.map_toArray, List.map_cons, List.map_nil, hs, hx, hr]
  exact hK _ _ (hk v' w' h2 h3)
/-- What []byte(s) makes. -/
theorem rowC_conv (w : World) (e : TypeId) (s : ByteArray) (base : Nat) (hb : base ≤ w.heap.size) (hs : s.size ≤ maxLen) :
    RowC base (s.data.toList.map byteV) (.slice (some ⟨w.heap.size, 0, none⟩) s.size (grownCap w s.size 0 e)) (Lib.bytesWorld w e s) ∧ Below base w (Lib.bytesWorld w e s) := by
  have hl : (s.data.toList.map byteV).length = s.size := by rw [List.length_map]; exact Array.length_toList
  have hge := grownCap_ge w s.size 0 e
  have hn := Lib.bytesWorld_at_new w e s
  have hcs : (Lib.bytesCells w e s).size = grownCap w s.size 0 e := by
    unfold Lib.bytesCells
    rw [Array.size_append, Array.size_map, Array.size_replicate]
    show s.size + _ = _
    omega
  have hcell : ∀ j, (Lib.bytesWorld w e s).cell? ⟨w.heap.size, j, none⟩ = (Lib.bytesCells w e s)[j]? := fun j => by simp [World.cell?, hn]
  refine ⟨.inr ⟨w.heap.size, grownCap w s.size 0 e, by rw [hl], hb, by rw [Lib.bytesWorld_size]; omega, by rw [hl]; exact hge, grownCap_le_maxLen w _ 0 e hs, fun j u hj => ?_, fun j hj => ?_, fun j hj => ?_⟩, ?_⟩
  · have hjl : j < s.size := by rw [← hl]; exact (List.getElem?_eq_some_iff.1 hj).1
    rw [Lib.bytesWorld_cell w e s j hjl, List.getD_eq_getElem?_getD]
    rw [List.getElem?_map] at hj
    cases hg : s.data.toList[j]? with
    | none => rw [hg] at hj; cases hj
    | some x => rw [hg] at hj; cases hj; rfl
  · rw [hcell, Array.getElem?_eq_getElem (by rw [hcs]; exact hj)]
    rfl
  · unfold World.frozen?
    rw [hn]
    simp [hcs]
    omega
  · exact ⟨rfl, rfl, rfl, by rw [Lib.bytesWorld_size]; omega, fun b hb2 => Lib.bytesWorld_at_old w e s b (by omega)⟩
end
end Go.Proofs.YtdkedmngeahjiaaGreatDoor
