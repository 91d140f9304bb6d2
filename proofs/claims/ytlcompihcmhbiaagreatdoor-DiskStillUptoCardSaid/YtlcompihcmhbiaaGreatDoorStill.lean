/- The walk of DiskStill. -/
import Derived.Test.YtlcompihcmhbiaaGreatDoorStillLaw
import Derived.Test.YtlcompihcmhbiaaGreatDoorHeld
import Derived.Test.YtlcompihcmhbiaaGreatDoorFlow
import Derived.Test.YtlcompihcmhbiaaGreatDoorTailFast
import Derived.Laws.AppendOwnNone
namespace Go.Proofs.YtlcompihcmhbiaaGreatDoor
open Go Go.RowKit Go.Maps Go.Shelf
/-- append of a row to a row of the call's own. -/
theorem wpList_app_row {P : Program} {w : World} {ops : Array Oper} {rest : List Oper} {o : Oper} {a : Act} {Q : Exit → Act → World → Prop} (hgd : o.guard = none) (s x : Operand) (t : TypeId)
    (ho : o.op = .call { callee := .builtin .append, args := #[s, x], argTypes := #[t, t] })
    (base : Nat) (e : TypeId) (i : TypeInfo) (z : Value) (size bytes : Nat) (ht : P.underlying t = some (.slice e)) (hi : P.info? e = some i) (hz : i.zero = some z)
    (hsize : i.size = size) (hby : i.bytes = bytes) (hzs : z.cells.size = size) (hsz : 0 < size)
    (v : Value) (n : Nat) (xs : List Value) (hs : a.eval s = v) (hown : w.ownsRow base e size v n xs)
    (B2 m : Nat) (u : Value) (ys : List Value) (hx : a.eval x = u) (hu : w.ownsRow B2 e size u m ys) (h1 : ∀ u ∈ ys, u.oneCell' = true)
    (h63 : n + m ≤ maxLen) (hbytes : (n + m) * bytes ≤ 140737488355328) (hbase : base ≤ w.heap.size)
    (h : ∀ v' w', w'.ownsRow base e size v' (n + m) (xs ++ ys) → w.grownBy w' v.ownBlock → (v'.ownBlock = v.ownBlock ∨ v'.ownBlock = some w.heap.size) → wpList P ops Q rest (a.put o.dst v') w') :
    wpList P ops Q (o :: rest) a w := by
  rcases hu.2 with ⟨rfl, rfl⟩ | ⟨g, cap, cur, rfl, -⟩
  · have hy : ys = [] := List.eq_nil_of_length_eq_zero (by rw [hu.1, Nat.zero_mul])
    subst hy
    refine wpList_append_own_none hgd s x t ho base e i size ht hi v n xs hs hown hx (h v w ?_ ⟨rfl, rfl, rfl, Nat.le_refl _, fun _ _ _ => rfl⟩ (.inl rfl))
    rw [List.append_nil]
    exact hown
  · exact wpList_append_own_at (P := P) w hgd s x t ho base e i z size bytes ht hi hz hsize hby hzs hsz v n xs hs hown ⟨g, 0, none⟩ m cap ys hx hu.1 (hu.cells (g := g) rfl) h1 h63 hbytes hbase (fun v' w' p1 p2 _ p4 => h v' w' p1 p2 p4)
section
variable {w w1 w' : World} {P : Nat → Prop} {a n : Nat} {m : DM}
/-- A row of P has grown; what is new may be left alone from now on. -/
theorem Held.grow (h : Held w w1 P a n m) {row : Option Nat} (hg : w1.grownBy w' row) (hr : ∀ b, row = some b → P b ∧ w.heap.size ≤ b) : Held w w' (fun b => P b ∨ (w1.heap.size ≤ b ∧ b < w'.heap.size)) a n m := by
  obtain ⟨S, h1, h2, h3, h4⟩ := h
  have hS : ∀ b, S b → w'.heap[b]? = w1.heap[b]? := fun b hb => hg.block b (h1.lt b hb) (fun e => (h2 b hb).2 (hr b e.symm).1)
  refine ⟨S, h1.frame hS hg.size, fun b hS => ⟨(h2 b hS).1, ?_⟩, ⟨hg.os.trans h3.os, hg.tape.trans h3.tape, hg.output.trans h3.output, Nat.le_trans h3.size hg.size, fun b hb => (hg.block b (Nat.lt_of_lt_of_le hb h3.size) (fun e => by have := (hr b e.symm).2; omega)).trans (h3.block b hb)⟩, ?_⟩
  · rintro (hP | ⟨hP, -⟩)
    · exact (h2 b hS).2 hP
    · exact absurd (h1.lt b hS) (by omega)
  · rintro b (hP | ⟨-, hP⟩)
    · exact Nat.lt_of_lt_of_le (h4 b hP) hg.size
    · exact hP
theorem held_listO (h : Held w w1 P a n m) (hn : n ≤ 8000000000000) (ho : m.off = false) :
    Calls Tryz.prog 11 #[.pointer (some ⟨a, 0, none⟩), .string ⟨#[]⟩] w1 fun e w' => ∃ u, e = .returned (.tuple #[u, .nilIface]) ∧ OwnTexts w1.heap.size w' u m.namesOf ∧ Below w1.heap.size w1 w' := by
  obtain ⟨S, h1, -⟩ := h
  refine (list_any h1 ⟨#[]⟩ hn).mono fun e w' hp => ?_
  obtain ⟨u, rfl, hu, hb⟩ := hp
  rw [lists_all ho] at hu
  exact ⟨u, by rw [ho]; rfl, hu, hb⟩
theorem held_shownO (h : Held w w1 P a n m) (hn : n ≤ 8000000000000) (ho : m.off = false) :
    Calls Tryz.prog 14 #[.pointer (some ⟨a, 0, none⟩)] w1 fun e w' => ∃ v u, e = .returned (.tuple #[.agg #[v, u], .bool true]) ∧ OwnTexts w1.heap.size w' v m.namesOf ∧ OwnTexts w1.heap.size w' u m.datas ∧ Below w1.heap.size w1 w' := by
  obtain ⟨S, h1, -⟩ := h
  refine (shown_any h1 hn ho).mono fun e w' hp => ?_
  obtain ⟨v, u, rfl, hv, hu, hb⟩ := hp
  exact ⟨v, u, rfl, hv, hu, hb⟩
end
theorem OwnTexts.keepB {B : Nat} {w w' : World} {v : Value} {l : List ByteArray} (h : OwnTexts B w v l) (hb : ∀ b, v.ownBlock = some b → w'.heap[b]? = w.heap[b]?) : OwnTexts B w' v l := by
  refine ⟨h.1, ?_⟩
  rcases h.2 with h2 | ⟨g, cap, cur, rfl, h1, h2, h3⟩
  · exact .inl h2
  · exact .inr ⟨g, cap, cur, rfl, h1, (hb g rfl).trans h2, h3⟩
theorem OwnTexts.low {B C : Nat} {w : World} {v : Value} {l : List ByteArray} (h : OwnTexts B w v l) (hb : C ≤ B) : OwnTexts C w v l := by
  refine ⟨h.1, ?_⟩
  rcases h.2 with h2 | ⟨g, cap, cur, rfl, h1, h2⟩
  · exact .inl h2
  · exact .inr ⟨g, cap, cur, rfl, Nat.le_trans hb h1, h2⟩
theorem OwnTexts.row {B : Nat} {w : World} {v : Value} {l : List ByteArray} (h : OwnTexts B w v l) : ∀ b, v.ownBlock = some b → B ≤ b ∧ b < w.heap.size := by
  intro b hb
  rcases h.2 with ⟨rfl, -⟩ | ⟨g, cap, cur, rfl, h1, h2, -⟩
  · cases hb
  · obtain rfl : g = b := by simpa [Value.ownBlock] using hb
    exact ⟨h1, blk_lt h2⟩
/-- What DiskStill holds beside the disk: the two fates, the names. -/
structure StillM (w : World) (PT : Nat → Prop) (b1 b2 : Nat) (x1 x2 : Value) (vn : Value) (ns : List ByteArray) (wr : World) : Prop where
  one : wr.heap[b1]? = some (.cells #[x1] 26 (0, 0))
  two : wr.heap[b2]? = some (.cells #[x2] 26 (0, 0))
  names : OwnTexts w.heap.size wr vn ns
  p1 : PT b1
  p2 : PT b2
  pn : ∀ b, vn.ownBlock = some b → PT b
  n1 : vn.ownBlock ≠ some b1
  n2 : vn.ownBlock ≠ some b2
theorem StillM.keep {w : World} {PT : Nat → Prop} {b1 b2 : Nat} {x1 x2 vn : Value} {ns : List ByteArray} {wr w' : World} (h : StillM w PT b1 b2 x1 x2 vn ns wr) (hs : Same PT wr w') : StillM w PT b1 b2 x1 x2 vn ns w' :=
  { h with one := (hs b1 h.p1).trans h.one, two := (hs b2 h.p2).trans h.two, names := h.names.keepB (fun b hb => hs b (h.pn b hb)) }
theorem StillM.sup {w : World} {PT PU : Nat → Prop} {b1 b2 : Nat} {x1 x2 vn : Value} {ns : List ByteArray} {wr : World} (h : StillM w PT b1 b2 x1 x2 vn ns wr) (hs : ∀ b, PT b → PU b) : StillM w PU b1 b2 x1 x2 vn ns wr :=
  { h with p1 := hs _ h.p1, p2 := hs _ h.p2, pn := fun b hb => hs b (h.pn b hb) }
/-- The names have grown. -/
theorem StillM.grow {w : World} {PT : Nat → Prop} {b1 b2 : Nat} {x1 x2 vn vn' : Value} {ns ns' : List ByteArray} {wr w' : World} (h : StillM w PT b1 b2 x1 x2 vn ns wr) (hlt : ∀ b, PT b → b < wr.heap.size)
    (ho : OwnTexts w.heap.size w' vn' ns') (hg : wr.grownBy w' vn.ownBlock) (hat : vn'.ownBlock = vn.ownBlock ∨ vn'.ownBlock = some wr.heap.size) : StillM w (fun b => PT b ∨ (wr.heap.size ≤ b ∧ b < w'.heap.size)) b1 b2 x1 x2 vn' ns' w' := by
  have l1 := hlt _ h.p1
  have l2 := hlt _ h.p2
  refine ⟨(hg.block _ l1 (fun e => h.n1 e.symm)).trans h.one, (hg.block _ l2 (fun e => h.n2 e.symm)).trans h.two, ho, .inl h.p1, .inl h.p2, fun b hb => ?_, ?_, ?_⟩
  · rcases hat with e | e
    · exact .inl (h.pn b (by rw [← e]; exact hb))
    · have hb2 := (ho.row b hb).2
      rw [e] at hb
      cases hb
      exact .inr ⟨Nat.le_refl _, hb2⟩
  · rcases hat with e | e
    · rw [e]; exact h.n1
    · rw [e]; intro e2; cases e2; omega
  · rcases hat with e | e
    · rw [e]; exact h.n2
    · rw [e]; intro e2; cases e2; omega
/-- The world in the first statement's region. -/
structure StillR (w : World) (xs : Array Value) (z x1 x2 : Value) (L : Nat → Bool) (γ : Nat × Nat) (W : World) : Prop where
  box : W.heap[w.heap.size]? = some (.cells xs 53 (0, 0))
  bel : Below w.heap.size w W
  one : L 8 = true → W.heap[γ.1]? = some (.cells #[if L 12 then x1 else z] 26 (0, 0)) ∧ w.heap.size < γ.1
  two : L 9 = true → W.heap[γ.2]? = some (.cells #[if L 13 then x2 else z] 26 (0, 0)) ∧ w.heap.size < γ.2
  ne : L 8 = true → L 9 = true → γ.1 ≠ γ.2
  c12 : L 12 = true → L 8 = true
  c13 : L 13 = true → L 9 = true
theorem StillR.upd {w W : World} {xs : Array Value} {z x1 x2 : Value} {L : Nat → Bool} {γ : Nat × Nat} (h' : StillR w xs z x1 x2 L γ W) (i : Nat) (hi : i ≠ 8 ∧ i ≠ 9 ∧ i ≠ 12 ∧ i ≠ 13) : StillR w xs z x1 x2 (updL L i) γ W := by
  refine ⟨h'.box, h'.bel, fun h8 => ?_, fun h9 => ?_, fun h8 h9 => h'.ne (updL_of h8 (Ne.symm hi.1)) (updL_of h9 (Ne.symm hi.2.1)), fun h => ?_, fun h => ?_⟩
  · rw [updL_ne (Ne.symm hi.2.2.1)]
    exact h'.one (updL_of h8 (Ne.symm hi.1))
  · rw [updL_ne (Ne.symm hi.2.2.2)]
    exact h'.two (updL_of h9 (Ne.symm hi.2.1))
  · rw [updL_ne (Ne.symm hi.1)]; exact h'.c12 (updL_of h (Ne.symm hi.2.2.1))
  · rw [updL_ne (Ne.symm hi.2.1)]; exact h'.c13 (updL_of h (Ne.symm hi.2.2.2))
theorem StillR.cell {w W : World} {xs : Array Value} {z x1 x2 : Value} {L : Nat → Bool} {γ : Nat × Nat} (h : StillR w xs z x1 x2 L γ W) (i : Nat) : W.cell? ⟨w.heap.size, i, none⟩ = xs[i]? := cell_of_heapN h.box
theorem StillR.mk1 {w W : World} {xs : Array Value} {z x1 x2 : Value} {L : Nat → Bool} {γ : Nat × Nat} (h : StillR w xs z x1 x2 L γ W) (hL8 : L 8 = false) : StillR w xs z x1 x2 (updL L 8) (W.heap.size, γ.2) (W.alloc (.cells #[z] 26)) := by
  have hz := blk_lt h.box
  have hb : ∀ b, b < W.heap.size → (W.alloc (.cells #[z] 26)).heap[b]? = W.heap[b]? := fun b hb => Below.heap_alloc _ _ _ hb
  refine ⟨(hb _ hz).trans h.box, h.bel.alloc h.bel.size _, fun _ => ⟨?_, hz⟩, fun h9 => ?_, fun _ h9 => ?_, fun _ => updL_self, fun hx => ?_⟩
  · have h12 : L 12 = false := Bool.eq_false_iff.2 fun e => by have := h.c12 e; rw [hL8] at this; cases this
    rw [updL_ne (by decide), h12]
    exact heap_new _ _
  · have h9 := h.two (updL_of h9 (by decide))
    rw [updL_ne (by decide)]
    exact ⟨(hb _ (blk_lt h9.1)).trans h9.1, h9.2⟩
  · have h9 := h.two (updL_of h9 (by decide))
    have := blk_lt h9.1
    show W.heap.size ≠ γ.2
    omega
  · rw [updL_ne (by decide)]; exact h.c13 (updL_of hx (by decide))
theorem StillR.mk2 {w W : World} {xs : Array Value} {z x1 x2 : Value} {L : Nat → Bool} {γ : Nat × Nat} (h : StillR w xs z x1 x2 L γ W) (hL9 : L 9 = false) : StillR w xs z x1 x2 (updL L 9) (γ.1, W.heap.size) (W.alloc (.cells #[z] 26)) := by
  have hz := blk_lt h.box
  have hb : ∀ b, b < W.heap.size → (W.alloc (.cells #[z] 26)).heap[b]? = W.heap[b]? := fun b hb => Below.heap_alloc _ _ _ hb
  refine ⟨(hb _ hz).trans h.box, h.bel.alloc h.bel.size _, fun h8 => ?_, fun _ => ⟨?_, hz⟩, fun h8 _ => ?_, fun hx => ?_, fun _ => updL_self⟩
  · have h8 := h.one (updL_of h8 (by decide))
    rw [updL_ne (by decide)]
    exact ⟨(hb _ (blk_lt h8.1)).trans h8.1, h8.2⟩
  · have h13 : L 13 = false := Bool.eq_false_iff.2 fun e => by have := h.c13 e; rw [hL9] at this; cases this
    rw [updL_ne (by decide), h13]
    exact heap_new _ _
  · have h8 := h.one (updL_of h8 (by decide))
    have := blk_lt h8.1
    show γ.1 ≠ W.heap.size
    omega
  · rw [updL_ne (by decide)]; exact h.c12 (updL_of hx (by decide))
theorem StillR.set1 {w W : World} {xs : Array Value} {z x1 x2 : Value} {L : Nat → Bool} {γ : Nat × Nat} (h : StillR w xs z x1 x2 L γ W) (h8 : L 8 = true) : StillR w xs z x1 x2 (updL L 12) γ (W.setCell ⟨γ.1, 0, none⟩ x1) := by
  obtain ⟨h1, h2⟩ := h.one h8
  have hb : ∀ b, b ≠ γ.1 → (W.setCell ⟨γ.1, 0, none⟩ x1).heap[b]? = W.heap[b]? := fun b hb => Below.heap_setCell _ _ _ _ (fun e => hb e)
  refine ⟨(hb _ (by omega)).trans h.box, h.bel.setCell (Nat.le_of_lt h2) x1, fun _ => ⟨?_, h2⟩, fun h9 => ?_, fun h8 h9 => h.ne (updL_of h8 (by decide)) (updL_of h9 (by decide)), fun _ => (updL_ne (by decide)).trans h8, fun hx => (updL_ne (by decide)).trans (h.c13 (updL_of hx (by decide)))⟩
  · rw [updL_self, setCell_blk h1]
    exact setBlk_heap (blk_lt h1)
  · have h9' := updL_of h9 (by decide)
    rw [updL_ne (by decide)]
    exact ⟨(hb _ (Ne.symm (h.ne h8 h9'))).trans (h.two h9').1, (h.two h9').2⟩
theorem StillR.set2 {w W : World} {xs : Array Value} {z x1 x2 : Value} {L : Nat → Bool} {γ : Nat × Nat} (h : StillR w xs z x1 x2 L γ W) (h9 : L 9 = true) : StillR w xs z x1 x2 (updL L 13) γ (W.setCell ⟨γ.2, 0, none⟩ x2) := by
  obtain ⟨h1, h2⟩ := h.two h9
  have hb : ∀ b, b ≠ γ.2 → (W.setCell ⟨γ.2, 0, none⟩ x2).heap[b]? = W.heap[b]? := fun b hb => Below.heap_setCell _ _ _ _ (fun e => hb e)
  refine ⟨(hb _ (by omega)).trans h.box, h.bel.setCell (Nat.le_of_lt h2) x2, fun h8 => ?_, fun _ => ⟨?_, h2⟩, fun h8 h9 => h.ne (updL_of h8 (by decide)) (updL_of h9 (by decide)), fun hx => (updL_ne (by decide)).trans (h.c12 (updL_of hx (by decide))), fun _ => (updL_ne (by decide)).trans h9⟩
  · have h8' := updL_of h8 (by decide)
    rw [updL_ne (by decide)]
    exact ⟨(hb _ (h.ne h8' h9)).trans (h.one h8').1, (h.one h8').2⟩
  · rw [updL_self, setCell_blk h1]
    exact setBlk_heap (blk_lt h1)
theorem OwnTexts.app {B : Nat} {w : World} {v : Value} {xs ys : List ByteArray} (h : w.ownsRow B 9 1 v (xs.length + ys.length) (xs.map strV ++ ys.map strV)) : OwnTexts B w v (xs ++ ys) := by
  unfold OwnTexts
  rw [List.length_append, List.map_append]
  exact h
theorem OwnTexts.form {B : Nat} {w : World} {v : Value} {l : List ByteArray} (h : OwnTexts B w v l) : ∃ p c, v = .slice p l.length c := by
  rcases h.2 with ⟨rfl, h2⟩ | ⟨g, cap, cur, rfl, -⟩
  · exact ⟨none, 0, by rw [h2]⟩
  · exact ⟨_, _, rfl⟩
theorem strV_one (l : List ByteArray) : ∀ u ∈ l.map strV, u.oneCell' = true := by
  intro u hu
  obtain ⟨s, -, rfl⟩ := List.mem_map.1 hu
  rfl
theorem names_le {m : DM} {n : Nat} (h : m.Ok n) : m.namesOf.length ≤ n := by rw [names_len]; exact h.nowN
theorem OwnTexts.inP {B : Nat} {w : World} {v : Value} {l : List ByteArray} {P : Nat → Prop} (h : OwnTexts B w v l) (hp : ∀ b, v.ownBlock = some b → P b) : TextsIn P w v l := by
  obtain ⟨p, cap, rfl, h1⟩ := row_at h
  refine ⟨p, cap, rfl, fun i s hs => ?_⟩
  obtain ⟨g, cs, e, hg, hc⟩ := h1 i (strV s) (by rw [List.getElem?_map, hs]; rfl)
  subst e
  exact ⟨g, 0, rfl, hp g rfl, by rw [Nat.zero_add, cell_of_heapN hg]; exact hc⟩
theorem bytes_ne {x y : ByteArray} (h : ¬ x = y) : (x.toList == y.toList) = false := beq_eq_false_iff_ne.2 fun e => h (by
  rw [ByteArray.toList_eq, ByteArray.toList_eq] at e
  apply ByteArray.ext
  exact Array.toList_inj.1 e)
def hasB (s : ByteArray) (l : List ByteArray) : Bool := l.any fun t => decide (t = s)
theorem hasB_of {s : ByteArray} {l : List ByteArray} (h : s ∈ l) : hasB s l = true := List.any_eq_true.2 ⟨s, h, decide_eq_true rfl⟩
theorem take_mem_succ {l : List ByteArray} {j : Nat} {s t : ByteArray} (ht : l[j]? = some t) : hasB s (l.take (j + 1)) = (hasB s (l.take j) || decide (t = s)) := by
  obtain ⟨hj, rfl⟩ := List.getElem?_eq_some_iff.1 ht
  unfold hasB
  rw [List.take_succ_eq_append_getElem hj, List.any_append]
  simp
theorem stepCell {w : World} {b off i j : Nat} {cs : Array Value} {v : Value} (h : ∀ j, j < 6 → w.cell? ⟨b, off + (i * 6 + j), none⟩ = cs[j]?) (hj : j < 6) (hv : cs[j]? = some v) : w.cell? ⟨b, off + i * 6 + j, none⟩ = some v := by
  rw [Nat.add_assoc]; exact (h j hj).trans hv
def stillVals (b0 : Nat) (v1 v2 x1 x2 : Value) (γ : Nat × Nat) : List Value :=
  [.pointer (some ⟨b0, 0, none⟩), v1, .pointer (some ⟨b0, 1, none⟩), v2, .pointer (some ⟨b0, 2, none⟩), .agg #[x1], .pointer (some ⟨b0, 3, none⟩), .agg #[x2], .pointer (some ⟨γ.1, 0, none⟩), .pointer (some ⟨γ.2, 0, none⟩), v1, v2, undef, undef]
set_option maxHeartbeats 6400000 in
set_option maxRecDepth 100000 in
theorem still_any (w : World) (hG : ErrT w) (v1 v2 v3 v4 : Value) (l1 l2 : List StepM) (ks1 ks2 : List Int) (h1 : StepsAt w v1 l1) (h2 : StepsAt w v2 l2) (h3 : IntsRd (fun b => w.heap.size ≤ b) w v3 ks1) (h4 : IntsRd (fun b => w.heap.size ≤ b) w v4 ks2)
    (n1 : l1.length ≤ 1048576) (n2 : l2.length ≤ 1048576) (g1 : ∀ s ∈ l1, s.Fits) (g2 : ∀ s ∈ l2, s.Fits) :
    Calls Tryz.prog 4 #[.agg #[v1, v2, v3, v4]] w fun e w' => e = .returned (.bool true) ∧ Below w.heap.size w w' := by
  obtain ⟨p1, c1, rfl, hS1⟩ := h1
  obtain ⟨p2, c2, rfl, hS2⟩ := h2
  obtain ⟨k1, hk1⟩ : ∃ k1, l1.length = k1 := ⟨_, rfl⟩
  obtain ⟨k2, hk2⟩ : ∃ k2, l2.length = k2 := ⟨_, rfl⟩
  rw [hk1] at n1 ⊢
  rw [hk2] at n2 ⊢
  obtain ⟨p3, c3, e3⟩ : ∃ p3 c3, v3 = .slice p3 ks1.length c3 := by
    obtain ⟨p4, c4, e4, -⟩ := h3
    exact ⟨p4, c4, e4⟩
  obtain ⟨p4, c4, e4⟩ : ∃ p4 c4, v4 = .slice p4 ks2.length c4 := by
    obtain ⟨p4, c4, e4, -⟩ := h4
    exact ⟨p4, c4, e4⟩
  obtain ⟨k3, hk3⟩ : ∃ k3, ks1.length = k3 := ⟨_, rfl⟩
  obtain ⟨k4, hk4⟩ : ∃ k4, ks2.length = k4 := ⟨_, rfl⟩
  rw [hk3] at e3
  rw [hk4] at e4
  subst e3 e4
  clear hk3 hk4
  have HK1 := Lib.hid hk1
  have HK2 := Lib.hid hk2
  have HS1 := Lib.hid hS1
  have HS2 := Lib.hid hS2
  have H3 := Lib.hid h3
  have H4 := Lib.hid h4
  have HG := Lib.hid hG
  have HG1 := Lib.hid g1
  have HG2 := Lib.hid g2
  clear hk1 hk2 hS1 hS2 h3 h4 hG g1 g2
  go_enter Tryz.func4, Tryz.ntmps4
  go_wp2_with fail
  have hI0 : StillR w #[.slice p1 k1 c1, .slice p2 k2 c2, .slice p3 k3 c3, .slice p4 k4 c4] (.slice none 0 0) (.slice p3 k3 c3) (.slice p4 k4 c4) (fun _ => false) (0, 0) (w.alloc (.cells #[.slice p1 k1 c1, .slice p2 k2 c2, .slice p3 k3 c3, .slice p4 k4 c4] 53)).drew :=
    ⟨heap_new w _, ((Below.refl _ w).alloc (Nat.le_refl _) _).drew, fun h => (by cases h), fun h => (by cases h), fun h => (by cases h), fun h => (by cases h), fun h => (by cases h)⟩
  refine wp_region_flowL (stillVals w.heap.size (.slice p1 k1 c1) (.slice p2 k2 c2) (.slice p3 k3 c3) (.slice p4 k4 c4)) (StillR w #[.slice p1 k1 c1, .slice p2 k2 c2, .slice p3 k3 c3, .slice p4 k4 c4] (.slice none 0 0) (.slice p3 k3 c3) (.slice p4 k4 c4))
    [[], [0], [], [2], [], [4], [], [6], [], [], [1, 0, 1, 8, 9], [3, 10, 0, 1, 2, 3, 8, 9, 10], [8, 5, 11, 0, 1, 2, 3, 4, 5, 8, 9, 10, 11], [9, 7, 12, 0, 1, 2, 3, 4, 5, 6, 7, 8, 9, 10, 11, 12]] 149 (0, 0) mixedD rfl (by kernel_rfl) (fun _ => rfl) hI0 ?_ ?_
  · refine ⟨?_, ?_, ?_, ?_, ?_, ?_, ?_, ?_, ?_, ?_, ?_, ?_, ?_, ?_, rfl⟩
    all_goals intro L γ W ev hL hd hW hc hf hg he h0
    · have e1 : ev (.tmp 1) = .pointer (some ⟨w.heap.size, 0, none⟩) := h0 1 rfl
      clear he h0 hc hf hg
      exact .inl ⟨_, W, (by go_simp; rfl), .still (hW.upd 0 (by decide)) rfl⟩
    · have e1 : ev (.tmp 23) = .pointer (some ⟨w.heap.size, 0, none⟩) := he 0 (by decide) _ 23 rfl rfl
      have c := hW.cell 0
      clear he h0 hc hf hg
      exact .inl ⟨_, W, (by go_simp; rfl), .still (hW.upd 1 (by decide)) rfl⟩
    · have e1 : ev (.tmp 1) = .pointer (some ⟨w.heap.size, 0, none⟩) := h0 1 rfl
      clear he h0 hc hf hg
      exact .inl ⟨_, W, (by go_simp; rfl), .still (hW.upd 2 (by decide)) rfl⟩
    · have e1 : ev (.tmp 25) = .pointer (some ⟨w.heap.size, 1, none⟩) := he 2 (by decide) _ 25 rfl rfl
      have c := hW.cell 1
      clear he h0 hc hf hg
      exact .inl ⟨_, W, (by go_simp; rfl), .still (hW.upd 3 (by decide)) rfl⟩
    · have e1 : ev (.tmp 1) = .pointer (some ⟨w.heap.size, 0, none⟩) := h0 1 rfl
      clear he h0 hc hf hg
      exact .inl ⟨_, W, (by go_simp; rfl), .still (hW.upd 4 (by decide)) rfl⟩
    · have e1 : ev (.tmp 27) = .pointer (some ⟨w.heap.size, 2, none⟩) := he 4 (by decide) _ 27 rfl rfl
      have c := hW.cell 2
      clear he h0 hc hf hg
      exact .inl ⟨_, W, (by go_simp; rfl), .still (hW.upd 5 (by decide)) rfl⟩
    · have e1 : ev (.tmp 1) = .pointer (some ⟨w.heap.size, 0, none⟩) := h0 1 rfl
      clear he h0 hc hf hg
      exact .inl ⟨_, W, (by go_simp; rfl), .still (hW.upd 6 (by decide)) rfl⟩
    · have e1 : ev (.tmp 29) = .pointer (some ⟨w.heap.size, 3, none⟩) := he 6 (by decide) _ 29 rfl rfl
      have c := hW.cell 3
      clear he h0 hc hf hg
      exact .inl ⟨_, W, (by go_simp; rfl), .still (hW.upd 7 (by decide)) rfl⟩
    · clear he h0 hc hf hg
      refine .inl ⟨_, _, (by go_simp; rfl), (W.heap.size, γ.2), hW.mk1 hL, rfl, fun j hj => ?_⟩
      · have hj2 : j ≠ 8 := fun e => by subst e; rw [hL] at hj; cases hj
        match j, hj2 with
        | 0, _ | 1, _ | 2, _ | 3, _ | 4, _ | 5, _ | 6, _ | 7, _ | 9, _ | 10, _ | 11, _ | 12, _ | 13, _ => rfl
        | n + 14, _ => rfl
    · clear he h0 hc hf hg
      refine .inl ⟨_, _, (by go_simp; rfl), (γ.1, W.heap.size), hW.mk2 hL, rfl, fun j hj => ?_⟩
      · have hj2 : j ≠ 9 := fun e => by subst e; rw [hL] at hj; cases hj
        match j, hj2 with
        | 0, _ | 1, _ | 2, _ | 3, _ | 4, _ | 5, _ | 6, _ | 7, _ | 8, _ | 10, _ | 11, _ | 12, _ | 13, _ => rfl
        | n + 14, _ => rfl
    · have e1 : ev (.tmp 24) = .slice p1 k1 c1 := he 1 (by decide) _ 24 rfl rfl
      clear he h0 hc hf hg
      exact .inl ⟨_, W, (by go_simp; rfl), .still (hW.upd 10 (by decide)) rfl⟩
    · have e1 : ev (.tmp 26) = .slice p2 k2 c2 := he 3 (by decide) _ 26 rfl rfl
      clear he h0 hc hf hg
      exact .inl ⟨_, W, (by go_simp; rfl), .still (hW.upd 11 (by decide)) rfl⟩
    · have e1 : ev (.tmp 5) = .pointer (some ⟨γ.1, 0, none⟩) := he 8 (by decide) _ 5 rfl rfl
      have e2 : ev (.tmp 28) = .agg #[.slice p3 k3 c3] := he 5 (by decide) _ 28 rfl rfl
      have h8 := hd 8 (by decide)
      have hh := hW.one h8
      rw [show L 12 = false from hL] at hh
      have cq : W.cell? ⟨γ.1, 0, none⟩ = some (.slice none 0 0) := cell_of_heapN hh.1
      have cf : W.frozen? ⟨γ.1, 0, none⟩ = false := frozen_blk hh.1
      clear he h0 hc hf hg
      exact .inr (.inl ⟨_, (by go_simp), .still (hW.set1 h8) rfl⟩)
    · have e1 : ev (.tmp 6) = .pointer (some ⟨γ.2, 0, none⟩) := he 9 (by decide) _ 6 rfl rfl
      have e2 : ev (.tmp 30) = .agg #[.slice p4 k4 c4] := he 7 (by decide) _ 30 rfl rfl
      have h8 := hd 9 (by decide)
      have hh := hW.two h8
      rw [show L 13 = false from hL] at hh
      have cq : W.cell? ⟨γ.2, 0, none⟩ = some (.slice none 0 0) := cell_of_heapN hh.1
      have cf : W.frozen? ⟨γ.2, 0, none⟩ = false := frozen_blk hh.1
      clear he h0 hc hf hg
      exact .inr (.inl ⟨_, (by go_simp), .still (hW.set2 h8) rfl⟩)
  · intro γ L W hL hW
    obtain ⟨b1, b2⟩ := γ
    simp only [putAll, stillVals, Act.put, List.setIfInBounds_toArray, List.set_cons_succ, List.set_cons_zero]
    have h8 := hW.one (hL 8 (by decide))
    have h9 := hW.two (hL 9 (by decide))
    have hne := hW.ne (hL 8 (by decide)) (hL 9 (by decide))
    rw [hL 12 (by decide), if_pos rfl] at h8
    rw [hL 13 (by decide), if_pos rfl] at h9
    have HB := Lib.hid hW.bel
    have HM := Lib.hid (show StillM w (fun b => b = b1 ∨ b = b2) b1 b2 (.slice p3 k3 c3) (.slice p4 k4 c4) (.slice none 0 0) [] W from
      ⟨h8.1, h9.1, World.ownsRow_nil _ _ _ _, .inl rfl, .inr rfl, fun b hb => (by cases hb), fun h => (by cases h), fun h => (by cases h)⟩)
    have HLT := Lib.hid (show ∀ b, (b = b1 ∨ b = b2) → b < W.heap.size from fun b hb => hb.elim (fun e => e ▸ blk_lt h8.1) (fun e => e ▸ blk_lt h9.1))
    clear hL hW h8 h9 hne hI0
    obtain ⟨i0, hi, hz0, hz1, hz2⟩ := info_parts (show (Tryz.prog.info? 9).map (fun i => (i.zero, i.size, i.bytes)) = some (some (.string ⟨#[]⟩), 1, 16) by kernel_rfl)
    go_wp2_with fail
    refine (held_new (P := fun b => b = b1 ∨ b = b2) HB.out HLT.out 65536 (by decide) (by decide)).mono ?_
    rintro e w2 ⟨a, rfl, hd, hs⟩
    have HD2 := Lib.hid hd
    have HM2 := Lib.hid (HM.out.keep hs)
    clear hd hs HM HB HLT
    go_wp2_with fail
    refine (works_any _ (HG.out.below HD2.out.bel HG.out.2)).mono ?_
    rintro e w3 ⟨rfl, hb⟩
    have HD3 := Lib.hid (HD2.out.below hb)
    have HM3 := Lib.hid (HM2.out.keep (HD2.out.same hb))
    clear hb HD2 HM2
    go_wp2_with fail
    go_loopw [8] (fun iv wr => ∃ k : Nat, k ≤ k1 ∧ iv = .int .i64 k ∧ Hid (Held w wr (fun b => b = b1 ∨ b = b2) a k (runs (DM.new 65536) (l1.take k))) ∧ Hid (StillM w (fun b => b = b1 ∨ b = b2) b1 b2 (.slice p3 k3 c3) (.slice p4 k4 c4) (.slice none 0 0) [] wr)) (fun iv _ => k1 - (intOf iv).toNat)
    case atStart => exact ⟨0, Nat.zero_le _, rfl, HD3, HM3⟩
    case round =>
      obtain ⟨k, hk, rfl, hd, hM⟩ := hrel
      clear HD3 HM3
      by_cases hlt : k < k1
      · obtain ⟨m, hm⟩ : ∃ m, l1[k]? = some m := ⟨_, List.getElem?_eq_getElem (i := k) (by have := HK1.out; omega)⟩
        obtain ⟨b, off, kv, rfl, hb, hc, -⟩ := HS1.out k m hm
        have hrow : ∀ j, j < 6 → wr.cell? ⟨b, off + (k * 6 + j), none⟩ = (m.cells kv)[j]? := fun j hj => (hd.out.bel.cell (p := ⟨b, off + (k * 6 + j), none⟩) hb).trans (hc j hj)
        have d0 : wr.cell? ⟨b, off + k * 6, none⟩ = some (.int .i64 m.act) := stepCell hrow (j := 0) (by decide) rfl
        have d1 := stepCell hrow (j := 1) (by decide) rfl
        have d2 := stepCell hrow (j := 2) (by decide) rfl
        have d3 := stepCell hrow (j := 3) (by decide) rfl
        have d4 := stepCell hrow (j := 4) (by decide) rfl
        have d5 := stepCell hrow (j := 5) (by decide) rfl
        have HF1 := Lib.hid (HG1.out m (List.mem_of_getElem? hm))
        have HN := Lib.hid (runs_next (m := DM.new 65536) hm)
        have hroom : k * (runs (DM.new 65536) (l1.take k)).room ≤ 4611686018427387904 := by
          rw [runs_room]
          show k * 65536 ≤ _
          omega
        have HR := Lib.hid hroom
        clear hrow hm hc hroom
        go_wp2_with fail
        refine (held_change hd.out m kv HF1.out (by omega) HR.out).mono ?_
        rintro e w4 ⟨rfl, hd4, hs4⟩
        rw [← HN.out] at hd4
        have HD4 := Lib.hid hd4
        have HM4 := Lib.hid (hM.out.keep hs4)
        clear hd4 hs4 d0 d1 d2 d3 d4 d5
        go_wp2_with fail
        case roundEnd =>
          exact ⟨⟨k + 1, by omega, by rw [Int.natCast_add]; rfl, HD4, HM4⟩, by simp [intOf]; omega⟩
      · obtain rfl : k = k1 := by omega
        have hall : l1.take k = l1 := List.take_of_length_le (by rw [HK1.out]; exact Nat.le_refl _)
        rw [hall] at hd
        obtain ⟨hcalm, hroom, hkeep⟩ := runs_inv l1 (DM.new 65536) ⟨rfl, rfl⟩
        generalize runs (DM.new 65536) l1 = m1 at hd hcalm hroom hkeep
        have hfl := flush_op hcalm
        have HNM := Lib.hid (named_flush hcalm)
        have HQ := Lib.hid (show (m1.op .flush).1.Calm ∧ (m1.op .flush).1.room = 65536 ∧ (m1.op .flush).1.keep = [] from ⟨hcalm.op _, by rw [hfl]; exact hroom, by rw [hfl]; exact hkeep⟩)
        have HE := Lib.hid (show errE (m1.op .flush).2 = .nilIface by rw [hfl]; rfl)
        clear hlt hall hcalm hroom hkeep hfl
        go_wp2_with fail
        refine (held_flush hd.out (by omega)).mono ?_
        rintro e w5 ⟨rfl, hd5, hs5⟩
        rw [HE.out]
        generalize (m1.op .flush).1 = m2 at hd5 HNM HQ
        have HD5 := Lib.hid hd5
        have HM5 := Lib.hid (hM.out.keep hs5)
        clear hd5 hs5 HE hd hM
        go_wp2_with fail
        refine (held_shownO HD5.out (by omega) HQ.out.1.1).mono ?_
        rintro e w6 ⟨v, u, rfl, hv, hu, hb6⟩
        obtain ⟨vp, vc, rfl⟩ := hv.form
        obtain ⟨up, uc, rfl⟩ := hu.form
        obtain ⟨K2, hK2⟩ : ∃ K2, m2.datas.length = K2 := ⟨_, rfl⟩
        obtain ⟨K, hK⟩ : ∃ K, m2.namesOf.length = K := ⟨_, rfl⟩
        rw [hK] at hv ⊢
        rw [hK2] at hu ⊢
        have HKK := Lib.hid hK
        clear hK hK2
        have hb7 : Below w5.heap.size w5 (w6.alloc (.cells #[.slice vp K vc, .slice up K2 uc] 43)) := hb6.alloc hb6.size _
        have HD7 := Lib.hid (HD5.out.below hb7)
        have HM7 := Lib.hid (HM5.out.keep (HD5.out.same hb7))
        have HV7 := Lib.hid (show OwnTexts w5.heap.size (w6.alloc (.cells #[.slice vp K vc, .slice up K2 uc] 43)) (.slice vp K vc) m2.namesOf from hv.keepB (fun b hb => Below.heap_alloc w6 _ b (hv.row b hb).2))
        have HSZ := Lib.hid (show w.heap.size ≤ (w6.alloc (.cells #[.slice vp K vc, .slice up K2 uc] 43)).heap.size from HD7.out.bel.size)
        have HKN := Lib.hid (names_le HD7.out.ok)
        clear hv hu hb6 hb7 HD5 HM5
        go_wp2_with (at_builtin; refine wpList_app_row rfl _ _ 37 rfl w.heap.size 9 i0 (.string ⟨#[]⟩) 1 16 Tryz.underlying37 hi hz0 hz1 hz2 rfl (by decide) _ 0 [] rfl (World.ownsRow_nil _ _ _ _) w5.heap.size _ _ _ rfl HV7.out (strV_one _) (by have := HKN.out; unfold maxLen; omega) (by have := HKN.out; omega) HSZ.out ?_; intro nv w8 hrow hgr hat; have HAP := Lib.hid (And.intro hrow (And.intro hgr hat)); clear hrow hgr hat)
        obtain ⟨hrow, hgr, hat⟩ := HAP.out
        have hot : OwnTexts w.heap.size w8 nv m2.namesOf := OwnTexts.app (xs := []) hrow
        have HD8 := Lib.hid (HD7.out.grow hgr (fun b hb => by cases hb))
        have HM8 := Lib.hid (HM7.out.grow HD7.out.lt hot hgr hat)
        have HB8 := Lib.hid (show m2.namesOf.length ≤ k + 1 from HKN.out)
        clear hrow hot hgr hat HAP HD7 HM7 HV7 HSZ HKN
        generalize m2.namesOf = ns0 at HNM HM8 HB8
        generalize (fun b => (b = b1 ∨ b = b2) ∨ ((w6.alloc (.cells #[.slice vp K vc, .slice up K2 uc] 43)).heap.size ≤ b ∧ b < w8.heap.size)) = PT0 at HD8 HM8
        generalize w6.alloc (.cells #[.slice vp K vc, .slice up K2 uc] 43) = w7
        go_wp2_with fail
        go_loopw [11, 12] (fun nv iv wr => ∃ (q : Nat) (m : DM) (ns : List ByteArray) (PT : Nat → Prop), q ≤ k2 ∧ iv = .int .i64 q ∧ Hid (Held w wr PT a (k + 1 + q) m) ∧ Hid (StillM w PT b1 b2 (.slice p3 k3 c3) (.slice p4 k4 c4) nv ns wr) ∧ Hid (m.Calm ∧ m.room = 65536 ∧ m.keep = []) ∧ Hid (m.Named (bsOf ns)) ∧ Hid (ns.length ≤ (k + 1) + q * (k + 1 + k2))) (fun _ iv _ => k2 - (intOf iv).toNat)
        case atStart => exact ⟨0, m2, ns0, PT0, Nat.zero_le _, rfl, HD8, HM8, HQ, HNM, Lib.hid (by have := HB8.out; omega)⟩
        case round =>
          obtain ⟨q, m, ns, PT, hq, rfl, hd, hM, hm, hnm, hln⟩ := hrel
          clear HD8 HM8 HQ HNM HB8
          by_cases hlt3 : q < k2
          · obtain ⟨s, hs⟩ : ∃ s, l2[q]? = some s := ⟨_, List.getElem?_eq_getElem (i := q) (by have := HK2.out; omega)⟩
            obtain ⟨b, off, kv, rfl, hb, hc, hkr⟩ := HS2.out q s hs
            obtain ⟨kp, kc, rfl, -⟩ := hkr
            generalize s.keep.length = kl at hc
            have hrow : ∀ j, j < 6 → wr.cell? ⟨b, off + (q * 6 + j), none⟩ = (s.cells (.slice kp kl kc))[j]? := fun j hj => (hd.out.bel.cell (p := ⟨b, off + (q * 6 + j), none⟩) hb).trans (hc j hj)
            have d0 : wr.cell? ⟨b, off + q * 6, none⟩ = some (.int .i64 s.act) := stepCell hrow (j := 0) (by decide) rfl
            have d1 : wr.cell? ⟨b, off + q * 6 + 1, none⟩ = some (.int .i64 s.who) := stepCell hrow (j := 1) (by decide) rfl
            have d2 : wr.cell? ⟨b, off + q * 6 + 2, none⟩ = some (.string s.name) := stepCell hrow (j := 2) (by decide) rfl
            have d3 : wr.cell? ⟨b, off + q * 6 + 3, none⟩ = some (.string s.data) := stepCell hrow (j := 3) (by decide) rfl
            have d4 : wr.cell? ⟨b, off + q * 6 + 4, none⟩ = some (.int .i64 s.num) := stepCell hrow (j := 4) (by decide) rfl
            have d5 : wr.cell? ⟨b, off + q * 6 + 5, none⟩ = some (.slice kp kl kc) := stepCell hrow (j := 5) (by decide) rfl
            have HF2 := Lib.hid (HG2.out s (List.mem_of_getElem? hs))
            clear hrow hs hc
            have hbA := (Below.refl wr.heap.size wr).alloc (Nat.le_refl _) (.cells (s.cells (.slice kp kl kc)) 36)
            have HDA := Lib.hid (hd.out.below hbA)
            have HMA := Lib.hid (hM.out.keep (hd.out.same hbA))
            have HNX := Lib.hid (Nat.le_trans (Nat.add_le_add_left (Nat.mul_le_mul_right (k + 1 + k2) (Nat.le_of_lt hlt3)) (k + 1)) (show (k + 1) + k2 * (k + 1 + k2) ≤ 2199025352705 from by have := Nat.mul_le_mul n2 (show k + 1 + k2 ≤ 2097153 by omega); omega))
            clear hbA
            unfold StepM.cells at HDA HMA
            by_cases ha6 : s.act = 6
            · rw [ha6] at HDA HMA d0
              go_wp2_with fail
              case roundEnd => exact ⟨⟨q + 1, m, ns, PT, by omega, by rw [Int.natCast_add]; rfl, HDA.out.more (by omega), HMA, hm, hnm, Lib.hid (by have := hln.out; rw [Nat.succ_mul]; omega)⟩, by simp [intOf]; omega⟩
            · have hb6 : (s.act == 6) = false := beq_eq_false_iff_ne.2 ha6
              go_wp2_with fail
              have hroom : (k + 1 + q) * m.room ≤ 4611686018427387904 := by
                rw [hm.out.2.1]
                omega
              refine (held_change HDA.out s (.slice kp kl kc) HF2.out (by omega) hroom).mono ?_
              rintro e x1 ⟨rfl, hd1, hs1⟩
              have HD1 := Lib.hid hd1
              have HM1 := Lib.hid (HMA.out.keep hs1)
              have HMM := Lib.hid (show (m.op s.call).1.Calm ∧ (m.op s.call).1.room = 65536 ∧ (m.op s.call).1.keep = [] from ⟨hm.out.1.op _, (op_room m _).trans hm.out.2.1, (calm_keep hm.out.1 _).trans hm.out.2.2⟩)
              have hnx := named_step hm.out.1 hnm.out s.call
              unfold namesOn at hnx
              have HNS := Lib.hid hnx
              clear hd1 hs1 HDA HMA hroom d0 d1 d2 d3 d4 d5 hnx
              generalize (m.op s.call).1 = m' at HD1 HMM HNS
              generalize (m.op s.call).2 = ex at HNS ⊢
              by_cases he : ex = 0
              · subst he
                rw [show errE 0 = Value.nilIface from rfl]
                have HN0 := Lib.hid (show m'.Named (bsOf (ns ++ m'.namesOf)) from by have := HNS.out; rwa [if_pos rfl] at this)
                go_wp2_with fail
                refine (held_listO HD1.out (by omega) HMM.out.1.1).mono ?_
                rintro e x2 ⟨u2, rfl, hu2, hb2⟩
                have HD2 := Lib.hid (HD1.out.below hb2)
                have HM2 := Lib.hid (HM1.out.keep (HD1.out.same hb2))
                have HU2 := Lib.hid hu2
                have HKN := Lib.hid (names_le HD1.out.ok)
                have HSZ := Lib.hid (show w.heap.size ≤ x2.heap.size from HD2.out.bel.size)
                have HOW := Lib.hid HM2.out.names
                clear hu2 hb2 HD1 HM1
                go_wp2_with (at_builtin; refine wpList_app_row rfl _ _ 37 rfl w.heap.size 9 i0 (.string ⟨#[]⟩) 1 16 Tryz.underlying37 hi hz0 hz1 hz2 rfl (by decide) _ _ _ rfl HOW.out x1.heap.size _ _ _ rfl HU2.out (strV_one _) (by have := HKN.out; have := hln.out; have := HNX.out; unfold maxLen; omega) (by have := HKN.out; have := hln.out; have := HNX.out; omega) HSZ.out ?_; intro nv2 x3 hrow hgr hat; have HAP := Lib.hid (And.intro hrow (And.intro hgr hat)); clear hrow hgr hat)
                obtain ⟨hrow, hgr, hat⟩ := HAP.out
                have hot := OwnTexts.app hrow
                have HD3 := Lib.hid (HD2.out.grow hgr (fun b hb => ⟨HM2.out.pn b hb, (HM2.out.names.row b hb).1⟩))
                have HM3 := Lib.hid (HM2.out.grow HD2.out.lt hot hgr hat)
                clear hrow hot hgr hat HAP HD2 HM2 HU2 HSZ HOW
                go_wp2_with fail
                case roundEnd => exact ⟨⟨q + 1, m', ns ++ m'.namesOf, _, by omega, by rw [Int.natCast_add]; rfl, HD3, HM3, HMM, HN0, Lib.hid (by have := hln.out; have := HKN.out; rw [List.length_append, Nat.succ_mul]; omega)⟩, by simp [intOf]; omega⟩
              · have HN1 := Lib.hid (show m'.Named (bsOf ns) from by have := HNS.out; rwa [if_neg he] at this)
                rw [errE_nz he]
                unfold errV
                go_wp2_with fail
                case roundEnd => exact ⟨⟨q + 1, m', ns, PT, by omega, by rw [Int.natCast_add]; rfl, HD1, HM1, HMM, HN1, Lib.hid (by have := hln.out; rw [Nat.succ_mul]; omega)⟩, by simp [intOf]; omega⟩
          · obtain rfl : q = k2 := by omega
            have y1 : wr.cell? ⟨b1, 0, none⟩ = some (.slice p3 k3 c3) := cell_of_heapN hM.out.one
            obtain ⟨np, nc, rfl⟩ := hM.out.names.form
            obtain ⟨N, hN⟩ : ∃ N, ns.length = N := ⟨_, rfl⟩
            have hNI : (N : Int) ≤ 2199025352705 := by
              have h1 := hln.out
              have h2 : (k + 1) + q * (k + 1 + q) ≤ 2199025352705 := by have := Nat.mul_le_mul n2 (show k + 1 + q ≤ 2097153 by omega); omega
              omega
            rw [hN] at hM ⊢
            have HN := Lib.hid hN
            have HLE := Lib.hid (fun (s : ByteArray) (hs : s ∈ (m.crash ks1).revive.namesOf) => named_left hm.out.1.1 hnm.out ks1 hs)
            have HTW := Lib.hid (crash_twice hm.out.1.1 ks1 ks2)
            have HST := Lib.hid (fail_still hd.out.ok hm.out.1.1 ks1)
            have HKP := Lib.hid (fail_keep hm.out.1.1 ks1)
            clear hlt3 hN hln hnm hm
            go_wp2_with fail
            refine (held_crash hd.out (.slice p3 k3 c3) ks1 H3.out (by omega)).mono ?_
            rintro e x1 ⟨rfl, hd1, hs1⟩
            have HD1 := Lib.hid hd1
            have HM1 := Lib.hid (hM.out.keep hs1)
            have y2 : x1.cell? ⟨b2, 0, none⟩ = some (.slice p4 k4 c4) := cell_of_heapN HM1.out.two
            clear hd1 hs1 hd hM y1
            go_wp2_with fail
            refine (held_crash HD1.out (.slice p4 k4 c4) ks2 H4.out (by omega)).mono ?_
            rintro e x2 ⟨rfl, hd1, hs1⟩
            rw [HTW.out] at hd1
            have HD2 := Lib.hid hd1
            have HM2 := Lib.hid (HM1.out.keep hs1)
            clear hd1 hs1 HD1 HM1 y2
            go_wp2_with fail
            refine (held_revive HD2.out).mono ?_
            rintro e x3 ⟨rfl, hd1, hs1⟩
            generalize (m.crash ks1).revive = mr at hd1 HLE HST HKP
            have HD3 := Lib.hid hd1
            have HM3 := Lib.hid (HM2.out.keep hs1)
            clear hd1 hs1 HD2 HM2 HTW
            go_wp2_with fail
            obtain ⟨K3, hK3⟩ : ∃ K3, mr.now.length = K3 := ⟨_, rfl⟩
            have hK3n : K3 ≤ k + 1 + q := by rw [← hK3]; exact HD3.out.ok.nowN
            have hK3i : (K3 : Int) ≤ 2097153 := by omega
            have HKL := Lib.hid hK3
            clear hK3
            refine (held_shownK HD3.out (by omega) HST.out.calm.1 HKL.out).mono ?_
            rintro e x4 ⟨vp, vc, up, uc, rfl, hv, hu, hb⟩
            obtain ⟨PU, hd5, hv5, hu5, hpw, hw5, hsm, hsub, hwlt⟩ := held_was HD3.out hb hv hu (.cells #[.slice vp K3 vc, .slice up K3 uc] 43)
            have HD5 := Lib.hid hd5
            have HV5 := Lib.hid hv5
            have HU5 := Lib.hid hu5
            have HM5 := Lib.hid ((HM3.out.keep hsm).sup hsub)
            have HW5 := Lib.hid hw5
            have HPW := Lib.hid hpw
            clear hv hu hb hd5 hv5 hu5 hpw hw5 hsm hsub hwlt HD3 HM3
            have y2 : (x4.alloc (.cells #[.slice vp K3 vc, .slice up K3 uc] 43)).cell? ⟨b2, 0, none⟩ = some (.slice p4 k4 c4) := cell_of_heapN HM5.out.two
            go_wp2_with fail
            generalize x4.heap.size = bw at HW5 HPW ⊢
            generalize x4.alloc (.cells #[.slice vp K3 vc, .slice up K3 uc] 43) = x5 at HD5 HV5 HU5 HM5 HW5 ⊢
            refine (held_crash HD5.out (.slice p4 k4 c4) ks2 H4.out (by omega)).mono ?_
            rintro e x6 ⟨rfl, hd1, hs1⟩
            have HD6 := Lib.hid hd1
            have HS6 := Lib.hid hs1
            clear hd1 hs1 y2
            go_wp2_with fail
            refine (held_revive HD6.out).mono ?_
            rintro e x7 ⟨rfl, hd1, hs1⟩
            rw [HST.out.fail HD5.out.ok HKP.out ks2] at hd1
            have HD7 := Lib.hid hd1
            have HS7 := Lib.hid (show Same PU x5 x7 from fun b hb => (hs1 b hb).trans (HS6.out b hb))
            clear hd1 hs1 HD6 HS6
            go_wp2_with fail
            refine (held_shownK HD7.out (by omega) HST.out.calm.1 HKL.out).mono ?_
            rintro e x8 ⟨vp2, vc2, up2, uc2, rfl, hv2, hu2, hb2⟩
            have hb3 : Below x7.heap.size x7 (x8.alloc (.cells #[.slice vp2 K3 vc2, .slice up2 K3 uc2] 43)) := hb2.alloc hb2.size _
            have HD9 := Lib.hid (HD7.out.below hb3)
            have HS9 := Lib.hid (show Same PU x5 _ from fun b hb => ((HD7.out.same hb3) b hb).trans (HS7.out b hb))
            have hx9 : ∀ {v l}, TextsIn (fun b => x7.heap.size ≤ b ∧ b < x8.heap.size) x8 v l → TextsRd (x8.alloc (.cells #[.slice vp2 K3 vc2, .slice up2 K3 uc2] 43)) v l := fun h => (h.keep (fun b hb => Below.heap_alloc x8 _ b hb.2)).rd
            have HV9 := Lib.hid (HV5.out.keep HS9.out)
            have HU9 := Lib.hid (HU5.out.keep HS9.out)
            have HM9 := Lib.hid (HM5.out.keep HS9.out)
            have HW9 := Lib.hid ((HS9.out bw HPW.out).trans HW5.out)
            have HL : mr.namesOf.length ≤ 8000000000000 ∧ mr.datas.length ≤ 8000000000000 := by
              unfold DM.namesOf DM.datas
              rw [List.length_map, List.length_map, HKL.out]
              omega
            have HSA := same_any (x8.alloc (.cells #[.slice vp2 K3 vc2, .slice up2 K3 uc2] 43)) (.slice vp K3 vc) (.slice up K3 uc) (.slice vp2 K3 vc2) (.slice up2 K3 uc2) mr.namesOf mr.datas mr.namesOf mr.datas HV9.out.rd HU9.out.rd (hx9 hv2) (hx9 hu2) HL.1 HL.2
            rw [show (sameT mr.namesOf mr.namesOf && sameT mr.datas mr.datas) = true by unfold sameT; simp] at HSA
            have HSA := Lib.hid HSA
            have y0 := cell_of_heapN (i := 0) HW9.out
            have y1 := cell_of_heapN (i := 1) HW9.out
            clear hb2 hb3 hx9 hv2 hu2 HD7 HS7 HL HV5 HU5 HM5 HW5 HS9 HD5
            go_wp2_with fail
            refine HSA.out.mono ?_
            rintro e xa ⟨rfl, hb4⟩
            have HDA := Lib.hid (HD9.out.below hb4)
            have hsA := HD9.out.same hb4
            have HVA := Lib.hid (HV9.out.keep hsA)
            have HMA := Lib.hid (HM9.out.keep hsA)
            have HWA := Lib.hid ((hsA bw HPW.out).trans HW9.out)
            clear hb4 hsA HD9 HV9 HU9 HM9 HW9 HSA y0 y1
            go_wp2_with fail
            have HNT := Lib.hid (HMA.out.names.inP HMA.out.pn)
            have HBA := Lib.hid HDA.out.bel
            clear HMA HDA
            go_loopw [20] (fun iv wr => ∃ i : Nat, i ≤ K3 ∧ iv = .int .i64 i ∧ Hid (Same PU xa wr) ∧ Hid (Below w.heap.size w wr)) (fun iv _ => K3 - (intOf iv).toNat)
            case atStart => exact ⟨0, Nat.zero_le _, rfl, fun _ _ => rfl, HBA⟩
            case round =>
              obtain ⟨i, hi', rfl, hs, hb⟩ := hrel
              have y0 : wr.cell? ⟨bw, 0, none⟩ = some (.slice vp K3 vc) := cell_of_heapN ((hs.out bw HPW.out).trans HWA.out)
              by_cases hlt5 : (i : Int) < (K3 : Int)
              · obtain ⟨p, hp⟩ : ∃ p, mr.now[i]? = some p := ⟨_, List.getElem?_eq_getElem (i := i) (by have := HKL.out; omega)⟩
                have hnm : mr.namesOf[i]? = some (nameB p) := by unfold DM.namesOf; rw [List.getElem?_map, hp]; rfl
                have HMEM := Lib.hid (HLE.out _ (List.mem_of_getElem? hnm))
                have HNM := Lib.hid hnm
                generalize nameB p = nm at HMEM HNM hnm
                clear hp hnm
                go_wp2_with fail
                go_loopw [21, 22] (fun fv jv wt => ∃ j : Nat, j ≤ N ∧ jv = .int .i64 j ∧ fv = .bool (hasB nm (ns.take j)) ∧ Hid (Same PU xa wt) ∧ Hid (Below w.heap.size w wt)) (fun _ jv _ => N - (intOf jv).toNat)
                case atStart => exact ⟨0, Nat.zero_le _, rfl, rfl, hs, hb⟩
                case round =>
                  obtain ⟨j, hj, rfl, rfl, hs2, hb2⟩ := hrel
                  by_cases hlt6 : (j : Int) < (N : Int)
                  · obtain ⟨t, ht⟩ : ∃ t, ns[j]? = some t := ⟨_, List.getElem?_eq_getElem (i := j) (by have := HN.out; omega)⟩
                    have HTK := Lib.hid (take_mem_succ (s := nm) ht)
                    obtain ⟨gb, go_, rfl, hpg, hcg⟩ := HNT.out.at ht
                    obtain ⟨vb, vo, rfl, hpv, hcv⟩ := HVA.out.at HNM.out
                    have cg : wr.cell? ⟨gb, go_ + j, none⟩ = some (.string t) := (cell_of_heap (hs2.out gb hpg)).trans hcg
                    have cv : wr.cell? ⟨vb, vo + i, none⟩ = some (.string nm) := (cell_of_heap (hs2.out vb hpv)).trans hcv
                    have y0 : wr.cell? ⟨bw, 0, none⟩ = some (.slice (some ⟨vb, vo, none⟩) K3 vc) := cell_of_heapN ((hs2.out bw HPW.out).trans HWA.out)
                    have HS3 := Lib.hid (show Same PU xa (wr.drewN 1) from fun b hb => hs2.out b hb)
                    have HB3 := Lib.hid hb2.out.drew
                    clear ht hpg hcg hpv hcv hs2 hb2
                    cases hf : hasB nm (ns.take j) with
                    | true =>
                      go_wp2_with fail
                      refine wp_region_quietF 13 mixedD (by kernel_rfl) ?_
                      simp only [List.take_succ_cons, List.take_zero, List.drop_succ_cons, List.drop_zero]
                      repeat (go_big_quiet_step (fail))
                      refine wpQuiet_nil ?_
                      go_wp2_with fail
                      case roundEnd => exact ⟨⟨j + 1, by omega, by rw [Int.natCast_add]; rfl, by rw [HTK.out, hf]; rfl, HS3, HB3⟩, by simp [intOf]; omega⟩
                    | false =>
                      by_cases hts : t = nm
                      · subst hts
                        go_wp2_with fail
                        refine wp_region_quietF 13 mixedD (by kernel_rfl) ?_
                        simp only [List.take_succ_cons, List.take_zero, List.drop_succ_cons, List.drop_zero]
                        repeat (go_big_quiet_step (fail))
                        refine wpQuiet_nil ?_
                        go_wp2_with fail
                        case roundEnd => exact ⟨⟨j + 1, by omega, by rw [Int.natCast_add]; rfl, by rw [HTK.out]; simp, HS3, HB3⟩, by simp [intOf]; omega⟩
                      · have hbn := bytes_ne hts
                        go_wp2_with fail
                        refine wp_region_quietF 13 mixedD (by kernel_rfl) ?_
                        simp only [List.take_succ_cons, List.take_zero, List.drop_succ_cons, List.drop_zero]
                        repeat (go_big_quiet_step (fail))
                        refine wpQuiet_nil ?_
                        go_wp2_with fail
                        case roundEnd => exact ⟨⟨j + 1, by omega, by rw [Int.natCast_add]; rfl, by rw [HTK.out, hf, decide_eq_false hts]; rfl, HS3, HB3⟩, by simp [intOf]; omega⟩
                  · obtain rfl : j = N := by omega
                    have hall : hasB nm (ns.take j) = true := by
                      rw [List.take_of_length_le (by rw [HN.out]; exact Nat.le_refl _)]
                      exact hasB_of HMEM.out
                    rw [hall]
                    clear hall
                    go_wp2_with fail
                    case roundEnd => exact ⟨⟨i + 1, by omega, by rw [Int.natCast_add]; rfl, hs2, hb2⟩, by simp [intOf]; omega⟩
              · go_wp2_with fail
                go_ret
                exact ⟨rfl, hb.out⟩
end Go.Proofs.YtlcompihcmhbiaaGreatDoor
