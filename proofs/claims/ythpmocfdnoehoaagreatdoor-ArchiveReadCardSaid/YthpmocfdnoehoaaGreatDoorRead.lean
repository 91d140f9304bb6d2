/- archive.Read. -/
import Derived.Test.YthpmocfdnoehoaaGreatDoorSeq
import Derived.Test.YthpmocfdnoehoaaGreatDoorLists
import Derived.Lib.ConvBytes
namespace Go.Proofs.YthpmocfdnoehoaaGreatDoor
open Go.RowKit Go.Shelf
attribute [local go_sem] Oper.semAt_some
/-- The members among what was handed out. -/
def okMems : List RdX → List Mem
  | [] => []
  | .mem m :: r => m :: okMems r
  | .bad _ _ :: r => okMems r
def allMem : List RdX → Prop
  | [] => True
  | .mem _ :: r => allMem r
  | .bad _ _ :: _ => False
theorem okMems_snoc (p : List RdX) (m : Mem) : okMems (p ++ [.mem m]) = okMems p ++ [m] := by
  induction p with
  | nil => rfl
  | cons x r ih => cases x with
    | mem m' => simp only [List.cons_append, okMems, ih]
    | bad e i => simp only [List.cons_append, okMems, ih]
theorem allMem_snoc {p : List RdX} {m : Mem} (h : allMem p) : allMem (p ++ [.mem m]) := by
  induction p with
  | nil => exact trivial
  | cons x r ih => cases x with
    | mem m' => exact ih h
    | bad e i => exact h.elim
/-- A block lies as it was laid. -/
theorem ownFrom_heap {β : Type} {B k : Nat} {o : Obj} (hk : k < B) : OwnFrom B (fun (_ : β) (W : World) => W.heap[k]? = some o) := by
  intro s W W' row hs hg hr
  have hlt := (Array.getElem?_eq_some_iff.1 hs).1
  exact (hg.block k hlt (fun e => by have := (hr k e.symm).1; omega)).trans hs
/-- What Read's own cells hold between two rounds. -/
def RdI (n0 : Nat) (OB OC : Obj) (w : World) (pre : List RdX) (W : World) : Prop :=
  ((((∃ v, Boxed W (n0 + 2) 22 v ∧ W.ownsRow n0 26 13 v (okMems pre).length (memCells (okMems pre)) ∧ (v = .slice none 0 0 ↔ okMems pre = [])) ∧
    Boxed W n0 22 (.slice none 0 0)) ∧ Boxed W (n0 + 1) 32 .nilIface) ∧ (W.heap[n0 + 3]? = some OB ∧ W.heap[n0 + 4]? = some OC)) ∧ (Below n0 w W ∧ allMem pre)
theorem rdI_own (n0 : Nat) (OB OC : Obj) (w : World) (hn : n0 ≤ w.heap.size) : OwnFrom (n0 + 5) (RdI n0 OB OC w) :=
  OwnFrom.and (OwnFrom.and (OwnFrom.and (OwnFrom.and (Own.from (holdsRow_own n0 (n0 + 2) _ _ 13 (fun pre => (okMems pre).length) (fun pre => memCells (okMems pre)) (fun pre v => v = .slice none 0 0 ↔ okMems pre = [])) _)
    (Own.from (boxed_own n0 _ (fun _ => .slice none 0 0)) _)) (Own.from (boxed_own (n0 + 1) _ (fun _ => .nilIface)) _)) (OwnFrom.and (ownFrom_heap (by omega)) (ownFrom_heap (by omega)))) (OwnFrom.and (ownFrom_below hn (by omega)) (ownFrom_pure _ _))
/-- A round has left: the error is the result. -/
def RdX' (n0 : Nat) (w : World) (c : Code) (pre : List RdX) (W : World) : Prop :=
  ∃ (e : Int) (i : Nat), (c = .ret ∧ ∃ p, pre = p ++ [.bad e i]) ∧ ((Boxed W n0 22 (.slice none 0 0) ∧ Boxed W (n0 + 1) 32 (faultV e 0 i)) ∧ Below n0 w W)
theorem rdX_own (n0 : Nat) (w : World) (c : Code) (hn : n0 ≤ w.heap.size) : OwnFrom (n0 + 5) (RdX' n0 w c) := by
  rintro s W W' row ⟨e, i, hp, hs⟩ hg hr
  exact ⟨e, i, hp, (OwnFrom.and (OwnFrom.and (Own.from (boxed_own n0 _ (fun (_ : Unit) => .slice none 0 0)) _) (Own.from (boxed_own (n0 + 1) _ (fun (_ : Unit) => faultV e 0 i)) _)) (ownFrom_below hn (by omega))) () W W' row hs hg hr⟩
/-- The world at the loop's start. -/
structure RdS (n0 cap : Nat) (s : ByteArray) (w W0 : World) (OB : Obj) : Prop where
  r1 : Boxed W0 n0 22 (.slice none 0 0)
  r2 : Boxed W0 (n0 + 1) 32 .nilIface
  l : Boxed W0 (n0 + 2) 22 (.slice none 0 0)
  ob : W0.heap[n0 + 3]? = some OB
  oc : W0.heap[n0 + 4]? = some (.cells #[.slice (some ⟨n0 + 3, 0, none⟩) s.size cap] 48 (0, 0))
  bel : Below n0 w W0
  size : W0.heap.size = n0 + 5
  by' : ByAt W0 (n0 + 3) s.data.toList
theorem rd_start {w V : World} {n0 cap : Nat} {s : ByteArray} (hn : w.heap.size = n0) (hV : (((w.alloc (.cells #[.slice none 0 0] 22)).alloc (.cells #[.nilIface] 32)).alloc (.cells #[.slice none 0 0] 22)) = V) :
    RdS n0 cap s w ((Lib.bytesWorld V 5 s).alloc (.cells #[.slice (some ⟨n0 + 3, 0, none⟩) s.size cap] 48)) (.cells (Lib.bytesCells V 5 s) 5 ((Lib.bytesCells V 5 s).size, (Lib.bytesCells V 5 s).size + 1)) := by
  subst hn
  have hVs : V.heap.size = w.heap.size + 3 := by rw [← hV]; simp
  have hBs : (Lib.bytesWorld V 5 s).heap.size = w.heap.size + 4 := by rw [Lib.bytesWorld_size, hVs]
  have old : ∀ (c : Array Value) (t : TypeId) (k : Nat), k < w.heap.size + 3 → ((Lib.bytesWorld V 5 s).alloc (.cells c t)).heap[k]? = V.heap[k]? := fun c t k hk =>
    (Below.heap_alloc _ _ _ (by omega)).trans (Lib.bytesWorld_at_old V _ s k (by omega))
  have n0' := heap_new w (.cells #[.slice none 0 0] 22)
  have n1' := heap_new (w.alloc (.cells #[.slice none 0 0] 22)) (.cells #[.nilIface] 32)
  have n2' := heap_new ((w.alloc (.cells #[.slice none 0 0] 22)).alloc (.cells #[.nilIface] 32)) (.cells #[.slice none 0 0] 22)
  rw [World.size_alloc] at n1'
  rw [World.size_alloc, World.size_alloc] at n2'
  refine ⟨?_, ?_, ?_, ?_, ?_, ?_, ?_, ?_, ?_⟩
  · exact (old _ _ _ (by omega)).trans (by rw [← hV]; exact (Below.heap_alloc _ _ _ (by simp; omega)).trans ((Below.heap_alloc _ _ _ (by simp)).trans n0'))
  · exact (old _ _ _ (by omega)).trans (by rw [← hV]; exact (Below.heap_alloc _ _ _ (by simp)).trans n1')
  · exact (old _ _ _ (by omega)).trans (by rw [← hV]; exact n2')
  · rw [Below.heap_alloc _ _ _ (by omega), ← hVs]; exact Lib.bytesWorld_at_new V _ s
  · have := heap_new (Lib.bytesWorld V 5 s) (.cells #[.slice (some ⟨w.heap.size + 3, 0, none⟩) s.size cap] 48)
    rw [hBs] at this
    exact this
  · have h1 : Below w.heap.size w V := by rw [← hV]; exact (((Below.refl _ w).alloc (Nat.le_refl _) _).alloc (by simp) _).alloc (by simp; omega) _
    have h2 : Below w.heap.size V (Lib.bytesWorld V 5 s) := ⟨rfl, rfl, rfl, by omega, fun k hk => Lib.bytesWorld_at_old V _ s k (by omega)⟩
    exact (h1.trans h2).alloc (by omega) _
  · rw [World.size_alloc, hBs]
  · rw [World.size_alloc, hBs]; omega
  · intro i x hx
    have hi : i < s.size := (List.getElem?_eq_some_iff.1 hx).1
    have h1 := Lib.bytesWorld_cell V 5 s i hi
    rw [hVs] at h1
    rw [World.cell?_of_block (w := Lib.bytesWorld V 5 s) (Below.heap_alloc _ _ _ (by show w.heap.size + 3 < _; omega)), h1]
    rw [List.getD_eq_getElem?_getD, hx]
    rfl
theorem rdGo_len (l : Bs) : ∀ f i, (rdGo l f i).length ≤ f := by
  intro f
  induction f with
  | zero => intro i; simp [rdGo]
  | succ f ih =>
    intro i
    rw [rdGo]
    split
    · simp
    · split
      · split <;> simp
      · split
        · simp
        · rw [List.length_cons]; have := ih (by assumption); omega
theorem rdGo_shape (l : Bs) : ∀ f i, (∃ ms : List Mem, rdGo l f i = ms.map .mem) ∨ ∃ (ms : List Mem) (e : Int) (j : Nat), rdGo l f i = ms.map .mem ++ [.bad e j] := by
  intro f
  induction f with
  | zero => intro i; exact .inl ⟨[], rfl⟩
  | succ f ih =>
    intro i
    rw [rdGo]
    split
    · exact .inr ⟨[], _, _, rfl⟩
    · split
      · split
        · exact .inl ⟨[], rfl⟩
        · exact .inr ⟨[], _, _, rfl⟩
      · split
        · exact .inr ⟨[], _, _, rfl⟩
        · rename_i m n _
          rcases ih n with ⟨ms, h⟩ | ⟨ms, e, j, h⟩
          · exact .inl ⟨m :: ms, by rw [h]; rfl⟩
          · exact .inr ⟨m :: ms, e, j, by rw [h]; rfl⟩
theorem no_bad : ∀ (p q : List RdX) (ms : List Mem) (e : Int) (i : Nat), p ++ .bad e i :: q ≠ ms.map .mem
  | [], q, [], e, i => by simp
  | [], q, m :: ms, e, i => by simp
  | x :: p, q, [], e, i => by simp
  | x :: p, q, m :: ms, e, i => by
    intro h
    rw [List.cons_append, List.map_cons] at h
    exact no_bad p q ms e i (List.cons.inj h).2
theorem one_bad : ∀ (p q : List RdX) (ms : List Mem) (e e' : Int) (i j : Nat), p ++ .bad e i :: q = ms.map .mem ++ [.bad e' j] → e = e' ∧ i = j
  | [], q, [], e, e', i, j, h => by
    obtain ⟨h1, -⟩ := List.cons.inj h
    exact RdX.bad.inj h1
  | [], q, m :: ms, e, e', i, j, h => by cases (List.cons.inj h).1
  | x :: p, q, [], e, e', i, j, h => by
    have := (List.cons.inj h).2
    simp at this
  | x :: p, q, m :: ms, e, e', i, j, h => one_bad p q ms e e' i j (List.cons.inj h).2
theorem all_map {p : List RdX} : allMem p → p = (okMems p).map .mem := by
  intro h
  induction p with
  | nil => rfl
  | cons x r ih => cases x with
    | mem m => rw [okMems, List.map_cons, ← ih h]
    | bad e i => exact h.elim
theorem okMems_le (p : List RdX) : (okMems p).length ≤ p.length := by
  induction p with
  | nil => exact Nat.le_refl _
  | cons x r ih => cases x with
    | mem m => simp only [okMems, List.length_cons]; omega
    | bad e i => simp only [okMems, List.length_cons]; omega
/-- What a store behind an append leaves as it lay. -/
theorem app_other {W w1 : World} {base B j : Nat} {v u : Value} {k : Nat} {xs : List Value} {tmp : Obj} {c : Array Value} {t : TypeId} {fz : Nat × Nat} (hrow : W.ownsRow base 26 13 v k xs) (hgrow : (W.alloc tmp).grownBy w1 v.ownBlock) (hj : W.heap[j]? = some (.cells c t fz)) (ht : t ≠ 26) (hB : j ≠ B) :
    (w1.setCell ⟨B, 0, none⟩ u).heap[j]? = W.heap[j]? := by
  have hlt := blk_lt hj
  have h1 : (w1.setCell ⟨B, 0, none⟩ u).heap[j]? = w1.heap[j]? := by
    simp only [World.setCell, Array.getElem?_modify, if_neg (Ne.symm hB)]
  rw [h1, hgrow.block j (by simp; omega) (fun e => ?_), Below.heap_alloc _ _ _ hlt]
  rcases hrow.2 with ⟨rfl, _⟩ | ⟨g, cap, cur, rfl, _, hg, _⟩
  · simp [Value.ownBlock] at e
  · obtain rfl : g = j := by simpa [Value.ownBlock] using e.symm
    rw [hg] at hj
    cases hj
    exact ht rfl
theorem rd_app {n0 : Nat} {OB OC : Obj} {w W w1 : World} {pre : List RdX} {m : Mem} {v v' : Value} {tmp : Obj} (hO : ∃ c f, OB = .cells c 5 f) (hC : ∃ c f, OC = .cells c 48 f)
    (hI : RdI n0 OB OC w pre W) (hrow : W.ownsRow n0 26 13 v (okMems pre).length (memCells (okMems pre))) (hgrow : (W.alloc tmp).grownBy w1 v.ownBlock)
    (hv2 : Boxed (w1.setCell ⟨n0 + 2, 0, none⟩ v') (n0 + 2) 22 v') (hr2 : (w1.setCell ⟨n0 + 2, 0, none⟩ v').ownsRow n0 26 13 v' ((okMems pre).length + 1) (memCells (okMems pre) ++ m.cells.toList)) (hne : v' ≠ .slice none 0 0) (hb2 : Below n0 W (w1.setCell ⟨n0 + 2, 0, none⟩ v')) :
    Kp2 (n0 + 3) (n0 + 4) W (w1.setCell ⟨n0 + 2, 0, none⟩ v') ∧ RdI n0 OB OC w (pre ++ [.mem m]) (w1.setCell ⟨n0 + 2, 0, none⟩ v') := by
  obtain ⟨c, f, rfl⟩ := hO
  obtain ⟨c2, f2, rfl⟩ := hC
  obtain ⟨⟨⟨⟨_, h1⟩, h2⟩, h3, h4⟩, hB, hall⟩ := hI
  have e1 := app_other (u := v') (B := n0 + 2) hrow hgrow (show W.heap[n0]? = _ from h1) (by decide) (by omega)
  have e2 := app_other (u := v') (B := n0 + 2) hrow hgrow (show W.heap[n0 + 1]? = _ from h2) (by decide) (by omega)
  have e3 := app_other (u := v') (B := n0 + 2) hrow hgrow h3 (by decide) (by omega)
  have e4 := app_other (u := v') (B := n0 + 2) hrow hgrow h4 (by decide) (by omega)
  refine ⟨⟨hb2.size, e3, e4⟩, ⟨⟨⟨⟨v', hv2, ?_, ?_⟩, e1.trans h1⟩, e2.trans h2⟩, e3.trans h3, e4.trans h4⟩, hB.trans hb2, allMem_snoc hall⟩
  · rw [okMems_snoc, memCells_snoc, List.length_append]; exact hr2
  · rw [okMems_snoc]
    exact ⟨fun e => absurd e hne, fun e => by simp at e⟩
theorem row_slice {W : World} {base size : Nat} {e : TypeId} {v : Value} {k : Nat} {xs : List Value} (h : W.ownsRow base e size v k xs) : ∃ p n c, v = .slice p n c := by
  rcases h.2 with ⟨rfl, _⟩ | ⟨g, cap, cur, rfl, _⟩
  · exact ⟨_, _, _, rfl⟩
  · exact ⟨_, _, _, rfl⟩
/-- What Read answers. -/
def RdPost (l : Bs) (w : World) (e : Ending) (W' : World) : Prop :=
  ((∃ (ms : List Mem) (v : Value), rdGo l (l.length + 1) 0 = ms.map .mem ∧ e = .returned (.tuple #[v, .nilIface]) ∧ W'.ownsRow w.heap.size 26 13 v ms.length (memCells ms) ∧ (v = .slice none 0 0 ↔ ms = [])) ∨
   (∃ (ms : List Mem) (x : Int) (i : Nat), rdGo l (l.length + 1) 0 = ms.map .mem ++ [.bad x i] ∧ e = .returned (.tuple #[.slice none 0 0, faultV x 0 i]))) ∧ Below w.heap.size w W'
set_option maxHeartbeats 1600000 in
set_option maxRecDepth 100000 in
theorem read_walk (s : ByteArray) (w : World) (hs : s.size ≤ 33554432) :
    Calls Tryz.prog 16 #[.string s] w (RdPost s.data.toList w) := by
  refine (callsIn_wide (n := 5)).1 ?_
  refine callsIn_of_wp_marks Tryz.func16 rfl trivial ?_ rfl
  simp only [Tryz.ntmps16, List.size_toArray, List.length_cons, List.length_nil, Nat.reduceAdd, Nat.reduceSub, Array.replicate_succ, Array.replicate_zero, List.push_toArray, List.append_toArray, List.nil_append, List.cons_append]
  have hcv : ∀ W : World, (convert 9 48 (.string s)).run Tryz.prog W = .ok (.slice (some ⟨W.heap.size, 0, none⟩) s.size (grownCap W s.size 0 5)) (Lib.bytesWorld W 5 s) := fun W =>
    Lib.run_convert_string_bytes W 9 48 5 s Tryz.underlying9 Tryz.underlying48 Tryz.underlying5
  gi_wp2_with (refine ⟨trivial, ?_⟩; gi_at_call 40; refine (callsIn_wide.2 (members_any _ _ _ _)).mono ?_; rintro e w1 ⟨rfl, rfl⟩)
  obtain ⟨n0, hn0⟩ : ∃ n0, w.heap.size = n0 := ⟨_, rfl⟩
  generalize hV : (((w.alloc (.cells #[.slice none 0 0] 22)).alloc (.cells #[.nilIface] 32)).alloc (.cells #[.slice none 0 0] 22)) = V
  have hVs : V.heap.size = n0 + 3 := by rw [← hV]; simp; omega
  generalize hcap : grownCap V s.size 0 5 = cap
  have hc1 : s.size ≤ cap := by rw [← hcap]; exact grownCap_ge _ _ _ _
  have hc2 : cap ≤ 9223372036854775807 := by rw [← hcap]; exact grownCap_le_maxLen _ _ _ _ (by unfold maxLen; omega)
  have hst := rd_start (cap := cap) (s := s) hn0 hV
  have HO : Hid (∃ c f, Obj.cells (Lib.bytesCells V 5 s) 5 ((Lib.bytesCells V 5 s).size, (Lib.bytesCells V 5 s).size + 1) = .cells c 5 f) := ⟨_, _, rfl⟩
  rw [Lib.bytesWorld_size, hVs, hn0]
  generalize hOB : Obj.cells (Lib.bytesCells V 5 s) 5 ((Lib.bytesCells V 5 s).size, (Lib.bytesCells V 5 s).size + 1) = OB at hst HO
  generalize hW0 : (Lib.bytesWorld V 5 s).alloc (.cells #[.slice (some ⟨n0 + 3, 0, none⟩) s.size cap] 48) = W0 at hst ⊢
  clear hV hVs hcap hOB hW0 hcv
  obtain ⟨i0, hi, hz0, hz1, hz2⟩ := info_parts info33
  have hsz := hst.size
  refine wpIn_rangeFunc_ownH rfl (by omega) (gf := 59) (lb := #[.pointer (some ⟨n0 + 4, 0, none⟩)]) rfl trivial (enters_of Tryz.func59 (by kernel_rfl) rfl)
    (mems_stops (n0 + 3) (n0 + 4) cap s.data.toList W0 hst.by' (by show s.size ≤ _; omega) hc1 hc2 hst.oc 4 (by omega)) Kp2.trans (Kp2.put (by omega) (by omega)) (Below.refl _ _) (fun x => by cases x <;> rfl)
    (RdI n0 OB _ w) (RdX' n0 w) (by rw [hsz]; exact rdI_own n0 OB _ w (by omega)) (fun c => by rw [hsz]; exact rdX_own n0 w c (by omega))
    ⟨⟨⟨⟨⟨_, hst.l, World.ownsRow_nil _ _ _ _, by simp [okMems]⟩, hst.r1⟩, hst.r2⟩, hst.ob, hst.oc⟩, hst.bel, trivial⟩
    (fun x a' W => ∃ Bx, n0 + 4 < Bx ∧ W.heap[Bx]? = some (.cells (rdE x)[0]!.cells 26 (0, 0)) ∧ a' = { tmps := #[.string s, undef, .pointer (some ⟨n0, 0, none⟩), .pointer (some ⟨n0 + 1, 0, none⟩), .pointer (some ⟨n0 + 1 + 1, 0, none⟩), .pointer (some ⟨Bx, 0, none⟩), (rdE x)[1]!, .string s, .int .i64 s.size, .bool (decide (33554432 < (s.size : Int))), undef, undef, .string s, .slice (some ⟨n0 + 3, 0, none⟩) s.size cap, .func (.func 59) #[] #[.pointer (some ⟨n0 + 4, 0, none⟩)], (rdE x)[0]!, (rdE x)[1]!, undef, undef, undef, undef, undef, undef, undef, undef], defers := [] })
    (fun x a' _ X Y row hs hg hr => by
      obtain ⟨Bx, h1, h2, h3⟩ := hs
      refine ⟨Bx, h1, (hg.block Bx (blk_lt h2) (fun e => ?_)).trans h2, h3⟩
      obtain ⟨_, o, ho, hc⟩ := hr Bx e.symm
      rw [h2] at ho; cases ho; cases hc)
    ?assign ?body ?done ?stop
  case assign =>
    rintro l pre x W K hI hK
    have h4 := blk_lt hI.1.2.2
    have h3 := blk_lt hI.1.2.1
    cases x with
    | mem m =>
      dsimp only [rdE, Mem.cells]
      gi_wp2
      exact hK _ _ ((KeepsOthers.alloc _ _).from _) ⟨by simp, Below.heap_alloc _ _ _ h3, Below.heap_alloc _ _ _ h4⟩ ((rdI_own n0 OB _ w (by omega)).alloc _ hI) ⟨W.heap.size, h4, heap_new W _, rfl⟩
    | bad e i =>
      dsimp only [rdE, zm, faultV]
      gi_wp2
      exact hK _ _ ((KeepsOthers.alloc _ _).from _) ⟨by simp, Below.heap_alloc _ _ _ h3, Below.heap_alloc _ _ _ h4⟩ ((rdI_own n0 OB _ w (by omega)).alloc _ hI) ⟨W.heap.size, h4, heap_new W _, rfl⟩
  case body =>
    rintro l pre x a' W hl ⟨r, hr⟩ hI ⟨Bx, hBx, bX, rfl⟩ hlt
    have HI := Lib.hid hI
    obtain ⟨⟨⟨⟨⟨v, hv, hrow, hnil⟩, hr1⟩, hr2⟩, hob, hoc⟩, hB, hall⟩ := hI
    have hc := hv.cell
    cases x with
    | mem m =>
      dsimp only [rdE] at bX
      have cX : ∀ i : Nat, W.cell? ⟨Bx, i, none⟩ = m.cells[i]? := fun i => cell_of_heapN bX
      have hlen := rdGo_len s.data.toList (s.data.toList.length + 1) 0
      have hpl := okMems_le pre
      have hsl : s.data.toList.length = s.size := rfl
      have HPL := Lib.hid (show (okMems pre).length ≤ 33554433 by omega)
      have HBz := Lib.hid hB.size
      clear hlen hpl hsl hlt
      dsimp only [rdE]
      gi_wp2_with (gi_at_builtin; refine wpListIn_append_own _ rfl _ _ 22 rfl n0 26 i0 (.agg zm) 13 144 Tryz.underlying22 hi hz0 hz1 hz2 rfl (by decide) _ _ _ rfl (hrow.alloc _) ⟨W.heap.size, 0, none⟩ 1 1 m.cells.toList rfl rfl (new13 W m _) (one13 m) (by have := HPL.out; unfold maxLen; omega) (by have := HPL.out; omega) (by have := HBz.out; rw [World.size_alloc]; omega) ?_; intro v' w1 hown' hgrow hnil'; obtain ⟨g', cap', rfl⟩ := ownsRow_succ hown'; obtain ⟨hv1, hv2, hr2', hk2, hb2⟩ := hv.appended (by decide) hrow (by have := HBz.out; omega) (by omega) hown' hgrow; have hc1 := hv1.cell; have hf1 := hv1.frozen)
      exact ⟨hk2.from _, rd_app HO.out ⟨_, _, rfl⟩ HI.out hrow hgrow hv2 hr2' (by simp) hb2⟩
    | bad e i =>
      have c1 := hr1.cell
      have f1 := hr1.frozen
      have c2 := hr2.cell
      have f2 := hr2.frozen
      dsimp only [rdE, faultV]
      gi_wp2
      exact ⟨((KeepsOthers.setCell _ _ _).trans (KeepsOthers.setCell _ _ _)).from _, e, i, ⟨rfl, pre, rfl⟩, ⟨(hr1.set _).other (by omega) _, (hr2.other (by omega) _).set _⟩, (hB.setCell (p := ⟨n0, 0, none⟩) (Nat.le_refl _) _).setCell (p := ⟨n0 + 1, 0, none⟩) (by simp) _⟩
  case done =>
    rintro D ys W hD hys hI hK
    have HI := Lib.hid hI
    obtain ⟨⟨⟨⟨⟨v, hv, hrow, hnil⟩, hr1⟩, hr2⟩, hob, hoc⟩, hB, hall⟩ := hI
    obtain ⟨pp, pk, pc, rfl⟩ := row_slice hrow
    have hc := hv.cell
    have c1 := hr1.cell
    have f1 := hr1.frozen
    have c2 := hr2.cell
    have f2 := hr2.frozen
    gi_wp2
    have b1 : Boxed ((W.setCell ⟨n0, 0, none⟩ (.slice pp pk pc)).setCell ⟨n0 + 1, 0, none⟩ .nilIface) n0 22 (.slice pp pk pc) := (hr1.set _).other (by omega) _
    have b2 : Boxed ((W.setCell ⟨n0, 0, none⟩ (.slice pp pk pc)).setCell ⟨n0 + 1, 0, none⟩ .nilIface) (n0 + 1) 32 .nilIface := (hr2.other (by omega) _).set _
    have hB2 : Below n0 w ((W.setCell ⟨n0, 0, none⟩ (.slice pp pk pc)).setCell ⟨n0 + 1, 0, none⟩ .nilIface) := (hB.setCell (p := ⟨n0, 0, none⟩) (Nat.le_refl _) _).setCell (p := ⟨n0 + 1, 0, none⟩) (by simp) _
    have hK2 := ((KeepsOthers.setCell W ⟨n0, 0, none⟩ (.slice pp pk pc)).trans (KeepsOthers.setCell _ ⟨n0 + 1, 0, none⟩ .nilIface)).same D _ hK rfl
    have ro : ((W.setCell ⟨n0, 0, none⟩ (.slice pp pk pc)).setCell ⟨n0 + 1, 0, none⟩ .nilIface).ownsRow n0 26 13 (.slice pp pk pc) (okMems ys).length (memCells (okMems ys)) :=
      (hrow.kept (grownBy_setCell' W n0 _) (.inr (hr1.not_row (by decide) hrow).symm)).kept (grownBy_setCell' _ (n0 + 1) _) (.inr (fun e => by
        have h1 := hr2.not_row (by decide) hrow
        exact h1 e.symm))
    generalize (W.setCell ⟨n0, 0, none⟩ (.slice pp pk pc)).setCell ⟨n0 + 1, 0, none⟩ .nilIface = W2 at b1 b2 hB2 hK2 ro ⊢
    refine ⟨by simp, .inl ⟨_, _, rfl, run_takeDeferred hK2, ?_⟩⟩
    have hc5 := cell_kept b1.cell (grownBy_putObj' _ D (.deferred none)) (fun r e => by cases e; exact ⟨_, hK2, rfl⟩)
    have hc6 := cell_kept b2.cell (grownBy_putObj' _ D (.deferred none)) (fun r e => by cases e; exact ⟨_, hK2, rfl⟩)
    refine ⟨.tuple #[.slice pp pk pc, .nilIface], by simp [results, Tryz.f16, go_sem, hc5, hc6], ?_, ?_⟩
    · subst hn0
      refine .inl ⟨okMems ys, _, by rw [← hys]; exact all_map hall, rfl, ownsRow_putObj ro _ hK2 rfl, hnil⟩
    · subst hn0
      exact hB2.trans (belowK_b (w := w) (Nat.le_refl _) W2 D _ _ (by omega) hK2 rfl rfl)
  case stop =>
    rintro D c pre W hD hpre ⟨e, i, ⟨rfl, p, rfl⟩, ⟨hr1, hr2⟩, hB⟩ hK
    unfold faultV at hr2
    gi_wp2
    refine ⟨by simp, .inl ⟨_, _, rfl, run_takeDeferred hK, ?_⟩⟩
    have hc5 := cell_kept hr1.cell (grownBy_putObj' _ D (.deferred none)) (fun r e => by cases e; exact ⟨_, hK, rfl⟩)
    have hc6 := cell_kept hr2.cell (grownBy_putObj' _ D (.deferred none)) (fun r e => by cases e; exact ⟨_, hK, rfl⟩)
    refine ⟨.tuple #[.slice none 0 0, faultV e 0 i], by unfold faultV; simp [results, Tryz.f16, go_sem, hc5, hc6], ?_, ?_⟩
    · right
      obtain ⟨q, hq⟩ := hpre
      rw [List.append_assoc, List.singleton_append] at hq
      rcases rdGo_shape s.data.toList (s.data.toList.length + 1) 0 with ⟨ms, h⟩ | ⟨ms, x, j, h⟩
      · exact absurd (hq.trans h) (no_bad p q ms e i)
      · obtain ⟨rfl, rfl⟩ := one_bad p q ms e x i j (hq.trans h)
        exact ⟨ms, e, i, h, rfl⟩
    · subst hn0
      exact hB.trans (belowK_b (w := w) (Nat.le_refl _) W D _ _ (by omega) hK rfl rfl)
end Go.Proofs.YthpmocfdnoehoaaGreatDoor
