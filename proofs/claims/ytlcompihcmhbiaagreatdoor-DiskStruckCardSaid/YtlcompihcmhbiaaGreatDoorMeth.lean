/- Contracts of a disk's methods that operate. -/
import Derived.Test.YtlcompihcmhbiaaGreatDoorActd
import Derived.Test.YtlcompihcmhbiaaGreatDoorRefd
namespace Go.Proofs.YtlcompihcmhbiaaGreatDoor
open Go Go.RowKit Go.Maps Go.Shelf
theorem box3 (w : World) (o o' o'' : Obj) : Below w.heap.size w (((w.alloc o).alloc o').alloc o'') ∧ (((w.alloc o).alloc o').alloc o'').heap.size = w.heap.size + 3 ∧ (((w.alloc o).alloc o').alloc o'').heap[w.heap.size]? = some o ∧ (((w.alloc o).alloc o').alloc o'').heap[w.heap.size + 1]? = some o' ∧ (((w.alloc o).alloc o').alloc o'').heap[w.heap.size + 2]? = some o'' := by
  have h2 := size2 w o o'
  have h3 : (((w.alloc o).alloc o').alloc o'').heap.size = w.heap.size + 3 := by rw [World.size_alloc, h2]
  refine ⟨(below2 w o o').alloc (by omega) _, h3, ?_, ?_, ?_⟩
  · exact (Below.heap_alloc _ _ _ (by omega)).trans ((Below.heap_alloc _ _ _ (by rw [World.size_alloc]; omega)).trans (heap_new w o))
  · exact (Below.heap_alloc _ _ _ (by omega)).trans (heap_new2 w o o')
  · have := heap_new ((w.alloc o).alloc o') o''
    rwa [h2] at this
theorem box2 (w : World) (o o' : Obj) : Below w.heap.size w ((w.alloc o).alloc o') ∧ ((w.alloc o).alloc o').heap.size = w.heap.size + 2 ∧ ((w.alloc o).alloc o').heap[w.heap.size]? = some o ∧ ((w.alloc o).alloc o').heap[w.heap.size + 1]? = some o' :=
  ⟨below2 w o o', size2 w o o', (Below.heap_alloc _ _ _ (by rw [World.size_alloc]; omega)).trans (heap_new w o), heap_new2 w o o'⟩
/-- What is in a box is there in a later world. -/
theorem box_below {w1 W : World} {b : Nat} {cs : Array Value} {t : TypeId} (h : w1.heap[b]? = some (.cells cs t (0, 0))) (hb : Below w1.heap.size w1 W) : W.heap[b]? = some (.cells cs t (0, 0)) := (hb.block b (blk_lt h)).trans h
theorem box_off {w1 W : World} {a b : Nat} {cs : Array Value} {t : TypeId} (h : w1.heap[b]? = some (.cells cs t (0, 0))) (hb : Off (fun b => b = a) w1 W) (hn : b ≠ a) : W.heap[b]? = some (.cells cs t (0, 0)) := (hb.block b (blk_lt h) hn).trans h
theorem OpPost.boxes {w w1 w' : World} {a n : Nat} {m : DM} {c : DCall} {S S2 : Nat → Prop} {e : Ending} (h : OpPost a n m c S2 w1 w' e) (h1 : Below w.heap.size w w1) (hs : ∀ b, S2 b → S b ∨ (w.heap.size ≤ b ∧ b < w1.heap.size)) (hl : ∀ b, S b → b < w.heap.size) : OpPost a n m c S w w' e := ⟨h.1, h.2.boxes h1 hs hl⟩
set_option maxHeartbeats 1600000 in
set_option maxRecDepth 100000 in
theorem create_any {w : World} {a n : Nat} {m : DM} {S : Nat → Prop} (h : DiskAt w a n m S) (s : ByteArray) (hs : s.size ≤ maxLen) (hn : n + 1 ≤ 8000000000000) :
    Calls Tryz.prog 27 #[.pointer (some ⟨a, 0, none⟩), .string s] w fun e w' => OpPost a n m (.create s) S w w' e := by
  have hl := h.lt
  have haS := h.mine
  obtain ⟨W1, hW1⟩ : ∃ W1, W1 = ((w.alloc (.cells #[.pointer (some ⟨a, 0, none⟩)] 29)).alloc (.cells #[.string s] 9)) := ⟨_, rfl⟩
  have hbx := box2 w (.cells #[.pointer (some ⟨a, 0, none⟩)] 29) (.cells #[.string s] 9)
  rw [← hW1] at hbx
  obtain ⟨hb, hz, g0, g1⟩ := hbx
  have hd : DiskAt W1 a n m (fun b => S b ∨ b = w.heap.size + 1) := (h.below hb).sup (fun b hb2 => .inl hb2) (fun b hb2 => by
    rcases hb2 with hb2 | rfl
    · have := hl b hb2; omega
    · omega)
  have ha := hl a haS
  have hmf := mk_func
  have hc := operate_any hd (.create s) 64 66 #[.pointer (some ⟨w.heap.size + 1, 0, none⟩), .pointer (some ⟨w.heap.size, 0, none⟩)] #[.pointer (some ⟨w.heap.size, 0, none⟩), .pointer (some ⟨w.heap.size + 1, 0, none⟩)] (enters_of Tryz.func64 (by kernel_rfl) rfl) (enters_of Tryz.func66 (by kernel_rfl) rfl) hn
    (fun ho W hW => (create_ref (hd.below hW) _ _ s hs (cell_of_heapN (box_below g1 hW)) (cell_of_heapN (box_below g0 hW))))
    (fun ho hr W hW hO => create_act hW _ _ s hs (by omega) (blk_lt (box_off g0 hO (by omega))) (cell_of_heapN (box_off g0 hO (by omega))) (box_off g1 hO (by omega)) (.inr rfl))
  have HE := Lib.hid (fun e w' (hp : OpPost a n m (.create s) (fun b => S b ∨ b = w.heap.size + 1) W1 w' e) => hp.boxes hb (fun b hb2 => by rcases hb2 with hb2 | rfl; exact .inl hb2; exact .inr ⟨by omega, by omega⟩) hl)
  rw [hW1] at hc HE
  clear hW1 hb hz g0 g1 hd
  go_enter Tryz.func27, Tryz.ntmps27
  go_wp2_with (go_at_call 41; refine hc.mono ?_; intro e w1 hp; have HP := Lib.hid (HE.out _ _ hp); obtain ⟨rfl, -⟩ := hp)
  go_ret
  exact HP.out
set_option maxHeartbeats 1600000 in
set_option maxRecDepth 100000 in
theorem sync_any {w : World} {a n : Nat} {m : DM} {S : Nat → Prop} (h : DiskAt w a n m S) (s : ByteArray) (hs : s.size ≤ maxLen) (hn : n + 1 ≤ 8000000000000) :
    Calls Tryz.prog 12 #[.pointer (some ⟨a, 0, none⟩), .string s] w fun e w' => OpPost a n m (.sync s) S w w' e := by
  have hl := h.lt
  have haS := h.mine
  obtain ⟨W1, hW1⟩ : ∃ W1, W1 = ((w.alloc (.cells #[.pointer (some ⟨a, 0, none⟩)] 29)).alloc (.cells #[.string s] 9)) := ⟨_, rfl⟩
  have hbx := box2 w (.cells #[.pointer (some ⟨a, 0, none⟩)] 29) (.cells #[.string s] 9)
  rw [← hW1] at hbx
  obtain ⟨hb, hz, g0, g1⟩ := hbx
  have hd : DiskAt W1 a n m (S) := (h.below hb).sup (fun b hb2 => hb2) (fun b hb2 => by
    have := hl b hb2; omega)
  have ha := hl a haS
  have hmf := mk_func
  have hc := operate_any hd (.sync s) 42 44 #[.pointer (some ⟨w.heap.size, 0, none⟩), .pointer (some ⟨w.heap.size + 1, 0, none⟩)] #[.pointer (some ⟨w.heap.size, 0, none⟩), .pointer (some ⟨w.heap.size + 1, 0, none⟩)] (enters_of Tryz.func42 (by kernel_rfl) rfl) (enters_of Tryz.func44 (by kernel_rfl) rfl) hn
    (fun ho W hW => (there_ref (hd.below hW) _ _ _ s hs (cell_of_heapN (box_below g0 hW)) (cell_of_heapN (box_below g1 hW)) (.inl rfl)).mono fun e w2 ⟨h1, h2⟩ => ⟨h1, h2 ▸ Below.refl _ _⟩)
    (fun ho hr W hW hO => sync_act hW _ _ s hs ho ((tick_refused m _).trans hr) (cell_of_heapN (box_off g0 hO (by omega))) (cell_of_heapN (box_off g1 hO (by omega))))
  have HE := Lib.hid (fun e w' (hp : OpPost a n m (.sync s) (S) W1 w' e) => hp.boxes hb (fun b hb2 => .inl hb2) hl)
  rw [hW1] at hc HE
  clear hW1 hb hz g0 g1 hd
  go_enter Tryz.func12, Tryz.ntmps12
  go_wp2_with (go_at_call 41; refine hc.mono ?_; intro e w1 hp; have HP := Lib.hid (HE.out _ _ hp); obtain ⟨rfl, -⟩ := hp)
  go_ret
  exact HP.out
set_option maxHeartbeats 1600000 in
set_option maxRecDepth 100000 in
theorem remove_any {w : World} {a n : Nat} {m : DM} {S : Nat → Prop} (h : DiskAt w a n m S) (s : ByteArray) (hs : s.size ≤ maxLen) (hn : n + 1 ≤ 8000000000000) :
    Calls Tryz.prog 31 #[.pointer (some ⟨a, 0, none⟩), .string s] w fun e w' => OpPost a n m (.remove s) S w w' e := by
  have hl := h.lt
  have haS := h.mine
  obtain ⟨W1, hW1⟩ : ∃ W1, W1 = ((w.alloc (.cells #[.pointer (some ⟨a, 0, none⟩)] 29)).alloc (.cells #[.string s] 9)) := ⟨_, rfl⟩
  have hbx := box2 w (.cells #[.pointer (some ⟨a, 0, none⟩)] 29) (.cells #[.string s] 9)
  rw [← hW1] at hbx
  obtain ⟨hb, hz, g0, g1⟩ := hbx
  have hd : DiskAt W1 a n m (fun b => S b ∨ b = w.heap.size + 1) := (h.below hb).sup (fun b hb2 => .inl hb2) (fun b hb2 => by
    rcases hb2 with hb2 | rfl
    · have := hl b hb2; omega
    · omega)
  have ha := hl a haS
  have hmf := mk_func
  have hc := operate_any hd (.remove s) 74 75 #[.pointer (some ⟨w.heap.size, 0, none⟩), .pointer (some ⟨w.heap.size + 1, 0, none⟩)] #[.pointer (some ⟨w.heap.size, 0, none⟩), .pointer (some ⟨w.heap.size + 1, 0, none⟩)] (enters_of Tryz.func74 (by kernel_rfl) rfl) (enters_of Tryz.func75 (by kernel_rfl) rfl) hn
    (fun ho W hW => (there_ref (hd.below hW) _ _ _ s hs (cell_of_heapN (box_below g0 hW)) (cell_of_heapN (box_below g1 hW)) (.inr rfl)).mono fun e w2 ⟨h1, h2⟩ => ⟨h1, h2 ▸ Below.refl _ _⟩)
    (fun ho hr W hW hO => remove_act hW _ _ s hs (by omega) (cell_of_heapN (box_off g0 hO (by omega))) (box_off g1 hO (by omega)) (.inr rfl))
  have HE := Lib.hid (fun e w' (hp : OpPost a n m (.remove s) (fun b => S b ∨ b = w.heap.size + 1) W1 w' e) => hp.boxes hb (fun b hb2 => by rcases hb2 with hb2 | rfl; exact .inl hb2; exact .inr ⟨by omega, by omega⟩) hl)
  rw [hW1] at hc HE
  clear hW1 hb hz g0 g1 hd
  go_enter Tryz.func31, Tryz.ntmps31
  go_wp2_with (go_at_call 41; refine hc.mono ?_; intro e w1 hp; have HP := Lib.hid (HE.out _ _ hp); obtain ⟨rfl, -⟩ := hp)
  go_ret
  exact HP.out
set_option maxHeartbeats 1600000 in
set_option maxRecDepth 100000 in
theorem rename_any {w : World} {a n : Nat} {m : DM} {S : Nat → Prop} (h : DiskAt w a n m S) (o s : ByteArray) (hos : o.size ≤ maxLen) (hs : s.size ≤ maxLen) (hn : n + 1 ≤ 8000000000000) :
    Calls Tryz.prog 30 #[.pointer (some ⟨a, 0, none⟩), .string o, .string s] w fun e w' => OpPost a n m (.rename o s) S w w' e := by
  have hl := h.lt
  have haS := h.mine
  obtain ⟨W1, hW1⟩ : ∃ W1, W1 = (((w.alloc (.cells #[.pointer (some ⟨a, 0, none⟩)] 29)).alloc (.cells #[.string o] 9)).alloc (.cells #[.string s] 9)) := ⟨_, rfl⟩
  have hbx := box3 w (.cells #[.pointer (some ⟨a, 0, none⟩)] 29) (.cells #[.string o] 9) (.cells #[.string s] 9)
  rw [← hW1] at hbx
  obtain ⟨hb, hz, g0, g1, g2⟩ := hbx
  have hd : DiskAt W1 a n m (fun b => S b ∨ b = w.heap.size + 1 ∨ b = w.heap.size + 2) := (h.below hb).sup (fun b hb2 => .inl hb2) (fun b hb2 => by
    rcases hb2 with hb2 | rfl | rfl
    · have := hl b hb2; omega
    · omega
    · omega)
  have ha := hl a haS
  have hmf := mk_func
  have hc := operate_any hd (.rename o s) 71 72 #[.pointer (some ⟨w.heap.size, 0, none⟩), .pointer (some ⟨w.heap.size + 1, 0, none⟩), .pointer (some ⟨w.heap.size + 2, 0, none⟩)] #[.pointer (some ⟨w.heap.size, 0, none⟩), .pointer (some ⟨w.heap.size + 1, 0, none⟩), .pointer (some ⟨w.heap.size + 2, 0, none⟩)] (enters_of Tryz.func71 (by kernel_rfl) rfl) (enters_of Tryz.func72 (by kernel_rfl) rfl) hn
    (fun ho W hW => (rename_ref (hd.below hW) _ _ _ o s hos (cell_of_heapN (box_below g0 hW)) (cell_of_heapN (box_below g1 hW)) (cell_of_heapN (box_below g2 hW))).mono fun e w2 ⟨h1, h2⟩ => ⟨h1, h2 ▸ Below.refl _ _⟩)
    (fun ho hr W hW hO => rename_act hW _ _ _ o s hos hs (by omega) (cell_of_heapN (box_off g0 hO (by omega))) (box_off g1 hO (by omega)) (box_off g2 hO (by omega)) (.inr (.inl rfl)) (.inr (.inr rfl)))
  have HE := Lib.hid (fun e w' (hp : OpPost a n m (.rename o s) (fun b => S b ∨ b = w.heap.size + 1 ∨ b = w.heap.size + 2) W1 w' e) => hp.boxes hb (fun b hb2 => by rcases hb2 with hb2 | rfl | rfl; exact .inl hb2; exact .inr ⟨by omega, by omega⟩; exact .inr ⟨by omega, by omega⟩) hl)
  rw [hW1] at hc HE
  clear hW1 hb hz g0 g1 g2 hd
  go_enter Tryz.func30, Tryz.ntmps30
  go_wp2_with (go_at_call 41; refine hc.mono ?_; intro e w1 hp; have HP := Lib.hid (HE.out _ _ hp); obtain ⟨rfl, -⟩ := hp)
  go_ret
  exact HP.out
set_option maxHeartbeats 1600000 in
set_option maxRecDepth 100000 in
theorem write_any {w : World} {a n : Nat} {m : DM} {S : Nat → Prop} (h : DiskAt w a n m S) (s d : ByteArray) (hs : s.size ≤ maxLen) (hds : d.size ≤ 140737488355328) (hnr : n * m.room ≤ 4611686018427387904) (hn : n + 1 ≤ 8000000000000) :
    Calls Tryz.prog 28 #[.pointer (some ⟨a, 0, none⟩), .string s, .string d] w fun e w' => OpPost a n m (.write s d) S w w' e := by
  have hl := h.lt
  have haS := h.mine
  obtain ⟨W1, hW1⟩ : ∃ W1, W1 = (((w.alloc (.cells #[.pointer (some ⟨a, 0, none⟩)] 29)).alloc (.cells #[.string s] 9)).alloc (.cells #[.string d] 9)) := ⟨_, rfl⟩
  have hbx := box3 w (.cells #[.pointer (some ⟨a, 0, none⟩)] 29) (.cells #[.string s] 9) (.cells #[.string d] 9)
  rw [← hW1] at hbx
  obtain ⟨hb, hz, g0, g1, g2⟩ := hbx
  have hd : DiskAt W1 a n m (S) := (h.below hb).sup (fun b hb2 => hb2) (fun b hb2 => by
    have := hl b hb2; omega)
  have ha := hl a haS
  have hmf := mk_func
  have hc := operate_any hd (.write s d) 69 70 #[.pointer (some ⟨w.heap.size, 0, none⟩), .pointer (some ⟨w.heap.size + 1, 0, none⟩), .pointer (some ⟨w.heap.size + 2, 0, none⟩)] #[.pointer (some ⟨w.heap.size, 0, none⟩), .pointer (some ⟨w.heap.size + 1, 0, none⟩), .pointer (some ⟨w.heap.size + 2, 0, none⟩)] (enters_of Tryz.func69 (by kernel_rfl) rfl) (enters_of Tryz.func70 (by kernel_rfl) rfl) hn
    (fun ho W hW => write_ref (hd.below hW) _ _ _ s d hs hds hnr ho (cell_of_heapN (box_below g0 hW)) (cell_of_heapN (box_below g1 hW)) (cell_of_heapN (box_below g2 hW)) (blk_lt (box_below g2 hW)) (blk_lt (box_below g0 hW)))
    (fun ho hr W hW hO => write_act hW _ _ _ s d hs hds ho ((tick_refused m _).trans hr) (cell_of_heapN (box_off g0 hO (by omega))) (cell_of_heapN (box_off g1 hO (by omega))) (cell_of_heapN (box_off g2 hO (by omega))))
  have HE := Lib.hid (fun e w' (hp : OpPost a n m (.write s d) (S) W1 w' e) => hp.boxes hb (fun b hb2 => .inl hb2) hl)
  rw [hW1] at hc HE
  clear hW1 hb hz g0 g1 g2 hd
  go_enter Tryz.func28, Tryz.ntmps28
  go_wp2_with (go_at_call 41; refine hc.mono ?_; intro e w1 hp; have HP := Lib.hid (HE.out _ _ hp); obtain ⟨rfl, -⟩ := hp)
  go_ret
  exact HP.out
set_option maxHeartbeats 1600000 in
set_option maxRecDepth 100000 in
theorem flush_any {w : World} {a n : Nat} {m : DM} {S : Nat → Prop} (h : DiskAt w a n m S)  (hn : n + 1 ≤ 8000000000000) :
    Calls Tryz.prog 13 #[.pointer (some ⟨a, 0, none⟩)] w fun e w' => OpPost a n m (.flush) S w w' e := by
  have hl := h.lt
  have haS := h.mine
  obtain ⟨W1, hW1⟩ : ∃ W1, W1 = (w.alloc (.cells #[.pointer (some ⟨a, 0, none⟩)] 29)) := ⟨_, rfl⟩
  have hb : Below w.heap.size w W1 := by rw [hW1]; exact (Below.refl _ _).alloc (Nat.le_refl _) _
  have hz : W1.heap.size = w.heap.size + 1 := by rw [hW1]; exact World.size_alloc _ _
  have g0 : W1.heap[w.heap.size]? = some (.cells #[.pointer (some ⟨a, 0, none⟩)] 29 (0, 0)) := by rw [hW1]; exact heap_new _ _
  have hd : DiskAt W1 a n m (S) := (h.below hb).sup (fun b hb2 => hb2) (fun b hb2 => by
    have := hl b hb2; omega)
  have ha := hl a haS
  have hmf := mk_func
  have hc := operate_any hd (.flush) 45 46 #[] #[.pointer (some ⟨w.heap.size, 0, none⟩)] (enters_of Tryz.func45 (by kernel_rfl) rfl) (enters_of Tryz.func46 (by kernel_rfl) rfl) hn
    (fun ho W hW => (flush_ref W).mono fun e w2 ⟨h1, h2⟩ => ⟨h1, h2 ▸ Below.refl _ _⟩)
    (fun ho hr W hW hO => flush_act hW _ ho (blk_lt (box_off g0 hO (by omega))) (cell_of_heapN (box_off g0 hO (by omega))))
  have HE := Lib.hid (fun e w' (hp : OpPost a n m (.flush) (S) W1 w' e) => hp.boxes hb (fun b hb2 => .inl hb2) hl)
  rw [hW1] at hc HE
  clear hW1 hb hz g0 hd
  go_enter Tryz.func13, Tryz.ntmps13
  go_wp2_with (go_at_call 41; refine hc.mono ?_; intro e w1 hp; have HP := Lib.hid (HE.out _ _ hp); obtain ⟨rfl, -⟩ := hp)
  go_ret
  exact HP.out
end Go.Proofs.YtlcompihcmhbiaaGreatDoor
