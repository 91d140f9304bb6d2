/- Contract of digest.Parse. -/
import Derived.Test.YtdkedmngeahjiaaGreatDoorDigT
import Derived.Laws.ResultCell
import Derived.Lib.IndexBytes
namespace Go.Proofs.YtdkedmngeahjiaaGreatDoor
open Go Go.RowKit
theorem results_dig {fn : Func} {p u : Tmp} (h : fn.results = #[.cell p 33, .tmp u]) (tmps : Array Value) (w : World) (g : Nat) (cs : Array Value) (t : TypeId) (hp : tmps.getD p undef = .pointer (some ⟨g, 0, none⟩)) (hg : w.heap[g]? = some (.cells cs t (0, 0))) (hz : cs.size = 32) :
    (results fn tmps).run Tryz.prog w = .ok (.tuple #[.agg cs, tmps.getD u undef]) w := by
  have hI : (Tryz.prog.info? 33).map (·.size) = some cs.size := by rw [hz]; kernel_rfl
  rw [results_cell_tmp h, hp]
  have h1 := run_loadVar_row (P := Tryz.prog) w g t 33 cs (0, 0) _ hg Tryz.underlying33 rfl hI
  simp [asAddr, h1, Result.andThen]
/-- The value of a digit, at a place. -/
def nibV (t : List UInt8) (j : Nat) : Nat := (hv (t.getD j 0)).getD 0
theorem unhex_ok : ∀ (n : Nat) (l : List UInt8), l.length = 2 * n → (∀ j, j < 2 * n → (hv (l.getD j 0)).isSome = true) → unhex l = some ((List.range n).map fun j => UInt8.ofNat (16 * nibV l (2 * j) + nibV l (2 * j + 1)))
  | 0, l, h, _ => by
    rw [List.length_eq_zero_iff.1 (by omega : l.length = 0)]
    rfl
  | n + 1, l, h, ha => by
    match l, h with
    | x :: y :: r, h =>
      have h0 := ha 0 (by omega)
      have h1 := ha 1 (by omega)
      have hr := unhex_ok n r (by simp only [List.length_cons] at h; omega) (fun j hj => by
        have := ha (j + 2) (by omega)
        simpa using this)
      obtain ⟨a, hxa⟩ := Option.isSome_iff_exists.1 (show (hv x).isSome = true from h0)
      obtain ⟨b, hyb⟩ := Option.isSome_iff_exists.1 (show (hv y).isSome = true from h1)
      rw [unhex, hxa, hyb, hr]
      show some (_ :: _) = _
      rw [List.range_succ_eq_map, List.map_cons, List.map_map]
      refine congrArg some (congr (congrArg List.cons ?_) (List.map_congr_left fun j _ => ?_))
      · have e0 : nibV (x :: y :: r) (2 * 0) = a := by show (hv x).getD 0 = a; rw [hxa]; rfl
        have e1 : nibV (x :: y :: r) (2 * 0 + 1) = b := by show (hv y).getD 0 = b; rw [hyb]; rfl
        rw [e0, e1]
      · have e0 : nibV (x :: y :: r) (2 * (j + 1)) = nibV r (2 * j) := by unfold nibV; rw [show 2 * (j + 1) = 2 * j + 1 + 1 by omega]; rfl
        have e1 : nibV (x :: y :: r) (2 * (j + 1) + 1) = nibV r (2 * j + 1) := by unfold nibV; rw [show 2 * (j + 1) + 1 = 2 * j + 1 + 1 + 1 by omega]; rfl
        show _ = UInt8.ofNat (16 * nibV (x :: y :: r) (2 * (j + 1)) + nibV (x :: y :: r) (2 * (j + 1) + 1))
        rw [e0, e1]
theorem unhex_no : ∀ (l : List UInt8) (j : Nat), j < l.length → hv (l.getD j 0) = none → unhex l = none
  | [], j, h, _ => by cases h
  | [x], j, h, _ => rfl
  | x :: y :: r, 0, _, h => by
    have : hv x = none := h
    rw [unhex, this]
  | x :: y :: r, 1, _, h => by
    have : hv y = none := h
    rw [unhex, this]
    cases hv x <;> rfl
  | x :: y :: r, j + 2, hj, h => by
    have := unhex_no r j (by simpa using hj) h
    rw [unhex, this]
    cases hv x <;> cases hv y <;> rfl
/-- The bytes of a digest, of so many digits. -/
def nibC (t : List UInt8) (i : Nat) : List Value := (List.range 32).map fun j => .int .u8 ((if 2 * j + 1 < i then 16 * nibV t (2 * j) + nibV t (2 * j + 1) else if 2 * j < i then nibV t (2 * j) else 0 : Nat) : Int)
theorem nibC_len (t : List UInt8) (i : Nat) : (nibC t i).length = 32 := by unfold nibC; rw [List.length_map, List.length_range]
theorem nibC_get (t : List UInt8) (i : Nat) {j : Nat} (h : j < 32) : (nibC t i)[j]? = some (.int .u8 ((if 2 * j + 1 < i then 16 * nibV t (2 * j) + nibV t (2 * j + 1) else if 2 * j < i then nibV t (2 * j) else 0 : Nat) : Int)) := by
  unfold nibC
  rw [List.getElem?_map, List.getElem?_range h]
  rfl
theorem nibC_one (t : List UInt8) (i : Nat) : ∀ u ∈ nibC t i, u.oneCell' = true := by
  intro u hu
  unfold nibC at hu
  obtain ⟨x, _, rfl⟩ := List.mem_map.1 hu
  rfl
theorem nibV_lt (t : List UInt8) (j : Nat) : nibV t j < 16 := by
  unfold nibV
  cases h : hv (t.getD j 0) with
  | none => decide
  | some n => exact (hv_inv h).2
theorem nibC_all {t : List UInt8} (h : t.length = 64) (ha : ∀ j, j < 64 → (hv (t.getD j 0)).isSome = true) : ∃ d, unhex t = some d ∧ d.length = 32 ∧ nibC t 64 = d.map byteV := by
  refine ⟨_, unhex_ok 32 t h ha, by rw [List.length_map, List.length_range], ?_⟩
  unfold nibC
  rw [List.map_map]
  refine List.map_congr_left fun j hj => ?_
  have hj := List.mem_range.1 hj
  have h1 := nibV_lt t (2 * j)
  have h2 := nibV_lt t (2 * j + 1)
  show Value.int .u8 _ = Value.int .u8 _
  rw [if_pos (by omega), UInt8.toNat_ofNat', Nat.mod_eq_of_lt (by omega)]
theorem or4 : ∀ a, a < 16 → ∀ b, b < 16 → bits .or .u8 (((a : Nat) : Int) * 16) ((b : Nat) : Int) = ((16 * a + b : Nat) : Int) := by decide +kernel
/-- One more digit. -/
theorem nib_set {w : World} {b : Nat} {t : List UInt8} {i : Nat} (h : w.heap[b]? = some (.cells (nibC t i).toArray 33 (0, 0))) (hi : i < 64) :
    ∃ a : Nat, a < 16 ∧ w.cell? ⟨b, i / 2, none⟩ = some (.int .u8 (a : Int)) ∧ (w.setCell ⟨b, i / 2, none⟩ (.int .u8 ((16 * a + nibV t i : Nat) : Int))).heap[b]? = some (.cells (nibC t (i + 1)).toArray 33 (0, 0)) := by
  refine ⟨if i % 2 = 0 then 0 else nibV t (i - 1), ?_, ?_, ?_⟩
  · split
    · decide
    · exact nibV_lt _ _
  · rw [cell_of_heapN h, List.getElem?_toArray, nibC_get _ _ (by omega)]
    refine congrArg some (congrArg (Value.int .u8) (congrArg Int.ofNat ?_))
    by_cases hp : i % 2 = 0
    · rw [if_pos hp, if_neg (by omega), if_neg (by omega)]
    · rw [if_neg hp, if_neg (by omega), if_pos (by omega)]
      exact congrArg (nibV t) (by omega)
  · rw [setCell_blk h, setBlk_heap (blk_lt h), List.setIfInBounds_toArray]
    refine congrArg (fun l : List Value => some (Obj.cells l.toArray 33 (0, 0))) (List.ext_getElem? fun k => ?_)
    rw [List.getElem?_set, nibC_len]
    by_cases hk : i / 2 = k
    · subst hk
      rw [if_pos rfl, if_pos (by omega), nibC_get _ _ (by omega)]
      refine congrArg some (congrArg (Value.int .u8) (congrArg Int.ofNat ?_))
      by_cases hp : i % 2 = 0
      · rw [if_pos hp, if_neg (by omega), if_pos (by omega)]
        rw [show 2 * (i / 2) = i by omega]
        omega
      · rw [if_neg hp, if_pos (by omega), show 2 * (i / 2) = i - 1 by omega, show i - 1 + 1 = i by omega]
    · rw [if_neg hk]
      by_cases hk2 : k < 32
      · rw [nibC_get _ _ hk2, nibC_get _ _ hk2]
        refine congrArg some (congrArg (Value.int .u8) (congrArg Int.ofNat ?_))
        by_cases h1 : 2 * k + 1 < i
        · rw [if_pos h1, if_pos (by omega)]
        · rw [if_neg h1, if_neg (show ¬ 2 * k < i by omega), if_neg (by omega), if_neg (by omega)]
      · rw [List.getElem?_eq_none (by rw [nibC_len]; omega), List.getElem?_eq_none (by rw [nibC_len]; omega)]
/-- What Parse answers. -/
def parseV (o : Option (List UInt8)) : Value := match o with
  | some d => .tuple #[digV d, .nilIface]
  | none => .tuple #[digV zeroD, errV 4]
/-- A text without its head. -/
theorem trim_head {l : List UInt8} (h : Lib.hasPrefix l shaHead = true) : Lib.trimPrefix l shaHead = l.drop 7 := by
  unfold Lib.trimPrefix
  rw [if_pos h]
  rfl
theorem head_take (l : List UInt8) : Lib.hasPrefix l shaHead = true ↔ l.take 7 = shaHead := by
  unfold Lib.hasPrefix
  rw [List.isPrefixOf_iff_prefix]
  constructor
  · rintro ⟨r, rfl⟩
    rfl
  · intro h
    exact ⟨l.drop 7, by rw [← h]; exact List.take_append_drop 7 l⟩
theorem u8_of_nat (w : World) (b : Nat) (h : w.heap[b]? = some (.cells z32 33 (0, 0))) : w.heap[b]? = some (.cells (zeroD.map byteV).toArray 33 (0, 0)) := h
set_option maxHeartbeats 3200000 in
set_option maxRecDepth 100000 in
theorem parse_dig (s : ByteArray) (w : World) :
    Calls Tryz.prog 42 #[.string s] w fun e w' => e = .returned (parseV (parseD s)) ∧ Below w.heap.size w w' := by
  have hcut := fun W : World => Tryz.strings_CutPrefix s ⟨#[115, 104, 97, 50, 53, 54, 58]⟩ W
  obtain ⟨t, ht⟩ : ∃ t : ByteArray, (⟨(Lib.trimPrefix s.data.toList shaHead).toArray⟩ : ByteArray) = t := ⟨_, rfl⟩
  obtain ⟨ok, hok⟩ : ∃ ok : Bool, Lib.hasPrefix s.data.toList shaHead = ok := ⟨_, rfl⟩
  have hcut2 : ∀ W, Calls Tryz.prog 88 #[.string s, .string ⟨#[115, 104, 97, 50, 53, 54, 58]⟩] W fun e w' => e = .returned (.tuple #[.string t, .bool ok]) ∧ w' = W := fun W => by
    rw [← ht, ← hok]
    exact hcut W
  have HT := Lib.hid ht
  have HOK := Lib.hid hok
  clear hcut ht hok
  obtain ⟨P0, hP0⟩ : ∃ p, parseD s = p := ⟨_, rfl⟩
  rw [hP0]
  have HP := Lib.hid hP0
  clear hP0
  go_enter Tryz.func42, Tryz.ntmps42
  go_wp2_with fail
  refine (hcut2 _).mono ?_
  rintro e w1 ⟨rfl, rfl⟩
  clear hcut2
  obtain ⟨W0, hW0⟩ : ∃ W, (w.alloc (.cells z32 33)).alloc (.cells z32 33) = W := ⟨_, rfl⟩
  obtain ⟨hb0, hz0, g0, g1⟩ := box2 w (.cells z32 33) (.cells z32 33)
  rw [hW0] at hb0 hz0 g0 g1
  have HB0 := Lib.hid hb0
  have HZ0 := Lib.hid hz0
  have HG0 := Lib.hid g0
  have HG1 := Lib.hid g1
  have hW1 : (w.alloc (.cells #[.int .u8 0, .int .u8 0, .int .u8 0, .int .u8 0, .int .u8 0, .int .u8 0, .int .u8 0, .int .u8 0, .int .u8 0, .int .u8 0, .int .u8 0, .int .u8 0, .int .u8 0, .int .u8 0, .int .u8 0, .int .u8 0, .int .u8 0, .int .u8 0, .int .u8 0, .int .u8 0, .int .u8 0, .int .u8 0, .int .u8 0, .int .u8 0, .int .u8 0, .int .u8 0, .int .u8 0, .int .u8 0, .int .u8 0, .int .u8 0, .int .u8 0, .int .u8 0] 33)).alloc (.cells #[.int .u8 0, .int .u8 0, .int .u8 0, .int .u8 0, .int .u8 0, .int .u8 0, .int .u8 0, .int .u8 0, .int .u8 0, .int .u8 0, .int .u8 0, .int .u8 0, .int .u8 0, .int .u8 0, .int .u8 0, .int .u8 0, .int .u8 0, .int .u8 0, .int .u8 0, .int .u8 0, .int .u8 0, .int .u8 0, .int .u8 0, .int .u8 0, .int .u8 0, .int .u8 0, .int .u8 0, .int .u8 0, .int .u8 0, .int .u8 0, .int .u8 0, .int .u8 0] 33) = W0 := hW0
  rw [hW1]
  clear hW0 hW1 hb0 hz0 g0 g1
  have hnone : ∀ W : World, Hid (Below w.heap.size w W) → Hid (W.heap[w.heap.size]? = some (.cells z32 33 (0, 0))) →
      (storeCells ⟨w.heap.size, 0, none⟩ (zeroD.map byteV)).run Tryz.prog W = .ok () (setBlk W w.heap.size (.cells (zeroD.map byteV).toArray 33 (0, 0))) ∧ Hid ((setBlk W w.heap.size (.cells (zeroD.map byteV).toArray 33 (0, 0))).heap[w.heap.size]? = some (.cells (zeroD.map byteV).toArray 33 (0, 0))) ∧ Hid (Below w.heap.size w (setBlk W w.heap.size (.cells (zeroD.map byteV).toArray 33 (0, 0)))) := fun W hB hG =>
    ⟨store_digest hG.out rfl (fun u hu => by obtain ⟨x, _, rfl⟩ := List.mem_map.1 hu; rfl), Lib.hid (setBlk_heap (blk_lt hG.out)), Lib.hid (hB.out.setBlk (Nat.le_refl _))⟩
  have h1z : (zeroD.map byteV).toArray.all (·.oneCell') = true := all_oneCell_toArray fun v hv => by obtain ⟨x, _, rfl⟩ := List.mem_map.1 hv; rfl
  have hI32 : (Tryz.prog.info? 33).map (·.size) = some (zeroD.map byteV).toArray.size := by kernel_rfl
  by_cases hg : ok = true ∧ t.size = 64
  · obtain ⟨rfl, hsz⟩ := hg
    have htl : t.data.toList = s.data.toList.drop 7 := by rw [← HT.out, trim_head HOK.out]
    have hTl : t.data.toList.length = 64 := by rw [Array.length_toList]; exact hsz
    have hps : unhex t.data.toList = P0 := by
      rw [htl, ← HP.out]
      unfold parseD
      refine (if_pos ⟨(head_take _).1 HOK.out, ?_⟩).symm
      rw [htl, List.length_drop, Array.length_toList] at hTl
      show s.data.size = 71
      omega
    have HPS := Lib.hid hps
    have HTL := Lib.hid hTl
    have HG2 : Hid (W0.heap[w.heap.size + 1]? = some (.cells (nibC t.data.toList 0).toArray 33 (0, 0))) := HG1
    clear htl hTl hps
    go_wp2_with fail
    go_loopw [23] (fun iv wr => ∃ i : Nat, (i : Int) ≤ 64 ∧ iv = .int .i64 i ∧ Hid (∀ j, j < i → (hv (t.data.toList.getD j 0)).isSome = true) ∧ Hid (Below w.heap.size w wr) ∧ Hid (wr.heap[w.heap.size]? = some (.cells z32 33 (0, 0))) ∧ Hid (wr.heap[w.heap.size + 1]? = some (.cells (nibC t.data.toList i).toArray 33 (0, 0)))) (fun iv _ => 64 - (intOf iv).toNat)
    case atStart => exact ⟨0, by omega, rfl, Lib.hid (fun j hj => by omega), HB0, HG0, HG2⟩
    case round =>
      obtain ⟨i, hi, rfl, HA, HB, HR, HX⟩ := hrel
      by_cases hlt : (i : Int) < 64
      · have hi64 : i < 64 := by omega
        have his : i < t.size := by rw [hsz]; exact hi64
        obtain ⟨c, hc⟩ : ∃ c, t[i]'his = c := ⟨_, rfl⟩
        have hcl : t.data.toList.getD i 0 = c := by
          rw [← hc, List.getD_eq_getElem?_getD, Array.getElem?_toList, Array.getElem?_eq_getElem (show i < t.data.size from his)]
          rfl
        obtain ⟨a, ha, d0, hset⟩ := nib_set HX.out hi64
        have f0 : wr.frozen? ⟨w.heap.size + 1, i / 2, none⟩ = false := frozen_blk HX.out
        have hq : i / 2 < 32 := by omega
        have HCL := Lib.hid hcl
        have HSET := Lib.hid hset
        have hcn := c.toNat_lt
        clear hcl hset
        by_cases hd : 48 ≤ (c.toNat : Int) ∧ (c.toNat : Int) ≤ 57
        · obtain ⟨h1, h2⟩ := hd
          have hn : nibV t.data.toList i = c.toNat - 48 := by
            unfold nibV hv
            rw [HCL.out, if_pos (by omega)]
            rfl
          have hsm : (hv (t.data.toList.getD i 0)).isSome = true := by
            unfold hv
            rw [HCL.out, if_pos (by omega)]
            rfl
          have hor := or4 a ha (c.toNat - 48) (by omega)
          have e0 : ((c.toNat - 48 : Nat) : Int) = (c.toNat : Int) - 48 := by omega
          rw [e0] at hor
          have HN := Lib.hid hn
          have HSM := Lib.hid hsm
          clear hn hsm e0
          go_wp2_with fail
          refine ⟨⟨i + 1, by omega, by rw [Int.natCast_add]; rfl, Lib.hid ?_, Lib.hid (HB.out.setCell (p := ⟨w.heap.size + 1, i / 2, none⟩) (by show w.heap.size ≤ w.heap.size + 1; omega) _), Lib.hid ((Below.heap_setCell _ _ _ _ (by show w.heap.size ≠ w.heap.size + 1; omega)).trans HR.out), Lib.hid ?_⟩, by simp [intOf]; omega⟩
          · intro j hj
            by_cases hji : j = i
            · rw [hji]; exact HSM.out
            · exact HA.out j (by omega)
          · have h := HSET.out
            rw [HN.out, Int.natCast_add, Int.natCast_mul] at h
            exact h
        · by_cases hd2 : 97 ≤ (c.toNat : Int) ∧ (c.toNat : Int) ≤ 102
          · obtain ⟨h1, h2⟩ := hd2
            have h3 : ¬ (c.toNat : Int) ≤ 57 := by omega
            have h4 : 48 ≤ (c.toNat : Int) := by omega
            have hn : nibV t.data.toList i = c.toNat - 87 := by
              unfold nibV hv
              rw [HCL.out, if_neg (by omega), if_pos (by omega)]
              rfl
            have hsm : (hv (t.data.toList.getD i 0)).isSome = true := by
              unfold hv
              rw [HCL.out, if_neg (by omega), if_pos (by omega)]
              rfl
            have hor := or4 a ha (c.toNat - 87) (by omega)
            have e0 : ((c.toNat - 87 : Nat) : Int) = (c.toNat : Int) - 87 := by omega
            rw [e0] at hor
            have HN := Lib.hid hn
            have HSM := Lib.hid hsm
            clear hn hsm e0
            go_wp2_with fail
            refine ⟨⟨i + 1, by omega, by rw [Int.natCast_add]; rfl, Lib.hid ?_, Lib.hid (HB.out.setCell (p := ⟨w.heap.size + 1, i / 2, none⟩) (by show w.heap.size ≤ w.heap.size + 1; omega) _), Lib.hid ((Below.heap_setCell _ _ _ _ (by show w.heap.size ≠ w.heap.size + 1; omega)).trans HR.out), Lib.hid ?_⟩, by simp [intOf]; omega⟩
            · intro j hj
              by_cases hji : j = i
              · rw [hji]; exact HSM.out
              · exact HA.out j (by omega)
            · have h := HSET.out
              rw [HN.out, Int.natCast_add, Int.natCast_mul] at h
              exact h
          · have hnone2 : P0 = none := by
              rw [← HPS.out]
              refine unhex_no _ i (by rw [HTL.out]; exact hi64) ?_
              rw [HCL.out]
              unfold hv
              rw [if_neg (by omega), if_neg (by omega)]
            have HNO := Lib.hid hnone2
            obtain ⟨-, HG3, HB3⟩ := hnone wr HB HR
            clear hnone2 hnone
            by_cases h1 : 48 ≤ (c.toNat : Int)
            · have h2 : ¬ (c.toNat : Int) ≤ 57 := fun h => hd ⟨h1, h⟩
              by_cases h3 : 97 ≤ (c.toNat : Int)
              · have h4 : ¬ (c.toNat : Int) ≤ 102 := fun h => hd2 ⟨h3, h⟩
                clear hd hd2
                go_wp2_with (first | (refine wpList_store_row rfl _ _ _ rfl w.heap.size (zeroD.map byteV).toArray rfl rfl 33 z32 HR.out hI32 rfl h1z ?_; rw [setRow_setBlk HR.out]))
                refine bodyPost_ret (v := .tuple #[digV zeroD, errV 4]) (results_dig (fn := Tryz.f42) (p := 2) (u := 3) rfl _ _ w.heap.size _ _ rfl HG3.out rfl) rfl ⟨by rw [HNO.out]; rfl, HB3.out⟩
              · clear hd hd2
                go_wp2_with (first | (refine wpList_store_row rfl _ _ _ rfl w.heap.size (zeroD.map byteV).toArray rfl rfl 33 z32 HR.out hI32 rfl h1z ?_; rw [setRow_setBlk HR.out]))
                refine bodyPost_ret (v := .tuple #[digV zeroD, errV 4]) (results_dig (fn := Tryz.f42) (p := 2) (u := 3) rfl _ _ w.heap.size _ _ rfl HG3.out rfl) rfl ⟨by rw [HNO.out]; rfl, HB3.out⟩
            · have h3 : ¬ 97 ≤ (c.toNat : Int) := by omega
              clear hd hd2
              go_wp2_with (first | (refine wpList_store_row rfl _ _ _ rfl w.heap.size (zeroD.map byteV).toArray rfl rfl 33 z32 HR.out hI32 rfl h1z ?_; rw [setRow_setBlk HR.out]))
              refine bodyPost_ret (v := .tuple #[digV zeroD, errV 4]) (results_dig (fn := Tryz.f42) (p := 2) (u := 3) rfl _ _ w.heap.size _ _ rfl HG3.out rfl) rfl ⟨by rw [HNO.out]; rfl, HB3.out⟩
      · obtain rfl : i = 64 := by omega
        obtain ⟨d, h1, h2, h3⟩ := nibC_all HTL.out HA.out
        have hpd : P0 = some d := HPS.out.symm.trans h1
        have HPD := Lib.hid hpd
        have hx2 := HX.out
        rw [h3] at hx2
        have hI2 : (Tryz.prog.info? 33).map (·.size) = some (d.map byteV).toArray.size := by rw [List.size_toArray, List.length_map, h2]; exact hI32
        have hI3 : (Tryz.prog.info? 33).map (·.size) = some (d.map byteV).length := by rw [List.length_map, h2]; exact hI32
        have hU : Tryz.prog.underlying 33 = some _ := Tryz.underlying33
        have HRG : Hid (wr.rangeAt (w.heap.size + 1) 0 (d.map byteV)) := Lib.hid (fun j v hv => by
          rw [Nat.zero_add, cell_of_heapN hx2, List.getElem?_toArray]
          exact hv)
        have hs32 : z32.size = (d.map byteV).toArray.size := show (32 : Nat) = (d.map byteV).length by rw [List.length_map, h2]
        have h1c : (d.map byteV).toArray.all (·.oneCell') = true := all_oneCell_toArray fun v hv => by obtain ⟨x, _, rfl⟩ := List.mem_map.1 hv; rfl
        have HG5 : Hid ((setBlk wr w.heap.size (.cells (d.map byteV).toArray 33 (0, 0))).heap[w.heap.size]? = some (.cells (d.map byteV).toArray 33 (0, 0))) := Lib.hid (setBlk_heap (blk_lt HR.out))
        have HB5 : Hid (Below w.heap.size w (setBlk wr w.heap.size (.cells (d.map byteV).toArray 33 (0, 0)))) := Lib.hid (HB.out.setBlk (Nat.le_refl _))
        have HD32 : Hid ((d.map byteV).toArray.size = 32) := Lib.hid (by rw [List.size_toArray, List.length_map, h2])
        clear hx2 h1 h2 h3 hpd hnone
        go_wp2_with (first | refine wpList_load_mid rfl _ _ rfl (w.heap.size + 1) 0 rfl (d.map byteV) _ HRG.out hU rfl hI3 ?_ | (refine wpList_store_row rfl _ _ _ rfl w.heap.size (d.map byteV).toArray rfl rfl 33 z32 HR.out hI2 hs32 h1c ?_; rw [setRow_setBlk HR.out]))
        refine bodyPost_ret (v := .tuple #[digV d, .nilIface]) (results_dig (fn := Tryz.f42) (p := 2) (u := 3) rfl _ _ w.heap.size _ _ rfl HG5.out HD32.out) rfl ⟨by rw [HPD.out]; rfl, HB5.out⟩
  · have hno : P0 = none := by
      rw [← HP.out]
      unfold parseD
      refine if_neg fun hc => hg ?_
      have h1 : Lib.hasPrefix s.data.toList shaHead = true := (head_take _).2 hc.1
      refine ⟨HOK.out.symm.trans h1, ?_⟩
      rw [← HT.out, trim_head h1]
      show (s.data.toList.drop 7).length = 64
      rw [List.length_drop, Array.length_toList]
      have : s.data.size = 71 := hc.2
      omega
    have HNO := Lib.hid hno
    obtain ⟨-, HG2, HB2⟩ := hnone W0 HB0 HG0
    clear hnone hno
    cases ok
    · go_wp2_with (first | (refine wpList_store_row rfl _ _ _ rfl w.heap.size (zeroD.map byteV).toArray rfl rfl 33 z32 HG0.out hI32 rfl h1z ?_; rw [setRow_setBlk HG0.out]))
      refine bodyPost_ret (v := .tuple #[digV zeroD, errV 4]) (results_dig (fn := Tryz.f42) (p := 2) (u := 3) rfl _ _ w.heap.size _ _ rfl HG2.out rfl) rfl ⟨by rw [HNO.out]; rfl, HB2.out⟩
    · have hts : ¬ (t.size : Int) = 64 := fun h => hg ⟨rfl, by omega⟩
      go_wp2_with (first | (refine wpList_store_row rfl _ _ _ rfl w.heap.size (zeroD.map byteV).toArray rfl rfl 33 z32 HG0.out hI32 rfl h1z ?_; rw [setRow_setBlk HG0.out]))
      refine bodyPost_ret (v := .tuple #[digV zeroD, errV 4]) (results_dig (fn := Tryz.f42) (p := 2) (u := 3) rfl _ _ w.heap.size _ _ rfl HG2.out rfl) rfl ⟨by rw [HNO.out]; rfl, HB2.out⟩
end Go.Proofs.YtdkedmngeahjiaaGreatDoor
