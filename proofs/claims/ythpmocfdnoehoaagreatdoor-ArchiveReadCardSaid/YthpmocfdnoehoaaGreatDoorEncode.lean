/- Contract of ustar.Encode. -/
import Derived.Test.YthpmocfdnoehoaaGreatDoorNumber
import Derived.Test.YthpmocfdnoehoaaGreatDoorSum
import Derived.Test.YthpmocfdnoehoaaGreatDoorWrong
import Derived.Test.YthpmocfdnoehoaaGreatDoorSplit
import Derived.Test.YthpmocfdnoehoaaGreatDoorWithin
import Derived.Test.YthpmocfdnoehoaaGreatDoorCopy
import Derived.Test.YthpmocfdnoehoaaGreatDoorWorld
import Derived.RegionTactic
namespace Go.Proofs.YthpmocfdnoehoaaGreatDoor
open Go.RowKit
/-- The state inside Encode: the header lies in block b, the bytes so far in block c. -/
structure Enc (w0 : World) (h : Hdr) (b c : Nat) (l : Bs) (w : World) : Prop where
  hc : ∀ i : Nat, w.cell? ⟨b, i, none⟩ = h.cells[i]?
  hb : w.heap[c]? = some (blk 90 l)
  hl : l.length = 512
  bel : Below w0.heap.size w0 w
  lo : w0.heap.size ≤ c
  ne : c ≠ b
theorem Enc.set {w0 : World} {h : Hdr} {b c : Nat} {l l' : Bs} {w : World} (e : Enc w0 h b c l w) (hl : l'.length = 512) : Enc w0 h b c l' (setBlk w c (blk 90 l')) where
  hc i := (cell_of_heap (setBlk_other (Ne.symm e.ne))).trans (e.hc i)
  hb := setBlk_heap (blk_lt e.hb)
  hl := hl
  bel := ⟨e.bel.os, e.bel.tape, e.bel.output, by rw [setBlk_size]; exact e.bel.size, fun k hk => (setBlk_other (by have := e.lo; omega)).trans (e.bel.block k hk)⟩
  lo := e.lo
  ne := e.ne
theorem Enc.drewN {w0 : World} {h : Hdr} {b c : Nat} {l : Bs} {w : World} (e : Enc w0 h b c l w) (n : Nat) : Enc w0 h b c l (w.drewN n) where
  hc i := e.hc i
  hb := e.hb
  hl := e.hl
  bel := ⟨e.bel.os, e.bel.tape, e.bel.output, e.bel.size, e.bel.block⟩
  lo := e.lo
  ne := e.ne
theorem number_enc (w0 : World) (h : Hdr) (b c i d : Nat) (l : Bs) (x : Int) (w : World) (e : Enc w0 h b c l w) (hd : i + d ≤ 512) (h0 : 0 ≤ x) (h1 : x ≤ 9223372036854775807) :
    Calls Tryz.prog 48 #[.pointer (some ⟨c, 0, none⟩), .int .i64 i, .int .i64 d, .int .i64 x] w fun r w' => r = .returned (.tuple #[]) ∧ Enc w0 h b c (over l i (octal d x)) w' :=
  (number_any c i d l x w e.hb e.hl hd h0 h1).mono fun _ _ ⟨hr, hw⟩ => ⟨hr, by rw [← hw]; exact e.set (by rw [over_length]; exact e.hl; rw [octal_length, e.hl]; exact hd)⟩
/-- The bytes of a header, the sum not yet laid. -/
def chain (h : Hdr) (pre name : Bs) : Bs :=
  over (over (over (over (over (over (over (over (over (over (over (over (over (over z512 0 name) 100 (octal 7 h.mode)) 108 (octal 7 h.uid)) 116 (octal 7 h.gid)) 124 (octal 11 h.size)) 136 (octal 11 h.time))
    156 [h.typ]) 157 h.link.data.toList) 257 [117, 115, 116, 97, 114, 0, 48, 48]) 265 h.user.data.toList) 297 h.group.data.toList) 329 (octal 7 h.major)) 337 (octal 7 h.minor)) 345 pre
/-- The bytes of a header. -/
def hdrBytes (h : Hdr) (pre name : Bs) : Bs := over (over (chain h pre name) 148 (octal 6 (sumTo (chain h pre name) 512))) 154 [0, 32]
theorem wpList_copy_enc {ops : Array Oper} {rest : List Oper} {o : Oper} {a : Act} {Q : Exit → Act → World → Prop} {w : World} (hgd : o.guard = none) (d s : Operand)
    (ho : o.op = .call { callee := .builtin .copy, args := #[d, s], argTypes := #[48, 9] }) (w0 : World) (h : Hdr) (b c : Nat) (l : Bs) (i dLen dCap : Nat) (str : ByteArray)
    (hd : a.eval d = .slice (some ⟨c, i, none⟩) dLen dCap) (hs : a.eval s = .string str) (e : Hid (Enc w0 h b c l w)) (hle : str.size ≤ dLen) (hfit : i + str.size ≤ 512)
    (hk : ∀ w', Hid (Enc w0 h b c (over l i str.data.toList) w') → wpList Tryz.prog ops Q rest (a.put o.dst (.int .i64 str.size)) w') : wpList Tryz.prog ops Q (o :: rest) a w := by
  refine wpList_plain hgd (fun K hK => ?_)
  have hr := run_copy_str (P := Tryz.prog) w 48 9 o.type 5 c i dLen dCap str 90 l Tryz.underlying48 (by kernel_rfl) e.out.hb hle (by rw [e.out.hl]; exact hfit)
  unfold Oper.wp
  simp only [execOp, ho]
  simp [resolve, invoke, builtin, hd, hs, hr, Result.andThen]
  refine hK _ _ (hk _ ?_)
  exact e.out.set (by rw [over_length]; exact e.out.hl; rw [e.out.hl]; simpa using hfit)
theorem wpList_store_enc {ops : Array Oper} {rest : List Oper} {o : Oper} {a : Act} {Q : Exit → Act → World → Prop} {w : World} (hgd : o.guard = none) (d s : Operand) (hdst : o.dst = none)
    (ho : o.op = .store 5 d s) (w0 : World) (h : Hdr) (b c : Nat) (l : Bs) (i : Nat) (x : UInt8)
    (hd : a.eval d = .pointer (some ⟨c, i, none⟩)) (hs : a.eval s = .int .u8 (x.toNat : Int)) (e : Hid (Enc w0 h b c l w)) (hi : i < 512)
    (hk : ∀ w', Hid (Enc w0 h b c (over l i [x]) w') → wpList Tryz.prog ops Q rest a w') : wpList Tryz.prog ops Q (o :: rest) a w := by
  refine wpList_plain hgd (fun K hK => ?_)
  have hl := e.out.hl
  have hcell : w.cell? ⟨c, i, none⟩ = some (byteV (l[i]'(by omega))) := blk_cell e.out.hb (List.getElem?_eq_getElem (by omega))
  have hfro := blk_frozen (i := i) e.out.hb
  have hset := blk_set (i := i) (x := x) e.out.hb
  unfold byteV at hset
  have hov : l.set i x = over l i [x] := by
    rw [over, List.set_eq_take_append_cons_drop, if_pos (by omega)]; simp
  have hend := hk (setBlk w c (blk 90 (over l i [x]))) (e.out.set (by rw [over_length]; exact hl; simp; omega))
  unfold Oper.wp
  simp only [execOp, ho, hd, hs]
  rw [hov] at hset
  clear hov
  go_simp
  exact hK _ _ hend
theorem Enc.copy {w0 : World} {h : Hdr} {b c : Nat} {l : Bs} {w : World} (e : Enc w0 h b c l w) (i dLen dCap : Nat) (str : ByteArray) (hle : str.size ≤ dLen) (hfit : i + str.size ≤ 512) (ty : TypeId) :
    ∃ w', (Builtin.copy_ #[48, 9] ty #[.slice (some ⟨c, i, none⟩) dLen dCap, .string str]).run Tryz.prog w = .ok (.int .i64 str.size) w' ∧ Enc w0 h b c (over l i str.data.toList) w' :=
  ⟨_, run_copy_str (P := Tryz.prog) w 48 9 ty 5 c i dLen dCap str 90 l Tryz.underlying48 (by kernel_rfl) e.hb hle (by rw [e.hl]; exact hfit),
    e.set (by rw [over_length]; exact e.hl; rw [e.hl]; simpa using hfit)⟩
theorem Enc.conv {w0 : World} {h : Hdr} {b c : Nat} {l : Bs} {w : World} (e : Enc w0 h b c l w) :
    (convert 48 9 (.slice (some ⟨c, 0, none⟩) 512 512)).run Tryz.prog w = .ok (.string ⟨l.toArray⟩) w := by
  have := run_convert_bytes_back (P := Tryz.prog) w 48 9 5 ⟨c, 0, none⟩ 512 l Tryz.underlying48 Tryz.underlying5 Tryz.underlying9 (fun j hj => by
    have h1 : (⟨c, 0, none⟩ : Addr).add j = ⟨c, j, none⟩ := by unfold Addr.add; split <;> simp_all
    rw [h1]
    exact blk_cell e.hb (List.getElem?_eq_getElem hj))
  rw [e.hl] at this
  exact this
theorem Enc.drew {w0 : World} {h : Hdr} {b c : Nat} {l : Bs} {w : World} (e : Enc w0 h b c l w) : Enc w0 h b c l w.drew := ⟨e.hc, e.hb, e.hl, ⟨e.bel.os, e.bel.tape, e.bel.output, e.bel.size, e.bel.block⟩, e.lo, e.ne⟩
set_option maxHeartbeats 800000 in
set_option maxRecDepth 100000 in
theorem encode_ok (h : Hdr) (pre name : ByteArray) (w : World) (hp : h.path.size ≤ 140737488355328) (hk : h.link.size ≤ 100) (hu : h.user.size ≤ 31) (hg : h.group.size ≤ 31)
    (hw : wrongB h = false) (hs : splitOf h.path = some (pre, name)) (hpre : pre.size ≤ 155) (hname : name.size ≤ 100)
    (m1 : 0 ≤ h.mode ∧ h.mode ≤ 2097151) (m2 : 0 ≤ h.uid ∧ h.uid ≤ 2097151) (m3 : 0 ≤ h.gid ∧ h.gid ≤ 2097151) (m4 : 0 ≤ h.major ∧ h.major ≤ 2097151) (m5 : 0 ≤ h.minor ∧ h.minor ≤ 2097151)
    (m6 : 0 ≤ h.size ∧ h.size ≤ 8589934591) (m7 : 0 ≤ h.time ∧ h.time ≤ 8589934591) :
    Calls Tryz.prog 24 #[.agg h.cells] w fun e w' => e = .returned (.tuple #[.string ⟨(hdrBytes h pre.data.toList name.data.toList).toArray⟩, .nilIface]) ∧ Below w.heap.size w w' := by
  have HW := Lib.hid hw
  have HS := Lib.hid hs
  clear hw hs
  go_enter Tryz.func24, Tryz.ntmps24
  go_wp2_with fail
  refine (wrong_any h _ hp (by omega) (by omega) (by omega)).mono ?_
  rintro e w1 ⟨rfl, hb1⟩
  rw [HW.out]
  have hz : w.heap.size < w1.heap.size := by have := hb1.size; simp at this; omega
  have hc1 : ∀ i : Nat, w1.cell? ⟨w.heap.size, i, none⟩ = h.cells[i]? := fun i => (hb1.cell (p := ⟨w.heap.size, i, none⟩) (by simp)).trans (cell_new w h.cells _ i)
  have HF1 := Lib.hid (((Below.refl w.heap.size w).alloc (Nat.le_refl _) (.cells h.cells 24)).trans (hb1.mono (by simp)))
  clear hb1
  go_wp2_with fail
  refine (split_yes h.path pre name _ hp HS.out).mono ?_
  rintro e w2 ⟨rfl, n, hw2⟩
  have hc2 : ∀ i : Nat, w2.cell? ⟨w.heap.size, i, none⟩ = h.cells[i]? := fun i => by rw [← hw2]; exact hc1 i
  have hz2 : w.heap.size < w2.heap.size := by rw [← hw2]; exact hz
  have HF2 := Lib.hid (show Below w.heap.size w w2 by rw [← hw2]; exact below_drewN HF1.out n)
  clear hw2 hc1 hz HF1
  go_wp2_with fail
  refine (within_any _ _ 5 (fun i => [h.mode, h.uid, h.gid, h.major, h.minor].getD i 0) _ (by omega) ?hq).mono ?_
  case hq =>
    intro i hi
    match i, hi with
    | 0, _ | 1, _ | 2, _ | 3, _ | 4, _ => simp
  rintro e w3 ⟨rfl, hw3⟩
  rw [show ((List.range 5).all fun i => inB 2097151 ([h.mode, h.uid, h.gid, h.major, h.minor].getD i 0)) = true by
    simp [List.range, List.range.loop, inB]; omega]
  have hc3 : ∀ i : Nat, w3.cell? ⟨w.heap.size, i, none⟩ = h.cells[i]? := fun i => by rw [← hw3, cell_alloc' hz2]; exact hc2 i
  have hz3 : w.heap.size < w3.heap.size := by rw [← hw3]; simp; omega
  have HF3 := Lib.hid (show Below w.heap.size w w3 by rw [← hw3]; exact HF2.out.alloc (Nat.le_of_lt hz2) _)
  clear hw3 hc2 hz2 HF2
  go_wp2_with fail
  refine (within_any _ _ 2 (fun i => [h.size, h.time].getD i 0) _ (by omega) ?hq2).mono ?_
  case hq2 =>
    intro i hi
    match i, hi with
    | 0, _ | 1, _ => simp
  rintro e w4 ⟨rfl, hw4⟩
  rw [show ((List.range 2).all fun i => inB 8589934591 ([h.size, h.time].getD i 0)) = true by
    simp [List.range, List.range.loop, inB]; omega]
  have hc4 : ∀ i : Nat, w4.cell? ⟨w.heap.size, i, none⟩ = h.cells[i]? := fun i => by rw [← hw4, cell_alloc' hz3]; exact hc3 i
  have hz4 : w.heap.size < w4.heap.size := by rw [← hw4]; simp; omega
  have HF4 := Lib.hid (show Below w.heap.size w w4 by rw [← hw4]; exact HF3.out.alloc (Nat.le_of_lt hz3) _)
  clear hw4 hc3 hz3 HF3
  have HE4 : Hid (Enc w h w.heap.size w4.heap.size z512 (w4.alloc (.cells Tryz.zeroCells90 90))) := by
    refine ⟨fun i => (cell_alloc' hz4).trans (hc4 i), ?_, by simp [z512], HF4.out.alloc (Nat.le_of_lt hz4) _, Nat.le_of_lt hz4, by omega⟩
    rw [zero512]
    show (w4.heap.push _)[_]? = _
    simp [blk]
  go_wp2_with (refine wpList_copy_enc rfl (.tmp 49) (.tmp 50) rfl w h w.heap.size w4.heap.size z512 0 512 512 name rfl rfl HE4 (by omega) (by omega) ?_; intro w5 HE5; have hc5 := HE5.out.hc)
  clear HE4 hc4
  refine (number_enc w h w.heap.size w4.heap.size 100 7 _ h.mode _ HE5.out (by omega) (by omega) (by omega)).mono ?_
  rintro e w6 ⟨rfl, HE6⟩
  have hc6 := HE6.hc
  have HE6 := Lib.hid HE6
  clear HE5 hc5
  go_wp2_with fail
  refine (number_enc w h w.heap.size w4.heap.size 108 7 _ h.uid _ HE6.out (by omega) (by omega) (by omega)).mono ?_
  rintro e w7 ⟨rfl, HE7⟩
  have hc7 := HE7.hc
  have HE7 := Lib.hid HE7
  clear HE6 hc6
  go_wp2_with fail
  refine (number_enc w h w.heap.size w4.heap.size 116 7 _ h.gid _ HE7.out (by omega) (by omega) (by omega)).mono ?_
  rintro e w8 ⟨rfl, HE8⟩
  have hc8 := HE8.hc
  have HE8 := Lib.hid HE8
  clear HE7 hc7
  go_wp2_with fail
  refine (number_enc w h w.heap.size w4.heap.size 124 11 _ h.size _ HE8.out (by omega) (by omega) (by omega)).mono ?_
  rintro e w9 ⟨rfl, HE9⟩
  have hc9 := HE9.hc
  have HE9 := Lib.hid HE9
  clear HE8 hc8
  go_wp2_with fail
  refine (number_enc w h w.heap.size w4.heap.size 136 11 _ h.time _ HE9.out (by omega) (by omega) (by omega)).mono ?_
  rintro e w10 ⟨rfl, HE10⟩
  have hc10 := HE10.hc
  have HE10 := Lib.hid HE10
  clear HE9 hc9
  go_wp2_with (refine wpList_store_enc rfl (.tmp 69) (.tmp 68) rfl rfl w h w.heap.size w4.heap.size _ 156 h.typ rfl rfl HE10 (by omega) ?_; intro w11 HE11; have hc11 := HE11.out.hc)
  clear HE10 hc10
  obtain ⟨w12, hcp, HE12⟩ := HE11.out.drew.copy 157 355 355 h.link (by omega) (by omega) 3
  go_region
  clear hcp
  have hc12 := HE12.hc
  have HE12 := Lib.hid HE12
  clear HE11 hc11
  go_wp2_with (refine wpList_copy_enc rfl (.tmp 74) (.const (.string { data := #[117, 115, 116, 97, 114, 0, 48, 48] })) rfl w h w.heap.size w4.heap.size _ 257 255 255 ⟨#[117, 115, 116, 97, 114, 0, 48, 48]⟩ rfl rfl HE12 (by decide) (by decide) ?_; intro w13 HE13; have hc13 := HE13.out.hc)
  clear HE12 hc12
  obtain ⟨w14, hcp, HE14⟩ := HE13.out.drew.copy 265 247 247 h.user (by omega) (by omega) 3
  go_region
  clear hcp
  have hc14 := HE14.hc
  have HE14 := Lib.hid HE14
  clear HE13 hc13
  go_wp2_with fail
  obtain ⟨w15, hcp, HE15⟩ := HE14.out.drew.copy 297 215 215 h.group (by omega) (by omega) 3
  go_region
  clear hcp
  have hc15 := HE15.hc
  have HE15 := Lib.hid HE15
  clear HE14 hc14
  go_wp2_with fail
  refine (number_enc w h w.heap.size w4.heap.size 329 7 _ h.major _ HE15.out (by omega) (by omega) (by omega)).mono ?_
  rintro e w16 ⟨rfl, HE16⟩
  have hc16 := HE16.hc
  have HE16 := Lib.hid HE16
  clear HE15 hc15
  go_wp2_with fail
  refine (number_enc w h w.heap.size w4.heap.size 337 7 _ h.minor _ HE16.out (by omega) (by omega) (by omega)).mono ?_
  rintro e w17 ⟨rfl, HE17⟩
  have hc17 := HE17.hc
  have HE17 := Lib.hid HE17
  clear HE16 hc16
  go_wp2_with (refine wpList_copy_enc rfl (.tmp 90) (.tmp 91) rfl w h w.heap.size w4.heap.size _ 345 167 167 pre rfl rfl HE17 (by omega) (by omega) ?_; intro w18 HE18; have hc18 := HE18.out.hc)
  clear HE17 hc17
  have hch : Hid (Enc w h w.heap.size w4.heap.size (chain h pre.data.toList name.data.toList) w18) := HE18
  clear HE18
  obtain ⟨ch, hchn⟩ : ∃ ch, chain h pre.data.toList name.data.toList = ch := ⟨_, rfl⟩
  rw [hchn] at hch
  have HN := Lib.hid hchn
  clear hchn
  refine (sum_any w4.heap.size ch w18 hch.out.hb hch.out.hl).mono ?_
  rintro e w19 ⟨rfl, n2, hw19⟩
  have HE19 : Hid (Enc w h w.heap.size w4.heap.size ch w19) := by rw [← hw19]; exact hch.out.drewN n2
  have hc19 := HE19.out.hc
  clear hw19 hc18 hch
  have hsb := sumTo_bd ch 512
  obtain ⟨s, hs⟩ : ∃ s, sumTo ch 512 = s := ⟨_, rfl⟩
  rw [hs] at hsb
  simp only [hs]
  have HS2 := Lib.hid hs
  clear hs
  go_wp2_with fail
  refine (number_enc w h w.heap.size w4.heap.size 148 6 _ s _ HE19.out (by omega) (by omega) (by omega)).mono ?_
  rintro e w20 ⟨rfl, HE20⟩
  have hc20 := HE20.hc
  have HE20 := Lib.hid HE20
  clear HE19 hc19
  go_wp2_with (refine wpList_copy_enc rfl (.tmp 95) (.const (.string { data := #[0, 32] })) rfl w h w.heap.size w4.heap.size _ 154 358 358 ⟨#[0, 32]⟩ rfl rfl HE20 (by decide) (by decide) ?_; intro w21 HE21; have hcv := HE21.out.conv)
  go_ret2
  refine ⟨?_, HE21.out.bel⟩
  have hfin : over (over ch 148 (octal 6 s)) 154 [0, 32] = hdrBytes h pre.data.toList name.data.toList := by
    rw [hdrBytes, HN.out, HS2.out]
  show Ending.returned (.tuple #[.string ⟨(over (over ch 148 (octal 6 s)) 154 [0, 32]).toArray⟩, .nilIface]) = _
  rw [hfin]
end Go.Proofs.YthpmocfdnoehoaaGreatDoor
