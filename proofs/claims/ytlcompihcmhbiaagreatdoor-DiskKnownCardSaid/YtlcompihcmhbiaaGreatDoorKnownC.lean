/- Contract of DiskKnown: the walk of its examples. (Printed by gen_known.py.) -/
import Derived.Test.YtlcompihcmhbiaaGreatDoorKnownB
import Derived.Test.YtlcompihcmhbiaaGreatDoorOwnB
namespace Go.Proofs.YtlcompihcmhbiaaGreatDoor
open Go Go.RowKit Go.Maps Go.Shelf
def bM (n : Nat) : ByteArray := ⟨(List.replicate n (110 : UInt8)).toArray⟩
theorem bm_le {n : Nat} (h : n ≤ 1000) : (bM n).size ≤ 1000 := by
  have e : (bM n).size = n := by
    show (List.replicate n (110 : UInt8)).toArray.size = n
    simp
  omega
def bE : ByteArray := ⟨#[]⟩
def bXYZ : ByteArray := ⟨#[120, 121, 122]⟩
def b17 : ByteArray := ⟨#[49, 50, 51, 52, 53, 54, 55]⟩
def b16 : ByteArray := ⟨#[49, 50, 51, 52, 53, 54]⟩
def b00 : ByteArray := ⟨#[0, 0]⟩
section
variable {w w1 : World} {a n : Nat} {m : DM}
theorem aft_nil (h : Mine w w1 a n m) (hn : n < 1000) (h1 : ((m.crash []).revive).namesOf = []) (h2 : ((m.crash []).revive).off = false) :
    Calls Tryz.prog 32 #[.pointer (some ⟨a, 0, none⟩), .slice none 0 0, .slice none 0 0] w1 fun e w' => e = .returned (.bool true) ∧ Below w.heap.size w w' :=
  after_none h.1 hn (fun b hb => hb.1) h.2 _ [] (ints_none _ _) h1 h2
theorem aft_none (h : Mine w w1 a n m) (hn : n < 1000) (ks : List Int) (hk : ∀ k ∈ ks, -9223372036854775808 ≤ k ∧ k ≤ 9223372036854775807) (hl : ks.length ≤ 1000) (h1 : ((m.crash ks).revive).namesOf = []) (h2 : ((m.crash ks).revive).off = false) :
    Calls Tryz.prog 32 #[.pointer (some ⟨a, 0, none⟩), .slice (some ⟨w1.heap.size, 0, none⟩) ks.length ks.length, .slice none 0 0] (w1.alloc (.cells (ks.map (Value.int .i64)).toArray 3)) fun e w' => e = .returned (.bool true) ∧ Below w.heap.size w w' := by
  have hb := (Below.refl w1.heap.size w1).alloc (Nat.le_refl _) (.cells (ks.map (Value.int .i64)).toArray 3)
  exact after_none (h.1.below hb) hn (fun b hb => hb.1) (h.2.trans (hb.mono h.2.size)) _ ks (ints_block (heap_new _ _) hk hl) h1 h2
theorem aft_one (h : Mine w w1 a n m) (hn : n < 1000) (ks : List Int) (hk : ∀ k ∈ ks, -9223372036854775808 ≤ k ∧ k ≤ 9223372036854775807) (hl : ks.length ≤ 1000) (s d : ByteArray) (h1 : ((m.crash ks).revive).namesOf = [s]) (h3 : ((m.crash ks).revive).datas = [d]) (h2 : ((m.crash ks).revive).off = false) :
    Calls Tryz.prog 32 #[.pointer (some ⟨a, 0, none⟩), .slice (some ⟨w1.heap.size, 0, none⟩) ks.length ks.length, .slice (some ⟨w1.heap.size + 1, 0, none⟩) 2 2] ((w1.alloc (.cells (ks.map (Value.int .i64)).toArray 3)).alloc (.cells #[.string s, .string d] 9)) fun e w' => e = .returned (.bool true) ∧ Below w.heap.size w w' := by
  obtain ⟨hb, hz, g0, g1⟩ := box2 w1 (.cells (ks.map (Value.int .i64)).toArray 3) (.cells #[.string s, .string d] 9)
  exact after_one (h.1.below hb) hn (fun b hb => hb.1) (h.2.trans (hb.mono h.2.size)) _ ks (ints_block g0 hk hl) s d _ _ g1 (fun hS => absurd hS.2 (by omega)) h1 h3 h2
end
def kn0 : DM := DM.new 9
def kn1 : DM := (kn0.op (.create bA)).1
def kn2 : DM := (kn1.op (.create bA)).1
def kn3 : DM := (kn2.op (.create bE)).1
def kn4 : DM := (kn3.op (.write bA bXYZ)).1
def kn5 : DM := (kn4.op (.write bA b17)).1
def kn6 : DM := (kn5.op (.write bB (bM 99))).1
def kn7 : DM := (kn6.op (.write bA b16)).1
def kn8 : DM := (kn7.op (.create (bM 200))).1
def kn9 : DM := (kn8.op (.create (bM 201))).1
def kn10 : DM := (kn9.op (.rename bB bE)).1
def kn11 : DM := (kn10.op (.rename bA bE)).1
def kn12 : DM := (kn11.op (.rename bA (bM 201))).1
def kn13 : DM := (kn12.op (.rename bA bA)).1
def kn14 : DM := (kn13.op (.remove bB)).1
def kn15 : DM := (kn14.op (.sync bB)).1
def kn16 : DM := (kn15.op (.write bA bE)).1
def no0 : DM := DM.new (-1)
def no1 : DM := (no0.op (.create bA)).1
def no2 : DM := (no1.op (.write bA bX)).1
def no3 : DM := (no2.op (.write bA bE)).1
def od0 : DM := fr2
def od1 : DM := (od0.op (.write bA bZ)).1
theorem kn_e1 : kn0.op (.create bA) = (kn1, 0) := op_eq (by kernel_rfl)
theorem kn_e2 : kn1.op (.create bA) = (kn2, 11) := op_eq (by kernel_rfl)
theorem kn_e3 : kn2.op (.create bE) = (kn3, 8) := op_eq (by kernel_rfl)
theorem kn_e4 : kn3.op (.write bA bXYZ) = (kn4, 0) := op_eq (by kernel_rfl)
theorem kn_e5 : kn4.op (.write bA b17) = (kn5, 28) := op_eq (by kernel_rfl)
theorem kn_e6 : kn5.op (.write bB (bM 99)) = (kn6, 10) := op_eq (by kernel_rfl)
theorem kn_e7 : kn6.op (.write bA b16) = (kn7, 0) := op_eq (by kernel_rfl)
theorem kn_u : kn7.used = 9 := by kernel_rfl
theorem kn_e8 : kn7.op (.create (bM 200)) = (kn8, 0) := op_eq (by kernel_rfl)
theorem kn_e9 : kn8.op (.create (bM 201)) = (kn9, 8) := op_eq (by kernel_rfl)
theorem kn_e10 : kn9.op (.rename bB bE) = (kn10, 10) := op_eq (by kernel_rfl)
theorem kn_e11 : kn10.op (.rename bA bE) = (kn11, 8) := op_eq (by kernel_rfl)
theorem kn_e12 : kn11.op (.rename bA (bM 201)) = (kn12, 8) := op_eq (by kernel_rfl)
theorem kn_e13 : kn12.op (.rename bA bA) = (kn13, 0) := op_eq (by kernel_rfl)
theorem kn_e14 : kn13.op (.remove bB) = (kn14, 10) := op_eq (by kernel_rfl)
theorem kn_e15 : kn14.op (.sync bB) = (kn15, 10) := op_eq (by kernel_rfl)
theorem kn_e16 : kn15.op (.write bA bE) = (kn16, 0) := op_eq (by kernel_rfl)
theorem no_e1 : no0.op (.create bA) = (no1, 0) := op_eq (by kernel_rfl)
theorem no_e2 : no1.op (.write bA bX) = (no2, 28) := op_eq (by kernel_rfl)
theorem no_e3 : no2.op (.write bA bE) = (no3, 0) := op_eq (by kernel_rfl)
theorem an1 : ((fr2.crash []).revive).namesOf = [] := by kernel_rfl
theorem ao1 : ((fr2.crash []).revive).off = false := by kernel_rfl
theorem an2 : ((fr2.crash [1, 1]).revive).namesOf = [bA] := by kernel_rfl
theorem ao2 : ((fr2.crash [1, 1]).revive).off = false := by kernel_rfl
theorem ad2 : ((fr2.crash [1, 1]).revive).datas = [bXY] := by kernel_rfl
theorem an3 : ((fr2.crash [1, 0]).revive).namesOf = [bA] := by kernel_rfl
theorem ao3 : ((fr2.crash [1, 0]).revive).off = false := by kernel_rfl
theorem ad3 : ((fr2.crash [1, 0]).revive).datas = [bE] := by kernel_rfl
theorem an4 : ((fr2.crash [1, 2]).revive).namesOf = [bA] := by kernel_rfl
theorem ao4 : ((fr2.crash [1, 2]).revive).off = false := by kernel_rfl
theorem ad4 : ((fr2.crash [1, 2]).revive).datas = [bX] := by kernel_rfl
theorem an5 : ((fr2.crash [1, 3]).revive).namesOf = [bA] := by kernel_rfl
theorem ao5 : ((fr2.crash [1, 3]).revive).off = false := by kernel_rfl
theorem ad5 : ((fr2.crash [1, 3]).revive).datas = [b00] := by kernel_rfl
theorem an6 : ((fr2.crash [-1, -1]).revive).namesOf = [bA] := by kernel_rfl
theorem ao6 : ((fr2.crash [-1, -1]).revive).off = false := by kernel_rfl
theorem ad6 : ((fr2.crash [-1, -1]).revive).datas = [b00] := by kernel_rfl
theorem an7 : ((fr2.crash [3, 5]).revive).namesOf = [bA] := by kernel_rfl
theorem ao7 : ((fr2.crash [3, 5]).revive).off = false := by kernel_rfl
theorem ad7 : ((fr2.crash [3, 5]).revive).datas = [bXY] := by kernel_rfl
theorem od_e1 : od0.op (.write bA bZ) = (od1, 0) := op_eq (by kernel_rfl)
theorem an8 : ((od1.crash [1, 2]).revive).namesOf = [bA] := by kernel_rfl
theorem ao8 : ((od1.crash [1, 2]).revive).off = false := by kernel_rfl
theorem ad8 : ((od1.crash [1, 2]).revive).datas = [bX] := by kernel_rfl
theorem an9 : ((bg4.crash [1, 1]).revive).namesOf = [bA] := by kernel_rfl
theorem ao9 : ((bg4.crash [1, 1]).revive).off = false := by kernel_rfl
theorem ad9 : ((bg4.crash [1, 1]).revive).datas = [bXY] := by kernel_rfl
theorem an10 : ((bg4.crash [0, 1]).revive).namesOf = [] := by kernel_rfl
theorem ao10 : ((bg4.crash [0, 1]).revive).off = false := by kernel_rfl
theorem an11 : ((bg4.crash [1, 0]).revive).namesOf = [bT] := by kernel_rfl
theorem ao11 : ((bg4.crash [1, 0]).revive).off = false := by kernel_rfl
theorem ad11 : ((bg4.crash [1, 0]).revive).datas = [bXY] := by kernel_rfl
theorem an12 : ((tu3.crash [0, 0]).revive).namesOf = [bA] := by kernel_rfl
theorem ao12 : ((tu3.crash [0, 0]).revive).off = false := by kernel_rfl
theorem ad12 : ((tu3.crash [0, 0]).revive).datas = [bXY] := by kernel_rfl
theorem an13 : ((tu3.crash [1, 1]).revive).namesOf = [bA] := by kernel_rfl
theorem ao13 : ((tu3.crash [1, 1]).revive).off = false := by kernel_rfl
theorem ad13 : ((tu3.crash [1, 1]).revive).datas = [bE] := by kernel_rfl
theorem an14 : ((tu3.crash [0, 1]).revive).namesOf = [bA] := by kernel_rfl
theorem ao14 : ((tu3.crash [0, 1]).revive).off = false := by kernel_rfl
theorem ad14 : ((tu3.crash [0, 1]).revive).datas = [bE] := by kernel_rfl
theorem an15 : ((tu3.crash [1, 0]).revive).namesOf = [] := by kernel_rfl
theorem ao15 : ((tu3.crash [1, 0]).revive).off = false := by kernel_rfl
set_option maxHeartbeats 16000000 in
set_option maxRecDepth 100000 in
theorem known_any (w : World) (hG : ErrT w) : Calls Tryz.prog 7 #[] w fun e w' => e = .returned (.bool true) ∧ Below w.heap.size w w' := by
  have HG := Lib.hid hG
  clear hG
  go_enter Tryz.func7, Tryz.ntmps7
  go_wp2_with fail
  refine (new_m w _ (Below.refl _ w) 9 (by decide) (by decide)).mono ?_
  rintro e w1 ⟨d, rfl, hm⟩
  have M1 := Lib.hid (hm)
  clear hm
  go_wp2_with fail
  refine (create_m M1.out (by decide) bA (by decide) (v := .nilIface) kn_e1 rfl).mono ?_
  rintro e w2 ⟨rfl, hm⟩
  have M2 := Lib.hid (hm)
  clear hm M1
  go_wp2_with fail
  refine (create_m M2.out (by decide) bA (by decide) (v := errE 11) kn_e2 rfl).mono ?_
  rintro e w3 ⟨rfl, hm⟩
  have M3 := Lib.hid (hm)
  clear hm M2
  go_wp2_with fail
  refine (plain_E 11 (.inr ⟨by decide, by decide⟩) 11 _ (HG.out.below M3.out.2 HG.out.2)).mono ?_
  rintro e w4 ⟨rfl, hm⟩
  have M4 := Lib.hid (M3.out.below hm)
  clear hm M3
  go_wp2_with fail
  refine (create_m M4.out (by decide) bE (by decide) (v := errE 8) kn_e3 rfl).mono ?_
  rintro e w5 ⟨rfl, hm⟩
  have M5 := Lib.hid (hm)
  clear hm M4
  go_wp2_with fail
  refine (plain_E 8 (.inr ⟨by decide, by decide⟩) 8 _ (HG.out.below M5.out.2 HG.out.2)).mono ?_
  rintro e w6 ⟨rfl, hm⟩
  have M6 := Lib.hid (M5.out.below hm)
  clear hm M5
  go_wp2_with fail
  refine (write_m M6.out (by decide) bA bXYZ (by decide) (by decide) (v := .nilIface) kn_e4 rfl).mono ?_
  rintro e w7 ⟨rfl, hm⟩
  have M7 := Lib.hid (hm)
  clear hm M6
  go_wp2_with fail
  refine (write_m M7.out (by decide) bA b17 (by decide) (by decide) (v := errE 28) kn_e5 rfl).mono ?_
  rintro e w8 ⟨rfl, hm⟩
  have M8 := Lib.hid (hm)
  clear hm M7
  go_wp2_with fail
  refine (plain_E 28 (.inr ⟨by decide, by decide⟩) 28 _ (HG.out.below M8.out.2 HG.out.2)).mono ?_
  rintro e w9 ⟨rfl, hm⟩
  have M9 := Lib.hid (M8.out.below hm)
  clear hm M8
  go_wp2_with fail
  refine (many_any 99 _ (by decide)).mono ?_
  rintro e w10 ⟨rfl, hm⟩
  have M10 := Lib.hid (M9.out.below hm)
  clear hm M9
  go_wp2_with fail
  refine (write_m M10.out (by decide) bB (bM 99) (by decide) (bm_le (by decide)) (v := errE 10) kn_e6 rfl).mono ?_
  rintro e w11 ⟨rfl, hm⟩
  have M11 := Lib.hid (hm)
  clear hm M10
  go_wp2_with fail
  refine (plain_E 10 (.inr ⟨by decide, by decide⟩) 10 _ (HG.out.below M11.out.2 HG.out.2)).mono ?_
  rintro e w12 ⟨rfl, hm⟩
  have M12 := Lib.hid (M11.out.below hm)
  clear hm M11
  go_wp2_with fail
  refine (write_m M12.out (by decide) bA b16 (by decide) (by decide) (v := .nilIface) kn_e7 rfl).mono ?_
  rintro e w13 ⟨rfl, hm⟩
  have M13 := Lib.hid (hm)
  clear hm M12
  go_wp2_with fail
  refine (used_m M13.out (by decide) kn_u).mono ?_
  rintro e w14 ⟨rfl, hm⟩
  have M14 := Lib.hid (hm)
  clear hm M13
  go_wp2_with fail
  refine (many_any 200 _ (by decide)).mono ?_
  rintro e w15 ⟨rfl, hm⟩
  have M15 := Lib.hid (M14.out.below hm)
  clear hm M14
  go_wp2_with fail
  refine (create_m M15.out (by decide) (bM 200) (bm_le (by decide)) (v := .nilIface) kn_e8 rfl).mono ?_
  rintro e w16 ⟨rfl, hm⟩
  have M16 := Lib.hid (hm)
  clear hm M15
  go_wp2_with fail
  refine (many_any 201 _ (by decide)).mono ?_
  rintro e w17 ⟨rfl, hm⟩
  have M17 := Lib.hid (M16.out.below hm)
  clear hm M16
  go_wp2_with fail
  refine (create_m M17.out (by decide) (bM 201) (bm_le (by decide)) (v := errE 8) kn_e9 rfl).mono ?_
  rintro e w18 ⟨rfl, hm⟩
  have M18 := Lib.hid (hm)
  clear hm M17
  go_wp2_with fail
  refine (plain_E 8 (.inr ⟨by decide, by decide⟩) 8 _ (HG.out.below M18.out.2 HG.out.2)).mono ?_
  rintro e w19 ⟨rfl, hm⟩
  have M19 := Lib.hid (M18.out.below hm)
  clear hm M18
  go_wp2_with fail
  refine (rename_m M19.out (by decide) bB bE (by decide) (by decide) (v := errE 10) kn_e10 rfl).mono ?_
  rintro e w20 ⟨rfl, hm⟩
  have M20 := Lib.hid (hm)
  clear hm M19
  go_wp2_with fail
  refine (plain_E 10 (.inr ⟨by decide, by decide⟩) 10 _ (HG.out.below M20.out.2 HG.out.2)).mono ?_
  rintro e w21 ⟨rfl, hm⟩
  have M21 := Lib.hid (M20.out.below hm)
  clear hm M20
  go_wp2_with fail
  refine (rename_m M21.out (by decide) bA bE (by decide) (by decide) (v := errE 8) kn_e11 rfl).mono ?_
  rintro e w22 ⟨rfl, hm⟩
  have M22 := Lib.hid (hm)
  clear hm M21
  go_wp2_with fail
  refine (plain_E 8 (.inr ⟨by decide, by decide⟩) 8 _ (HG.out.below M22.out.2 HG.out.2)).mono ?_
  rintro e w23 ⟨rfl, hm⟩
  have M23 := Lib.hid (M22.out.below hm)
  clear hm M22
  go_wp2_with fail
  refine (many_any 201 _ (by decide)).mono ?_
  rintro e w24 ⟨rfl, hm⟩
  have M24 := Lib.hid (M23.out.below hm)
  clear hm M23
  go_wp2_with fail
  refine (rename_m M24.out (by decide) bA (bM 201) (by decide) (bm_le (by decide)) (v := errE 8) kn_e12 rfl).mono ?_
  rintro e w25 ⟨rfl, hm⟩
  have M25 := Lib.hid (hm)
  clear hm M24
  go_wp2_with fail
  refine (plain_E 8 (.inr ⟨by decide, by decide⟩) 8 _ (HG.out.below M25.out.2 HG.out.2)).mono ?_
  rintro e w26 ⟨rfl, hm⟩
  have M26 := Lib.hid (M25.out.below hm)
  clear hm M25
  go_wp2_with fail
  refine (rename_m M26.out (by decide) bA bA (by decide) (by decide) (v := .nilIface) kn_e13 rfl).mono ?_
  rintro e w27 ⟨rfl, hm⟩
  have M27 := Lib.hid (hm)
  clear hm M26
  go_wp2_with fail
  refine (remove_m M27.out (by decide) bB (by decide) (v := errE 10) kn_e14 rfl).mono ?_
  rintro e w28 ⟨rfl, hm⟩
  have M28 := Lib.hid (hm)
  clear hm M27
  go_wp2_with fail
  refine (plain_E 10 (.inr ⟨by decide, by decide⟩) 10 _ (HG.out.below M28.out.2 HG.out.2)).mono ?_
  rintro e w29 ⟨rfl, hm⟩
  have M29 := Lib.hid (M28.out.below hm)
  clear hm M28
  go_wp2_with fail
  refine (sync_m M29.out (by decide) bB (by decide) (v := errE 10) kn_e15 rfl).mono ?_
  rintro e w30 ⟨rfl, hm⟩
  have M30 := Lib.hid (hm)
  clear hm M29
  go_wp2_with fail
  refine (plain_E 10 (.inr ⟨by decide, by decide⟩) 10 _ (HG.out.below M30.out.2 HG.out.2)).mono ?_
  rintro e w31 ⟨rfl, hm⟩
  have M31 := Lib.hid (M30.out.below hm)
  clear hm M30
  go_wp2_with fail
  refine (write_m M31.out (by decide) bA bE (by decide) (by decide) (v := .nilIface) kn_e16 rfl).mono ?_
  rintro e w32 ⟨rfl, hm⟩
  have M32 := Lib.hid (hm)
  clear hm M31
  go_wp2_with fail
  refine (new_m w _ M32.out.2 (-1) (by decide) (by decide)).mono ?_
  rintro e w33 ⟨o, rfl, hm⟩
  have M33 := Lib.hid (hm)
  clear hm M32
  go_wp2_with fail
  refine (create_m M33.out (by decide) bA (by decide) (v := .nilIface) no_e1 rfl).mono ?_
  rintro e w34 ⟨rfl, hm⟩
  have M34 := Lib.hid (hm)
  clear hm M33
  go_wp2_with fail
  refine (write_m M34.out (by decide) bA bX (by decide) (by decide) (v := errE 28) no_e2 rfl).mono ?_
  rintro e w35 ⟨rfl, hm⟩
  have M35 := Lib.hid (hm)
  clear hm M34
  go_wp2_with fail
  refine (plain_E 28 (.inr ⟨by decide, by decide⟩) 28 _ (HG.out.below M35.out.2 HG.out.2)).mono ?_
  rintro e w36 ⟨rfl, hm⟩
  have M36 := Lib.hid (M35.out.below hm)
  clear hm M35
  go_wp2_with fail
  refine (write_m M36.out (by decide) bA bE (by decide) (by decide) (v := .nilIface) no_e3 rfl).mono ?_
  rintro e w37 ⟨rfl, hm⟩
  have M37 := Lib.hid (hm)
  clear hm M36
  go_wp2_with fail
  refine (fresh_any w _ M37.out.2).mono ?_
  rintro e w38 ⟨a38, rfl, hm⟩
  have M38 := Lib.hid (hm)
  clear hm M37
  go_wp2_with fail
  refine (aft_nil M38.out (by decide) an1 ao1).mono ?_
  rintro e w39 ⟨rfl, hm⟩
  have H39 := Lib.hid (hm)
  clear hm M38
  go_wp2_with fail
  refine (fresh_any w _ H39.out).mono ?_
  rintro e w40 ⟨a40, rfl, hm⟩
  have M40 := Lib.hid (hm)
  clear hm H39
  go_wp2_with fail
  refine (aft_one M40.out (by decide) [1, 1] (by decide) (by decide) bA bXY an2 ad2 ao2).mono ?_
  rintro e w41 ⟨rfl, hm⟩
  have H41 := Lib.hid (hm)
  clear hm M40
  go_wp2_with fail
  refine (fresh_any w _ H41.out).mono ?_
  rintro e w42 ⟨a42, rfl, hm⟩
  have M42 := Lib.hid (hm)
  clear hm H41
  go_wp2_with fail
  refine (aft_one M42.out (by decide) [1, 0] (by decide) (by decide) bA bE an3 ad3 ao3).mono ?_
  rintro e w43 ⟨rfl, hm⟩
  have H43 := Lib.hid (hm)
  clear hm M42
  go_wp2_with fail
  refine (fresh_any w _ H43.out).mono ?_
  rintro e w44 ⟨a44, rfl, hm⟩
  have M44 := Lib.hid (hm)
  clear hm H43
  go_wp2_with fail
  refine (aft_one M44.out (by decide) [1, 2] (by decide) (by decide) bA bX an4 ad4 ao4).mono ?_
  rintro e w45 ⟨rfl, hm⟩
  have H45 := Lib.hid (hm)
  clear hm M44
  go_wp2_with fail
  refine (fresh_any w _ H45.out).mono ?_
  rintro e w46 ⟨a46, rfl, hm⟩
  have M46 := Lib.hid (hm)
  clear hm H45
  go_wp2_with fail
  refine (aft_one M46.out (by decide) [1, 3] (by decide) (by decide) bA b00 an5 ad5 ao5).mono ?_
  rintro e w47 ⟨rfl, hm⟩
  have H47 := Lib.hid (hm)
  clear hm M46
  go_wp2_with fail
  refine (fresh_any w _ H47.out).mono ?_
  rintro e w48 ⟨a48, rfl, hm⟩
  have M48 := Lib.hid (hm)
  clear hm H47
  go_wp2_with fail
  refine (aft_one M48.out (by decide) [-1, -1] (by decide) (by decide) bA b00 an6 ad6 ao6).mono ?_
  rintro e w49 ⟨rfl, hm⟩
  have H49 := Lib.hid (hm)
  clear hm M48
  go_wp2_with fail
  refine (fresh_any w _ H49.out).mono ?_
  rintro e w50 ⟨a50, rfl, hm⟩
  have M50 := Lib.hid (hm)
  clear hm H49
  go_wp2_with fail
  refine (aft_one M50.out (by decide) [3, 5] (by decide) (by decide) bA bXY an7 ad7 ao7).mono ?_
  rintro e w51 ⟨rfl, hm⟩
  have H51 := Lib.hid (hm)
  clear hm M50
  go_wp2_with fail
  refine (fresh_any w _ H51.out).mono ?_
  rintro e w52 ⟨a52, rfl, hm⟩
  have M52 := Lib.hid (hm)
  clear hm H51
  go_wp2_with fail
  refine (write_m M52.out (by decide) bA bZ (by decide) (by decide) (v := .nilIface) od_e1 rfl).mono ?_
  rintro e w53 ⟨rfl, hm⟩
  have M53 := Lib.hid (hm)
  clear hm M52
  go_wp2_with fail
  refine (aft_one M53.out (by decide) [1, 2] (by decide) (by decide) bA bX an8 ad8 ao8).mono ?_
  rintro e w54 ⟨rfl, hm⟩
  have H54 := Lib.hid (hm)
  clear hm M53
  go_wp2_with fail
  refine (begun_any w _ H54.out).mono ?_
  rintro e w55 ⟨a55, rfl, hm⟩
  have M55 := Lib.hid (hm)
  clear hm H54
  go_wp2_with fail
  refine (aft_one M55.out (by decide) [1, 1] (by decide) (by decide) bA bXY an9 ad9 ao9).mono ?_
  rintro e w56 ⟨rfl, hm⟩
  have H56 := Lib.hid (hm)
  clear hm M55
  go_wp2_with fail
  refine (begun_any w _ H56.out).mono ?_
  rintro e w57 ⟨a57, rfl, hm⟩
  have M57 := Lib.hid (hm)
  clear hm H56
  go_wp2_with fail
  refine (aft_none M57.out (by decide) [0, 1] (by decide) (by decide) an10 ao10).mono ?_
  rintro e w58 ⟨rfl, hm⟩
  have H58 := Lib.hid (hm)
  clear hm M57
  go_wp2_with fail
  refine (begun_any w _ H58.out).mono ?_
  rintro e w59 ⟨a59, rfl, hm⟩
  have M59 := Lib.hid (hm)
  clear hm H58
  go_wp2_with fail
  refine (aft_one M59.out (by decide) [1, 0] (by decide) (by decide) bT bXY an11 ad11 ao11).mono ?_
  rintro e w60 ⟨rfl, hm⟩
  have H60 := Lib.hid (hm)
  clear hm M59
  go_wp2_with fail
  refine (turned_any w _ H60.out).mono ?_
  rintro e w61 ⟨a61, rfl, hm⟩
  have M61 := Lib.hid (hm)
  clear hm H60
  go_wp2_with fail
  refine (aft_one M61.out (by decide) [0, 0] (by decide) (by decide) bA bXY an12 ad12 ao12).mono ?_
  rintro e w62 ⟨rfl, hm⟩
  have H62 := Lib.hid (hm)
  clear hm M61
  go_wp2_with fail
  refine (turned_any w _ H62.out).mono ?_
  rintro e w63 ⟨a63, rfl, hm⟩
  have M63 := Lib.hid (hm)
  clear hm H62
  go_wp2_with fail
  refine (aft_one M63.out (by decide) [1, 1] (by decide) (by decide) bA bE an13 ad13 ao13).mono ?_
  rintro e w64 ⟨rfl, hm⟩
  have H64 := Lib.hid (hm)
  clear hm M63
  go_wp2_with fail
  refine (turned_any w _ H64.out).mono ?_
  rintro e w65 ⟨a65, rfl, hm⟩
  have M65 := Lib.hid (hm)
  clear hm H64
  go_wp2_with fail
  refine (aft_one M65.out (by decide) [0, 1] (by decide) (by decide) bA bE an14 ad14 ao14).mono ?_
  rintro e w66 ⟨rfl, hm⟩
  have H66 := Lib.hid (hm)
  clear hm M65
  go_wp2_with fail
  refine (turned_any w _ H66.out).mono ?_
  rintro e w67 ⟨a67, rfl, hm⟩
  have M67 := Lib.hid (hm)
  clear hm H66
  go_wp2_with fail
  refine (aft_none M67.out (by decide) [1, 0] (by decide) (by decide) an15 ao15).mono ?_
  rintro e w68 ⟨rfl, hm⟩
  have H68 := Lib.hid (hm)
  clear hm M67
  go_wp2_with fail
  refine (struck_any w _ H68.out HG.out).mono ?_
  rintro e w69 ⟨rfl, hm⟩
  have H69 := Lib.hid (hm)
  clear hm H68
  go_wp2_with fail
  refine (works_any _ (HG.out.below H69.out HG.out.2)).mono ?_
  rintro e w70 ⟨rfl, hm⟩
  have H70 := Lib.hid (H69.out.trans (hm.mono H69.out.size))
  clear hm H69
  go_wp2_with fail
  go_ret
  exact ⟨rfl, H70.out⟩
end Go.Proofs.YtlcompihcmhbiaaGreatDoor
