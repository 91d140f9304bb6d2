/- Contract of the reference's Encode. -/
import Derived.Test.YthpmocfdnoehoaaGreatDoorRefEncA
namespace Go.Proofs.YthpmocfdnoehoaaGreatDoor
open Go.RowKit
set_option maxHeartbeats 6400000 in
set_option maxRecDepth 100000 in
theorem EncodeR_any (h : Hdr) (w : World) (hm : h.small) :
    Calls Tryz.prog 18 #[.agg h.cells] w fun e w' => e = .returned (encV h) ∧ Below w.heap.size w w' := by
  have HM := Lib.hid hm
  clear hm
  have E0 := Lib.hid (EncR.new w h)
  have cm := E0.out.cell
  go_enter Tryz.func18, Tryz.ntmps18
  go_wp2_with fail
  refine (nought_any h.path _ (by have := HM.out.1; omega)).mono ?_
  rintro e w1 ⟨rfl, hb⟩
  have E1 := Lib.hid (E0.out.step hb)
  replace cm := E1.out.cell
  clear hb E0
  cases hf0 : nulIn h.path with
  | true =>
    go_wp2_with fail
    go_ret2
    exact ⟨congrArg Ending.returned (encV_bad (encErr_wrong (by simp [wrongB, hf0])) (by decide)).symm, E1.out.1⟩
  | false =>
    go_wp2_with fail
    refine (nought_any h.link _ (by have := HM.out.2.1; omega)).mono ?_
    rintro e w2 ⟨rfl, hb⟩
    have E2 := Lib.hid (E1.out.step hb)
    replace cm := E2.out.cell
    clear hb E1
    cases hf1 : nulIn h.link with
    | true =>
      go_wp2_with fail
      go_ret2
      exact ⟨congrArg Ending.returned (encV_bad (encErr_wrong (by simp [wrongB, hf1])) (by decide)).symm, E2.out.1⟩
    | false =>
      go_wp2_with fail
      refine (nought_any h.user _ (by have := HM.out.2.2.1; omega)).mono ?_
      rintro e w3 ⟨rfl, hb⟩
      have E3 := Lib.hid (E2.out.step hb)
      replace cm := E3.out.cell
      clear hb E2
      cases hf2 : nulIn h.user with
      | true =>
        go_wp2_with fail
        go_ret2
        exact ⟨congrArg Ending.returned (encV_bad (encErr_wrong (by simp [wrongB, hf2])) (by decide)).symm, E3.out.1⟩
      | false =>
        go_wp2_with fail
        refine (nought_any h.group _ (by have := HM.out.2.2.2; omega)).mono ?_
        rintro e w4 ⟨rfl, hb⟩
        have E4 := Lib.hid (E3.out.step hb)
        replace cm := E4.out.cell
        clear hb E3
        cases hf3 : nulIn h.group with
        | true =>
          go_wp2_with fail
          go_ret2
          exact ⟨congrArg Ending.returned (encV_bad (encErr_wrong (by simp [wrongB, hf3])) (by decide)).symm, E4.out.1⟩
        | false =>
          by_cases hu31 : (31 : Int) < (h.user.size : Int)
          · go_wp2_with fail
            go_ret2
            exact ⟨congrArg Ending.returned (encV_bad (encErr_wrong (by simp only [wrongB, Bool.or_eq_true, decide_eq_true_eq]; omega)) (by decide)).symm, E4.out.1⟩
          by_cases hg31 : (31 : Int) < (h.group.size : Int)
          · go_wp2_with fail
            go_ret2
            exact ⟨congrArg Ending.returned (encV_bad (encErr_wrong (by simp only [wrongB, Bool.or_eq_true, decide_eq_true_eq]; omega)) (by decide)).symm, E4.out.1⟩
          have HW := Lib.hid (show wrongB h = false from (by simp only [wrongB, hf0, hf1, hf2, hf3, Bool.false_or, Bool.or_eq_false_iff, decide_eq_false_iff_not]; omega))
          clear hf0 hf1 hf2 hf3
          go_wp2_with fail
          refine (SplitR_any h.path _ (by have := HM.out.1; omega)).mono ?_
          rintro e w5 ⟨rfl, hb⟩
          have E5 := Lib.hid (E4.out.step hb)
          replace cm := E5.out.cell
          clear hb E4
          cases hs : splitOf h.path with
          | none =>
            have hsv : splitV h.path = .tuple #[.string ⟨#[]⟩, .string ⟨#[]⟩, .int .i64 9] := by unfold splitV; rw [hs]
            rw [hsv]
            go_wp2_with fail
            go_ret2
            exact ⟨congrArg Ending.returned (encV_bad (encErr_path HW.out hs) (by decide)).symm, E5.out.1⟩
          | some pn =>
            obtain ⟨pre, name⟩ := pn
            have hsv : splitV h.path = .tuple #[.string pre, .string name, .int .i64 0] := by unfold splitV; rw [hs]
            rw [hsv]
            have HS := Lib.hid hs
            clear hsv hs
            by_cases hl : (100 : Int) < (h.link.size : Int)
            · go_wp2_with fail
              go_ret2
              exact ⟨congrArg Ending.returned (encV_bad (encErr_link HW.out HS.out (by omega)) (by decide)).symm, E5.out.1⟩
            have HLK := Lib.hid (show ¬ 100 < h.link.size from (by omega))
            go_wp2_with fail
            refine (in_any h.mode 2097151 _).mono ?_
            rintro e w6 ⟨rfl, rfl⟩
            cases hn0 : inB 2097151 h.mode with
            | false =>
              go_wp2_with fail
              go_ret2
              exact ⟨congrArg Ending.returned (encV_bad (encErr_num HW.out HS.out HLK.out (by simp [nums7, nums11, hn0])) (by decide)).symm, E5.out.1⟩
            | true =>
              go_wp2_with fail
              refine (in_any h.uid 2097151 _).mono ?_
              rintro e w6 ⟨rfl, rfl⟩
              cases hn1 : inB 2097151 h.uid with
              | false =>
                go_wp2_with fail
                go_ret2
                exact ⟨congrArg Ending.returned (encV_bad (encErr_num HW.out HS.out HLK.out (by simp [nums7, nums11, hn1])) (by decide)).symm, E5.out.1⟩
              | true =>
                go_wp2_with fail
                refine (in_any h.gid 2097151 _).mono ?_
                rintro e w6 ⟨rfl, rfl⟩
                cases hn2 : inB 2097151 h.gid with
                | false =>
                  go_wp2_with fail
                  go_ret2
                  exact ⟨congrArg Ending.returned (encV_bad (encErr_num HW.out HS.out HLK.out (by simp [nums7, nums11, hn2])) (by decide)).symm, E5.out.1⟩
                | true =>
                  go_wp2_with fail
                  refine (in_any h.major 2097151 _).mono ?_
                  rintro e w6 ⟨rfl, rfl⟩
                  cases hn3 : inB 2097151 h.major with
                  | false =>
                    go_wp2_with fail
                    go_ret2
                    exact ⟨congrArg Ending.returned (encV_bad (encErr_num HW.out HS.out HLK.out (by simp [nums7, nums11, hn3])) (by decide)).symm, E5.out.1⟩
                  | true =>
                    go_wp2_with fail
                    refine (in_any h.minor 2097151 _).mono ?_
                    rintro e w6 ⟨rfl, rfl⟩
                    cases hn4 : inB 2097151 h.minor with
                    | false =>
                      go_wp2_with fail
                      go_ret2
                      exact ⟨congrArg Ending.returned (encV_bad (encErr_num HW.out HS.out HLK.out (by simp [nums7, nums11, hn4])) (by decide)).symm, E5.out.1⟩
                    | true =>
                      go_wp2_with fail
                      refine (in_any h.size 8589934591 _).mono ?_
                      rintro e w6 ⟨rfl, rfl⟩
                      cases hn5 : inB 8589934591 h.size with
                      | false =>
                        go_wp2_with fail
                        go_ret2
                        exact ⟨congrArg Ending.returned (encV_bad (encErr_num HW.out HS.out HLK.out (by simp [nums7, nums11, hn5])) (by decide)).symm, E5.out.1⟩
                      | true =>
                        go_wp2_with fail
                        refine (in_any h.time 8589934591 _).mono ?_
                        rintro e w6 ⟨rfl, rfl⟩
                        cases hn6 : inB 8589934591 h.time with
                        | false =>
                          go_wp2_with fail
                          go_ret2
                          exact ⟨congrArg Ending.returned (encV_bad (encErr_num HW.out HS.out HLK.out (by simp [nums7, nums11, hn6])) (by decide)).symm, E5.out.1⟩
                        | true =>
                          have HN := Lib.hid (show (nums7 h && nums11 h) = true from (by simp [nums7, nums11, hn0, hn1, hn2, hn3, hn4, hn5, hn6]))
                          simp only [inB, Bool.and_eq_true, decide_eq_true_eq] at hn0 hn1 hn2 hn3 hn4 hn5 hn6
                          go_wp2_with fail
                          have hO7 : ∀ (x : Int) (w1 : World), 0 ≤ x → x ≤ 8589934591 → Calls Tryz.prog 38 #[.int .i64 x, .int .i64 7] w1 fun e w' => e = .returned (.string (octB 7 x)) ∧ Below w1.heap.size w1 w' := fun x w1 a b => Octal_any x 7 w1 (by decide) a (by omega)
                          have hO11 : ∀ (x : Int) (w1 : World), 0 ≤ x → x ≤ 8589934591 → Calls Tryz.prog 38 #[.int .i64 x, .int .i64 11] w1 fun e w' => e = .returned (.string (octB 11 x)) ∧ Below w1.heap.size w1 w' := fun x w1 a b => Octal_any x 11 w1 (by decide) a (by omega)
                          have hF : ∀ w1 : World, Calls Tryz.prog 22 #[.string name, .int .i64 100] w1 fun e w' => e = .returned (.string (filB name 100)) ∧ Below w1.heap.size w1 w' := fun w1 => Filled_any name 100 w1 (by decide)
                          have ho7 := octB_size 7
                          have ho11 := octB_size 11
                          have hfn := filB_size name 100
                          have EE := Lib.hid E5.out.drew
                          replace cm := EE.out.cell
                          clear E5
                          have hI0 := EE.out
                          clear cm EE
                          refine wp_region_inv (EncR w h) 27 (by kernel_rfl) (by kernel_rfl) hI0 ?_
                          simp only [List.take_succ_cons, List.take_zero, List.drop_succ_cons, List.drop_zero]
                          refine ⟨_, yi_still rfl (fun W hI => by go_simp; rfl), ?_⟩
                          refine ⟨_, yi_call rfl (fun W hI => by go_simp) (fun W hI => (hF W).mono fun e W' ⟨he, hb⟩ => ⟨he, hI.step hb⟩), ?_⟩
                          refine ⟨_, yi_still rfl (fun W hI => by go_simp; rfl), ?_⟩
                          refine ⟨_, yi_still rfl (fun W hI => by have cm := EncR.cell hI; go_simp; rfl), ?_⟩
                          refine ⟨_, yi_call rfl (fun W hI => by go_simp) (fun W hI => (hO7 h.mode W (by omega) (by omega)).mono fun e W' ⟨he, hb⟩ => ⟨he, hI.step hb⟩), ?_⟩
                          refine ⟨_, yi_still rfl (fun W hI => by go_simp; rfl), ?_⟩
                          refine ⟨_, yi_still rfl (fun W hI => by go_simp; rfl), ?_⟩
                          refine ⟨_, yi_still rfl (fun W hI => by go_simp; rfl), ?_⟩
                          refine ⟨_, yi_still rfl (fun W hI => by have cm := EncR.cell hI; go_simp; rfl), ?_⟩
                          refine ⟨_, yi_call rfl (fun W hI => by go_simp) (fun W hI => (hO7 h.uid W (by omega) (by omega)).mono fun e W' ⟨he, hb⟩ => ⟨he, hI.step hb⟩), ?_⟩
                          refine ⟨_, yi_still rfl (fun W hI => by go_simp; rfl), ?_⟩
                          refine ⟨_, yi_still rfl (fun W hI => by go_simp; rfl), ?_⟩
                          refine ⟨_, yi_still rfl (fun W hI => by go_simp; rfl), ?_⟩
                          refine ⟨_, yi_still rfl (fun W hI => by have cm := EncR.cell hI; go_simp; rfl), ?_⟩
                          refine ⟨_, yi_call rfl (fun W hI => by go_simp) (fun W hI => (hO7 h.gid W (by omega) (by omega)).mono fun e W' ⟨he, hb⟩ => ⟨he, hI.step hb⟩), ?_⟩
                          refine ⟨_, yi_still rfl (fun W hI => by go_simp; rfl), ?_⟩
                          refine ⟨_, yi_still rfl (fun W hI => by go_simp; rfl), ?_⟩
                          refine ⟨_, yi_still rfl (fun W hI => by go_simp; rfl), ?_⟩
                          refine ⟨_, yi_still rfl (fun W hI => by have cm := EncR.cell hI; go_simp; rfl), ?_⟩
                          refine ⟨_, yi_call rfl (fun W hI => by go_simp) (fun W hI => (hO11 h.size W (by omega) (by omega)).mono fun e W' ⟨he, hb⟩ => ⟨he, hI.step hb⟩), ?_⟩
                          refine ⟨_, yi_still rfl (fun W hI => by go_simp; rfl), ?_⟩
                          refine ⟨_, yi_still rfl (fun W hI => by go_simp; rfl), ?_⟩
                          refine ⟨_, yi_still rfl (fun W hI => by go_simp; rfl), ?_⟩
                          refine ⟨_, yi_still rfl (fun W hI => by have cm := EncR.cell hI; go_simp; rfl), ?_⟩
                          refine ⟨_, yi_call rfl (fun W hI => by go_simp) (fun W hI => (hO11 h.time W (by omega) (by omega)).mono fun e W' ⟨he, hb⟩ => ⟨he, hI.step hb⟩), ?_⟩
                          refine ⟨_, yi_still rfl (fun W hI => by go_simp; rfl), ?_⟩
                          refine ⟨_, yi_still rfl (fun W hI => by go_simp; rfl), ?_⟩
                          rintro W7 hI7
                          change wpList _ _ _ _ _ W7
                          have E7 := Lib.hid hI7
                          have cm := hI7.cell
                          clear hI7 hI0
                          go_wp2_with fail
                          have hFl : ∀ w1 : World, Calls Tryz.prog 22 #[.string h.link, .int .i64 100] w1 fun e w' => e = .returned (.string (filB h.link 100)) ∧ Below w1.heap.size w1 w' := fun w1 => Filled_any h.link 100 w1 (by decide)
                          have hFu : ∀ w1 : World, Calls Tryz.prog 22 #[.string h.user, .int .i64 32] w1 fun e w' => e = .returned (.string (filB h.user 32)) ∧ Below w1.heap.size w1 w' := fun w1 => Filled_any h.user 32 w1 (by decide)
                          have hFg : ∀ w1 : World, Calls Tryz.prog 22 #[.string h.group, .int .i64 32] w1 fun e w' => e = .returned (.string (filB h.group 32)) ∧ Below w1.heap.size w1 w' := fun w1 => Filled_any h.group 32 w1 (by decide)
                          have hFp : ∀ w1 : World, Calls Tryz.prog 22 #[.string pre, .int .i64 155] w1 fun e w' => e = .returned (.string (filB pre 155)) ∧ Below w1.heap.size w1 w' := fun w1 => Filled_any pre 155 w1 (by decide)
                          have hFz : ∀ w1 : World, Calls Tryz.prog 22 #[.string ⟨#[]⟩, .int .i64 12] w1 fun e w' => e = .returned (.string (filB ⟨#[]⟩ 12)) ∧ Below w1.heap.size w1 w' := fun w1 => Filled_any ⟨#[]⟩ 12 w1 (by decide)
                          have hfs := filB_size
                          have hI0 := E7.out.drew
                          clear cm hfn
                          refine wp_region_make (EncR w h) (EncB w h) 2 (fun b => .slice (some ⟨b, 0, none⟩) 1 1) 32 (fun _ _ hB => hB.1) (by kernel_rfl) (by kernel_rfl) hI0 ?_
                          clear hI0
                          simp only [List.take_succ_cons, List.take_zero, List.drop_succ_cons, List.drop_zero]
                          refine .inr ⟨by decide, _, yg_still rfl (fun W hI => by go_simp; rfl), ?_⟩
                          refine .inr ⟨by decide, _, yg_still rfl (fun W hI => by have cm := EncR.cell hI; go_simp; rfl), ?_⟩
                          refine .inl ⟨rfl, ⟨rfl, fun W hI => ⟨W.heap.size, W.alloc (.cells #[byteV h.typ] 5), by go_simp; rfl, hI.step ((Below.refl _ _).alloc (Nat.le_refl _) _), heap_new _ _⟩⟩, ?_⟩
                          refine ⟨_, .inr ⟨by kernel_rfl, fun b => yi_still rfl (fun W hI => by have hc := conv_at W b h.typ hI.2; go_simp; rfl)⟩, ?_⟩
                          refine ⟨_, ys_same (fun b => yg_still rfl (fun W hI => by go_simp; rfl)), ?_⟩
                          refine ⟨_, ys_same (fun b => yg_still rfl (fun W hI => by have cm := EncR.cell hI; go_simp; rfl)), ?_⟩
                          refine ⟨_, ys_same (fun b => yg_call rfl (fun W hI => by go_simp) (fun W hI => (hFl W).mono fun e W' ⟨he, hb⟩ => ⟨he, hI.step hb, fun b hB => hB.step hb⟩)), ?_⟩
                          refine ⟨_, ys_same (fun b => yg_still rfl (fun W hI => by go_simp; rfl)), ?_⟩
                          refine ⟨_, ys_same (fun b => yg_still rfl (fun W hI => by go_simp; rfl)), ?_⟩
                          refine ⟨_, ys_same (fun b => yg_still rfl (fun W hI => by go_simp; rfl)), ?_⟩
                          refine ⟨_, ys_same (fun b => yg_still rfl (fun W hI => by have cm := EncR.cell hI; go_simp; rfl)), ?_⟩
                          refine ⟨_, ys_same (fun b => yg_call rfl (fun W hI => by go_simp) (fun W hI => (hFu W).mono fun e W' ⟨he, hb⟩ => ⟨he, hI.step hb, fun b hB => hB.step hb⟩)), ?_⟩
                          refine ⟨_, ys_same (fun b => yg_still rfl (fun W hI => by go_simp; rfl)), ?_⟩
                          refine ⟨_, ys_same (fun b => yg_still rfl (fun W hI => by go_simp; rfl)), ?_⟩
                          refine ⟨_, ys_same (fun b => yg_still rfl (fun W hI => by have cm := EncR.cell hI; go_simp; rfl)), ?_⟩
                          refine ⟨_, ys_same (fun b => yg_call rfl (fun W hI => by go_simp) (fun W hI => (hFg W).mono fun e W' ⟨he, hb⟩ => ⟨he, hI.step hb, fun b hB => hB.step hb⟩)), ?_⟩
                          refine ⟨_, ys_same (fun b => yg_still rfl (fun W hI => by go_simp; rfl)), ?_⟩
                          refine ⟨_, ys_same (fun b => yg_still rfl (fun W hI => by go_simp; rfl)), ?_⟩
                          refine ⟨_, ys_same (fun b => yg_still rfl (fun W hI => by have cm := EncR.cell hI; go_simp; rfl)), ?_⟩
                          refine ⟨_, ys_same (fun b => yg_call rfl (fun W hI => by go_simp) (fun W hI => (hO7 h.major W (by omega) (by omega)).mono fun e W' ⟨he, hb⟩ => ⟨he, hI.step hb, fun b hB => hB.step hb⟩)), ?_⟩
                          refine ⟨_, ys_same (fun b => yg_still rfl (fun W hI => by go_simp; rfl)), ?_⟩
                          refine ⟨_, ys_same (fun b => yg_still rfl (fun W hI => by go_simp; rfl)), ?_⟩
                          refine ⟨_, ys_same (fun b => yg_still rfl (fun W hI => by go_simp; rfl)), ?_⟩
                          refine ⟨_, ys_same (fun b => yg_still rfl (fun W hI => by have cm := EncR.cell hI; go_simp; rfl)), ?_⟩
                          refine ⟨_, ys_same (fun b => yg_call rfl (fun W hI => by go_simp) (fun W hI => (hO7 h.minor W (by omega) (by omega)).mono fun e W' ⟨he, hb⟩ => ⟨he, hI.step hb, fun b hB => hB.step hb⟩)), ?_⟩
                          refine ⟨_, ys_same (fun b => yg_still rfl (fun W hI => by go_simp; rfl)), ?_⟩
                          refine ⟨_, ys_same (fun b => yg_still rfl (fun W hI => by go_simp; rfl)), ?_⟩
                          refine ⟨_, ys_same (fun b => yg_still rfl (fun W hI => by go_simp; rfl)), ?_⟩
                          refine ⟨_, ys_same (fun b => yg_call rfl (fun W hI => by go_simp) (fun W hI => (hFp W).mono fun e W' ⟨he, hb⟩ => ⟨he, hI.step hb, fun b hB => hB.step hb⟩)), ?_⟩
                          refine ⟨_, ys_same (fun b => yg_still rfl (fun W hI => by go_simp; rfl)), ?_⟩
                          refine ⟨_, ys_same (fun b => yg_call rfl (fun W hI => by go_simp) (fun W hI => (hFz W).mono fun e W' ⟨he, hb⟩ => ⟨he, hI.step hb, fun b hB => hB.step hb⟩)), ?_⟩
                          refine ⟨_, ys_same (fun b => yg_still rfl (fun W hI => by go_simp; rfl)), ?_⟩
                          rintro b8 W8 hI8
                          change wpList _ _ _ _ _ W8
                          have E8 := Lib.hid hI8.1
                          have cm := hI8.1.cell
                          clear hI8 E7
                          go_wp2_with fail
                          obtain ⟨S, hS1, hS2, hS3, hS4, hS5, hS6⟩ := enc_bytes (pre := pre) (name := name) HS.out HLK.out (by omega) (by omega)
                          have HENC := Lib.hid hS4
                          have hsum := sum_enc (pre := pre) (name := name) hS1 hS5 hS6 W8
                          have hO6 : ∀ (w1 : World), Calls Tryz.prog 38 #[.int .i64 S, .int .i64 6] w1 fun e w' => e = .returned (.string (octB 6 S)) ∧ Below w1.heap.size w1 w' := fun w1 => Octal_any S 6 w1 (by decide) hS2 (by omega)
                          clear hS1 hS4 hFl hFu hFg hFp hFz hO7 hO11 hF
                          unfold aheadB behindB at hsum
                          refine hsum.mono ?_
                          rintro e w9 ⟨rfl, hb⟩
                          have E9 := Lib.hid (E8.out.step hb)
                          clear hb E8 hsum cm hS5 hS6
                          have cm := E9.out.cell
                          have ho6 := octB_size 6 S
                          go_wp2_with fail
                          refine (hO6 _).mono ?_
                          rintro e w10 ⟨rfl, hb⟩
                          have E10 := Lib.hid (E9.out.step hb)
                          clear hb E9 hO6 cm
                          have henc := encV_ok (encErr_ok HW.out HS.out HLK.out HN.out) HENC.out
                          unfold aheadB behindB at henc
                          have HV := Lib.hid henc
                          clear henc HENC
                          go_wp2_with fail
                          trace "at the end"
                          go_ret2
                          trace "returned"
                          exact ⟨congrArg Ending.returned HV.out.symm, E10.out.1⟩
end Go.Proofs.YthpmocfdnoehoaaGreatDoor
