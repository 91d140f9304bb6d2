/- DiskPlays: of any rooms and any calls on two disks: every answer, and all names and files behind each call, are as the document says; the card, with the listed package-level variable tied to the program's text. No condition. -/
import Derived.Test.YtlcompihcmhbiaaGreatDoorM39
import Derived.Test.YtlcompihcmhbiaaGreatDoorM36
import Derived.Test.YtlcompihcmhbiaaGreatDoorCards
import Derived.Test.YtlcompihcmhbiaaGreatDoorTie
import Derived.LaidLaws
import Derived.LaidHandle
import Derived.Deep.DeepHandedRow
import Derived.Deep.DeepLaidRun
namespace Go.Proofs.YtlcompihcmhbiaaGreatDoor
open Go.ChangeShapes Go.WideShapes Go.ChangeAt Go.RowKit
theorem own : ownKnob Tryz.prog.godebug = none := by kernel_rfl
theorem laidOut : laidOutB Tryz.prog = true := by kernel_rfl
theorem gErr : Tryz.prog.globalNamed "errors.errorType" = some 0 := by kernel_rfl
theorem rType : (Tryz.prog.cutTypes.find? (·.1 == "internal/reflectlite.rtype")).map (·.2) = some 162 := by kernel_rfl
theorem typesSize : ∃ n, Tryz.prog.types.size = n ∧ ((List.range n).filter fun t => Tryz.prog.rowNamed t [101, 114, 114, 111, 114]) = [33] := ⟨_, rfl, by kernel_rfl⟩
theorem hType : typeHandle Tryz.prog 33 = .pointer (some ⟨2, 33, none⟩) := by kernel_rfl
/-- What the listed variables give a walk. -/
theorem errT_of {W : World} (h : handlesMet Tryz.prog [("errors.errorType", Rows.laid_errors_errorType)] W) : ErrT W := by
  obtain ⟨name, u, ty, e1, e2, e3, e4, e5⟩ := h _ (List.mem_singleton.2 rfl)
  have en : name = [101, 114, 114, 111, 114] := (Option.some.inj e1).symm
  subst en
  obtain rfl := Option.some.inj (rType.symm.trans e2)
  obtain ⟨n, hn, hr⟩ := typesSize
  have hm : ty ∈ (List.range n).filter fun t => Tryz.prog.rowNamed t [101, 114, 114, 111, 114] := List.mem_filter.2 ⟨List.mem_range.2 (by rw [← hn]; exact e3), e4⟩
  rw [hr] at hm
  obtain rfl := List.mem_singleton.1 hm
  rw [hType] at e5
  have hc : W.cell? ⟨0, 0, none⟩ = some (.iface 162 (.agg #[.pointer (some ⟨2, 33, none⟩)])) := by simpa using World.var?_cell gErr e5 0
  refine ⟨hc, ?_⟩
  unfold World.cell? at hc
  split at hc
  · rename_i hh
    exact blk_lt hh
  · cases hc
theorem errT_laid {W : World} (h : laidMetH Tryz.prog Rows.diskPlaysRow.laid W) : ErrT W := errT_of (show handlesMet Tryz.prog [("errors.errorType", Rows.laid_errors_errorType)] W from h.2)
def putV (l : List Value) : Obj → Obj
  | .cells _ t frozen => .cells l.toArray t frozen
  | o => o
/-- A world for the witness: the settled one, the listed variable holding what it is listed with. -/
noncomputable def laidWorld (os : Os) : World :=
  { World.holding Tryz.prog os ⟨#[], #[], []⟩ with heap := (World.holding Tryz.prog os ⟨#[], #[], []⟩).heap.modify 0 (putV [.iface 162 (.agg #[.pointer (some ⟨2, 33, none⟩)])]) }
def witArgs : Array Value := #[.agg #[.int .i64 0, .int .i64 0], .slice none 0 0]
theorem laid_met (os : Os) : laidMetH Tryz.prog Rows.diskPlaysRow.laid ((laidWorld os).forCall (fun _ _ => 0) ⟨#[], witArgs, []⟩).memory :=
  laidMetH_of_parts (laidMet_of_run3 8 (by kernel_rfl) (by kernel_rfl) (by kernel_rfl)) (by kernel_rfl)
theorem reads (os : Os) {H : Type} (enc : TypeId × Value → H) : ∃ places, DataW.whole enc Tryz.prog ((laidWorld os).forCall (fun _ _ => 0) ⟨#[], witArgs, []⟩).memory Tryz.f5.params.toList Rows.diskPlaysSpec.vars false witArgs.toList 8 = some ([.agg [.lit (.int .i64 0), .lit (.int .i64 0)], .nil], [], places) :=
  ⟨[], by kernel_rfl⟩
set_option maxRecDepth 100000 in
theorem open_rooms {H : Type} {enc : TypeId × Value → H} {w : World} {r : Reach} {b0 : Nat} {v : Value} {d : DataW H} {ps : List MemPlace} (hv : Value.okWide Tryz.prog w r b0 55 v) (h : DataW.Trod enc Tryz.prog w 0 (fun _ => true) true 55 v d ps) :
    ∃ x0 x1 : Int, v = .agg #[.int .i64 x0, .int .i64 x1] ∧ (-9223372036854775808 ≤ x0 ∧ x0 ≤ 9223372036854775807) ∧ (-9223372036854775808 ≤ x1 ∧ x1 ≤ 9223372036854775807) := by
  have hu : Tryz.prog.underlying 55 = some (.array 2 3) := by kernel_rfl
  have hcT : Tryz.prog.cellsOf 55 = 2 := by kernel_rfl
  have hcI : Tryz.prog.cellsOf 3 = 1 := by kernel_rfl
  simp only [Value.okWide, hu] at hv
  obtain ⟨⟨cs⟩, rfl, hsz, -⟩ := hv
  rw [hcT] at hsz
  obtain ⟨fuel, hf⟩ := h
  have hf : DataW.trod enc Tryz.prog w 0 (fun _ => true) true fuel 55 cs = some (d, ps) := hf
  match cs, hsz with
  | [a0, a1], _ =>
    cases fuel with
    | zero => simp [DataW.trod] at hf
    | succ fuel =>
      simp only [DataW.trod, hu, hcT, hcI] at hf
      split at hf
      · obtain ⟨xs, hm, hx⟩ := Option.map_eq_some_iff.1 hf
        have hm : List.mapM (fun i => DataW.trod enc Tryz.prog w 0 (fun _ => true) true fuel 3 (List.take 1 (List.drop (i * 1) [a0, a1]))) [0, 1] = some xs := hm
        cases h0 : DataW.trod enc Tryz.prog w 0 (fun _ => true) true fuel 3 [a0] with
        | none =>
          have : List.take 1 (List.drop (0 * 1) [a0, a1]) = [a0] := rfl
          simp [h0] at hm
        | some y0 =>
          cases h1 : DataW.trod enc Tryz.prog w 0 (fun _ => true) true fuel 3 [a1] with
          | none => simp [h0, h1] at hm
          | some y1 =>
            obtain ⟨n0, e0, -, w0⟩ := DataW.trod_int Tryz.underlying3 h0
            obtain ⟨n1, e1, -, w1⟩ := DataW.trod_int Tryz.underlying3 h1
            obtain rfl := (List.cons.inj e0).1
            obtain rfl := (List.cons.inj e1).1
            simp only [Lit.wf, Bool.and_eq_true, decide_eq_true_eq] at w0 w1
            exact ⟨n0, n1, rfl, w0, w1⟩
      · cases hf
set_option maxRecDepth 100000 in
/-- What the walk gives, for every world that holds the variable. -/
theorem contract (H : Type) (enc : TypeId × Value → H) (W : World) (base : Nat) (args : Array Value) (ds gs : List (DataW H)) (before : List MemPlace)
    (hval : ∀ (j : Nat) t v, Tryz.f5.params[j]? = some t → args[j]? = some v → Value.okWide Tryz.prog W .any base t v)
    (hW : DataW.Whole enc Tryz.prog Tryz.f5.params.toList Rows.diskPlaysSpec.vars false W args.toList ds gs before)
    (hwt : (DataW.weightsEach Tryz.prog (Tryz.f5.params.toList ++ (OpenSpec.ofChange Rows.diskPlaysSpec).bare.plain.varTypes Tryz.prog) (ds ++ gs)).all (· ≤ reachBytes) = true)
    (hL : laidMetH Tryz.prog Rows.diskPlaysRow.laid W) :
    Calls Tryz.prog 5 args W fun e W' => ∃ v, e = .returned v ∧ Rows.diskPlaysSpec.post enc Tryz.prog Tryz.f5 false true false false W args v W' := by
  have hW' := hW
  obtain ⟨p, q, hA0, hV, rfl, hfz, hnd⟩ := hW
  have hA : DataW.TrodAll enc Tryz.prog W 0 (fun _ => true) true Tryz.f5.params.toList args.toList ds p := hA0
  rw [Tryz.params5] at hA
  rw [Tryz.params5] at hval hwt
  obtain ⟨v0, v1, d0, d1, q0, q1, rfl, rfl, rfl, h0, h1⟩ := trodAll_two hA
  obtain ⟨rfl, rfl⟩ := trodVars_none hV
  clear hA0
  have hlt0 : ∀ x ∈ q0, x.block < W.heap.size := fun x hx => by simpa using hW'.lt x (by simp [hx])
  have hlt1 : ∀ x ∈ q1, x.block < W.heap.size := fun x hx => by simpa using hW'.lt x (by simp [hx])
  have hw1 : ∀ k ∈ d1.weights Tryz.prog 22, k ≤ 140737488351232 := fun k hk => by
    have := List.all_eq_true.1 hwt k (List.mem_append.2 (.inr (List.mem_append.2 (.inl hk))))
    exact of_decide_eq_true this
  obtain ⟨x0, x1, rfl, b0, b1⟩ := open_rooms (hval 0 55 v0 rfl rfl) h0
  obtain ⟨a1, len1, cap1, rfl⟩ := okWide_slice Tryz.underlying22 (hval 1 22 v1 rfl rfl)
  obtain ⟨fuel1, hf1⟩ := h1
  obtain ⟨l1, k1, bb1⟩ := open_steps hf1
  obtain ⟨n1, g1⟩ := bb1 hw1
  refine (plays_any W (errT_laid hL) x0 x1 _ l1 k1 g1 b0 b1).mono fun e W' ⟨he, hb⟩ => ?_
  subst he
  refine ⟨_, rfl, _, _, _, [], q0 ++ q1, [], hW', ?_, ?_, rfl, hb.frame _, fun h => by cases h⟩
  · exact trodAll_mk1 (shut_bool Tryz.underlying4 true)
  · exact trodAll_mk2 (Below.trod laidOut (by kernel_rfl) (of_decide_eq_true (by kernel_rfl)) h0 hb hlt0) (Below.trod laidOut (by kernel_rfl) (of_decide_eq_true (by kernel_rfl)) ⟨fuel1, hf1⟩ hb hlt1)
set_option maxRecDepth 100000 in
theorem lifted (os : Os) (started : os.Started) (H : Type) (enc : TypeId × Value → H) (F : Stop.Interp) :
    ReturnsInHanded {} Tryz.checked os 5 .any ((OpenSpec.ofChange Rows.diskPlaysSpec).preRow enc Tryz.prog Tryz.f5 Rows.diskPlaysRow.domain false Rows.diskPlaysRow.laid) (((OpenSpec.ofChange Rows.diskPlaysSpec).at F).post enc Tryz.prog Tryz.f5 false true false false) := by
  obtain ⟨places, hx⟩ := reads os enc
  refine returnsInHanded_of_row (C := Tryz.checked) (s := OpenSpec.ofChange Rows.diskPlaysSpec) own started (by kernel_rfl) Tryz.func5
    (witness_row_at (enc := enc) (C := Tryz.checked) false (laidWorld os) witArgs rfl (by kernel_rfl) (by kernel_rfl) (by kernel_rfl)
      (OpenSpec.preRow_of_cond 8 hx (by kernel_rfl) (fun k hk => by cases hk) (by kernel_rfl) (laid_met os))) ?_
  intro W base args ds gs before hval hW _ _ hwt hL _ _
  exact contract H enc W base args ds gs before hval hW hwt hL
theorem said : Rows.DiskPlaysSaid :=
  OpenClaim.holds_of_cond 5 Tryz.f5 rfl rfl rfl rfl rfl rfl rfl ⟨rfl, rfl, rfl, rfl, rfl⟩ rfl rfl rfl rfl rfl (by kernel_rfl) Tryz.func5 (by kernel_rfl)
    (of_decide_eq_true (by kernel_rfl)) (by unfold Func.isWrapper; first | (rw [if_pos (by decide +kernel)]; kernel_rfl) | (rw [if_neg (by decide +kernel)]; exact ⟨rfl, rfl⟩))
    (fun os started H enc _ F => by rw [OpenClaim.pre_eq_preRow]; exact lifted os started H enc F)
/-- There is no parameter; the program's own looks: what the card asks. -/
theorem plain (f : FuncId) (fn : Func) (hf : Tryz.pinned.checked.prog.funcNamed "strata/stratalaw22.DiskPlays" = some f) (hfn : Tryz.pinned.checked.prog.funcs[f]? = some fn) :
    true = Tryz.pinned.checked.prog.looks [] ∧ ∀ (j : Nat) t, fn.params[j]? = some t → Tryz.pinned.checked.prog.wantsStandIn t = false := by
  obtain rfl : f = 5 := Option.some.inj ((show Tryz.prog.funcNamed "strata/stratalaw22.DiskPlays" = some 5 by kernel_rfl).symm.trans hf) |>.symm
  obtain rfl : fn = Tryz.f5 := (Option.some.inj (Tryz.func5.symm.trans hfn)).symm
  refine ⟨by kernel_rfl, fun j t ht => ?_⟩
  rw [Tryz.params5] at ht
  have h := Array.mem_of_getElem? ht
  simp only [List.mem_toArray, List.mem_cons, List.not_mem_nil, or_false] at h
  rcases h with rfl | rfl
  · exact (show Tryz.prog.wantsStandIn 55 = false by kernel_rfl)
  · exact (show Tryz.prog.wantsStandIn 22 = false by kernel_rfl)
/-- The card. -/
theorem diskPlays_holds : Rows.DiskPlaysCardSaid :=
  Claim7.holds_tied_plain_at .later [] _ _ _ _ said (fun _ h => by cases h) (by kernel_rfl) (fun _ h => by cases h) diskPlays_row_tie rfl ⟨rfl, rfl⟩ (by kernel_rfl) rfl plain (by kernel_rfl)
#print axioms diskPlays_holds
end Go.Proofs.YtlcompihcmhbiaaGreatDoor
