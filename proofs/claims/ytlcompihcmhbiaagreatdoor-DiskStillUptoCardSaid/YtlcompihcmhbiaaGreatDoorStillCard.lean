/- DiskStill, where what comes in is of bulk at most 1048576: a failure behind a failure changes nothing; behind it no name is there that was not there since the last flush, or named by what was done since; the card, with the listed package-level variable tied to the program's text. No condition on the input. -/
import Derived.Test.YtlcompihcmhbiaaGreatDoorStill
import Derived.Test.YtlcompihcmhbiaaGreatDoorOpenRow
import Derived.Test.YtlcompihcmhbiaaGreatDoorBulk
import Derived.Test.YtlcompihcmhbiaaGreatDoorCards
import Derived.Test.YtlcompihcmhbiaaGreatDoorTie
import Derived.LaidLaws
import Derived.LaidHandle
import Derived.Deep.DeepHandedRow
import Derived.Deep.DeepLaidRun
namespace Go.Proofs.YtlcompihcmhbiaaGreatDoor
open Go.ChangeShapes Go.WideShapes Go.ChangeAt Go.RowKit
theorem own : ownKnob Tryz.prog.godebug = none := by kernel_rfl
theorem laidOut : laidOutB Tryz.prog = true := by kernel_rfl
theorem gErr : Tryz.prog.globalNamed "errors.errorType" = some 0 := by kernel_rfl
theorem rType : (Tryz.prog.cutTypes.find? (·.1 == "internal/reflectlite.rtype")).map (·.2) = some 162 := by kernel_rfl
theorem typesSize : ∃ n, Tryz.prog.types.size = n ∧ ((List.range n).filter fun t => Tryz.prog.rowNamed t [101, 114, 114, 111, 114]) = [33] := ⟨_, rfl, by kernel_rfl⟩
theorem hType : typeHandle Tryz.prog 33 = .pointer (some ⟨2, 33, none⟩) := by kernel_rfl
/-- What the listed variables give a walk. -/
theorem errT_of {W : World} (h : handlesMet Tryz.prog [("errors.errorType", Rows.laid_errors_errorType)] W) : ErrT W := by
  obtain ⟨name, u, ty, e1, e2, e3, e4, e5⟩ := h _ (List.mem_singleton.2 rfl)
  have en : name = [101, 114, 114, 111, 114] := (Option.some.inj e1).symm
  subst en
  obtain rfl := Option.some.inj (rType.symm.trans e2)
  obtain ⟨n, hn, hr⟩ := typesSize
  have hm : ty ∈ (List.range n).filter fun t => Tryz.prog.rowNamed t [101, 114, 114, 111, 114] := List.mem_filter.2 ⟨List.mem_range.2 (by rw [← hn]; exact e3), e4⟩
  rw [hr] at hm
  obtain rfl := List.mem_singleton.1 hm
  rw [hType] at e5
  have hc : W.cell? ⟨0, 0, none⟩ = some (.iface 162 (.agg #[.pointer (some ⟨2, 33, none⟩)])) := by simpa using World.var?_cell gErr e5 0
  refine ⟨hc, ?_⟩
  unfold World.cell? at hc
  split at hc
  · rename_i hh
    exact blk_lt hh
  · cases hc
theorem errT_laid {W : World} (h : laidMetH Tryz.prog Rows.diskStillUptoRow.laid W) : ErrT W := errT_of (show handlesMet Tryz.prog [("errors.errorType", Rows.laid_errors_errorType)] W from h.2)
def putV (l : List Value) : Obj → Obj
  | .cells _ t frozen => .cells l.toArray t frozen
  | o => o
/-- A world for the witness: the settled one, the listed variable holding what it is listed with. -/
noncomputable def laidWorld (os : Os) : World :=
  { World.holding Tryz.prog os ⟨#[], #[], []⟩ with heap := (World.holding Tryz.prog os ⟨#[], #[], []⟩).heap.modify 0 (putV [.iface 162 (.agg #[.pointer (some ⟨2, 33, none⟩)])]) }
set_option maxRecDepth 100000 in
/-- The argument. -/
theorem row_bulk {H : Type} {enc : TypeId × Value → H} {w : World} {t e : TypeId} (ht : Tryz.prog.underlying t = some (.slice e)) {n : Nat} {v : Value} {x : DataW H × List MemPlace} (h : DataW.trod enc Tryz.prog w 0 (fun _ => true) true n t [v] = some x) :
    ∃ p len cap, v = .slice p len cap ∧ len ≤ Rows.uptoBulk x.1 := by
  rcases Go.Deep.open_slice ht h with ⟨h0, -⟩ | ⟨a', len, cap, m, n', D, Pl, hcs, -, hl, hm, hmm, hx, hi⟩
  · have e : v = .slice none 0 0 := by simpa using h0
    exact ⟨none, 0, 0, e, Nat.zero_le _⟩
  · have e : v = .slice (some a') len cap := by simpa using hcs
    refine ⟨_, _, _, e, ?_⟩
    have hb := bulks.slice_le (H := H) ((List.range len).map D) ((List.range (m - len)).map fun j => D (len + j))
    rw [List.length_map, List.length_range] at hb
    rw [hx]
    show len ≤ Rows.uptoBulk (.slice ((List.range len).map D) ((List.range (m - len)).map fun j => D (len + j)))
    omega
set_option maxRecDepth 100000 in
theorem open_still {H : Type} {enc : TypeId × Value → H} {w : World} {r : Reach} {b0 : Nat} {v : Value} {d : DataW H} {ps : List MemPlace} (hv : Value.okWide Tryz.prog w r b0 53 v) (h : DataW.Trod enc Tryz.prog w 0 (fun _ => true) true 53 v d ps) :
    ∃ (v1 v2 v3 v4 : Value) (l1 l2 : List StepM) (ks1 ks2 : List Int), v = .agg #[v1, v2, v3, v4] ∧ StepsAt w v1 l1 ∧ StepsAt w v2 l2 ∧ IntsRd (fun b => w.heap.size ≤ b) w v3 ks1 ∧ IntsRd (fun b => w.heap.size ≤ b) w v4 ks2 ∧
      ((∀ k ∈ d.weights Tryz.prog 53, k ≤ 140737488351232) → (∀ m ∈ l1, m.Fits) ∧ (∀ m ∈ l2, m.Fits)) ∧ l1.length ≤ Rows.uptoBulk d ∧ l2.length ≤ Rows.uptoBulk d := by
  obtain ⟨cs, rfl, hsz⟩ := okWide_struct Tryz.underlying53 hv
  obtain ⟨fuel, hf⟩ := h
  have hf0 : DataW.trod enc Tryz.prog w 0 (fun _ => true) true fuel 53 cs.toList = some (d, ps) := hf
  obtain ⟨xs, n1, rfl, hx, hl, hxl, hff⟩ := DataW.trod_struct Tryz.underlying53 hf0
  have hcM : Tryz.prog.cellsOf 53 = 4 := by kernel_rfl
  have hcS : Tryz.prog.cellsOf 22 = 1 := by kernel_rfl
  have hcF : Tryz.prog.cellsOf 26 = 1 := by kernel_rfl
  rw [hcM] at hl
  obtain ⟨a0, a1, a2, a3, hcs⟩ := ln4 hl
  obtain ⟨y0, y1, y2, y3, rfl⟩ := ln4 hxl
  obtain ⟨cl⟩ := cs
  have hcl : cl = [a0, a1, a2, a3] := hcs
  subst hcl
  have h0 := hff 0 _ rfl
  have h1 := hff 1 _ rfl
  have h2 := hff 2 _ rfl
  have h3 := hff 3 _ rfl
  simp only [List.getElem_toArray, List.getElem_cons_zero, List.getElem_cons_succ, hcS, hcF, List.drop_zero, List.drop_succ_cons, List.take_succ_cons, List.take_zero, List.getElem?_cons_zero, List.getElem?_cons_succ] at h0 h1 h2 h3
  obtain ⟨l1, k1, b1⟩ := open_steps h0
  obtain ⟨l2, k2, b2⟩ := open_steps h1
  obtain ⟨kv3, ks1, e5, k3, -⟩ := open_fate h2
  obtain ⟨kv4, ks2, e6, k4, -⟩ := open_fate h3
  obtain rfl : a2 = kv3 := (List.cons.inj e5).1
  obtain rfl : a3 = kv4 := (List.cons.inj e6).1
  obtain ⟨hd, -⟩ := Prod.mk.inj hx
  subst hd
  refine ⟨a0, a1, a2, a3, l1, l2, ks1, ks2, rfl, k1, k2, k3, k4, fun hB => ?_, ?_, ?_⟩
  · have hB' : ∀ k ∈ (DataW.agg [y0.1, y1.1, y2.1, y3.1]).weights Tryz.prog 53, k ≤ 140737488351232 := hB
    simp only [DataW.weights, DataW.weightsEach, Tryz.underlying53, List.map_cons, List.map_nil, List.append_nil, List.mem_append] at hB'
    exact ⟨(b1 (fun k hk => hB' k (.inl hk))).2, (b2 (fun k hk => hB' k (.inr (.inl hk)))).2⟩
  · obtain ⟨p, len, cap, e, hle⟩ := row_bulk Tryz.underlying22 h0
    obtain ⟨p', cap', e', -⟩ := k1
    rw [e'] at e
    cases e
    refine Nat.le_trans hle ?_
    show _ ≤ Rows.uptoBulk (DataW.agg [y0.1, y1.1, y2.1, y3.1])
    simp only [Rows.uptoBulk, Rows.uptoBulkAll]
    omega
  · obtain ⟨p, len, cap, e, hle⟩ := row_bulk Tryz.underlying22 h1
    obtain ⟨p', cap', e', -⟩ := k2
    rw [e'] at e
    cases e
    refine Nat.le_trans hle ?_
    show _ ≤ Rows.uptoBulk (DataW.agg [y0.1, y1.1, y2.1, y3.1])
    simp only [Rows.uptoBulk, Rows.uptoBulkAll]
    omega
def witArgs : Array Value := #[.agg #[.slice none 0 0, .slice none 0 0, .slice none 0 0, .slice none 0 0]]
theorem laid_met (os : Os) : laidMetH Tryz.prog Rows.diskStillUptoRow.laid ((laidWorld os).forCall (fun _ _ => 0) ⟨#[], witArgs, []⟩).memory :=
  laidMetH_of_parts (laidMet_of_run3 8 (by kernel_rfl) (by kernel_rfl) (by kernel_rfl)) (by kernel_rfl)
theorem reads (os : Os) {H : Type} (enc : TypeId × Value → H) : ∃ places, DataW.whole enc Tryz.prog ((laidWorld os).forCall (fun _ _ => 0) ⟨#[], witArgs, []⟩).memory Tryz.f4.params.toList Rows.diskStillSpec.vars false witArgs.toList 8 = some ([.agg [.nil, .nil, .agg [.nil], .agg [.nil]]], [], places) :=
  ⟨[], by kernel_rfl⟩
set_option maxRecDepth 100000 in
/-- What the walk gives, for every world that holds the variable. -/
theorem contract (H : Type) (enc : TypeId × Value → H) (W : World) (base : Nat) (args : Array Value) (ds gs : List (DataW H)) (before : List MemPlace)
    (hval : ∀ (j : Nat) t v, Tryz.f4.params[j]? = some t → args[j]? = some v → Value.okWide Tryz.prog W .any base t v)
    (hW : DataW.Whole enc Tryz.prog Tryz.f4.params.toList Rows.diskStillSpec.vars false W args.toList ds gs before)
    (hwt : (DataW.weightsEach Tryz.prog (Tryz.f4.params.toList ++ (OpenSpec.ofChange Rows.diskStillSpec).bare.plain.varTypes Tryz.prog) (ds ++ gs)).all (· ≤ reachBytes) = true)
    (hk : Rows.uptoSmall H (ds ++ gs) = true) (hL : laidMetH Tryz.prog Rows.diskStillUptoRow.laid W) :
    Calls Tryz.prog 4 args W fun e W' => ∃ v, e = .returned v ∧ Rows.diskStillSpec.post enc Tryz.prog Tryz.f4 false true false false W args v W' := by
  have hW' := hW
  obtain ⟨p, q, hA0, hV, rfl, hfz, hnd⟩ := hW
  have hA : DataW.TrodAll enc Tryz.prog W 0 (fun _ => true) true Tryz.f4.params.toList args.toList ds p := hA0
  rw [Tryz.params4] at hA
  rw [Tryz.params4] at hval hwt
  obtain ⟨v0, d0, rfl, rfl, h0⟩ := trodAll_one hA
  obtain ⟨rfl, rfl⟩ := trodVars_none hV
  clear hA0
  have hlt0 : ∀ x ∈ p, x.block < W.heap.size := fun x hx => by simpa using hW'.lt x (by simp [hx])
  have hw0 : ∀ k ∈ d0.weights Tryz.prog 53, k ≤ 140737488351232 := fun k hk => by
    have := List.all_eq_true.1 hwt k (List.mem_append.2 (.inl hk))
    exact of_decide_eq_true this
  obtain ⟨v1, v2, v3, v4, l1, l2, ks1, ks2, rfl, k1, k2, k3, k4, hB, n1, n2⟩ := open_still (hval 0 53 v0 rfl rfl) h0
  obtain ⟨g1, g2⟩ := hB hw0
  have hbk : Rows.uptoBulk d0 ≤ 1048576 := by
    have h : Rows.uptoBulkAll [d0] ≤ 1048576 := of_decide_eq_true hk
    simp only [Rows.uptoBulkAll] at h
    omega
  refine (still_any W (errT_laid hL) v1 v2 v3 v4 l1 l2 ks1 ks2 k1 k2 k3 k4 (Nat.le_trans n1 hbk) (Nat.le_trans n2 hbk) g1 g2).mono fun e W' ⟨he, hb⟩ => ?_
  subst he
  refine ⟨_, rfl, _, _, _, [], p, [], hW', ?_, ?_, rfl, hb.frame _, fun h => by cases h⟩
  · exact trodAll_mk1 (shut_bool Tryz.underlying4 true)
  · exact trodAll_mk1 (Below.trod laidOut (by kernel_rfl) (of_decide_eq_true (by kernel_rfl)) h0 hb hlt0)
set_option maxRecDepth 100000 in
theorem lifted (os : Os) (started : os.Started) (H : Type) (enc : TypeId × Value → H) (F : Stop.Interp) :
    ReturnsInHanded {} Tryz.checked os 4 .any ((Rows.OpenSpec.upto Rows.diskStillSpec).preRow enc Tryz.prog Tryz.f4 Rows.diskStillUptoRow.domain false Rows.diskStillUptoRow.laid) (((Rows.OpenSpec.upto Rows.diskStillSpec).at F).post enc Tryz.prog Tryz.f4 false true false false) := by
  obtain ⟨places, hx⟩ := reads os enc
  refine returnsInHanded_of_row (C := Tryz.checked) (s := Rows.OpenSpec.upto Rows.diskStillSpec) own started (by kernel_rfl) Tryz.func4
    (witness_row_at (enc := enc) (C := Tryz.checked) false (laidWorld os) witArgs rfl (by kernel_rfl) (by kernel_rfl) (by kernel_rfl)
      (OpenSpec.preRow_of_cond 8 hx (by kernel_rfl) (fun k hk => by cases hk; kernel_rfl) (by kernel_rfl) (laid_met os))) ?_
  intro W base args ds gs before hval hW _ hcond hwt hL _ _
  exact contract H enc W base args ds gs before hval hW hwt (hcond _ rfl) hL
theorem said : Rows.DiskStillUptoSaid :=
  OpenClaim.holds_of_cond 4 Tryz.f4 rfl rfl rfl rfl rfl rfl rfl ⟨rfl, rfl, rfl, rfl, rfl⟩ rfl rfl rfl rfl rfl (by kernel_rfl) Tryz.func4 (by kernel_rfl)
    (of_decide_eq_true (by kernel_rfl)) (by unfold Func.isWrapper; first | (rw [if_pos (by decide +kernel)]; kernel_rfl) | (rw [if_neg (by decide +kernel)]; exact ⟨rfl, rfl⟩))
    (fun os started H enc _ F => by rw [OpenClaim.pre_eq_preRow]; exact lifted os started H enc F)
/-- There is no parameter; the program's own looks: what the card asks. -/
theorem plain (f : FuncId) (fn : Func) (hf : Tryz.pinned.checked.prog.funcNamed "strata/stratalaw22.DiskStill" = some f) (hfn : Tryz.pinned.checked.prog.funcs[f]? = some fn) :
    true = Tryz.pinned.checked.prog.looks [] ∧ ∀ (j : Nat) t, fn.params[j]? = some t → Tryz.pinned.checked.prog.wantsStandIn t = false := by
  obtain rfl : f = 4 := Option.some.inj ((show Tryz.prog.funcNamed "strata/stratalaw22.DiskStill" = some 4 by kernel_rfl).symm.trans hf) |>.symm
  obtain rfl : fn = Tryz.f4 := (Option.some.inj (Tryz.func4.symm.trans hfn)).symm
  refine ⟨by kernel_rfl, fun j t ht => ?_⟩
  rw [Tryz.params4] at ht
  have h := Array.mem_of_getElem? ht
  simp only [List.mem_toArray, List.mem_cons, List.not_mem_nil, or_false] at h
  subst h
  exact (show Tryz.prog.wantsStandIn 53 = false by kernel_rfl)
/-- The card. -/
theorem diskStill_holds : Rows.DiskStillUptoCardSaid :=
  Claim7.holds_tied_plain_at .later [] _ _ _ _ said (fun _ h => by cases h) (by kernel_rfl) (fun _ h => by cases h) diskStillUpto_row_tie rfl ⟨rfl, rfl⟩ (by kernel_rfl) rfl plain (by kernel_rfl)
#print axioms diskStill_holds
end Go.Proofs.YtlcompihcmhbiaaGreatDoor
