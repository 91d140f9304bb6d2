/- Texts of the seat, one behind the other: FreeMake, RefDec, FreeTurn, Member. -/
import Derived.StillTail
import Derived.StillTactics
import Derived.WalkKit
import Derived.Test.YthpmocfdnoehoaaGreatDoorM2
import Derived.Test.YthpmocfdnoehoaaGreatDoorM1
import Derived.StillTailTactics
/- Laws on regions that draw their order: every operation is still, or calls a function that keeps what the others read; and one operation may make a block. -/
namespace Go.Proofs.YthpmocfdnoehoaaGreatDoor
open Go
section
variable {P : Program} {ops : Array Oper} {md : Region.Mode} {Inv : World → Prop}
/-- Operation o gives v in every world that Inv holds of, and leaves such a world. -/
def Yi (P : Program) (ops : Array Oper) (Inv : World → Prop) (o : Oper) (v : Value) (a : Act) : Prop :=
  (Region.wanted o (yielded ops a.tmps) = true ∧ ∀ W, Inv W → ((execOp a.eval o).run P W = .ok (.value v) W ∨ ∃ f args, (execOp a.eval o).run P W = .ok (.enter f args) W ∧ Calls P f args W fun e W' => e = .returned v ∧ Inv W')) ∨
  (Region.wanted o (yielded ops a.tmps) = false ∧ v = undef)
theorem Yi.of_same {o : Oper} {v : Value} {a a' : Act} (h : Yi P ops Inv o v a) (he : execOp a'.eval o = execOp a.eval o) (hw : Region.wanted o (yielded ops a'.tmps) = Region.wanted o (yielded ops a.tmps)) : Yi P ops Inv o v a' := by
  unfold Yi at *
  rw [he, hw]
  exact h
theorem Yi.keep {oi oj : Oper} {v u : Value} {a : Act} (hap : oi.apart ops oj = true) (hsi : ∀ cs b, oi.op ≠ .select cs b)
    (h : Yi P ops Inv oi v a) : Yi P ops Inv oi v (a.put oj.dst u) := by
  obtain ⟨_, _, h3⟩ := Oper.apart_spec hap
  exact h.of_same (execOp_put oi hsi a oj.dst u h3) (wanted_put oi a oj.dst u h3)
theorem Yi.back {oi oj : Oper} {v u : Value} {a : Act} (hap : oi.apart ops oj = true) (hsj : ∀ cs b, oj.op ≠ .select cs b)
    (h : Yi P ops Inv oj u (a.put oi.dst v)) : Yi P ops Inv oj u a := by
  obtain ⟨h1, _, _⟩ := Oper.apart_spec hap
  exact h.of_same (execOp_put oj hsj a oi.dst v h1).symm (wanted_put oj a oi.dst v h1).symm
def wpAnyI (P : Program) (md : Region.Mode) (ops : Array Oper) (Inv : World → Prop) (n : Nat) (L : Array Bool → Act → Prop) : Nat → Array Bool → Act → Prop
  | 0, listed, a => L listed a
  | f + 1, listed, a => Region.ready md ops listed ≠ [] ∧ ∀ i ∈ Region.ready md ops listed, i < n ∧ ∃ o v, ops[i]? = some o ∧ Yi P ops Inv o v a ∧
      wpAnyI P md ops Inv n L f (listed.setIfInBounds i true) (a.put o.dst v)
theorem wpAnyI_first {n i : Nat} {oi : Oper} {v : Value} {L : Array Bool → Act → Prop} (hi : ops[i]? = some oi) (hsel : ∀ (j : Nat) (o : Oper) cs b, ops[j]? = some o → o.op ≠ .select cs b)
    (hs : Region.sinkB md ops n = true) (hc : Region.chainB md ops n = true) (hn : n < ops.size) (hin : i < n)
    (hdone : ∀ listed a, L listed a → ∀ j ∈ Region.ready md ops listed, n ≤ j) :
    ∀ (f : Nat) (listed : Array Bool) (a : Act), HeadInv md ops n listed →
      (∀ j oj, ops[j]? = some oj → j ≠ i → listed.getD j true = false → (∀ e ∈ oj.after, Region.binds md e = true → e.on ≠ i) → oi.apart ops oj = true) →
      i ∈ Region.ready md ops listed → Yi P ops Inv oi v a →
      wpAnyI P md ops Inv n L f (listed.setIfInBounds i true) (a.put oi.dst v) → wpAnyI P md ops Inv n L (f + 1) listed a := by
  intro f
  induction f with
  | zero =>
    intro listed a inv _ hr hy H
    have hun := (mem_ready.1 hr).1
    refine ⟨fun h => (by rw [h] at hr; cases hr), fun j hj => ?_⟩
    have hjn : j < n := by
      rcases Nat.lt_or_ge j n with h | h
      · exact h
      · exact absurd hj (tail_waits hs hc hn inv _ i rfl hin hun j h)
    refine ⟨hjn, ?_⟩
    by_cases hji : j = i
    · subst hji; exact ⟨oi, v, hi, hy, H⟩
    · have := hdone _ _ H j (ready_mono hj hji)
      omega
  | succ f ih =>
    intro listed a inv hfree hr hy H
    have hun := (mem_ready.1 hr).1
    refine ⟨fun h => (by rw [h] at hr; cases hr), fun j hj => ?_⟩
    have hjn : j < n := by
      rcases Nat.lt_or_ge j n with h | h
      · exact h
      · exact absurd hj (tail_waits hs hc hn inv _ i rfl hin hun j h)
    refine ⟨hjn, ?_⟩
    by_cases hji : j = i
    · subst hji; exact ⟨oi, v, hi, hy, H⟩
    · obtain ⟨oj', u, hoj', hyj, hK⟩ := (H.2 j (ready_mono hj hji)).2
      obtain ⟨hjun, oj, hoj, hall⟩ := mem_ready.1 hj
      obtain rfl : oj' = oj := Option.some.inj (hoj'.symm.trans hoj)
      have hnot : ∀ e ∈ oj'.after, Region.binds md e = true → e.on ≠ i := fun e he hb heq => by
        have h1 := hall e he hb
        rw [heq, getD_both hun] at h1
        cases h1
      have hap := hfree j oj' hoj hji hjun hnot
      obtain ⟨_, h2, _⟩ := Oper.apart_spec hap
      have hfree' : ∀ k ok, ops[k]? = some ok → k ≠ i → (listed.setIfInBounds j true).getD k true = false →
          (∀ e ∈ ok.after, Region.binds md e = true → e.on ≠ i) → oi.apart ops ok = true := fun k ok hk hki hun hno => by
        refine hfree k ok hk hki ?_ hno
        by_cases hjk : j = k
        · subst hjk; exact hjun
        · rw [getD_set_ne true hjk] at hun; exact hun
      refine ⟨oj', u, hoj, hyj.back hap (fun cs b => hsel j oj' cs b hoj), ih (listed.setIfInBounds j true) _ (inv.set hj hjn) hfree' (ready_mono hr (Ne.symm hji)) (hy.keep hap (fun cs b => hsel i oi cs b hi)) ?_⟩
      rw [Array.setIfInBounds_comm _ _ hji, ← Act.put_comm a v u h2]
      exact hK
/-- The operations in the text's order, from number k on. -/
def wpLexI (P : Program) (ops : Array Oper) (Inv : World → Prop) (Q : Act → Prop) : Nat → List Oper → Act → Prop
  | _, [], a => Q a
  | k, o :: l, a => ∃ v, Yi P ops Inv o v a ∧ wpLexI P ops Inv Q (k + 1) l (a.put o.dst v)
theorem wpAnyI_lex {n g : Nat} {Lq : Act → Prop} (hsel : Region.noSelect ops = true) (hs : Region.sinkB md ops n = true) (hc : Region.chainB md ops n = true) (hn : n < ops.size) :
    ∀ (l : List Oper) (k : Nat) (listed : Array Bool) (a : Act), (∀ j, j < l.length → l[j]? = ops[k + j]?) → k + l.length = n → HeadInv md ops n listed →
    Region.lexHead md ops g l.length k listed = true → wpLexI P ops Inv Lq k l a →
    wpAnyI P md ops Inv n (fun listed' a' => Region.seqB md ops g n listed' = true ∧ Lq a') l.length listed a
  | [], k, listed, a, _, hk, _, hB, h => by
    have : k = n := by simpa using hk
    subst this
    exact ⟨by simpa [Region.lexHead] using hB, h⟩
  | o :: l, k, listed, a, hl, hk, inv, hB, h => by
    have h0 : ops[k]? = some o := by simpa using (hl 0 (by simp)).symm
    simp only [List.length_cons, Region.lexHead, Bool.and_eq_true] at hB
    obtain ⟨⟨hr, hf⟩, hB'⟩ := hB
    have hkn : k < n := by simp only [List.length_cons] at hk; omega
    have hr' : k ∈ Region.ready md ops listed := by simpa using hr
    obtain ⟨v, hy, hK⟩ := h
    exact wpAnyI_first h0 (Region.noSelect_spec hsel) hs hc hn hkn (fun listed' a' hL => seqB_ready hL.1) l.length listed a inv (Region.free_spec h0 hf) hr' hy
      (wpAnyI_lex hsel hs hc hn l (k + 1) _ _ (fun j hj => by have := hl (j + 1) (by simp; omega); simpa [Nat.add_assoc, Nat.add_comm 1 j] using this) (by simp only [List.length_cons] at hk; omega) (inv.set hr' hkn) hB' hK)
theorem wpAny_of_I {n g : Nat} {L : Array Bool → Act → Prop} {Q' : Exit → Act → World → Prop}
    (hL : ∀ listed a W, Inv W → L listed a → wpAny P md ops Q' g listed a W) :
    ∀ (f : Nat) (listed : Array Bool) (a : Act) (W : World), Inv W → wpAnyI P md ops Inv n L f listed a → wpAny P md ops Q' (f + g) listed a W
  | 0, listed, a, W, hI, h => by rw [Nat.zero_add]; exact hL _ _ _ hI h
  | f + 1, listed, a, W, hI, h => by
    rw [show f + 1 + g = (f + g) + 1 by omega]
    refine ⟨fun h0 => absurd h0 h.1, fun i hi => ?_⟩
    obtain ⟨_, o, v, ho, hy, hK⟩ := h.2 i hi
    unfold wpOp
    simp only [ho]
    rcases hy with ⟨hw, hrun⟩ | ⟨hw, rfl⟩
    · rw [if_pos hw]
      left
      unfold Oper.wp
      rcases hrun W hI with hr | ⟨fn, args, hr, hc⟩
      · rw [hr]
        exact wpAny_of_I hL f _ _ W hI hK
      · rw [hr]
        refine Calls.mono hc fun e W' ⟨he, hI'⟩ => ?_
        subst he
        exact wpAny_of_I hL f _ _ W' hI' hK
    · rw [if_neg (by simp [hw])]
      exact wpAny_of_I hL f _ _ W hI hK
theorem yi_still {o : Oper} {v : Value} {a : Act} (hg : o.guard = none) (h : ∀ W, Inv W → (execOp a.eval o).run P W = .ok (.value v) W) : Yi P ops Inv o v a :=
  .inl ⟨by simp [Region.wanted, hg], fun W hI => .inl (h W hI)⟩
theorem yi_call {o : Oper} {v : Value} {a : Act} {f : FuncId} {args : Array Value} (hg : o.guard = none) (h : ∀ W, Inv W → (execOp a.eval o).run P W = .ok (.enter f args) W)
    (hc : ∀ W, Inv W → Calls P f args W fun e W' => e = .returned v ∧ Inv W') : Yi P ops Inv o v a :=
  .inl ⟨by simp [Region.wanted, hg], fun W hI => .inr ⟨f, args, h W hI, hc W hI⟩⟩
/-- The law: n operations ahead of a forced tail; the tail is walked in any world that Inv holds of. -/
theorem wp_region_inv {id : Nat} {Q : Exit → Act → World → Prop} {a : Act} {w : World} {l : List Oper} (Inv : World → Prop) (n : Nat) (hm : P.follows .mixedOrders = true) (hB : Region.lexTailB .any l.toArray n = true) (h0 : Inv w.drew)
    (h : wpLexI P l.toArray Inv (fun a' => ∀ W, Inv W → wpList P l.toArray Q (l.drop n) a' W) 0 (l.take n) a) : (Code.region id l.toArray true).wp P Q a w := by
  simp only [Region.lexTailB, Bool.and_eq_true, decide_eq_true_eq] at hB
  obtain ⟨⟨⟨⟨hsel, hn⟩, hs⟩, hc⟩, hlex⟩ := hB
  have hn' : n < l.length := by simpa using hn
  have htl : (l.take n).length = n := by simp; omega
  have hdl : (l.drop n).length = l.toArray.size - n := by simp
  have inv0 : HeadInv .any l.toArray n (Array.replicate l.toArray.size false) :=
    ⟨by simp, fun j oj _ hl => (by rw [getD_replicate_false] at hl; cases hl), fun t _ ht => getD_in (by simpa using ht) (getD_replicate_false _ _)⟩
  have H := wpAnyI_lex (md := .any) (g := l.toArray.size - n) hsel hs hc hn (l.take n) 0 _ a (fun j hj => by
    have hj' : j < n := by rw [htl] at hj; exact hj
    simp [hj']) (by simpa using htl) inv0 (by rw [htl]; exact hlex) h
  refine wp_region_any hm ?_
  have := wpAny_of_I (Q' := Q) (g := l.toArray.size - n) (ops := l.toArray) (fun listed a' W hI hL => by
    have h1 := wpAny_of_seq (md := .any) (Q' := Q) (l.drop n) n listed a' W (fun j => by simp [List.getElem?_drop]) (by rw [hdl]; exact hL.1) (hL.2 W hI)
    rw [hdl] at h1
    exact h1) _ _ _ w.drew h0 H
  rw [htl, show n + (l.toArray.size - n) = l.toArray.size by omega] at this
  exact this
end
section
variable {P : Program} {ops : Array Oper} {md : Region.Mode} {Inv : World → Prop} {InvB : Nat → World → Prop} {A : Nat} {mk : Nat → Value}
/-- Operation o gives v in every world that Inv holds of, leaves such a world, and the block, if it is made, as it was. -/
def Yg (P : Program) (ops : Array Oper) (Inv : World → Prop) (InvB : Nat → World → Prop) (o : Oper) (v : Value) (a : Act) : Prop :=
  (Region.wanted o (yielded ops a.tmps) = true ∧ ∀ W, Inv W → ((execOp a.eval o).run P W = .ok (.value v) W ∨ ∃ f args, (execOp a.eval o).run P W = .ok (.enter f args) W ∧ Calls P f args W fun e W' => e = .returned v ∧ Inv W' ∧ ∀ b, InvB b W → InvB b W')) ∨
  (Region.wanted o (yielded ops a.tmps) = false ∧ v = undef)
theorem Yg.of_same {o : Oper} {v : Value} {a a' : Act} (h : Yg P ops Inv InvB o v a) (he : execOp a'.eval o = execOp a.eval o) (hw : Region.wanted o (yielded ops a'.tmps) = Region.wanted o (yielded ops a.tmps)) : Yg P ops Inv InvB o v a' := by
  unfold Yg at *
  rw [he, hw]
  exact h
theorem Yg.keep {oi oj : Oper} {v u : Value} {a : Act} (hap : oi.apart ops oj = true) (hsi : ∀ cs b, oi.op ≠ .select cs b)
    (h : Yg P ops Inv InvB oi v a) : Yg P ops Inv InvB oi v (a.put oj.dst u) := by
  obtain ⟨_, _, h3⟩ := Oper.apart_spec hap
  exact h.of_same (execOp_put oi hsi a oj.dst u h3) (wanted_put oi a oj.dst u h3)
theorem Yg.back {oi oj : Oper} {v u : Value} {a : Act} (hap : oi.apart ops oj = true) (hsj : ∀ cs b, oj.op ≠ .select cs b)
    (h : Yg P ops Inv InvB oj u (a.put oi.dst v)) : Yg P ops Inv InvB oj u a := by
  obtain ⟨h1, _, _⟩ := Oper.apart_spec hap
  exact h.of_same (execOp_put oj hsj a oi.dst v h1).symm (wanted_put oj a oi.dst v h1).symm
theorem Yg.inv {o : Oper} {v : Value} {a : Act} (h : Yg P ops Inv InvB o v a) : Yi P ops Inv o v a := by
  rcases h with ⟨hw, h⟩ | h
  · refine .inl ⟨hw, fun W hI => ?_⟩
    rcases h W hI with h1 | ⟨f, args, h1, h2⟩
    · exact .inl h1
    · exact .inr ⟨f, args, h1, Calls.mono h2 fun _ _ ⟨e, i, _⟩ => ⟨e, i⟩⟩
  · exact .inr h
theorem Yg.invB (hsub : ∀ b W, InvB b W → Inv W) {o : Oper} {v : Value} {a : Act} (h : Yg P ops Inv InvB o v a) (b : Nat) : Yi P ops (InvB b) o v a := by
  rcases h with ⟨hw, h⟩ | h
  · refine .inl ⟨hw, fun W hI => ?_⟩
    rcases h W (hsub b W hI) with h1 | ⟨f, args, h1, h2⟩
    · exact .inl h1
    · exact .inr ⟨f, args, h1, Calls.mono h2 fun _ _ ⟨e, _, i⟩ => ⟨e, i b hI⟩⟩
  · exact .inr h
/-- The operation that makes the block. -/
def Ya (P : Program) (Inv : World → Prop) (InvB : Nat → World → Prop) (mk : Nat → Value) (o : Oper) (a : Act) : Prop :=
  o.guard = none ∧ ∀ W, Inv W → ∃ b W', (execOp a.eval o).run P W = .ok (.value (mk b)) W' ∧ InvB b W'
theorem Ya.of_same {o : Oper} {a a' : Act} (h : Ya P Inv InvB mk o a) (he : execOp a'.eval o = execOp a.eval o) : Ya P Inv InvB mk o a' := by
  unfold Ya at *
  rw [he]
  exact h
/-- One step behind the block's making: the value hangs on the block only where the operation waits for it. -/
def Ys (P : Program) (md : Region.Mode) (ops : Array Oper) (Inv : World → Prop) (InvB : Nat → World → Prop) (A i : Nat) (o : Oper) (v : Nat → Value) (a : Nat → Act) : Prop :=
  (∃ u, v = (fun _ => u) ∧ ∀ b, Yg P ops Inv InvB o u (a b)) ∨ (Region.waitsFor md ops i A = true ∧ ∀ b, Yi P ops (InvB b) o (v b) (a b))
theorem Ys.keep {i : Nat} {oi oj : Oper} {v u : Nat → Value} {a : Nat → Act} (hap : oi.apart ops oj = true) (hsi : ∀ cs b, oi.op ≠ .select cs b)
    (h : Ys P md ops Inv InvB A i oi v a) : Ys P md ops Inv InvB A i oi v (fun b => (a b).put oj.dst (u b)) := by
  rcases h with ⟨x, hx, hy⟩ | ⟨hw, hy⟩
  · exact .inl ⟨x, hx, fun b => (hy b).keep hap hsi⟩
  · exact .inr ⟨hw, fun b => (hy b).keep hap hsi⟩
theorem Ys.back {j : Nat} {oi oj : Oper} {v u : Nat → Value} {a : Nat → Act} (hap : oi.apart ops oj = true) (hsj : ∀ cs b, oj.op ≠ .select cs b)
    (h : Ys P md ops Inv InvB A j oj u (fun b => (a b).put oi.dst (v b))) : Ys P md ops Inv InvB A j oj u a := by
  rcases h with ⟨x, hx, hy⟩ | ⟨hw, hy⟩
  · exact .inl ⟨x, hx, fun b => (hy b).back hap hsj⟩
  · exact .inr ⟨hw, fun b => (hy b).back hap hsj⟩
/-- Every order behind the block's making. -/
def wpT1 (P : Program) (md : Region.Mode) (ops : Array Oper) (Inv : World → Prop) (InvB : Nat → World → Prop) (A n : Nat) (L : Array Bool → (Nat → Act) → Prop) : Nat → Array Bool → (Nat → Act) → Prop
  | 0, listed, a => L listed a
  | f + 1, listed, a => Region.ready md ops listed ≠ [] ∧ ∀ i ∈ Region.ready md ops listed, i < n ∧ ∃ o v, ops[i]? = some o ∧ Ys P md ops Inv InvB A i o v a ∧
      wpT1 P md ops Inv InvB A n L f (listed.setIfInBounds i true) (fun b => (a b).put o.dst (v b))
/-- Every order. -/
def wpT0 (P : Program) (md : Region.Mode) (ops : Array Oper) (Inv : World → Prop) (InvB : Nat → World → Prop) (A : Nat) (mk : Nat → Value) (n : Nat) (L : Array Bool → (Nat → Act) → Prop) : Nat → Array Bool → Act → Prop
  | 0, _, _ => False
  | f + 1, listed, a => Region.ready md ops listed ≠ [] ∧ ∀ i ∈ Region.ready md ops listed, i < n ∧ ∃ o, ops[i]? = some o ∧
      ((i = A ∧ Ya P Inv InvB mk o a ∧ wpT1 P md ops Inv InvB A n L f (listed.setIfInBounds i true) (fun b => a.put o.dst (mk b))) ∨
       (i ≠ A ∧ ∃ v, Yg P ops Inv InvB o v a ∧ wpT0 P md ops Inv InvB A mk n L f (listed.setIfInBounds i true) (a.put o.dst v)))
theorem wpT1_first {n i : Nat} {oi : Oper} {v : Nat → Value} {L : Array Bool → (Nat → Act) → Prop} (hi : ops[i]? = some oi) (hsel : ∀ (j : Nat) (o : Oper) cs b, ops[j]? = some o → o.op ≠ .select cs b)
    (hs : Region.sinkB md ops n = true) (hc : Region.chainB md ops n = true) (hn : n < ops.size) (hin : i < n)
    (hdone : ∀ listed a, L listed a → ∀ j ∈ Region.ready md ops listed, n ≤ j) :
    ∀ (f : Nat) (listed : Array Bool) (a : Nat → Act), HeadInv md ops n listed →
      (∀ j oj, ops[j]? = some oj → j ≠ i → listed.getD j true = false → (∀ e ∈ oj.after, Region.binds md e = true → e.on ≠ i) → oi.apart ops oj = true) →
      i ∈ Region.ready md ops listed → Ys P md ops Inv InvB A i oi v a →
      wpT1 P md ops Inv InvB A n L f (listed.setIfInBounds i true) (fun b => (a b).put oi.dst (v b)) → wpT1 P md ops Inv InvB A n L (f + 1) listed a := by
  intro f
  induction f with
  | zero =>
    intro listed a inv _ hr hy H
    have hun := (mem_ready.1 hr).1
    refine ⟨fun h => (by rw [h] at hr; cases hr), fun j hj => ?_⟩
    have hjn : j < n := by
      rcases Nat.lt_or_ge j n with h | h
      · exact h
      · exact absurd hj (tail_waits hs hc hn inv _ i rfl hin hun j h)
    refine ⟨hjn, ?_⟩
    by_cases hji : j = i
    · subst hji; exact ⟨oi, v, hi, hy, H⟩
    · have := hdone _ _ H j (ready_mono hj hji)
      omega
  | succ f ih =>
    intro listed a inv hfree hr hy H
    have hun := (mem_ready.1 hr).1
    refine ⟨fun h => (by rw [h] at hr; cases hr), fun j hj => ?_⟩
    have hjn : j < n := by
      rcases Nat.lt_or_ge j n with h | h
      · exact h
      · exact absurd hj (tail_waits hs hc hn inv _ i rfl hin hun j h)
    refine ⟨hjn, ?_⟩
    by_cases hji : j = i
    · subst hji; exact ⟨oi, v, hi, hy, H⟩
    · obtain ⟨oj', u, hoj', hyj, hK⟩ := (H.2 j (ready_mono hj hji)).2
      obtain ⟨hjun, oj, hoj, hall⟩ := mem_ready.1 hj
      obtain rfl : oj' = oj := Option.some.inj (hoj'.symm.trans hoj)
      have hnot : ∀ e ∈ oj'.after, Region.binds md e = true → e.on ≠ i := fun e he hb heq => by
        have h1 := hall e he hb
        rw [heq, getD_both hun] at h1
        cases h1
      have hap := hfree j oj' hoj hji hjun hnot
      obtain ⟨_, h2, _⟩ := Oper.apart_spec hap
      have hfree' : ∀ k ok, ops[k]? = some ok → k ≠ i → (listed.setIfInBounds j true).getD k true = false →
          (∀ e ∈ ok.after, Region.binds md e = true → e.on ≠ i) → oi.apart ops ok = true := fun k ok hk hki hun hno => by
        refine hfree k ok hk hki ?_ hno
        by_cases hjk : j = k
        · subst hjk; exact hjun
        · rw [getD_set_ne true hjk] at hun; exact hun
      refine ⟨oj', u, hoj, hyj.back hap (fun cs b => hsel j oj' cs b hoj), ih (listed.setIfInBounds j true) _ (inv.set hj hjn) hfree' (ready_mono hr (Ne.symm hji)) (hy.keep hap (fun cs b => hsel i oi cs b hi)) ?_⟩
      rw [Array.setIfInBounds_comm _ _ hji, show (fun b => ((a b).put oj'.dst (u b)).put oi.dst (v b)) = (fun b => ((a b).put oi.dst (v b)).put oj'.dst (u b)) from funext fun b => (Act.put_comm (a b) (v b) (u b) h2).symm]
      exact hK
theorem wpT0_first {n i : Nat} {oi : Oper} {v : Value} {L : Array Bool → (Nat → Act) → Prop} (hiA : i ≠ A) (hi : ops[i]? = some oi) (hsel : ∀ (j : Nat) (o : Oper) cs b, ops[j]? = some o → o.op ≠ .select cs b)
    (hs : Region.sinkB md ops n = true) (hc : Region.chainB md ops n = true) (hn : n < ops.size) (hin : i < n)
    (hdone : ∀ listed a, L listed a → ∀ j ∈ Region.ready md ops listed, n ≤ j) :
    ∀ (f : Nat) (listed : Array Bool) (a : Act), HeadInv md ops n listed →
      (∀ j oj, ops[j]? = some oj → j ≠ i → listed.getD j true = false → (∀ e ∈ oj.after, Region.binds md e = true → e.on ≠ i) → oi.apart ops oj = true) →
      i ∈ Region.ready md ops listed → Yg P ops Inv InvB oi v a →
      wpT0 P md ops Inv InvB A mk n L f (listed.setIfInBounds i true) (a.put oi.dst v) → wpT0 P md ops Inv InvB A mk n L (f + 1) listed a := by
  intro f
  induction f with
  | zero => intro listed a inv _ hr hy H; exact H.elim
  | succ f ih =>
    intro listed a inv hfree hr hy H
    have hun := (mem_ready.1 hr).1
    refine ⟨fun h => (by rw [h] at hr; cases hr), fun j hj => ?_⟩
    have hjn : j < n := by
      rcases Nat.lt_or_ge j n with h | h
      · exact h
      · exact absurd hj (tail_waits hs hc hn inv _ i rfl hin hun j h)
    refine ⟨hjn, ?_⟩
    by_cases hji : j = i
    · subst hji; exact ⟨oi, hi, .inr ⟨hiA, v, hy, H⟩⟩
    · obtain ⟨oj', hoj', hK⟩ := (H.2 j (ready_mono hj hji)).2
      obtain ⟨hjun, oj, hoj, hall⟩ := mem_ready.1 hj
      obtain rfl : oj' = oj := Option.some.inj (hoj'.symm.trans hoj)
      have hnot : ∀ e ∈ oj'.after, Region.binds md e = true → e.on ≠ i := fun e he hb heq => by
        have h1 := hall e he hb
        rw [heq, getD_both hun] at h1
        cases h1
      have hap := hfree j oj' hoj hji hjun hnot
      obtain ⟨h1, h2, h3⟩ := Oper.apart_spec hap
      have hfree' : ∀ k ok, ops[k]? = some ok → k ≠ i → (listed.setIfInBounds j true).getD k true = false →
          (∀ e ∈ ok.after, Region.binds md e = true → e.on ≠ i) → oi.apart ops ok = true := fun k ok hk hki hun hno => by
        refine hfree k ok hk hki ?_ hno
        by_cases hjk : j = k
        · subst hjk; exact hjun
        · rw [getD_set_ne true hjk] at hun; exact hun
      refine ⟨oj', hoj, ?_⟩
      rcases hK with ⟨hjA, hya, hT⟩ | ⟨hjA, u, hyj, hT⟩
      · refine .inl ⟨hjA, hya.of_same (execOp_put oj' (fun cs b => hsel j oj' cs b hoj) a oi.dst v h1).symm, ?_⟩
        refine wpT1_first (v := fun _ => v) hi hsel hs hc hn hin hdone f _ _ (inv.set hj hjn) hfree' (ready_mono hr (Ne.symm hji)) (.inl ⟨v, rfl, fun b => hy.keep hap (fun cs b => hsel i oi cs b hi)⟩) ?_
        rw [Array.setIfInBounds_comm _ _ hji, show (fun b => (a.put oj'.dst (mk b)).put oi.dst v) = (fun b => (a.put oi.dst v).put oj'.dst (mk b)) from funext fun b => (Act.put_comm a v (mk b) h2).symm]
        exact hT
      · refine .inr ⟨hjA, u, hyj.back hap (fun cs b => hsel j oj' cs b hoj), ih (listed.setIfInBounds j true) _ (inv.set hj hjn) hfree' (ready_mono hr (Ne.symm hji)) (hy.keep hap (fun cs b => hsel i oi cs b hi)) ?_⟩
        rw [Array.setIfInBounds_comm _ _ hji, ← Act.put_comm a v u h2]
        exact hT
theorem wpT0_make {n : Nat} {oi : Oper} {L : Array Bool → (Nat → Act) → Prop} (hi : ops[A]? = some oi) (hsel : ∀ (j : Nat) (o : Oper) cs b, ops[j]? = some o → o.op ≠ .select cs b)
    (hs : Region.sinkB md ops n = true) (hc : Region.chainB md ops n = true) (hn : n < ops.size) (hin : A < n)
    (hdone : ∀ listed a, L listed a → ∀ j ∈ Region.ready md ops listed, n ≤ j) :
    ∀ (f : Nat) (listed : Array Bool) (a : Act), HeadInv md ops n listed →
      (∀ j oj, ops[j]? = some oj → j ≠ A → listed.getD j true = false → (∀ e ∈ oj.after, Region.binds md e = true → e.on ≠ A) → oi.apart ops oj = true) →
      A ∈ Region.ready md ops listed → Ya P Inv InvB mk oi a →
      wpT1 P md ops Inv InvB A n L f (listed.setIfInBounds A true) (fun b => a.put oi.dst (mk b)) → wpT0 P md ops Inv InvB A mk n L (f + 1) listed a := by
  intro f
  induction f with
  | zero =>
    intro listed a inv _ hr hy H
    have hun := (mem_ready.1 hr).1
    refine ⟨fun h => (by rw [h] at hr; cases hr), fun j hj => ?_⟩
    have hjn : j < n := by
      rcases Nat.lt_or_ge j n with h | h
      · exact h
      · exact absurd hj (tail_waits hs hc hn inv _ A rfl hin hun j h)
    refine ⟨hjn, ?_⟩
    by_cases hji : j = A
    · subst hji; exact ⟨oi, hi, .inl ⟨rfl, hy, H⟩⟩
    · have := hdone _ _ H j (ready_mono hj hji)
      omega
  | succ f ih =>
    intro listed a inv hfree hr hy H
    have hun := (mem_ready.1 hr).1
    refine ⟨fun h => (by rw [h] at hr; cases hr), fun j hj => ?_⟩
    have hjn : j < n := by
      rcases Nat.lt_or_ge j n with h | h
      · exact h
      · exact absurd hj (tail_waits hs hc hn inv _ A rfl hin hun j h)
    refine ⟨hjn, ?_⟩
    by_cases hji : j = A
    · subst hji; exact ⟨oi, hi, .inl ⟨rfl, hy, H⟩⟩
    · obtain ⟨oj', u, hoj', hyj, hT⟩ := (H.2 j (ready_mono hj hji)).2
      obtain ⟨hjun, oj, hoj, hall⟩ := mem_ready.1 hj
      obtain rfl : oj' = oj := Option.some.inj (hoj'.symm.trans hoj)
      have hnot : ∀ e ∈ oj'.after, Region.binds md e = true → e.on ≠ A := fun e he hb heq => by
        have h1 := hall e he hb
        rw [heq, getD_both hun] at h1
        cases h1
      have hap := hfree j oj' hoj hji hjun hnot
      obtain ⟨h1, h2, h3⟩ := Oper.apart_spec hap
      have hfree' : ∀ k ok, ops[k]? = some ok → k ≠ A → (listed.setIfInBounds j true).getD k true = false →
          (∀ e ∈ ok.after, Region.binds md e = true → e.on ≠ A) → oi.apart ops ok = true := fun k ok hk hki hun hno => by
        refine hfree k ok hk hki ?_ hno
        by_cases hjk : j = k
        · subst hjk; exact hjun
        · rw [getD_set_ne true hjk] at hun; exact hun
      refine ⟨oj', hoj, .inr ⟨hji, ?_⟩⟩
      rcases hyj with ⟨x, rfl, hyb⟩ | ⟨hw, _⟩
      · refine ⟨x, (hyb 0).back hap (fun cs b => hsel j oj' cs b hoj), ih (listed.setIfInBounds j true) _ (inv.set hj hjn) hfree' (ready_mono hr (Ne.symm hji)) (hy.of_same (execOp_put oi (fun cs b => hsel A oi cs b hi) a oj'.dst x h3)) ?_⟩
        rw [Array.setIfInBounds_comm _ _ hji, show (fun b => (a.put oj'.dst x).put oi.dst (mk b)) = (fun b => (a.put oi.dst (mk b)).put oj'.dst x) from funext fun b => (Act.put_comm a (mk b) x h2).symm]
        exact hT
      · obtain ⟨oj, hoj2, e, he, hb, hon⟩ := Region.waitsFor_spec hw
        obtain rfl : oj' = oj := Option.some.inj (hoj.symm.trans hoj2)
        exact absurd hon (hnot e he hb)
/-- The operations in the text's order: behind the block's making; all. -/
def wpLexB (P : Program) (md : Region.Mode) (ops : Array Oper) (Inv : World → Prop) (InvB : Nat → World → Prop) (A : Nat) (Q : (Nat → Act) → Prop) : Nat → List Oper → (Nat → Act) → Prop
  | _, [], a => Q a
  | k, o :: l, a => ∃ v, Ys P md ops Inv InvB A k o v a ∧ wpLexB P md ops Inv InvB A Q (k + 1) l (fun b => (a b).put o.dst (v b))
def wpLexA (P : Program) (md : Region.Mode) (ops : Array Oper) (Inv : World → Prop) (InvB : Nat → World → Prop) (A : Nat) (mk : Nat → Value) (Q : (Nat → Act) → Prop) : Nat → List Oper → Act → Prop
  | _, [], _ => False
  | k, o :: l, a => (k = A ∧ Ya P Inv InvB mk o a ∧ wpLexB P md ops Inv InvB A Q (k + 1) l (fun b => a.put o.dst (mk b))) ∨ (k ≠ A ∧ ∃ v, Yg P ops Inv InvB o v a ∧ wpLexA P md ops Inv InvB A mk Q (k + 1) l (a.put o.dst v))
theorem wpT1_lex {n g : Nat} {Lq : (Nat → Act) → Prop} (hsel : Region.noSelect ops = true) (hs : Region.sinkB md ops n = true) (hc : Region.chainB md ops n = true) (hn : n < ops.size) :
    ∀ (l : List Oper) (k : Nat) (listed : Array Bool) (a : Nat → Act), (∀ j, j < l.length → l[j]? = ops[k + j]?) → k + l.length = n → HeadInv md ops n listed →
    Region.lexHead md ops g l.length k listed = true → wpLexB P md ops Inv InvB A Lq k l a →
    wpT1 P md ops Inv InvB A n (fun listed' a' => Region.seqB md ops g n listed' = true ∧ Lq a') l.length listed a
  | [], k, listed, a, _, hk, _, hB, h => by
    have : k = n := by simpa using hk
    subst this
    exact ⟨by simpa [Region.lexHead] using hB, h⟩
  | o :: l, k, listed, a, hl, hk, inv, hB, h => by
    have h0 : ops[k]? = some o := by simpa using (hl 0 (by simp)).symm
    simp only [List.length_cons, Region.lexHead, Bool.and_eq_true] at hB
    obtain ⟨⟨hr, hf⟩, hB'⟩ := hB
    have hkn : k < n := by simp only [List.length_cons] at hk; omega
    have hr' : k ∈ Region.ready md ops listed := by simpa using hr
    obtain ⟨v, hy, hK⟩ := h
    exact wpT1_first h0 (Region.noSelect_spec hsel) hs hc hn hkn (fun listed' a' hL => seqB_ready hL.1) l.length listed a inv (Region.free_spec h0 hf) hr' hy
      (wpT1_lex hsel hs hc hn l (k + 1) _ _ (fun j hj => by have := hl (j + 1) (by simp; omega); simpa [Nat.add_assoc, Nat.add_comm 1 j] using this) (by simp only [List.length_cons] at hk; omega) (inv.set hr' hkn) hB' hK)
theorem wpT0_lex {n g : Nat} {Lq : (Nat → Act) → Prop} (hsel : Region.noSelect ops = true) (hs : Region.sinkB md ops n = true) (hc : Region.chainB md ops n = true) (hn : n < ops.size) :
    ∀ (l : List Oper) (k : Nat) (listed : Array Bool) (a : Act), (∀ j, j < l.length → l[j]? = ops[k + j]?) → k + l.length = n → HeadInv md ops n listed →
    Region.lexHead md ops g l.length k listed = true → wpLexA P md ops Inv InvB A mk Lq k l a →
    wpT0 P md ops Inv InvB A mk n (fun listed' a' => Region.seqB md ops g n listed' = true ∧ Lq a') l.length listed a
  | [], k, listed, a, _, hk, _, hB, h => h.elim
  | o :: l, k, listed, a, hl, hk, inv, hB, h => by
    have h0 : ops[k]? = some o := by simpa using (hl 0 (by simp)).symm
    simp only [List.length_cons, Region.lexHead, Bool.and_eq_true] at hB
    obtain ⟨⟨hr, hf⟩, hB'⟩ := hB
    have hkn : k < n := by simp only [List.length_cons] at hk; omega
    have hr' : k ∈ Region.ready md ops listed := by simpa using hr
    have hl' : ∀ j, j < l.length → l[j]? = ops[k + 1 + j]? := fun j hj => by have := hl (j + 1) (by simp; omega); simpa [Nat.add_assoc, Nat.add_comm 1 j] using this
    have hk' : k + 1 + l.length = n := by simp only [List.length_cons] at hk; omega
    rcases h with ⟨rfl, hy, hK⟩ | ⟨hkA, v, hy, hK⟩
    · exact wpT0_make h0 (Region.noSelect_spec hsel) hs hc hn hkn (fun listed' a' hL => seqB_ready hL.1) l.length listed a inv (Region.free_spec h0 hf) hr' hy
        (wpT1_lex hsel hs hc hn l (k + 1) _ _ hl' hk' (inv.set hr' hkn) hB' hK)
    · exact wpT0_first hkA h0 (Region.noSelect_spec hsel) hs hc hn hkn (fun listed' a' hL => seqB_ready hL.1) l.length listed a inv (Region.free_spec h0 hf) hr' hy
        (wpT0_lex hsel hs hc hn l (k + 1) _ _ hl' hk' (inv.set hr' hkn) hB' hK)
theorem wpAny_of_T1 {n g : Nat} {L : Array Bool → (Nat → Act) → Prop} {Q' : Exit → Act → World → Prop} (hsub : ∀ b W, InvB b W → Inv W) (b : Nat)
    (hL : ∀ listed a W, InvB b W → L listed a → wpAny P md ops Q' g listed (a b) W) :
    ∀ (f : Nat) (listed : Array Bool) (a : Nat → Act) (W : World), InvB b W → wpT1 P md ops Inv InvB A n L f listed a → wpAny P md ops Q' (f + g) listed (a b) W
  | 0, listed, a, W, hI, h => by rw [Nat.zero_add]; exact hL _ _ _ hI h
  | f + 1, listed, a, W, hI, h => by
    rw [show f + 1 + g = (f + g) + 1 by omega]
    refine ⟨fun h0 => absurd h0 h.1, fun i hi => ?_⟩
    obtain ⟨_, o, v, ho, hy, hK⟩ := h.2 i hi
    have hyi : Yi P ops (InvB b) o (v b) (a b) := by
      rcases hy with ⟨x, rfl, hy⟩ | ⟨_, hy⟩
      · exact (hy b).invB hsub b
      · exact hy b
    unfold wpOp
    simp only [ho]
    rcases hyi with ⟨hw, hrun⟩ | ⟨hw, hv⟩
    · rw [if_pos hw]
      left
      unfold Oper.wp
      rcases hrun W hI with hr | ⟨fn, args, hr, hc⟩
      · rw [hr]
        exact wpAny_of_T1 hsub b hL f _ _ W hI hK
      · rw [hr]
        refine Calls.mono hc fun e W' ⟨he, hI'⟩ => ?_
        subst he
        exact wpAny_of_T1 hsub b hL f _ _ W' hI' hK
    · rw [if_neg (by simp [hw])]
      have := wpAny_of_T1 hsub b hL f _ _ W hI hK
      simp only [hv] at this
      exact this
theorem wpAny_of_T0 {n g : Nat} {L : Array Bool → (Nat → Act) → Prop} {Q' : Exit → Act → World → Prop} (hsub : ∀ b W, InvB b W → Inv W)
    (hL : ∀ b listed a W, InvB b W → L listed a → wpAny P md ops Q' g listed (a b) W) :
    ∀ (f : Nat) (listed : Array Bool) (a : Act) (W : World), Inv W → wpT0 P md ops Inv InvB A mk n L f listed a → wpAny P md ops Q' (f + g) listed a W
  | 0, listed, a, W, hI, h => h.elim
  | f + 1, listed, a, W, hI, h => by
    rw [show f + 1 + g = (f + g) + 1 by omega]
    refine ⟨fun h0 => absurd h0 h.1, fun i hi => ?_⟩
    obtain ⟨_, o, ho, hK⟩ := h.2 i hi
    unfold wpOp
    simp only [ho]
    rcases hK with ⟨_, ⟨hg, hya⟩, hT⟩ | ⟨_, v, hy, hT⟩
    · rw [if_pos (by simp [Region.wanted, hg])]
      left
      unfold Oper.wp
      obtain ⟨b, W', hr, hI'⟩ := hya W hI
      rw [hr]
      exact wpAny_of_T1 hsub b (hL b) f _ _ W' hI' hT
    · rcases hy.inv with ⟨hw, hrun⟩ | ⟨hw, rfl⟩
      · rw [if_pos hw]
        left
        unfold Oper.wp
        rcases hrun W hI with hr | ⟨fn, args, hr, hc⟩
        · rw [hr]
          exact wpAny_of_T0 hsub hL f _ _ W hI hT
        · rw [hr]
          refine Calls.mono hc fun e W' ⟨he, hI'⟩ => ?_
          subst he
          exact wpAny_of_T0 hsub hL f _ _ W' hI' hT
      · rw [if_neg (by simp [hw])]
        exact wpAny_of_T0 hsub hL f _ _ W hI hT
/-- The law: n operations ahead of a forced tail, number A makes the block. -/
theorem wp_region_make {id : Nat} {Q : Exit → Act → World → Prop} {a : Act} {w : World} {l : List Oper} (Inv : World → Prop) (InvB : Nat → World → Prop) (A : Nat) (mk : Nat → Value) (n : Nat) (hsub : ∀ b W, InvB b W → Inv W) (hm : P.follows .mixedOrders = true) (hB : Region.lexTailB .any l.toArray n = true) (h0 : Inv w.drew)
    (h : wpLexA P .any l.toArray Inv InvB A mk (fun a' => ∀ b W, InvB b W → wpList P l.toArray Q (l.drop n) (a' b) W) 0 (l.take n) a) : (Code.region id l.toArray true).wp P Q a w := by
  simp only [Region.lexTailB, Bool.and_eq_true, decide_eq_true_eq] at hB
  obtain ⟨⟨⟨⟨hsel, hn⟩, hs⟩, hc⟩, hlex⟩ := hB
  have hn' : n < l.length := by simpa using hn
  have htl : (l.take n).length = n := by simp; omega
  have hdl : (l.drop n).length = l.toArray.size - n := by simp
  have inv0 : HeadInv .any l.toArray n (Array.replicate l.toArray.size false) :=
    ⟨by simp, fun j oj _ hl => (by rw [getD_replicate_false] at hl; cases hl), fun t _ ht => getD_in (by simpa using ht) (getD_replicate_false _ _)⟩
  have H := wpT0_lex (md := .any) (g := l.toArray.size - n) hsel hs hc hn (l.take n) 0 _ a (fun j hj => by
    have hj' : j < n := by rw [htl] at hj; exact hj
    simp [hj']) (by simpa using htl) inv0 (by rw [htl]; exact hlex) h
  refine wp_region_any hm ?_
  have := wpAny_of_T0 (Q' := Q) (g := l.toArray.size - n) (ops := l.toArray) hsub (fun b listed a' W hI hL => by
    have h1 := wpAny_of_seq (md := .any) (Q' := Q) (l.drop n) n listed (a' b) W (fun j => by simp [List.getElem?_drop]) (by rw [hdl]; exact hL.1) (hL.2 b W hI)
    rw [hdl] at h1
    exact h1) _ _ _ w.drew h0 H
  rw [htl, show n + (l.toArray.size - n) = l.toArray.size by omega] at this
  exact this
theorem yg_still {o : Oper} {v : Value} {a : Act} (hg : o.guard = none) (h : ∀ W, Inv W → (execOp a.eval o).run P W = .ok (.value v) W) : Yg P ops Inv InvB o v a :=
  .inl ⟨by simp [Region.wanted, hg], fun W hI => .inl (h W hI)⟩
theorem yg_call {o : Oper} {v : Value} {a : Act} {f : FuncId} {args : Array Value} (hg : o.guard = none) (h : ∀ W, Inv W → (execOp a.eval o).run P W = .ok (.enter f args) W)
    (hc : ∀ W, Inv W → Calls P f args W fun e W' => e = .returned v ∧ Inv W' ∧ ∀ b, InvB b W → InvB b W') : Yg P ops Inv InvB o v a :=
  .inl ⟨by simp [Region.wanted, hg], fun W hI => .inr ⟨f, args, h W hI, hc W hI⟩⟩
theorem ys_same {i : Nat} {o : Oper} {u : Value} {a : Nat → Act} (h : ∀ b, Yg P ops Inv InvB o u (a b)) : Ys P md ops Inv InvB A i o (fun _ => u) a := .inl ⟨u, rfl, h⟩
end
end Go.Proofs.YthpmocfdnoehoaaGreatDoor
/- Contract of the reference's Decode. -/
namespace Go.Proofs.YthpmocfdnoehoaaGreatDoor
open Go.RowKit
/-- The numbers of the first k fields. -/
def fldNums (l : Bs) (k : Nat) : List Value := (List.range k).map fun j => Value.int .i64 (numX (fld l (fromK j) (toK j)))
theorem fldNums_succ (l : Bs) (k : Nat) : fldNums l (k + 1) = fldNums l k ++ [.int .i64 (numX (fld l (fromK k) (toK k)))] := by
  unfold fldNums; rw [List.range_succ, List.map_append]; rfl
def fromV : Array Value := #[.int .i64 100, .int .i64 108, .int .i64 116, .int .i64 124, .int .i64 136, .int .i64 148, .int .i64 329, .int .i64 337]
def toV : Array Value := #[.int .i64 108, .int .i64 116, .int .i64 124, .int .i64 136, .int .i64 148, .int .i64 156, .int .i64 337, .int .i64 345]
theorem fromV_at (k : Nat) (h : k < 8) : fromV[k]? = some (.int .i64 (fromK k)) ∧ toV[k]? = some (.int .i64 (toK k)) := by
  match k, h with
  | 0, _ => exact ⟨rfl, rfl⟩
  | 1, _ => exact ⟨rfl, rfl⟩
  | 2, _ => exact ⟨rfl, rfl⟩
  | 3, _ => exact ⟨rfl, rfl⟩
  | 4, _ => exact ⟨rfl, rfl⟩
  | 5, _ => exact ⟨rfl, rfl⟩
  | 6, _ => exact ⟨rfl, rfl⟩
  | 7, _ => exact ⟨rfl, rfl⟩
  | k + 8, h => exact absurd h (by omega)
/-- The state inside Decode's loop. -/
structure DecR (w0 : World) (l : Bs) (k : Nat) (v : Value) (w : World) : Prop where
  hh : w.heap[w0.heap.size]? = some (.cells zh 24 (0, 0))
  hf : w.heap[w0.heap.size + 1]? = some (.cells fromV 3 (0, 0))
  ht : w.heap[w0.heap.size + 2]? = some (.cells toV 3 (0, 0))
  own : w.ownsRow (w0.heap.size + 3) 2 1 v k (fldNums l k)
  ok : ∀ j, j < k → numOk (fld l (fromK j) (toK j)) = true
  bel : Below w0.heap.size w0 w
theorem DecR.keep {w0 w w' : World} {l : Bs} {k : Nat} {v : Value} (h : DecR w0 l k v w) (hb : Below w.heap.size w w') : DecR w0 l k v w' where
  hh := (hb.block _ (blk_lt h.hh)).trans h.hh
  hf := (hb.block _ (blk_lt h.hf)).trans h.hf
  ht := (hb.block _ (blk_lt h.ht)).trans h.ht
  own := by
    refine ⟨h.own.1, ?_⟩
    rcases h.own.2 with h2 | ⟨g, cap, cur, h1, h2, h3, h4⟩
    · exact .inl h2
    · exact .inr ⟨g, cap, cur, h1, h2, (hb.block g (blk_lt h3)).trans h3, h4⟩
  ok := h.ok
  bel := h.bel.trans (hb.mono h.bel.size)
theorem DecR.start (w : World) (l : Bs) : DecR w l 0 (.slice none 0 0) (((w.alloc (.cells zh 24)).alloc (.cells fromV 3)).alloc (.cells toV 3)) where
  hh := (Below.heap_alloc _ _ _ (by simp; omega)).trans ((Below.heap_alloc _ _ _ (by simp)).trans (heap_new w _))
  hf := by
    have := heap_new (w.alloc (.cells zh 24)) (.cells fromV 3)
    rw [World.size_alloc] at this
    exact (Below.heap_alloc _ _ _ (by simp)).trans this
  ht := by
    have := heap_new ((w.alloc (.cells zh 24)).alloc (.cells fromV 3)) (.cells toV 3)
    rw [World.size_alloc, World.size_alloc] at this
    exact this
  own := World.ownsRow_nil _ _ _ _
  ok := fun j hj => absurd hj (by omega)
  bel := (((Below.refl _ w).alloc (Nat.le_refl _) _).alloc (by simp) _).alloc (by simp; omega) _
/-- What the reference's Decode answers of 512 bytes. -/
def decV (l : Bs) : Value := .tuple #[.agg (if decErrM l = 0 then (decHdr l).cells else zh), .int .i64 (decErrM l)]
set_option maxHeartbeats 3200000 in
set_option maxRecDepth 100000 in
theorem DecodeR_magic (s : ByteArray) (w : World) (hs : s.size = 512) (hm : magicB s.data.toList = false) :
    Calls Tryz.prog 58 #[.string s] w fun e w' => e = .returned (decV s.data.toList) ∧ Below w.heap.size w w' := by
  have hs1 : 512 ≤ s.size := by omega
  have hs2 : s.size ≤ 512 := by omega
  have hs3 : (s.size : Int) = 512 := by omega
  clear hs
  have hmg : ((s.extract 257 265).toList == [117, 115, 116, 97, 114, 0, 48, 48]) = false := by
    rw [Lib.toList_data, Lib.extract_data]; exact hm
  have hv : decV s.data.toList = .tuple #[.agg zh, .int .i64 4] := by
    have : decErrM s.data.toList = 4 := by rw [decErrM, if_neg (by simp [hm])]
    unfold decV
    rw [this, if_neg (by decide)]
  have HV := Lib.hid hv
  clear hm hv
  go_enter Tryz.func58, Tryz.ntmps58
  go_wp2_with fail
  have hc : ∀ i : Nat, (w.alloc (.cells zh 24)).cell? ⟨w.heap.size, i, none⟩ = zh[i]? := fun i => cell_new w zh _ i
  exact bodyPost_ret (v := .tuple #[.agg zh, .int .i64 4]) (by simp [results, Tryz.f58, go_sem, hc]) rfl ⟨congrArg Ending.returned HV.out.symm, (Below.refl _ _).alloc (Nat.le_refl _) _⟩
theorem infoI64 : (Tryz.prog.info? 2).map (fun i => (i.zero, i.size, i.bytes)) = some (some (.int .i64 0), 1, 8) := by kernel_rfl
theorem newV (w : World) (v : Value) (t : TypeId) : ∀ (j : Nat) (u : Value), [v][j]? = some u → (w.alloc (.cells #[v] t)).cell? ((⟨w.heap.size, 0, none⟩ : Addr).add j) = some u := by
  intro j u h
  have hj : j = 0 := by
    have := (List.getElem?_eq_some_iff.1 h).1
    simpa using this
  subst hj
  rw [show ((⟨w.heap.size, 0, none⟩ : Addr).add 0) = ⟨w.heap.size, 0, none⟩ by simp [Addr.add], cell_new]
  simpa using h
theorem DecR.app {w0 w w1 : World} {l : Bs} {k : Nat} {v v' : Value} {tmp : Obj} (h : DecR w0 l k v w) (hok : numOk (fld l (fromK k) (toK k)) = true)
    (hown : w1.ownsRow (w0.heap.size + 3) 2 1 v' (k + 1) (fldNums l k ++ [.int .i64 (numX (fld l (fromK k) (toK k)))])) (hg : (w.alloc tmp).grownBy w1 v.ownBlock) : DecR w0 l (k + 1) v' w1 := by
  have hlt := blk_lt h.ht
  have hob : ∀ j, v.ownBlock = some j → w0.heap.size + 3 ≤ j := fun j ej => by
    rcases h.own.2 with ⟨rfl, _⟩ | ⟨g, cap, cur, rfl, hb', _, _⟩
    · simp [Value.ownBlock] at ej
    · obtain rfl : g = j := by simpa [Value.ownBlock] using ej
      exact hb'
  have old : ∀ j, j < w0.heap.size + 3 → w1.heap[j]? = w.heap[j]? := fun j hj => by
    rw [hg.block j (by simp; omega) (fun e => by have := hob j e.symm; omega)]
    exact Below.heap_alloc _ _ _ (by omega)
  refine ⟨(old _ (by omega)).trans h.hh, (old _ (by omega)).trans h.hf, (old _ (by omega)).trans h.ht, by rw [fldNums_succ]; exact hown, fun j hj => ?_, ?_⟩
  · by_cases e : j = k
    · subst e; exact hok
    · exact h.ok j (by omega)
  · exact h.bel.trans (((Below.refl _ w).alloc (by omega) tmp).grown hg (by simp; omega) fun j ej => by have := hob j ej; omega)
/-- The state behind the loop: the numbers lie in block g. -/
structure Dec8 (w0 : World) (H : Hdr) (X : Int) (g : Nat) (w : World) : Prop where
  hh : w.heap[w0.heap.size]? = some (.cells zh 24 (0, 0))
  lt : g < w.heap.size
  c0 : w.cell? ⟨g, 0, none⟩ = some (.int .i64 H.mode)
  c1 : w.cell? ⟨g, 1, none⟩ = some (.int .i64 H.uid)
  c2 : w.cell? ⟨g, 2, none⟩ = some (.int .i64 H.gid)
  c3 : w.cell? ⟨g, 3, none⟩ = some (.int .i64 H.size)
  c4 : w.cell? ⟨g, 4, none⟩ = some (.int .i64 H.time)
  c5 : w.cell? ⟨g, 5, none⟩ = some (.int .i64 X)
  c6 : w.cell? ⟨g, 6, none⟩ = some (.int .i64 H.major)
  c7 : w.cell? ⟨g, 7, none⟩ = some (.int .i64 H.minor)
  bel : Below w0.heap.size w0 w
theorem Dec8.keep {w0 w w' : World} {H : Hdr} {X : Int} {g : Nat} (h : Dec8 w0 H X g w) (hb : Below w.heap.size w w') : Dec8 w0 H X g w' where
  hh := (hb.block _ (blk_lt h.hh)).trans h.hh
  lt := Nat.lt_of_lt_of_le h.lt hb.size
  c0 := (hb.cell (p := ⟨g, 0, none⟩) h.lt).trans h.c0
  c1 := (hb.cell (p := ⟨g, 1, none⟩) h.lt).trans h.c1
  c2 := (hb.cell (p := ⟨g, 2, none⟩) h.lt).trans h.c2
  c3 := (hb.cell (p := ⟨g, 3, none⟩) h.lt).trans h.c3
  c4 := (hb.cell (p := ⟨g, 4, none⟩) h.lt).trans h.c4
  c5 := (hb.cell (p := ⟨g, 5, none⟩) h.lt).trans h.c5
  c6 := (hb.cell (p := ⟨g, 6, none⟩) h.lt).trans h.c6
  c7 := (hb.cell (p := ⟨g, 7, none⟩) h.lt).trans h.c7
  bel := h.bel.trans (hb.mono h.bel.size)
theorem DecR.done {w0 w : World} {l : Bs} {v : Value} (h : DecR w0 l 8 v w) : ∃ g cap, v = .slice (some ⟨g, 0, none⟩) 8 cap ∧ 8 ≤ cap ∧ cap ≤ 9223372036854775807 ∧ Dec8 w0 (decHdr l) (numX (fld l 148 156)) g w := by
  rcases h.own.2 with ⟨_, h2⟩ | ⟨g, cap, cur, h1, h2, h3, h4, h5, h6, h7⟩
  · omega
  · have hc : ∀ i, i < 8 → w.cell? ⟨g, i, none⟩ = (fldNums l 8)[i]? := fun i hi => by
      rw [cell_of_heapN h3, ← h7, List.getElem?_take, if_pos (by omega), Array.getElem?_toList]
    refine ⟨g, cap, h1, h4, by unfold maxLen at h5; omega, ⟨h.hh, blk_lt h3, hc 0 (by omega), hc 1 (by omega), hc 2 (by omega), hc 3 (by omega), hc 4 (by omega), hc 5 (by omega), hc 6 (by omega), hc 7 (by omega), h.bel⟩⟩
theorem decV_text {l : Bs} (hm : magicB l = true) {k x y : Nat} (hx : fromK k = x) (hy : toK k = y) (h : numOk (fld l x y) = false) (hk : k < 8) : decV l = .tuple #[.agg zh, .int .i64 6] := by
  have h1 : decErr l = 6 := by rw [decErr, if_pos (okAll_not hx hy h hk)]
  have : decErrM l = 6 := by rw [decErrM, if_pos hm, h1]
  unfold decV; rw [this, if_neg (by decide)]
theorem decV_sum {l : Bs} (hm : magicB l = true) (h : okAll l = true) (h2 : numX (fld l 148 156) ≠ sumTo l 512) : decV l = .tuple #[.agg zh, .int .i64 7] := by
  have h1 : decErr l = 7 := by rw [decErr, if_neg (by simp [h]), if_pos h2]
  have : decErrM l = 7 := by rw [decErrM, if_pos hm, h1]
  unfold decV; rw [this, if_neg (by decide)]
theorem decV_ok {l : Bs} (hm : magicB l = true) (h : okAll l = true) (h2 : numX (fld l 148 156) = sumTo l 512) : decV l = .tuple #[.agg (decHdr l).cells, .int .i64 0] := by
  have h1 : decErr l = 0 := by rw [decErr, if_neg (by simp [h]), if_neg (by simp [h2])]
  have : decErrM l = 0 := by rw [decErrM, if_pos hm, h1]
  unfold decV; rw [this, if_pos rfl]
set_option maxHeartbeats 3200000 in
set_option maxRecDepth 100000 in
theorem DecodeR_some (s : ByteArray) (w : World) (hs : s.size = 512) (hm : magicB s.data.toList = true) :
    Calls Tryz.prog 58 #[.string s] w fun e w' => e = .returned (decV s.data.toList) ∧ Below w.heap.size w w' := by
  obtain ⟨i0, hi, hz0, hz1, hz2⟩ := info_parts infoI64
  have hs1 : 512 ≤ s.size := by omega
  have hs2 : s.size ≤ 512 := by omega
  have hs3 : (s.size : Int) = 512 := by omega
  have HS := Lib.hid hs
  clear hs
  have hmg : ((s.extract 257 265).toList == [117, 115, 116, 97, 114, 0, 48, 48]) = true := by
    rw [Lib.toList_data, Lib.extract_data]; exact hm
  have HM := Lib.hid hm
  clear hm
  go_enter Tryz.func58, Tryz.ntmps58
  go_wp2_with fail
  clear hmg
  go_loopw [6, 7] (fun v iv wr => ∃ k : Nat, (k : Int) ≤ 8 ∧ iv = .int .i64 k ∧ Hid (DecR w s.data.toList k v wr)) (fun _ iv _ => 8 - (intOf iv).toNat)
  case atStart => exact ⟨0, by omega, rfl, DecR.start w s.data.toList⟩
  case round =>
    obtain ⟨k, hk, rfl, hd⟩ := hrel
    by_cases hlt : (k : Int) < 8
    · have hk8 : k < 8 := by omega
      obtain ⟨hf1, hf2, hf3⟩ := fromK_to k
      have hfv := fromV_at k hk8
      have HFV := Lib.hid hfv
      clear hfv
      obtain ⟨x, hx⟩ : ∃ x, fromK k = x := ⟨_, rfl⟩
      obtain ⟨y, hy⟩ : ∃ y, toK k = y := ⟨_, rfl⟩
      have HX := Lib.hid hx
      have HY := Lib.hid hy
      rw [hx] at hf1 hf3 HFV
      rw [hy] at hf1 hf2 hf3 HFV
      clear hx hy
      have hxs : x ≤ s.size := by omega
      have hys : y ≤ s.size := by omega
      have hy5 : (y : Int) ≤ 512 := by omega
      have hcf : ∀ W, DecR w s.data.toList k u6 W → W.cell? ⟨w.heap.size + 1, k, none⟩ = some (.int .i64 x) := fun W hI => (cell_of_heapN hI.hf).trans HFV.out.1
      have hct : ∀ W, DecR w s.data.toList k u6 W → W.cell? ⟨w.heap.size + 2, k, none⟩ = some (.int .i64 y) := fun W hI => (cell_of_heapN hI.ht).trans HFV.out.2
      have HCF := Lib.hid hcf
      have HCT := Lib.hid hct
      clear hcf hct
      have hnum := fun W => numberR_any (s.extract x y) W (by simp; omega)
      rw [extract_fld] at hnum
      unfold numV at hnum
      obtain ⟨Z, hZ⟩ : ∃ Z, numX (fld s.data.toList x y) = Z := ⟨_, rfl⟩
      have HZ := Lib.hid hZ
      rw [hZ] at hnum
      clear hZ
      cases hB : numOk (fld s.data.toList x y)
      all_goals
        rw [hB] at hnum
        first
          | rw [if_neg (by decide)] at hnum
          | rw [if_pos rfl] at hnum
        have HB := Lib.hid hB
        have HNUM := Lib.hid hnum
        have hd2 := hd.out.keep ((Below.refl _ _).drew)
        clear hB hnum
        go_wp2_with fail
        refine wp_region_inv (DecR w s.data.toList k u6) 15 (by kernel_rfl) (by kernel_rfl) hd2 ?_
        clear hd2
        simp only [List.take_succ_cons, List.take_zero, List.drop_succ_cons, List.drop_zero]
        refine ⟨_, yi_still rfl (fun W hI => by go_simp; rfl), ?_⟩
        refine ⟨_, yi_still rfl (fun W hI => by go_simp; rfl), ?_⟩
        refine ⟨_, yi_still rfl (fun W hI => by go_simp; rfl), ?_⟩
        refine ⟨_, yi_still rfl (fun W hI => by go_simp; rfl), ?_⟩
        refine ⟨_, yi_still rfl (fun W hI => by have cf := HCF.out W hI; go_simp; rfl), ?_⟩
        refine ⟨_, yi_still rfl (fun W hI => by go_simp; rfl), ?_⟩
        refine ⟨_, yi_still rfl (fun W hI => by go_simp; rfl), ?_⟩
        refine ⟨_, yi_still rfl (fun W hI => by go_simp; rfl), ?_⟩
        refine ⟨_, yi_still rfl (fun W hI => by have ct := HCT.out W hI; go_simp; rfl), ?_⟩
        refine ⟨_, yi_still rfl (fun W hI => by go_simp; rfl), ?_⟩
        refine ⟨_, yi_call rfl (fun W hI => by go_simp) (fun W hI => (HNUM.out W).mono fun e W' ⟨he, hb⟩ => ⟨he, hI.keep hb⟩), ?_⟩
        refine ⟨_, yi_still rfl (fun W hI => by go_simp; rfl), ?_⟩
        refine ⟨_, yi_still rfl (fun W hI => by go_simp; rfl), ?_⟩
        refine ⟨_, yi_still rfl (fun W hI => by go_simp; rfl), ?_⟩
        refine ⟨_, yi_still rfl (fun W hI => by go_simp; rfl), ?_⟩
        rintro W7 hI7
        change wpList _ _ _ _ _ W7
        have H7 := Lib.hid hI7
      · clear hI7 hd
        have cr : ∀ i : Nat, W7.cell? ⟨w.heap.size, i, none⟩ = zh[i]? := fun i => cell_of_heapN H7.out.hh
        have fr : ∀ i : Nat, W7.frozen? ⟨w.heap.size, i, none⟩ = false := fun i => frozen_blk H7.out.hh
        go_wp2_with fail
        rw [set12 H7.out.hh]
        have hW : (setBlk W7 w.heap.size (.cells zh 24 (0, 0))).heap[w.heap.size]? = some (.cells zh 24 (0, 0)) := setBlk_heap (blk_lt H7.out.hh)
        have hcw : ∀ i : Nat, (setBlk W7 w.heap.size (.cells zh 24 (0, 0))).cell? ⟨w.heap.size, i, none⟩ = zh[i]? := fun i => cell_of_heapN hW
        exact bodyPost_ret (v := .tuple #[.agg zh, .int .i64 6]) (by simp [results, Tryz.f58, go_sem, hcw]) rfl ⟨congrArg Ending.returned (decV_text HM.out HX.out HY.out HB.out hk8).symm, H7.out.bel.setBlk (Nat.le_refl _)⟩
      · have hown7 := hI7.own
        have hfl : (fldNums s.data.toList k).length = k := by unfold fldNums; simp
        have HSZ := Lib.hid (show w.heap.size + 3 ≤ W7.heap.size from blk_lt hI7.ht)
        clear hI7 hd hfl
        go_wp2_with (first
          | (at_builtin; refine wpList_append_own _ rfl _ _ 116 rfl (w.heap.size + 3) 2 i0 (.int .i64 0) 1 8 Tryz.underlying116 hi hz0 hz1 hz2 rfl (by decide) _ _ _ rfl (hown7.alloc _) ⟨W7.heap.size, 0, none⟩ 1 1 [.int .i64 Z] rfl rfl (newV W7 _ _) (ints_oneCell .i64 [Z]) (by unfold maxLen; omega) (by omega) (by have := HSZ.out; rw [World.size_alloc]; omega) ?_; intro v' w1 hown' hgrow _)
          | go_in)
        case roundEnd =>
          have h := H7.out.app (by rw [HX.out, HY.out]; exact HB.out) (by rw [HX.out, HY.out, HZ.out]; exact hown') hgrow
          exact ⟨⟨k + 1, by omega, by rw [Int.natCast_add]; rfl, h⟩, by simp [intOf]; omega⟩
    · obtain rfl : k = 8 := by omega
      obtain ⟨g, cap, rfl, hc1, hc2, h8⟩ := hd.out.done
      have HOK := Lib.hid (okAll_yes hd.out.ok)
      have hc3 : (8 : Int) ≤ (cap : Int) := by omega
      have hc4 : (cap : Int) ≤ 9223372036854775807 := by omega
      obtain ⟨X, hX⟩ : ∃ X, numX (fld s.data.toList 148 156) = X := ⟨_, rfl⟩
      rw [hX] at h8
      have HX := Lib.hid hX
      obtain ⟨H, hH⟩ : ∃ H, decHdr s.data.toList = H := ⟨_, rfl⟩
      rw [hH] at h8
      have hsum := fun W => Sum_any s W (by omega)
      rw [HS.out] at hsum
      obtain ⟨Y, hY⟩ : ∃ Y, sumTo s.data.toList 512 = Y := ⟨_, rfl⟩
      rw [hY] at hsum
      have HY := Lib.hid hY
      have HSUM := Lib.hid hsum
      have H8 := Lib.hid h8
      have h8' := h8.keep ((Below.refl _ wr).drew)
      have htx : s[156] = H.typ := by rw [← hH]; exact (typ_eq s (by omega)).symm
      have HT := Lib.hid htx
      have hl : ∀ W, Calls Tryz.prog 78 #[.string (s.extract 157 257)] W fun e w' => e = .returned (.string H.link) ∧ Below W.heap.size W w' := fun W => by
        have := textR_any (s.extract 157 257) W (by simp; omega)
        rw [extract_fld] at this
        rw [← hH]; exact this
      have hu : ∀ W, Calls Tryz.prog 78 #[.string (s.extract 265 297)] W fun e w' => e = .returned (.string H.user) ∧ Below W.heap.size W w' := fun W => by
        have := textR_any (s.extract 265 297) W (by simp; omega)
        rw [extract_fld] at this
        rw [← hH]; exact this
      have hg : ∀ W, Calls Tryz.prog 78 #[.string (s.extract 297 329)] W fun e w' => e = .returned (.string H.group) ∧ Below W.heap.size W w' := fun W => by
        have := textR_any (s.extract 297 329) W (by simp; omega)
        rw [extract_fld] at this
        rw [← hH]; exact this
      have HL := Lib.hid hl
      have HU := Lib.hid hu
      have HGR := Lib.hid hg
      have HH := Lib.hid hH
      clear hX hH hsum hY h8 hd hl hu hg htx hc1 hc2
      go_wp2_with fail
      refine wp_region_inv (Dec8 w H X g) 5 (by kernel_rfl) (by kernel_rfl) h8' ?_
      clear h8'
      simp only [List.take_succ_cons, List.take_zero, List.drop_succ_cons, List.drop_zero]
      refine ⟨_, yi_still rfl (fun W hI => by go_simp; rfl), ?_⟩
      refine ⟨_, yi_still rfl (fun W hI => by go_simp; rfl), ?_⟩
      refine ⟨_, yi_still rfl (fun W hI => by have c := hI.c5; go_simp; rfl), ?_⟩
      refine ⟨_, yi_still rfl (fun W hI => by go_simp; rfl), ?_⟩
      refine ⟨_, yi_call rfl (fun W hI => by go_simp) (fun W hI => (HSUM.out W).mono fun e W' ⟨he, hb⟩ => ⟨he, hI.keep hb⟩), ?_⟩
      rintro W7 hI7
      change wpList _ _ _ _ _ W7
      have H7 := Lib.hid hI7
      clear hI7 H8 HSUM
      by_cases hxy : X = Y
      · have hne : (X != Y) = false := by rw [hxy]; simp
        have HXY := Lib.hid hxy
        clear hxy
        go_wp2_with fail
        refine (textR_any (s.extract 0 100) _ (by simp; omega)).mono ?_
        rintro e W2 ⟨rfl, hb⟩
        have H2 := Lib.hid (H7.out.keep hb)
        obtain ⟨p, hp⟩ : ∃ p : ByteArray, (⟨(textOf (s.extract 0 100).data.toList).toArray⟩ : ByteArray) = p := ⟨_, rfl⟩
        have hpl : p.size ≤ 100 := by
          rw [← hp]
          have h2 := textOf_le (s.extract 0 100).data.toList
          have h3 : (s.extract 0 100).data.toList.length ≤ 100 := by rw [Lib.extract_data]; simp only [List.length_take]; omega
          show (textOf (s.extract 0 100).data.toList).length ≤ 100
          omega
        rw [hp]
        have HP := Lib.hid hp
        clear hb H7 hp
        go_wp2_with fail
        refine (textR_any (s.extract 345 500) _ (by simp; omega)).mono ?_
        rintro e W3 ⟨rfl, hb⟩
        have H3 := Lib.hid (H2.out.keep hb)
        obtain ⟨q, hq⟩ : ∃ q : ByteArray, (⟨(textOf (s.extract 345 500).data.toList).toArray⟩ : ByteArray) = q := ⟨_, rfl⟩
        have hql : q.size ≤ 155 := by
          rw [← hq]
          have h2 := textOf_le (s.extract 345 500).data.toList
          have h3 : (s.extract 345 500).data.toList.length ≤ 155 := by rw [Lib.extract_data]; simp only [List.length_take]; omega
          show (textOf (s.extract 345 500).data.toList).length ≤ 155
          omega
        rw [hq]
        have HQ := Lib.hid hq
        have h3' := H3.out.keep ((Below.refl _ W3).drew)
        have HV := Lib.hid (decV_ok HM.out HOK.out (HX.out.trans (HXY.out.trans HY.out.symm)))
        clear hb H2 hq
        have hpath : (q.toList = [] ∧ H.path = p) ∨ (q.toList ≠ [] ∧ H.path = q ++ ⟨#[47]⟩ ++ p) := by
          by_cases he : q.toList = []
          · refine .inl ⟨he, ?_⟩
            rw [Lib.toList_data, ← HQ.out] at he
            rw [← HH.out, decHdr_empty (by rw [← extract_fld]; exact he), ← HP.out, Lib.extract_data]
            rfl
          · refine .inr ⟨he, ?_⟩
            rw [Lib.toList_data] at he
            have he2 : textOf (fld s.data.toList 345 500) ≠ [] := by rw [← extract_fld]; rw [← HQ.out] at he; exact he
            rw [← HH.out, decHdr_some he2, ← HQ.out, ← HP.out, extract_fld]
            have h100 : (s.extract 0 100).data.toList = s.data.toList.take 100 := by rw [Lib.extract_data]; rfl
            rw [h100]
            exact (bytes_eq (by simp)).symm
        rcases hpath with ⟨he, hpa⟩ | ⟨he, hpa⟩
        all_goals
          have HPA := Lib.hid hpa
          first
            | (have he2 : q.toList.isEmpty = true := by rw [he]; rfl)
            | (have he2 : q.toList.isEmpty = false := by simpa using he)
          have HE := Lib.hid he
          clear he hpa
          go_wp2_with fail
          refine wp_region_inv (Dec8 w H X g) 33 (by kernel_rfl) (by kernel_rfl) h3' ?_
          clear h3'
          simp only [List.take_succ_cons, List.take_zero, List.drop_succ_cons, List.drop_zero]
          refine ⟨_, yi_still rfl (fun W hI => by go_simp; rfl), ?_⟩
          refine ⟨_, yi_still rfl (fun W hI => by go_simp; rfl), ?_⟩
          refine ⟨_, yi_still rfl (fun W hI => by go_simp; rfl), ?_⟩
          refine ⟨_, yi_still rfl (fun W hI => by have c := hI.c0; go_simp; rfl), ?_⟩
          refine ⟨_, yi_still rfl (fun W hI => by go_simp; rfl), ?_⟩
          refine ⟨_, yi_still rfl (fun W hI => by go_simp; rfl), ?_⟩
          refine ⟨_, yi_still rfl (fun W hI => by have c := hI.c1; go_simp; rfl), ?_⟩
          refine ⟨_, yi_still rfl (fun W hI => by go_simp; rfl), ?_⟩
          refine ⟨_, yi_still rfl (fun W hI => by go_simp; rfl), ?_⟩
          refine ⟨_, yi_still rfl (fun W hI => by have c := hI.c2; go_simp; rfl), ?_⟩
          refine ⟨_, yi_still rfl (fun W hI => by go_simp; rfl), ?_⟩
          refine ⟨_, yi_still rfl (fun W hI => by go_simp; rfl), ?_⟩
          refine ⟨_, yi_still rfl (fun W hI => by have c := hI.c3; go_simp; rfl), ?_⟩
          refine ⟨_, yi_still rfl (fun W hI => by go_simp; rfl), ?_⟩
          refine ⟨_, yi_still rfl (fun W hI => by go_simp; rfl), ?_⟩
          refine ⟨_, yi_still rfl (fun W hI => by have c := hI.c4; go_simp; rfl), ?_⟩
          refine ⟨_, yi_still rfl (fun W hI => by go_simp; rfl), ?_⟩
          refine ⟨_, yi_still rfl (fun W hI => by go_simp; rfl), ?_⟩
          refine ⟨_, yi_still rfl (fun W hI => by go_simp; rfl), ?_⟩
          refine ⟨_, yi_still rfl (fun W hI => by go_simp; rfl), ?_⟩
          refine ⟨_, yi_call rfl (fun W hI => by go_simp) (fun W hI => (HL.out W).mono fun e W' ⟨he, hb⟩ => ⟨he, hI.keep hb⟩), ?_⟩
          refine ⟨_, yi_still rfl (fun W hI => by go_simp; rfl), ?_⟩
          refine ⟨_, yi_still rfl (fun W hI => by go_simp; rfl), ?_⟩
          refine ⟨_, yi_call rfl (fun W hI => by go_simp) (fun W hI => (HU.out W).mono fun e W' ⟨he, hb⟩ => ⟨he, hI.keep hb⟩), ?_⟩
          refine ⟨_, yi_still rfl (fun W hI => by go_simp; rfl), ?_⟩
          refine ⟨_, yi_still rfl (fun W hI => by go_simp; rfl), ?_⟩
          refine ⟨_, yi_call rfl (fun W hI => by go_simp) (fun W hI => (HGR.out W).mono fun e W' ⟨he, hb⟩ => ⟨he, hI.keep hb⟩), ?_⟩
          refine ⟨_, yi_still rfl (fun W hI => by go_simp; rfl), ?_⟩
          refine ⟨_, yi_still rfl (fun W hI => by go_simp; rfl), ?_⟩
          refine ⟨_, yi_still rfl (fun W hI => by have c := hI.c6; go_simp; rfl), ?_⟩
          refine ⟨_, yi_still rfl (fun W hI => by go_simp; rfl), ?_⟩
          refine ⟨_, yi_still rfl (fun W hI => by go_simp; rfl), ?_⟩
          refine ⟨_, yi_still rfl (fun W hI => by have c := hI.c7; go_simp; rfl), ?_⟩
          rintro W9 hI9
          change wpList _ _ _ _ _ W9
          have H9 := Lib.hid hI9
          clear hI9 H3 HL HU HGR
          have cr : ∀ i : Nat, W9.cell? ⟨w.heap.size, i, none⟩ = zh[i]? := fun i => cell_of_heapN H9.out.hh
          have fr : ∀ i : Nat, W9.frozen? ⟨w.heap.size, i, none⟩ = false := fun i => frozen_blk H9.out.hh
          go_wp2_with fail
          rw [set12 H9.out.hh, HT.out, ← HPA.out]
          have hW : (setBlk W9 w.heap.size (.cells H.cells 24 (0, 0))).heap[w.heap.size]? = some (.cells H.cells 24 (0, 0)) := setBlk_heap (blk_lt H9.out.hh)
          have hcw : ∀ i : Nat, (setBlk W9 w.heap.size (.cells H.cells 24 (0, 0))).cell? ⟨w.heap.size, i, none⟩ = H.cells[i]? := fun i => cell_of_heapN hW
          exact bodyPost_ret (v := .tuple #[.agg H.cells, .int .i64 0]) (by simp [results, Tryz.f58, go_sem, hcw]) rfl ⟨congrArg Ending.returned (by rw [HV.out, HH.out]), H9.out.bel.setBlk (Nat.le_refl _)⟩
      · have hne : (X != Y) = true := by rw [bne_iff_ne]; exact hxy
        have HXY := Lib.hid hxy
        clear hxy
        have cr : ∀ i : Nat, W7.cell? ⟨w.heap.size, i, none⟩ = zh[i]? := fun i => cell_of_heapN H7.out.hh
        have fr : ∀ i : Nat, W7.frozen? ⟨w.heap.size, i, none⟩ = false := fun i => frozen_blk H7.out.hh
        go_wp2_with fail
        rw [set12 H7.out.hh]
        have hW : (setBlk W7 w.heap.size (.cells zh 24 (0, 0))).heap[w.heap.size]? = some (.cells zh 24 (0, 0)) := setBlk_heap (blk_lt H7.out.hh)
        have hcw : ∀ i : Nat, (setBlk W7 w.heap.size (.cells zh 24 (0, 0))).cell? ⟨w.heap.size, i, none⟩ = zh[i]? := fun i => cell_of_heapN hW
        exact bodyPost_ret (v := .tuple #[.agg zh, .int .i64 7]) (by simp [results, Tryz.f58, go_sem, hcw]) rfl ⟨congrArg Ending.returned (decV_sum HM.out HOK.out (fun e => HXY.out (HX.out.symm.trans (e.trans HY.out)))).symm, H7.out.bel.setBlk (Nat.le_refl _)⟩
theorem DecodeR_any (s : ByteArray) (w : World) (hs : s.size = 512) :
    Calls Tryz.prog 58 #[.string s] w fun e w' => e = .returned (decV s.data.toList) ∧ Below w.heap.size w w' := by
  cases hm : magicB s.data.toList with
  | true => exact DecodeR_some s w hs hm
  | false => exact DecodeR_magic s w hs hm
end Go.Proofs.YthpmocfdnoehoaaGreatDoor
/- A law on regions that draw their order: all operations but the last ones are still, save one that may turn the world at any time. -/
namespace Go.Proofs.YthpmocfdnoehoaaGreatDoor
open Go
section
variable {P : Program} {ops : Array Oper} {md : Region.Mode} {W0 W1 : World} {A : Nat} {ptr : Value}
/-- Operation i gives v, in both worlds alike; the one that makes the block gives its pointer. -/
def Yt (P : Program) (ops : Array Oper) (W0 W1 : World) (A : Nat) (ptr : Value) (i : Nat) (o : Oper) (v : Value) (a : Act) : Prop :=
  if i = A then v = ptr ∧ ((execOp a.eval o).run P W0 = .ok (.value ptr) W1 ∨ (execOp a.eval o).run P W0 = .ok .skip W1 ∧ ptr = undef) else YieldsAt P ops W0 o v a ∧ YieldsAt P ops W1 o v a
theorem Yt.keep {i : Nat} {oi oj : Oper} {v u : Value} {a : Act} (hap : oi.apart ops oj = true) (hsi : ∀ cs b, oi.op ≠ .select cs b)
    (h : Yt P ops W0 W1 A ptr i oi v a) : Yt P ops W0 W1 A ptr i oi v (a.put oj.dst u) := by
  obtain ⟨_, _, h3⟩ := Oper.apart_spec hap
  unfold Yt at *
  split
  · rename_i e; rw [if_pos e] at h
    exact ⟨h.1, (by rw [execOp_put oi hsi a oj.dst u h3]; exact h.2)⟩
  · rename_i e
    rw [if_neg e] at h
    exact ⟨h.1.of_same (execOp_put oi hsi a oj.dst u h3) (wanted_put oi a oj.dst u h3), h.2.of_same (execOp_put oi hsi a oj.dst u h3) (wanted_put oi a oj.dst u h3)⟩
theorem Yt.back {j : Nat} {oi oj : Oper} {v u : Value} {a : Act} (hap : oi.apart ops oj = true) (hsj : ∀ cs b, oj.op ≠ .select cs b)
    (h : Yt P ops W0 W1 A ptr j oj u (a.put oi.dst v)) : Yt P ops W0 W1 A ptr j oj u a := by
  obtain ⟨h1, _, _⟩ := Oper.apart_spec hap
  unfold Yt at *
  split
  · rename_i e; rw [if_pos e] at h
    exact ⟨h.1, (by rw [← execOp_put oj hsj a oi.dst v h1]; exact h.2)⟩
  · rename_i e
    rw [if_neg e] at h
    exact ⟨h.1.of_same (execOp_put oj hsj a oi.dst v h1).symm (wanted_put oj a oi.dst v h1).symm, h.2.of_same (execOp_put oj hsj a oi.dst v h1).symm (wanted_put oj a oi.dst v h1).symm⟩
def wpAnyT (P : Program) (md : Region.Mode) (ops : Array Oper) (W0 W1 : World) (A : Nat) (ptr : Value) (n : Nat) (L : Array Bool → Act → Prop) : Nat → Array Bool → Act → Prop
  | 0, listed, a => L listed a
  | f + 1, listed, a => Region.ready md ops listed ≠ [] ∧ ∀ i ∈ Region.ready md ops listed, i < n ∧ ∃ o v, ops[i]? = some o ∧ Yt P ops W0 W1 A ptr i o v a ∧
      wpAnyT P md ops W0 W1 A ptr n L f (listed.setIfInBounds i true) (a.put o.dst v)
theorem wpAnyT_first {n i : Nat} {oi : Oper} {v : Value} {L : Array Bool → Act → Prop} (hi : ops[i]? = some oi) (hsel : ∀ (j : Nat) (o : Oper) cs b, ops[j]? = some o → o.op ≠ .select cs b)
    (hs : Region.sinkB md ops n = true) (hc : Region.chainB md ops n = true) (hn : n < ops.size) (hin : i < n)
    (hdone : ∀ listed a, L listed a → ∀ j ∈ Region.ready md ops listed, n ≤ j) :
    ∀ (f : Nat) (listed : Array Bool) (a : Act), HeadInv md ops n listed →
      (∀ j oj, ops[j]? = some oj → j ≠ i → listed.getD j true = false → (∀ e ∈ oj.after, Region.binds md e = true → e.on ≠ i) → oi.apart ops oj = true) →
      i ∈ Region.ready md ops listed → Yt P ops W0 W1 A ptr i oi v a →
      wpAnyT P md ops W0 W1 A ptr n L f (listed.setIfInBounds i true) (a.put oi.dst v) → wpAnyT P md ops W0 W1 A ptr n L (f + 1) listed a := by
  intro f
  induction f with
  | zero =>
    intro listed a inv _ hr hy H
    have hun := (mem_ready.1 hr).1
    refine ⟨fun h => (by rw [h] at hr; cases hr), fun j hj => ?_⟩
    have hjn : j < n := by
      rcases Nat.lt_or_ge j n with h | h
      · exact h
      · exact absurd hj (tail_waits hs hc hn inv _ i rfl hin hun j h)
    refine ⟨hjn, ?_⟩
    by_cases hji : j = i
    · subst hji; exact ⟨oi, v, hi, hy, H⟩
    · have := hdone _ _ H j (ready_mono hj hji)
      omega
  | succ f ih =>
    intro listed a inv hfree hr hy H
    have hun := (mem_ready.1 hr).1
    refine ⟨fun h => (by rw [h] at hr; cases hr), fun j hj => ?_⟩
    have hjn : j < n := by
      rcases Nat.lt_or_ge j n with h | h
      · exact h
      · exact absurd hj (tail_waits hs hc hn inv _ i rfl hin hun j h)
    refine ⟨hjn, ?_⟩
    by_cases hji : j = i
    · subst hji; exact ⟨oi, v, hi, hy, H⟩
    · obtain ⟨oj', u, hoj', hyj, hK⟩ := (H.2 j (ready_mono hj hji)).2
      obtain ⟨hjun, oj, hoj, hall⟩ := mem_ready.1 hj
      obtain rfl : oj' = oj := Option.some.inj (hoj'.symm.trans hoj)
      have hnot : ∀ e ∈ oj'.after, Region.binds md e = true → e.on ≠ i := fun e he hb heq => by
        have h1 := hall e he hb
        rw [heq, getD_both hun] at h1
        cases h1
      have hap := hfree j oj' hoj hji hjun hnot
      obtain ⟨_, h2, _⟩ := Oper.apart_spec hap
      have hfree' : ∀ k ok, ops[k]? = some ok → k ≠ i → (listed.setIfInBounds j true).getD k true = false →
          (∀ e ∈ ok.after, Region.binds md e = true → e.on ≠ i) → oi.apart ops ok = true := fun k ok hk hki hun hno => by
        refine hfree k ok hk hki ?_ hno
        by_cases hjk : j = k
        · subst hjk; exact hjun
        · rw [getD_set_ne true hjk] at hun; exact hun
      refine ⟨oj', u, hoj, hyj.back hap (fun cs b => hsel j oj' cs b hoj), ih (listed.setIfInBounds j true) _ (inv.set hj hjn) hfree' (ready_mono hr (Ne.symm hji)) (hy.keep hap (fun cs b => hsel i oi cs b hi)) ?_⟩
      rw [Array.setIfInBounds_comm _ _ hji, ← Act.put_comm a v u h2]
      exact hK
/-- The operations in the text's order, from number k on. -/
def wpLexT (P : Program) (ops : Array Oper) (W0 W1 : World) (A : Nat) (ptr : Value) (Q : Act → Prop) : Nat → List Oper → Act → Prop
  | _, [], a => Q a
  | k, o :: l, a => ∃ v, Yt P ops W0 W1 A ptr k o v a ∧ wpLexT P ops W0 W1 A ptr Q (k + 1) l (a.put o.dst v)
theorem wpAnyT_lex {n g : Nat} {Lq : Act → Prop} (hsel : Region.noSelect ops = true) (hs : Region.sinkB md ops n = true) (hc : Region.chainB md ops n = true) (hn : n < ops.size) :
    ∀ (l : List Oper) (k : Nat) (listed : Array Bool) (a : Act), (∀ j, j < l.length → l[j]? = ops[k + j]?) → k + l.length = n → HeadInv md ops n listed →
    Region.lexHead md ops g l.length k listed = true → wpLexT P ops W0 W1 A ptr Lq k l a →
    wpAnyT P md ops W0 W1 A ptr n (fun listed' a' => Region.seqB md ops g n listed' = true ∧ Lq a') l.length listed a
  | [], k, listed, a, _, hk, _, hB, h => by
    have : k = n := by simpa using hk
    subst this
    exact ⟨by simpa [Region.lexHead] using hB, h⟩
  | o :: l, k, listed, a, hl, hk, inv, hB, h => by
    have h0 : ops[k]? = some o := by simpa using (hl 0 (by simp)).symm
    simp only [List.length_cons, Region.lexHead, Bool.and_eq_true] at hB
    obtain ⟨⟨hr, hf⟩, hB'⟩ := hB
    have hkn : k < n := by simp only [List.length_cons] at hk; omega
    have hr' : k ∈ Region.ready md ops listed := by simpa using hr
    obtain ⟨v, hy, hK⟩ := h
    exact wpAnyT_first h0 (Region.noSelect_spec hsel) hs hc hn hkn (fun listed' a' hL => seqB_ready hL.1) l.length listed a inv (Region.free_spec h0 hf) hr' hy
      (wpAnyT_lex hsel hs hc hn l (k + 1) _ _ (fun j hj => by have := hl (j + 1) (by simp; omega); simpa [Nat.add_assoc, Nat.add_comm 1 j] using this) (by simp only [List.length_cons] at hk; omega) (inv.set hr' hkn) hB' hK)
/-- The world in which an operation runs: the second, once the block is made. -/
def wAtT (W0 W1 : World) (A : Nat) (listed : Array Bool) : World := if listed.getD A false = true then W1 else W0
theorem wpAny_of_T {n g : Nat} {oA : Oper} {L : Array Bool → Act → Prop} {Q' : Exit → Act → World → Prop} (hA : ops[A]? = some oA) (hg : oA.guard = none)
    (hL : ∀ listed a, L listed a → wpAny P md ops Q' g listed a (wAtT W0 W1 A listed)) :
    ∀ (f : Nat) (listed : Array Bool) (a : Act), wpAnyT P md ops W0 W1 A ptr n L f listed a → listed.size = ops.size → wpAny P md ops Q' (f + g) listed a (wAtT W0 W1 A listed)
  | 0, listed, a, h, _ => by rw [Nat.zero_add]; exact hL _ _ h
  | f + 1, listed, a, h, hsz => by
    rw [show f + 1 + g = (f + g) + 1 by omega]
    refine ⟨fun h0 => absurd h0 h.1, fun i hi => ?_⟩
    obtain ⟨_, o, v, ho, hy, hK⟩ := h.2 i hi
    have hrec := wpAny_of_T hA hg hL f _ _ hK (by simpa using hsz)
    obtain ⟨hun, _⟩ := mem_ready.1 hi
    have hil : i < listed.size := by rw [hsz]; exact (Array.getElem?_eq_some_iff.1 ho).1
    by_cases hiA : i = A
    · subst hiA
      obtain rfl : o = oA := Option.some.inj (ho.symm.trans hA)
      have hy2 : v = ptr ∧ ((execOp a.eval o).run P W0 = .ok (.value ptr) W1 ∨ (execOp a.eval o).run P W0 = .ok .skip W1 ∧ ptr = undef) := by unfold Yt at hy; rw [if_pos rfl] at hy; exact hy
      obtain ⟨hv, hrun⟩ := hy2
      subst hv
      have hw0 : wAtT W0 W1 i listed = W0 := by unfold wAtT; rw [getD_both hun]; rfl
      have hw1 : wAtT W0 W1 i (listed.setIfInBounds i true) = W1 := by unfold wAtT; simp [hil]
      rw [hw1] at hrec
      rw [hw0]
      unfold wpOp
      simp only [ho]
      rw [if_pos (by simp [Region.wanted, hg])]
      left
      unfold Oper.wp
      rcases hrun with hrun | ⟨hrun, rfl⟩
      · rw [hrun]
        exact hrec
      · rw [hrun]
        exact hrec
    · unfold Yt at hy
      rw [if_neg hiA] at hy
      have hw : wAtT W0 W1 A (listed.setIfInBounds i true) = wAtT W0 W1 A listed := by unfold wAtT; rw [getD_set_ne false hiA]
      rw [hw] at hrec
      have hy' : YieldsAt P ops (wAtT W0 W1 A listed) o v a := by
        unfold wAtT; split
        · exact hy.2
        · exact hy.1
      exact wpOp_of_stOp (K := fun a' => wpAny P md ops Q' (f + g) (listed.setIfInBounds i true) a' (wAtT W0 W1 A listed)) (fun _ h => h) (hy'.stOp ho hrec)
theorem yt_pure {i : Nat} {o : Oper} {v : Value} {a : Act} (hk : i ≠ A) (hg : o.guard = none) (h : ∀ W, (execOp a.eval o).run P W = .ok (.value v) W) : Yt P ops W0 W1 A ptr i o v a := by
  unfold Yt
  rw [if_neg hk]
  exact ⟨.inl ⟨by simp [Region.wanted, hg], .inl (h _)⟩, .inl ⟨by simp [Region.wanted, hg], .inl (h _)⟩⟩
theorem yt_call {i : Nat} {o : Oper} {v : Value} {a : Act} {f : FuncId} {args : Array Value} (hk : i ≠ A) (hg : o.guard = none) (h : ∀ W, (execOp a.eval o).run P W = .ok (.enter f args) W)
    (hc : ∀ W, Calls P f args W (fun e w'' => e = .returned v ∧ w'' = W)) : Yt P ops W0 W1 A ptr i o v a := by
  unfold Yt
  rw [if_neg hk]
  exact ⟨.inl ⟨by simp [Region.wanted, hg], .inr (.inr ⟨f, args, h _, hc _⟩)⟩, .inl ⟨by simp [Region.wanted, hg], .inr (.inr ⟨f, args, h _, hc _⟩)⟩⟩
theorem yt_turn {o : Oper} {a : Act} (h : (execOp a.eval o).run P W0 = .ok (.value ptr) W1) : Yt P ops W0 W1 A ptr A o ptr a := by
  unfold Yt
  rw [if_pos rfl]
  exact ⟨rfl, .inl h⟩
theorem yt_skip {o : Oper} {a : Act} (h : (execOp a.eval o).run P W0 = .ok .skip W1) : Yt P ops W0 W1 A undef A o undef a := by
  unfold Yt
  rw [if_pos rfl]
  exact ⟨rfl, .inr ⟨h, rfl⟩⟩
theorem yt_still {i : Nat} {o : Oper} {v : Value} {a : Act} (hk : i ≠ A) (hg : o.guard = none) (h0 : (execOp a.eval o).run P W0 = .ok (.value v) W0) (h1 : (execOp a.eval o).run P W1 = .ok (.value v) W1) : Yt P ops W0 W1 A ptr i o v a := by
  unfold Yt
  rw [if_neg hk]
  exact ⟨.inl ⟨by simp [Region.wanted, hg], .inl h0⟩, .inl ⟨by simp [Region.wanted, hg], .inl h1⟩⟩
/-- The law: n operations ahead of a forced tail; number A of them makes a block. -/
theorem wp_region_free_turn {id : Nat} {Q : Exit → Act → World → Prop} {a : Act} {w : World} {l : List Oper} (n A : Nat) (oA : Oper) (ptr : Value) (W1 : World) (hm : P.follows .mixedOrders = true) (hB : Region.lexTailB .any l.toArray n = true)
    (hA : l[A]? = some oA) (hg : oA.guard = none)
    (hwf : Region.waitsFor .any l.toArray n A = true)
    (h : wpLexT P l.toArray { w with drawn := w.drawn + 1 } W1 A ptr (fun a' => wpList P l.toArray Q (l.drop n) a' W1) 0 (l.take n) a) : (Code.region id l.toArray true).wp P Q a w := by
  simp only [Region.lexTailB, Bool.and_eq_true, decide_eq_true_eq] at hB
  obtain ⟨⟨⟨⟨hsel, hn⟩, hs⟩, hc⟩, hlex⟩ := hB
  have hn' : n < l.length := by simpa using hn
  have htl : (l.take n).length = n := by simp; omega
  have hdl : (l.drop n).length = l.toArray.size - n := by simp
  have hlist : ∀ listed : Array Bool, Region.seqB .any l.toArray (l.toArray.size - n) n listed = true → listed.getD A false = true := by
    intro listed hq
    obtain ⟨g, hg2⟩ : ∃ g, l.toArray.size - n = g + 1 := ⟨l.toArray.size - n - 1, by omega⟩
    rw [hg2] at hq
    simp only [Region.seqB, Bool.and_eq_true, decide_eq_true_eq] at hq
    have hr : n ∈ Region.ready .any l.toArray listed := by rw [hq.1]; simp
    obtain ⟨_, o, ho, hall⟩ := mem_ready.1 hr
    obtain ⟨o', ho', e, he, hb, hon⟩ := Region.waitsFor_spec hwf
    obtain rfl : o' = o := Option.some.inj (ho'.symm.trans ho)
    have := hall e he hb
    rwa [hon] at this
  have inv0 : HeadInv .any l.toArray n (Array.replicate l.toArray.size false) :=
    ⟨by simp, fun j oj _ hl => (by rw [getD_replicate_false] at hl; cases hl), fun t _ ht => getD_in (by simpa using ht) (getD_replicate_false _ _)⟩
  have H := wpAnyT_lex (md := .any) (g := l.toArray.size - n) hsel hs hc hn (l.take n) 0 _ a (fun j hj => by
    have hj' : j < n := by rw [htl] at hj; exact hj
    simp [hj']) (by simpa using htl) inv0 (by rw [htl]; exact hlex) h
  refine wp_region_any hm ?_
  have := wpAny_of_T (Q' := Q) (g := l.toArray.size - n) (ops := l.toArray) (by simpa using hA) hg (fun listed a' hL => by
    have h1 := wpAny_of_seq (md := .any) (Q' := Q) (l.drop n) n listed a' W1 (fun j => by simp [List.getElem?_drop]) (by rw [hdl]; exact hL.1) hL.2
    rw [hdl] at h1
    have hw : wAtT { w with drawn := w.drawn + 1 } W1 A listed = W1 := by unfold wAtT; rw [if_pos (hlist listed hL.1)]
    rw [hw]
    exact h1) _ _ _ H (by simp)
  rw [htl, show n + (l.toArray.size - n) = l.toArray.size by omega] at this
  have hw0 : wAtT { w with drawn := w.drawn + 1 } W1 A (Array.replicate l.toArray.size false) = { w with drawn := w.drawn + 1 } := by
    unfold wAtT; rw [getD_replicate_false]; rfl
  rw [hw0] at this
  exact this
theorem wp_region_turn {id : Nat} {Q : Exit → Act → World → Prop} {a : Act} {w : World} {l : List Oper} (n A : Nat) (oA : Oper) (ptr : Value) (V0 V1 : World) (hV : w.drew = V0) (hm : P.follows .mixedOrders = true) (hB : Region.lexTailB .any l.toArray n = true)
    (hA : l[A]? = some oA) (hg : oA.guard = none)
    (hwf : Region.waitsFor .any l.toArray n A = true)
    (h : wpLexT P l.toArray V0 V1 A ptr (fun a' => wpList P l.toArray Q (l.drop n) a' V1) 0 (l.take n) a) : (Code.region id l.toArray true).wp P Q a w := by
  subst hV
  exact wp_region_free_turn n A oA ptr V1 hm hB hA hg hwf h
end
end Go.Proofs.YthpmocfdnoehoaaGreatDoor
/- Contract of archive.member. -/
namespace Go.Proofs.YthpmocfdnoehoaaGreatDoor
open Go.RowKit
theorem numX_bd (l : Bs) (h : l.length ≤ 12) : 0 ≤ numX l ∧ numX l < 68719476736 := by
  have h1 : (numR l).length ≤ 12 := Nat.le_trans (numR_le l) (Nat.le_trans (numD_le l) h)
  have h2 := octVal_bd (numR l).length (numR l) rfl (fun b hb => by
    obtain ⟨k, hk⟩ := List.getElem?_of_mem hb
    have hlt : k < (numR l).length := (List.getElem?_eq_some_iff.1 hk).1
    refine takeWhile_at isOct (numD l) k b hlt ?_
    unfold numR at hk
    rw [takeWhile_take, List.getElem?_take] at hk
    split at hk
    · exact hk
    · cases hk)
  have h3 : (8 : Int) ^ (numR l).length ≤ 8 ^ 12 := by exact_mod_cast Nat.pow_le_pow_right (by decide) h1
  have h4 : (8 : Int) ^ 12 = 68719476736 := by decide
  unfold numX
  omega
theorem decSize_bd (l : Bs) : 0 ≤ (decHdr l).size ∧ (decHdr l).size < 68719476736 := by
  have : (decHdr l).size = numX (fld l 124 136) := rfl
  rw [this]
  exact numX_bd _ (by unfold fld; simp only [List.length_take]; omega)
/-- The block that begins at a byte. -/
def blkAt (l : Bs) (i : Nat) : Bs := (l.drop i).take 512
/-- What the member at a byte is: the error and its place; the member, and where the next one begins. -/
inductive MemR where
  | bad (e : Int) (i : Nat)
  | good (m : Mem) (next : Nat)
def memAt (l : Bs) (i : Nat) : MemR :=
  if decErrM (blkAt l i) ≠ 0 then .bad (decErrM (blkAt l i)) i else
  if (l.length : Int) < (decHdr (blkAt l i)).size ∨ l.length < i + 512 + whole (decHdr (blkAt l i)).size.toNat then .bad 2 (i + 512) else
  .good ⟨decHdr (blkAt l i), ⟨((l.drop (i + 512)).take (decHdr (blkAt l i)).size.toNat).toArray⟩⟩ (i + 512 + whole (decHdr (blkAt l i)).size.toNat)
/-- The cells of a member without anything. -/
@[reducible] def zm : Array Value := #[.string ⟨#[]⟩, .int .i64 0, .int .i64 0, .int .i64 0, .int .i64 0, .int .i64 0, .int .u8 0, .string ⟨#[]⟩, .string ⟨#[]⟩, .string ⟨#[]⟩, .int .i64 0, .int .i64 0, .string ⟨#[]⟩]
def memV : MemR → Value
  | .bad e i => .tuple #[.agg zm, .int .i64 0, faultV e 0 i]
  | .good m n => .tuple #[.agg m.cells, .int .i64 n, .nilIface]
theorem set13 {w : World} {b : Nat} {t : TypeId} (h : w.heap[b]? = some (.cells zm t (0, 0))) (v0 v1 v2 v3 v4 v5 v6 v7 v8 v9 v10 v11 v12 : Value) :
    ((((((((((((w.setCell ⟨b, 0, none⟩ v0).setCell ⟨b, 1, none⟩ v1).setCell ⟨b, 2, none⟩ v2).setCell ⟨b, 3, none⟩ v3).setCell ⟨b, 4, none⟩ v4).setCell ⟨b, 5, none⟩ v5).setCell ⟨b, 6, none⟩ v6).setCell ⟨b, 7, none⟩ v7).setCell ⟨b, 8, none⟩ v8).setCell ⟨b, 9, none⟩ v9).setCell ⟨b, 10, none⟩ v10).setCell ⟨b, 11, none⟩ v11).setCell ⟨b, 12, none⟩ v12 = setBlk w b (.cells #[v0, v1, v2, v3, v4, v5, v6, v7, v8, v9, v10, v11, v12] t (0, 0)) := by
  have hb := blk_lt h
  simp only [setCell_blk h, setBlk_setCell hb]
  simp only [zm, List.setIfInBounds_toArray, List.set_cons_zero, List.set_cons_succ]
theorem alloc_facts {w2 w3 : World} {cs : Array Value} {t : TypeId} (h : w2.alloc (.cells cs t (0, 0)) = w3) :
    (∀ i : Nat, w3.cell? ⟨w2.heap.size, i, none⟩ = cs[i]?) ∧ (∀ i : Nat, w3.frozen? ⟨w2.heap.size, i, none⟩ = false) ∧ Below w2.heap.size w2 w3 ∧ w2.heap.size < w3.heap.size := by
  subst h
  exact ⟨fun i => cell_of_heapN (heap_new _ _), fun i => frozen_blk (heap_new _ _), (Below.refl _ _).alloc (Nat.le_refl _) _, blk_lt (heap_new _ _)⟩
theorem wrapI {x : Int} (h0 : 0 ≤ x) (h1 : x < 9223372036854775808) : IntKind.i64.wrap x = x := by
  simp only [IntKind.wrap, IntKind.bits, IntKind.signed]
  simp
  omega
theorem conv_block (b k n : Nat) (l : Bs) (cap : Nat) (w : World) (hb : ByAt w b l) (hk : k + n ≤ l.length) :
    (convert 48 9 (.slice (some ⟨b, k, none⟩) n cap)).run Tryz.prog w = .ok (.string ⟨((l.drop k).take n).toArray⟩) w := by
  have hlen : ((l.drop k).take n).length = n := by simp only [List.length_take, List.length_drop]; omega
  have := run_convert_bytes_back (P := Tryz.prog) w 48 9 5 ⟨b, k, none⟩ cap ((l.drop k).take n) Tryz.underlying48 Tryz.underlying5 Tryz.underlying9 (fun j hj => by
    have h1 : (⟨b, k, none⟩ : Addr).add j = ⟨b, k + j, none⟩ := by unfold Addr.add; split <;> simp_all
    rw [h1]
    refine hb.2 (k + j) _ ?_
    rw [← List.getElem?_drop]
    have : ((l.drop k).take n)[j]? = some ((l.drop k).take n)[j] := List.getElem?_eq_getElem hj
    rw [List.getElem?_take] at this
    split at this
    · exact this
    · cases this)
  rw [hlen] at this
  exact this
theorem whole_q (n : Int) (w : World) (h0 : 0 ≤ n) (h1 : n ≤ 9223372036854774784) :
    Calls Tryz.prog 27 #[.int .i64 n] w fun e w' => e = .returned (.int .i64 ((n + 511) / 512 * 512)) ∧ w' = w :=
  (whole_any n w h0 h1).mono fun _ _ ⟨he, hw⟩ => ⟨he, hw.symm⟩
theorem memV_good {h : Hdr} {d : ByteArray} {z q : Int} {k : Nat} (hz : h.size = z) (hq : q = (k : Int)) :
    Value.tuple #[.agg #[.string h.path, .int .i64 h.mode, .int .i64 h.uid, .int .i64 h.gid, .int .i64 z, .int .i64 h.time, .int .u8 (h.typ.toNat : Int), .string h.link, .string h.user, .string h.group, .int .i64 h.major, .int .i64 h.minor, .string d], .int .i64 q, .nilIface] = memV (.good ⟨h, d⟩ k) := by
  subst hz hq; rfl
set_option maxHeartbeats 1600000 in
set_option maxRecDepth 100000 in
theorem member_any (b i cap : Nat) (l : Bs) (w : World) (hb : ByAt w b l) (hl : l.length ≤ 1152921504606846) (hc : l.length ≤ cap) (hc2 : cap ≤ 9223372036854775807) (hi : i + 512 ≤ l.length) :
    Calls Tryz.prog 63 #[.slice (some ⟨b, 0, none⟩) l.length cap, .int .i64 (i : Nat)] w fun e w' => e = .returned (memV (memAt l i)) ∧ Below w.heap.size w w' := by
  have hbs := hb.1
  have HB := Lib.hid hb
  obtain ⟨n, hn⟩ : ∃ n, l.length = n := ⟨_, rfl⟩
  obtain ⟨R, hR⟩ : ∃ R, memAt l i = R := ⟨_, rfl⟩
  rw [hR]
  rw [hn] at hl hc hi ⊢
  have HN := Lib.hid hn
  have HR := Lib.hid hR
  clear hb hn hR
  go_enter Tryz.func63, Tryz.ntmps63
  go_wp2_with fail
  refine (piece_yes b n cap i _ (by omega) hc hc2 hi).mono ?_
  rintro e w1 ⟨rfl, hw1⟩
  have hcr1 : w1.heap[w.heap.size]? = some (.cells zm 26 (0, 0)) := by rw [← hw1]; exact heap_new _ _
  have hb1 : Below w.heap.size w w1 := by rw [← hw1]; exact (Below.refl _ _).alloc (Nat.le_refl _) _
  have hz1 : w.heap.size < w1.heap.size := blk_lt hcr1
  have hby1 := HB.out.keep hb1 hbs
  have hcv := conv_block b i 512 l 512 w1 hby1 (by rw [HN.out]; exact hi)
  obtain ⟨s, hs⟩ : ∃ s : ByteArray, (⟨((l.drop i).take 512).toArray⟩ : ByteArray) = s := ⟨_, rfl⟩
  rw [hs] at hcv
  have hsd : s.data.toList = blkAt l i := by rw [← hs]; rfl
  have hss : s.size = 512 := by
    have : s.size = (blkAt l i).length := by rw [← hsd]; rfl
    rw [this]; unfold blkAt; simp only [List.length_take, List.length_drop, HN.out]; omega
  have HZ := hz1
  have HSD := Lib.hid hsd
  have HCR1 := Lib.hid hcr1
  have HB1 := Lib.hid hb1
  have HBY1 := Lib.hid hby1
  clear hs hsd hw1 hcr1 hb1 hby1
  go_wp2_with fail
  clear hcv
  refine (decode_all s _ hss).mono ?_
  rintro e w2 ⟨rfl, hb2⟩
  rw [HSD.out]
  have HB2 := Lib.hid hb2
  have HR2 : w2.heap[w.heap.size]? = some (.cells zm 26 (0, 0)) := (hb2.block _ HZ).trans HCR1.out
  have HCR2 := Lib.hid HR2
  clear hb2 HR2
  by_cases he : decErrM (blkAt l i) = 0
  · rw [if_pos he, if_pos he]
    obtain ⟨h, hh⟩ : ∃ h, decHdr (blkAt l i) = h := ⟨_, rfl⟩
    have hsz := decSize_bd (blkAt l i)
    have hmem : R = memAt l i := HR.out.symm
    unfold memAt at hmem
    rw [if_neg (by rw [he]; decide), hh, HN.out] at hmem
    rw [hh] at hsz ⊢
    obtain ⟨z, hz⟩ : ∃ z, h.size = z := ⟨_, rfl⟩
    have hcs : h.cells = #[.string h.path, .int .i64 h.mode, .int .i64 h.uid, .int .i64 h.gid, .int .i64 z, .int .i64 h.time, .int .u8 (h.typ.toNat : Int), .string h.link, .string h.user, .string h.group, .int .i64 h.major, .int .i64 h.minor] := by rw [← hz]
    rw [hz] at hsz hmem
    obtain ⟨hz0, hz9⟩ := hsz
    have HM := Lib.hid hmem
    have HZZ := Lib.hid hz
    clear he hh hmem hz
    rw [hcs]
    clear hcs
    by_cases h1 : (n : Int) < z
    · have hra : ∀ a : Obj, (w2.alloc a).heap[w.heap.size]? = some (.cells zm 26 (0, 0)) := fun a => (Below.heap_alloc _ _ _ (blk_lt HCR2.out)).trans HCR2.out
      have cra : ∀ (a : Obj) (i : Nat), (w2.alloc a).cell? ⟨w.heap.size, i, none⟩ = zm[i]? := fun a i => cell_of_heapN (hra a)
      have fra : ∀ (a : Obj) (i : Nat), (w2.alloc a).frozen? ⟨w.heap.size, i, none⟩ = false := fun a i => frozen_blk (hra a)
      have HRA := Lib.hid hra
      clear hra
      go_wp2_with fail
      rw [set13 (HRA.out _)]
      have hcw : ∀ (W5 : World) (hW5 : W5.heap[w.heap.size]? = some (.cells zm 26 (0, 0))) (i : Nat), (setBlk W5 w.heap.size (.cells zm 26 (0, 0))).cell? ⟨w.heap.size, i, none⟩ = zm[i]? := fun W5 hW5 i => cell_of_heapN (setBlk_heap (blk_lt hW5))
      refine bodyPost_ret (v := .tuple #[.agg zm, .int .i64 0, faultV 2 0 ((i : Int) + 512)]) ?_ rfl ⟨?_, ((HB1.out.trans (HB2.out.mono (Nat.le_of_lt HZ))).alloc (Nat.le_of_lt (blk_lt HCR2.out)) _).setBlk (Nat.le_refl _)⟩
      · simp [results, Tryz.results63, go_sem, hcw _ (HRA.out _), faultV]
      · rw [HM.out, if_pos (Or.inl h1)]; rfl
    · by_cases h2 : (n : Int) - (i + 512) < (z + 511) / 512 * 512
      · go_wp2_with fail
        refine (whole_any z _ hz0 (by omega)).mono ?_
        rintro e w3 ⟨rfl, hw3⟩
        obtain ⟨hch, hfh, hb3, hlt3⟩ := alloc_facts hw3
        have hbw : Below w.heap.size w w3 := (HB1.out.trans (HB2.out.mono (Nat.le_of_lt HZ))).trans (hb3.mono (Nat.le_of_lt (blk_lt HCR2.out)))
        have hr3 : w3.heap[w.heap.size]? = some (.cells zm 26 (0, 0)) := (hb3.block _ (blk_lt HCR2.out)).trans HCR2.out
        have HBW := Lib.hid hbw
        have HR3 := Lib.hid hr3
        have cr : ∀ i : Nat, w3.cell? ⟨w.heap.size, i, none⟩ = zm[i]? := fun i => cell_of_heapN hr3
        have fr : ∀ i : Nat, w3.frozen? ⟨w.heap.size, i, none⟩ = false := fun i => frozen_blk hr3
        clear hw3 hb3 hbw hr3 hch hfh
        go_wp2_with fail
        rw [set13 HR3.out]
        have hcw : ∀ i : Nat, (setBlk (w3) w.heap.size (.cells zm 26 (0, 0))).cell? ⟨w.heap.size, i, none⟩ = zm[i]? := fun i => cell_of_heapN (setBlk_heap (blk_lt HR3.out))
        refine bodyPost_ret (v := .tuple #[.agg zm, .int .i64 0, faultV 2 0 ((i : Int) + 512)]) ?_ rfl ⟨?_, HBW.out.setBlk (Nat.le_refl _)⟩
        · simp [results, Tryz.results63, go_sem, hcw, faultV]
        · rw [HM.out, if_pos (Or.inr (by unfold whole; omega))]; rfl
      · go_wp2_with fail
        refine (whole_any z _ hz0 (by omega)).mono ?_
        rintro e w3 ⟨rfl, hw3⟩
        obtain ⟨hch, hfh, hb3, hlt3⟩ := alloc_facts hw3
        have hbw : Below w.heap.size w w3 := (HB1.out.trans (HB2.out.mono (Nat.le_of_lt HZ))).trans (hb3.mono (Nat.le_of_lt (blk_lt HCR2.out)))
        have hr3 : w3.heap[w.heap.size]? = some (.cells zm 26 (0, 0)) := (hb3.block _ (blk_lt HCR2.out)).trans HCR2.out
        have HBW := Lib.hid hbw
        have HR3 := Lib.hid hr3
        have hby := HB.out.keep hbw hbs
        have hcv := conv_block b (i + 512) z.toNat l z.toNat w3 hby (by rw [HN.out]; omega)
        have cr : ∀ i : Nat, w3.cell? ⟨w.heap.size, i, none⟩ = zm[i]? := fun i => cell_of_heapN hr3
        have fr : ∀ i : Nat, w3.frozen? ⟨w.heap.size, i, none⟩ = false := fun i => frozen_blk hr3
        clear hw3 hb3 hbw hr3 hby
        go_wp2_with fail
        obtain ⟨V0, hV0⟩ : ∃ V, w3.drew = V := ⟨_, rfl⟩
        obtain ⟨d, hd⟩ : ∃ d : ByteArray, (⟨((l.drop (i + 512)).take z.toNat).toArray⟩ : ByteArray) = d := ⟨_, rfl⟩
        obtain ⟨V1, hV1⟩ : ∃ V, setBlk V0 w.heap.size (.cells #[.string h.path, .int .i64 h.mode, .int .i64 h.uid, .int .i64 h.gid, .int .i64 z, .int .i64 h.time, .int .u8 (h.typ.toNat : Int), .string h.link, .string h.user, .string h.group, .int .i64 h.major, .int .i64 h.minor, .string d] 26 (0, 0)) = V := ⟨_, rfl⟩
        have hR0 : V0.heap[w.heap.size]? = some (.cells zm 26 (0, 0)) := by rw [← hV0]; exact HR3.out
        have hne : w2.heap.size ≠ w.heap.size := by have := blk_lt HCR2.out; omega
        have hB0 : Below w.heap.size w V0 := by rw [← hV0]; exact HBW.out.drew
        have hB1 : Below w.heap.size w V1 := by rw [← hV1]; exact hB0.setBlk (Nat.le_refl _)
        have hR1 : V1.heap[w.heap.size]? = some (.cells #[.string h.path, .int .i64 h.mode, .int .i64 h.uid, .int .i64 h.gid, .int .i64 z, .int .i64 h.time, .int .u8 (h.typ.toNat : Int), .string h.link, .string h.user, .string h.group, .int .i64 h.major, .int .i64 h.minor, .string d] 26 (0, 0)) := by rw [← hV1]; exact setBlk_heap (blk_lt hR0)
        have hby0 := HB.out.keep hB0 hbs
        have hby1 := HB.out.keep hB1 hbs
        have hch0 : ∀ i : Nat, V0.cell? ⟨w2.heap.size, i, none⟩ = (#[.string h.path, .int .i64 h.mode, .int .i64 h.uid, .int .i64 h.gid, .int .i64 z, .int .i64 h.time, .int .u8 (h.typ.toNat : Int), .string h.link, .string h.user, .string h.group, .int .i64 h.major, .int .i64 h.minor] : Array Value)[i]? := by rw [← hV0]; exact hch
        have hch1 : ∀ i : Nat, V1.cell? ⟨w2.heap.size, i, none⟩ = (#[.string h.path, .int .i64 h.mode, .int .i64 h.uid, .int .i64 h.gid, .int .i64 z, .int .i64 h.time, .int .u8 (h.typ.toNat : Int), .string h.link, .string h.user, .string h.group, .int .i64 h.major, .int .i64 h.minor] : Array Value)[i]? := fun i => by rw [← hch0 i, ← hV1]; exact World.cell?_of_block (w := V0) (setBlk_other hne)
        have cr0 : ∀ i : Nat, V0.cell? ⟨w.heap.size, i, none⟩ = zm[i]? := fun i => cell_of_heapN hR0
        have fr0 : ∀ i : Nat, V0.frozen? ⟨w.heap.size, i, none⟩ = false := fun i => frozen_blk hR0
        rcases Int.lt_or_eq_of_le hz0 with hzp | hzp
        · have hcv0 := conv_block b (i + 512) z.toNat l z.toNat V0 hby0 (by rw [HN.out]; omega)
          have hcv1 := conv_block b (i + 512) z.toNat l z.toNat V1 hby1 (by rw [HN.out]; omega)
          rw [hd] at hcv0 hcv1
          have hc0 : (i + 512 + z.toNat = i + 512) = False := by simp only [eq_iff_iff, iff_false]; omega
          have hc1 : ¬ (z ≤ 0) := by omega
          have hi2 : ((i : Int) + 512).toNat = i + 512 := by omega
          have hwr : IntKind.i64.wrap ((i : Int) + 512 + z) = (i : Int) + 512 + z := wrapI (by omega) (by omega)
          have hmx : max ((i : Int) + 512 + z) 0 = (i : Int) + 512 + z := by omega
          have hb1 : 0 ≤ (i : Int) + 512 + z := by omega
          have hb2 : (i : Int) + 512 + z ≤ (cap : Int) := by omega
          have hb3 : (i : Int) + 512 ≤ (i : Int) + 512 + z := by omega
          have hb4 : 0 ≤ (i : Int) + 512 := by omega
          have hsb : i + 512 + z.toNat - (i + 512) = z.toNat := by omega
          have hwq : IntKind.i64.wrap ((i : Int) + 512 + (z + 511) / 512 * 512) = (i : Int) + 512 + (z + 511) / 512 * 512 := wrapI (by omega) (by omega)
          have hz2 : ((i : Int) + 512 + z).toNat = i + 512 + z.toNat := by omega
          have HR0 := Lib.hid hR0
          have HR1 := Lib.hid hR1
          have HV0 := Lib.hid hV0
          have HV1 := Lib.hid hV1
          have HB1' := Lib.hid hB1
          have HD := Lib.hid hd
          clear hcv hzp hby0 hby1 hB0 hB1 hR0 hR1 hV1 hd hch hfh cr fr hne
          refine wp_region_turn 17 16 _ undef V0 V1 hV0 (by kernel_rfl) (by kernel_rfl) rfl rfl (by kernel_rfl) ?_
          clear hV0
          simp only [List.take_succ_cons, List.take_zero, List.drop_succ_cons, List.drop_zero]
          refine ⟨_, yt_still (by decide) rfl (by go_simp; rfl) (by go_simp), ?_⟩
          refine ⟨_, yt_still (by decide) rfl (by go_simp; rfl) (by go_simp), ?_⟩
          refine ⟨_, yt_still (by decide) rfl (by go_simp; rfl) (by go_simp), ?_⟩
          refine ⟨_, yt_still (by decide) rfl (by go_simp; rfl) (by go_simp), ?_⟩
          refine ⟨_, yt_still (by decide) rfl (by go_simp; rfl) (by go_simp), ?_⟩
          refine ⟨_, yt_still (by decide) rfl (by go_simp; rfl) (by go_simp), ?_⟩
          refine ⟨_, yt_still (by decide) rfl (by go_simp; rfl) (by go_simp), ?_⟩
          refine ⟨_, yt_still (by decide) rfl (by go_simp; rfl) (by go_simp), ?_⟩
          refine ⟨_, yt_still (by decide) rfl (by go_simp; rfl) (by go_simp), ?_⟩
          refine ⟨_, yt_still (by decide) rfl (by go_simp; rfl) (by go_simp), ?_⟩
          refine ⟨_, yt_still (by decide) rfl (by go_simp; rfl) (by go_simp), ?_⟩
          refine ⟨_, yt_still (by decide) rfl (by go_simp; rfl) (by go_simp), ?_⟩
          refine ⟨_, yt_still (by decide) rfl (by go_simp; rfl) (by go_simp), ?_⟩
          refine ⟨_, yt_still (by decide) rfl (by go_simp; rfl) (by go_simp), ?_⟩
          refine ⟨_, yt_call (by decide) rfl (fun W => by go_simp) (fun W => whole_q z W hz0 (by omega)), ?_⟩
          refine ⟨_, yt_still (by decide) rfl (by go_simp; rfl) (by go_simp), ?_⟩
          have e13 := (set13 HR0.out _ _ _ _ _ _ _ _ _ _ _ _ _).trans HV1.out
          refine ⟨_, yt_skip (by go_simp), ?_⟩
          clear e13
          change wpList _ _ _ _ _ V1
          clear cr0 fr0 hcv0 hcv1 hch0 hch1
          have cr1 : ∀ i : Nat, V1.cell? ⟨w.heap.size, i, none⟩ = (#[.string h.path, .int .i64 h.mode, .int .i64 h.uid, .int .i64 h.gid, .int .i64 z, .int .i64 h.time, .int .u8 (h.typ.toNat : Int), .string h.link, .string h.user, .string h.group, .int .i64 h.major, .int .i64 h.minor, .string d] : Array Value)[i]? := fun i => cell_of_heapN HR1.out
          go_wp2_with fail
          refine bodyPost_ret (v := .tuple #[.agg #[.string h.path, .int .i64 h.mode, .int .i64 h.uid, .int .i64 h.gid, .int .i64 z, .int .i64 h.time, .int .u8 (h.typ.toNat : Int), .string h.link, .string h.user, .string h.group, .int .i64 h.major, .int .i64 h.minor, .string d], .int .i64 ((i : Int) + 512 + (z + 511) / 512 * 512), .nilIface]) ?_ rfl ⟨?_, HB1'.out⟩
          · simp [results, Tryz.results63, go_sem, cr1]
          · rw [HM.out, if_neg (by unfold whole; omega), HD.out]
            exact congrArg Ending.returned (memV_good HZZ.out (by unfold whole; omega))
        · have hcv0 := conv_block b 0 z.toNat l z.toNat V0 hby0 (by rw [HN.out]; omega)
          have hcv1 := conv_block b 0 z.toNat l z.toNat V1 hby1 (by rw [HN.out]; omega)
          rw [show (⟨((l.drop 0).take z.toNat).toArray⟩ : ByteArray) = d from by rw [← hd, ← hzp]; rfl] at hcv0 hcv1
          have hc0 : (i + 512 + z.toNat = i + 512) = True := by simp only [eq_iff_iff, iff_true]; omega
          have hc1 : z ≤ 0 := by omega
          have hi2 : ((i : Int) + 512).toNat = i + 512 := by omega
          have hwr : IntKind.i64.wrap ((i : Int) + 512 + z) = (i : Int) + 512 + z := wrapI (by omega) (by omega)
          have hmx : max ((i : Int) + 512 + z) 0 = (i : Int) + 512 + z := by omega
          have hb1 : 0 ≤ (i : Int) + 512 + z := by omega
          have hb2 : (i : Int) + 512 + z ≤ (cap : Int) := by omega
          have hb3 : (i : Int) + 512 ≤ (i : Int) + 512 + z := by omega
          have hb4 : 0 ≤ (i : Int) + 512 := by omega
          have hsb : i + 512 + z.toNat - (i + 512) = z.toNat := by omega
          have hwq : IntKind.i64.wrap ((i : Int) + 512 + (z + 511) / 512 * 512) = (i : Int) + 512 + (z + 511) / 512 * 512 := wrapI (by omega) (by omega)
          have hz2 : ((i : Int) + 512 + z).toNat = i + 512 + z.toNat := by omega
          have HR0 := Lib.hid hR0
          have HR1 := Lib.hid hR1
          have HV0 := Lib.hid hV0
          have HV1 := Lib.hid hV1
          have HB1' := Lib.hid hB1
          have HD := Lib.hid hd
          clear hcv hzp hby0 hby1 hB0 hB1 hR0 hR1 hV1 hd hch hfh cr fr hne
          refine wp_region_turn 17 16 _ undef V0 V1 hV0 (by kernel_rfl) (by kernel_rfl) rfl rfl (by kernel_rfl) ?_
          clear hV0
          simp only [List.take_succ_cons, List.take_zero, List.drop_succ_cons, List.drop_zero]
          refine ⟨_, yt_still (by decide) rfl (by go_simp; rfl) (by go_simp), ?_⟩
          refine ⟨_, yt_still (by decide) rfl (by go_simp; rfl) (by go_simp), ?_⟩
          refine ⟨_, yt_still (by decide) rfl (by go_simp; rfl) (by go_simp), ?_⟩
          refine ⟨_, yt_still (by decide) rfl (by go_simp; rfl) (by go_simp), ?_⟩
          refine ⟨_, yt_still (by decide) rfl (by go_simp; rfl) (by go_simp), ?_⟩
          refine ⟨_, yt_still (by decide) rfl (by go_simp; rfl) (by go_simp), ?_⟩
          refine ⟨_, yt_still (by decide) rfl (by go_simp; rfl) (by go_simp), ?_⟩
          refine ⟨_, yt_still (by decide) rfl (by go_simp; rfl) (by go_simp), ?_⟩
          refine ⟨_, yt_still (by decide) rfl (by go_simp; rfl) (by go_simp), ?_⟩
          refine ⟨_, yt_still (by decide) rfl (by go_simp; rfl) (by go_simp), ?_⟩
          refine ⟨_, yt_still (by decide) rfl (by go_simp; rfl) (by go_simp), ?_⟩
          refine ⟨_, yt_still (by decide) rfl (by go_simp; rfl) (by go_simp), ?_⟩
          refine ⟨_, yt_still (by decide) rfl (by go_simp; rfl) (by go_simp), ?_⟩
          refine ⟨_, yt_still (by decide) rfl (by go_simp; rfl) (by go_simp), ?_⟩
          refine ⟨_, yt_call (by decide) rfl (fun W => by go_simp) (fun W => whole_q z W hz0 (by omega)), ?_⟩
          refine ⟨_, yt_still (by decide) rfl (by go_simp; rfl) (by go_simp), ?_⟩
          have e13 := (set13 HR0.out _ _ _ _ _ _ _ _ _ _ _ _ _).trans HV1.out
          refine ⟨_, yt_skip (by go_simp), ?_⟩
          clear e13
          change wpList _ _ _ _ _ V1
          clear cr0 fr0 hcv0 hcv1 hch0 hch1
          have cr1 : ∀ i : Nat, V1.cell? ⟨w.heap.size, i, none⟩ = (#[.string h.path, .int .i64 h.mode, .int .i64 h.uid, .int .i64 h.gid, .int .i64 z, .int .i64 h.time, .int .u8 (h.typ.toNat : Int), .string h.link, .string h.user, .string h.group, .int .i64 h.major, .int .i64 h.minor, .string d] : Array Value)[i]? := fun i => cell_of_heapN HR1.out
          go_wp2_with fail
          refine bodyPost_ret (v := .tuple #[.agg #[.string h.path, .int .i64 h.mode, .int .i64 h.uid, .int .i64 h.gid, .int .i64 z, .int .i64 h.time, .int .u8 (h.typ.toNat : Int), .string h.link, .string h.user, .string h.group, .int .i64 h.major, .int .i64 h.minor, .string d], .int .i64 ((i : Int) + 512 + (z + 511) / 512 * 512), .nilIface]) ?_ rfl ⟨?_, HB1'.out⟩
          · simp [results, Tryz.results63, go_sem, cr1]
          · rw [HM.out, if_neg (by unfold whole; omega), HD.out]
            exact congrArg Ending.returned (memV_good HZZ.out (by unfold whole; omega))
  · rw [if_neg he, if_neg he]
    obtain ⟨e0, he0⟩ : ∃ e0, decErrM (blkAt l i) = e0 := ⟨_, rfl⟩
    have hmem : R = .bad e0 i := by rw [← HR.out, memAt, if_pos he, he0]
    subst hmem
    rw [he0]
    clear he he0
    unfold errV
    go_wp2_with fail
    refine (fault_any e0 i _).mono ?_
    rintro e w3 ⟨rfl, hw3⟩
    have hr3 : w3.heap[w.heap.size]? = some (.cells zm 26 (0, 0)) := by rw [← hw3]; exact (Below.heap_alloc _ _ _ (blk_lt HCR2.out)).trans HCR2.out
    have hb3 : Below w.heap.size w w3 := by rw [← hw3]; exact (HB1.out.trans (HB2.out.mono (Nat.le_of_lt HZ))).alloc (Nat.le_of_lt (blk_lt HCR2.out)) _
    have HR3 := Lib.hid hr3
    have HB3 := Lib.hid hb3
    have cr : ∀ i : Nat, w3.cell? ⟨w.heap.size, i, none⟩ = zm[i]? := fun i => cell_of_heapN hr3
    have fr : ∀ i : Nat, w3.frozen? ⟨w.heap.size, i, none⟩ = false := fun i => frozen_blk hr3
    clear hw3 hr3 hb3
    go_wp2_with fail
    rw [set13 HR3.out]
    have hcw : ∀ i : Nat, (setBlk w3 w.heap.size (.cells zm 26 (0, 0))).cell? ⟨w.heap.size, i, none⟩ = zm[i]? := fun i => cell_of_heapN (setBlk_heap (blk_lt HR3.out))
    refine bodyPost_ret (v := .tuple #[.agg zm, .int .i64 0, faultV e0 0 i]) ?_ rfl ⟨rfl, HB3.out.setBlk (Nat.le_refl _)⟩
    simp [results, Tryz.results63, go_sem, hcw]
end Go.Proofs.YthpmocfdnoehoaaGreatDoor
