/- Laws on regions that draw their order: every operation is still, or calls a function that keeps what the others read; and one operation may make a block. -/
import Derived.StillTail
import Derived.StillTactics
import Derived.WalkKit
namespace Go.Proofs.YtlcompihcmhbiaaGreatDoor
open Go
section
variable {P : Program} {ops : Array Oper} {md : Region.Mode} {Inv : World → Prop}
/-- Operation o gives v in every world that Inv holds of, and leaves such a world. -/
def Yi (P : Program) (ops : Array Oper) (Inv : World → Prop) (o : Oper) (v : Value) (a : Act) : Prop :=
  (Region.wanted o (yielded ops a.tmps) = true ∧ ∀ W, Inv W → ((execOp a.eval o).run P W = .ok (.value v) W ∨ ∃ f args, (execOp a.eval o).run P W = .ok (.enter f args) W ∧ Calls P f args W fun e W' => e = .returned v ∧ Inv W')) ∨
  (Region.wanted o (yielded ops a.tmps) = false ∧ v = undef)
theorem Yi.of_same {o : Oper} {v : Value} {a a' : Act} (h : Yi P ops Inv o v a) (he : execOp a'.eval o = execOp a.eval o) (hw : Region.wanted o (yielded ops a'.tmps) = Region.wanted o (yielded ops a.tmps)) : Yi P ops Inv o v a' := by
  unfold Yi at *
  rw [he, hw]
  exact h
theorem Yi.keep {oi oj : Oper} {v u : Value} {a : Act} (hap : oi.apart ops oj = true) (hsi : ∀ cs b, oi.op ≠ .select cs b)
    (h : Yi P ops Inv oi v a) : Yi P ops Inv oi v (a.put oj.dst u) := by
  obtain ⟨_, _, h3⟩ := Oper.apart_spec hap
  exact h.of_same (execOp_put oi hsi a oj.dst u h3) (wanted_put oi a oj.dst u h3)
theorem Yi.back {oi oj : Oper} {v u : Value} {a : Act} (hap : oi.apart ops oj = true) (hsj : ∀ cs b, oj.op ≠ .select cs b)
    (h : Yi P ops Inv oj u (a.put oi.dst v)) : Yi P ops Inv oj u a := by
  obtain ⟨h1, _, _⟩ := Oper.apart_spec hap
  exact h.of_same (execOp_put oj hsj a oi.dst v h1).symm (wanted_put oj a oi.dst v h1).symm
def wpAnyI (P : Program) (md : Region.Mode) (ops : Array Oper) (Inv : World → Prop) (n : Nat) (L : Array Bool → Act → Prop) : Nat → Array Bool → Act → Prop
  | 0, listed, a => L listed a
  | f + 1, listed, a => Region.ready md ops listed ≠ [] ∧ ∀ i ∈ Region.ready md ops listed, i < n ∧ ∃ o v, ops[i]? = some o ∧ Yi P ops Inv o v a ∧
      wpAnyI P md ops Inv n L f (listed.setIfInBounds i true) (a.put o.dst v)
theorem wpAnyI_first {n i : Nat} {oi : Oper} {v : Value} {L : Array Bool → Act → Prop} (hi : ops[i]? = some oi) (hsel : ∀ (j : Nat) (o : Oper) cs b, ops[j]? = some o → o.op ≠ .select cs b)
    (hs : Region.sinkB md ops n = true) (hc : Region.chainB md ops n = true) (hn : n < ops.size) (hin : i < n)
    (hdone : ∀ listed a, L listed a → ∀ j ∈ Region.ready md ops listed, n ≤ j) :
    ∀ (f : Nat) (listed : Array Bool) (a : Act), HeadInv md ops n listed →
      (∀ j oj, ops[j]? = some oj → j ≠ i → listed.getD j true = false → (∀ e ∈ oj.after, Region.binds md e = true → e.on ≠ i) → oi.apart ops oj = true) →
      i ∈ Region.ready md ops listed → Yi P ops Inv oi v a →
      wpAnyI P md ops Inv n L f (listed.setIfInBounds i true) (a.put oi.dst v) → wpAnyI P md ops Inv n L (f + 1) listed a := by
  intro f
  induction f with
  | zero =>
    intro listed a inv _ hr hy H
    have hun := (mem_ready.1 hr).1
    refine ⟨fun h => (by rw [h] at hr; cases hr), fun j hj => ?_⟩
    have hjn : j < n := by
      rcases Nat.lt_or_ge j n with h | h
      · exact h
      · exact absurd hj (tail_waits hs hc hn inv _ i rfl hin hun j h)
    refine ⟨hjn, ?_⟩
    by_cases hji : j = i
    · subst hji; exact ⟨oi, v, hi, hy, H⟩
    · have := hdone _ _ H j (ready_mono hj hji)
      omega
  | succ f ih =>
    intro listed a inv hfree hr hy H
    have hun := (mem_ready.1 hr).1
    refine ⟨fun h => (by rw [h] at hr; cases hr), fun j hj => ?_⟩
    have hjn : j < n := by
      rcases Nat.lt_or_ge j n with h | h
      · exact h
      · exact absurd hj (tail_waits hs hc hn inv _ i rfl hin hun j h)
    refine ⟨hjn, ?_⟩
    by_cases hji : j = i
    · subst hji; exact ⟨oi, v, hi, hy, H⟩
    · obtain ⟨oj', u, hoj', hyj, hK⟩ := (H.2 j (ready_mono hj hji)).2
      obtain ⟨hjun, oj, hoj, hall⟩ := mem_ready.1 hj
      obtain rfl : oj' = oj := Option.some.inj (hoj'.symm.trans hoj)
      have hnot : ∀ e ∈ oj'.after, Region.binds md e = true → e.on ≠ i := fun e he hb heq => by
        have h1 := hall e he hb
        rw [heq, getD_both hun] at h1
        cases h1
      have hap := hfree j oj' hoj hji hjun hnot
      obtain ⟨_, h2, _⟩ := Oper.apart_spec hap
      have hfree' : ∀ k ok, ops[k]? = some ok → k ≠ i → (listed.setIfInBounds j true).getD k true = false →
          (∀ e ∈ ok.after, Region.binds md e = true → e.on ≠ i) → oi.apart ops ok = true := fun k ok hk hki hun hno => by
        refine hfree k ok hk hki ?_ hno
        by_cases hjk : j = k
        · subst hjk; exact hjun
        · rw [getD_set_ne true hjk] at hun; exact hun
      refine ⟨oj', u, hoj, hyj.back hap (fun cs b => hsel j oj' cs b hoj), ih (listed.setIfInBounds j true) _ (inv.set hj hjn) hfree' (ready_mono hr (Ne.symm hji)) (hy.keep hap (fun cs b => hsel i oi cs b hi)) ?_⟩
      rw [Array.setIfInBounds_comm _ _ hji, ← Act.put_comm a v u h2]
      exact hK
/-- The operations in the text's order, from number k on. -/
def wpLexI (P : Program) (ops : Array Oper) (Inv : World → Prop) (Q : Act → Prop) : Nat → List Oper → Act → Prop
  | _, [], a => Q a
  | k, o :: l, a => ∃ v, Yi P ops Inv o v a ∧ wpLexI P ops Inv Q (k + 1) l (a.put o.dst v)
theorem wpAnyI_lex {n g : Nat} {Lq : Act → Prop} (hsel : Region.noSelect ops = true) (hs : Region.sinkB md ops n = true) (hc : Region.chainB md ops n = true) (hn : n < ops.size) :
    ∀ (l : List Oper) (k : Nat) (listed : Array Bool) (a : Act), (∀ j, j < l.length → l[j]? = ops[k + j]?) → k + l.length = n → HeadInv md ops n listed →
    Region.lexHead md ops g l.length k listed = true → wpLexI P ops Inv Lq k l a →
    wpAnyI P md ops Inv n (fun listed' a' => Region.seqB md ops g n listed' = true ∧ Lq a') l.length listed a
  | [], k, listed, a, _, hk, _, hB, h => by
    have : k = n := by simpa using hk
    subst this
    exact ⟨by simpa [Region.lexHead] using hB, h⟩
  | o :: l, k, listed, a, hl, hk, inv, hB, h => by
    have h0 : ops[k]? = some o := by simpa using (hl 0 (by simp)).symm
    simp only [List.length_cons, Region.lexHead, Bool.and_eq_true] at hB
    obtain ⟨⟨hr, hf⟩, hB'⟩ := hB
    have hkn : k < n := by simp only [List.length_cons] at hk; omega
    have hr' : k ∈ Region.ready md ops listed := by simpa using hr
    obtain ⟨v, hy, hK⟩ := h
    exact wpAnyI_first h0 (Region.noSelect_spec hsel) hs hc hn hkn (fun listed' a' hL => seqB_ready hL.1) l.length listed a inv (Region.free_spec h0 hf) hr' hy
      (wpAnyI_lex hsel hs hc hn l (k + 1) _ _ (fun j hj => by have := hl (j + 1) (by simp; omega); simpa [Nat.add_assoc, Nat.add_comm 1 j] using this) (by simp only [List.length_cons] at hk; omega) (inv.set hr' hkn) hB' hK)
theorem wpAny_of_I {n g : Nat} {L : Array Bool → Act → Prop} {Q' : Exit → Act → World → Prop}
    (hL : ∀ listed a W, Inv W → L listed a → wpAny P md ops Q' g listed a W) :
    ∀ (f : Nat) (listed : Array Bool) (a : Act) (W : World), Inv W → wpAnyI P md ops Inv n L f listed a → wpAny P md ops Q' (f + g) listed a W
  | 0, listed, a, W, hI, h => by rw [Nat.zero_add]; exact hL _ _ _ hI h
  | f + 1, listed, a, W, hI, h => by
    rw [show f + 1 + g = (f + g) + 1 by omega]
    refine ⟨fun h0 => absurd h0 h.1, fun i hi => ?_⟩
    obtain ⟨_, o, v, ho, hy, hK⟩ := h.2 i hi
    unfold wpOp
    simp only [ho]
    rcases hy with ⟨hw, hrun⟩ | ⟨hw, rfl⟩
    · rw [if_pos hw]
      left
      unfold Oper.wp
      rcases hrun W hI with hr | ⟨fn, args, hr, hc⟩
      · rw [hr]
        exact wpAny_of_I hL f _ _ W hI hK
      · rw [hr]
        refine Calls.mono hc fun e W' ⟨he, hI'⟩ => ?_
        subst he
        exact wpAny_of_I hL f _ _ W' hI' hK
    · rw [if_neg (by simp [hw])]
      exact wpAny_of_I hL f _ _ W hI hK
theorem yi_still {o : Oper} {v : Value} {a : Act} (hg : o.guard = none) (h : ∀ W, Inv W → (execOp a.eval o).run P W = .ok (.value v) W) : Yi P ops Inv o v a :=
  .inl ⟨by simp [Region.wanted, hg], fun W hI => .inl (h W hI)⟩
theorem yi_call {o : Oper} {v : Value} {a : Act} {f : FuncId} {args : Array Value} (hg : o.guard = none) (h : ∀ W, Inv W → (execOp a.eval o).run P W = .ok (.enter f args) W)
    (hc : ∀ W, Inv W → Calls P f args W fun e W' => e = .returned v ∧ Inv W') : Yi P ops Inv o v a :=
  .inl ⟨by simp [Region.wanted, hg], fun W hI => .inr ⟨f, args, h W hI, hc W hI⟩⟩
/-- The law: n operations ahead of a forced tail; the tail is walked in any world that Inv holds of. -/
theorem wp_region_inv {id : Nat} {Q : Exit → Act → World → Prop} {a : Act} {w : World} {l : List Oper} (Inv : World → Prop) (n : Nat) (hm : P.follows .mixedOrders = true) (hB : Region.lexTailB .any l.toArray n = true) (h0 : Inv w.drew)
    (h : wpLexI P l.toArray Inv (fun a' => ∀ W, Inv W → wpList P l.toArray Q (l.drop n) a' W) 0 (l.take n) a) : (Code.region id l.toArray true).wp P Q a w := by
  simp only [Region.lexTailB, Bool.and_eq_true, decide_eq_true_eq] at hB
  obtain ⟨⟨⟨⟨hsel, hn⟩, hs⟩, hc⟩, hlex⟩ := hB
  have hn' : n < l.length := by simpa using hn
  have htl : (l.take n).length = n := by simp; omega
  have hdl : (l.drop n).length = l.toArray.size - n := by simp
  have inv0 : HeadInv .any l.toArray n (Array.replicate l.toArray.size false) :=
    ⟨by simp, fun j oj _ hl => (by rw [getD_replicate_false] at hl; cases hl), fun t _ ht => getD_in (by simpa using ht) (getD_replicate_false _ _)⟩
  have H := wpAnyI_lex (md := .any) (g := l.toArray.size - n) hsel hs hc hn (l.take n) 0 _ a (fun j hj => by
    have hj' : j < n := by rw [htl] at hj; exact hj
    simp [hj']) (by simpa using htl) inv0 (by rw [htl]; exact hlex) h
  refine wp_region_any hm ?_
  have := wpAny_of_I (Q' := Q) (g := l.toArray.size - n) (ops := l.toArray) (fun listed a' W hI hL => by
    have h1 := wpAny_of_seq (md := .any) (Q' := Q) (l.drop n) n listed a' W (fun j => by simp [List.getElem?_drop]) (by rw [hdl]; exact hL.1) (hL.2 W hI)
    rw [hdl] at h1
    exact h1) _ _ _ w.drew h0 H
  rw [htl, show n + (l.toArray.size - n) = l.toArray.size by omega] at this
  exact this
end
section
variable {P : Program} {ops : Array Oper} {md : Region.Mode} {Inv : World → Prop} {InvB : Nat → World → Prop} {A : Nat} {mk : Nat → Value}
/-- Operation o gives v in every world that Inv holds of, leaves such a world, and the block, if it is made, as it was. -/
def Yg (P : Program) (ops : Array Oper) (Inv : World → Prop) (InvB : Nat → World → Prop) (o : Oper) (v : Value) (a : Act) : Prop :=
  (Region.wanted o (yielded ops a.tmps) = true ∧ ∀ W, Inv W → ((execOp a.eval o).run P W = .ok (.value v) W ∨ ∃ f args, (execOp a.eval o).run P W = .ok (.enter f args) W ∧ Calls P f args W fun e W' => e = .returned v ∧ Inv W' ∧ ∀ b, InvB b W → InvB b W')) ∨
  (Region.wanted o (yielded ops a.tmps) = false ∧ v = undef)
theorem Yg.of_same {o : Oper} {v : Value} {a a' : Act} (h : Yg P ops Inv InvB o v a) (he : execOp a'.eval o = execOp a.eval o) (hw : Region.wanted o (yielded ops a'.tmps) = Region.wanted o (yielded ops a.tmps)) : Yg P ops Inv InvB o v a' := by
  unfold Yg at *
  rw [he, hw]
  exact h
theorem Yg.keep {oi oj : Oper} {v u : Value} {a : Act} (hap : oi.apart ops oj = true) (hsi : ∀ cs b, oi.op ≠ .select cs b)
    (h : Yg P ops Inv InvB oi v a) : Yg P ops Inv InvB oi v (a.put oj.dst u) := by
  obtain ⟨_, _, h3⟩ := Oper.apart_spec hap
  exact h.of_same (execOp_put oi hsi a oj.dst u h3) (wanted_put oi a oj.dst u h3)
theorem Yg.back {oi oj : Oper} {v u : Value} {a : Act} (hap : oi.apart ops oj = true) (hsj : ∀ cs b, oj.op ≠ .select cs b)
    (h : Yg P ops Inv InvB oj u (a.put oi.dst v)) : Yg P ops Inv InvB oj u a := by
  obtain ⟨h1, _, _⟩ := Oper.apart_spec hap
  exact h.of_same (execOp_put oj hsj a oi.dst v h1).symm (wanted_put oj a oi.dst v h1).symm
theorem Yg.inv {o : Oper} {v : Value} {a : Act} (h : Yg P ops Inv InvB o v a) : Yi P ops Inv o v a := by
  rcases h with ⟨hw, h⟩ | h
  · refine .inl ⟨hw, fun W hI => ?_⟩
    rcases h W hI with h1 | ⟨f, args, h1, h2⟩
    · exact .inl h1
    · exact .inr ⟨f, args, h1, Calls.mono h2 fun _ _ ⟨e, i, _⟩ => ⟨e, i⟩⟩
  · exact .inr h
theorem Yg.invB (hsub : ∀ b W, InvB b W → Inv W) {o : Oper} {v : Value} {a : Act} (h : Yg P ops Inv InvB o v a) (b : Nat) : Yi P ops (InvB b) o v a := by
  rcases h with ⟨hw, h⟩ | h
  · refine .inl ⟨hw, fun W hI => ?_⟩
    rcases h W (hsub b W hI) with h1 | ⟨f, args, h1, h2⟩
    · exact .inl h1
    · exact .inr ⟨f, args, h1, Calls.mono h2 fun _ _ ⟨e, _, i⟩ => ⟨e, i b hI⟩⟩
  · exact .inr h
/-- The operation that makes the block. -/
def Ya (P : Program) (Inv : World → Prop) (InvB : Nat → World → Prop) (mk : Nat → Value) (o : Oper) (a : Act) : Prop :=
  o.guard = none ∧ ∀ W, Inv W → (∃ b W', (execOp a.eval o).run P W = .ok (.value (mk b)) W' ∧ InvB b W') ∨ ∃ f args, (execOp a.eval o).run P W = .ok (.enter f args) W ∧ Calls P f args W fun e W' => ∃ b, e = .returned (mk b) ∧ InvB b W'
theorem Ya.of_same {o : Oper} {a a' : Act} (h : Ya P Inv InvB mk o a) (he : execOp a'.eval o = execOp a.eval o) : Ya P Inv InvB mk o a' := by
  unfold Ya at *
  rw [he]
  exact h
/-- One step behind the block's making: the value hangs on the block only where the operation waits for it. -/
def Ys (P : Program) (md : Region.Mode) (ops : Array Oper) (Inv : World → Prop) (InvB : Nat → World → Prop) (A i : Nat) (o : Oper) (v : Nat → Value) (a : Nat → Act) : Prop :=
  (∃ u, v = (fun _ => u) ∧ ∀ b, Yg P ops Inv InvB o u (a b)) ∨ (Region.waitsFor md ops i A = true ∧ ∀ b, Yi P ops (InvB b) o (v b) (a b))
theorem Ys.keep {i : Nat} {oi oj : Oper} {v u : Nat → Value} {a : Nat → Act} (hap : oi.apart ops oj = true) (hsi : ∀ cs b, oi.op ≠ .select cs b)
    (h : Ys P md ops Inv InvB A i oi v a) : Ys P md ops Inv InvB A i oi v (fun b => (a b).put oj.dst (u b)) := by
  rcases h with ⟨x, hx, hy⟩ | ⟨hw, hy⟩
  · exact .inl ⟨x, hx, fun b => (hy b).keep hap hsi⟩
  · exact .inr ⟨hw, fun b => (hy b).keep hap hsi⟩
theorem Ys.back {j : Nat} {oi oj : Oper} {v u : Nat → Value} {a : Nat → Act} (hap : oi.apart ops oj = true) (hsj : ∀ cs b, oj.op ≠ .select cs b)
    (h : Ys P md ops Inv InvB A j oj u (fun b => (a b).put oi.dst (v b))) : Ys P md ops Inv InvB A j oj u a := by
  rcases h with ⟨x, hx, hy⟩ | ⟨hw, hy⟩
  · exact .inl ⟨x, hx, fun b => (hy b).back hap hsj⟩
  · exact .inr ⟨hw, fun b => (hy b).back hap hsj⟩
/-- Every order behind the block's making. -/
def wpT1 (P : Program) (md : Region.Mode) (ops : Array Oper) (Inv : World → Prop) (InvB : Nat → World → Prop) (A n : Nat) (L : Array Bool → (Nat → Act) → Prop) : Nat → Array Bool → (Nat → Act) → Prop
  | 0, listed, a => L listed a
  | f + 1, listed, a => Region.ready md ops listed ≠ [] ∧ ∀ i ∈ Region.ready md ops listed, i < n ∧ ∃ o v, ops[i]? = some o ∧ Ys P md ops Inv InvB A i o v a ∧
      wpT1 P md ops Inv InvB A n L f (listed.setIfInBounds i true) (fun b => (a b).put o.dst (v b))
/-- Every order. -/
def wpT0 (P : Program) (md : Region.Mode) (ops : Array Oper) (Inv : World → Prop) (InvB : Nat → World → Prop) (A : Nat) (mk : Nat → Value) (n : Nat) (L : Array Bool → (Nat → Act) → Prop) : Nat → Array Bool → Act → Prop
  | 0, _, _ => False
  | f + 1, listed, a => Region.ready md ops listed ≠ [] ∧ ∀ i ∈ Region.ready md ops listed, i < n ∧ ∃ o, ops[i]? = some o ∧
      ((i = A ∧ Ya P Inv InvB mk o a ∧ wpT1 P md ops Inv InvB A n L f (listed.setIfInBounds i true) (fun b => a.put o.dst (mk b))) ∨
       (i ≠ A ∧ ∃ v, Yg P ops Inv InvB o v a ∧ wpT0 P md ops Inv InvB A mk n L f (listed.setIfInBounds i true) (a.put o.dst v)))
theorem wpT1_first {n i : Nat} {oi : Oper} {v : Nat → Value} {L : Array Bool → (Nat → Act) → Prop} (hi : ops[i]? = some oi) (hsel : ∀ (j : Nat) (o : Oper) cs b, ops[j]? = some o → o.op ≠ .select cs b)
    (hs : Region.sinkB md ops n = true) (hc : Region.chainB md ops n = true) (hn : n < ops.size) (hin : i < n)
    (hdone : ∀ listed a, L listed a → ∀ j ∈ Region.ready md ops listed, n ≤ j) :
    ∀ (f : Nat) (listed : Array Bool) (a : Nat → Act), HeadInv md ops n listed →
      (∀ j oj, ops[j]? = some oj → j ≠ i → listed.getD j true = false → (∀ e ∈ oj.after, Region.binds md e = true → e.on ≠ i) → oi.apart ops oj = true) →
      i ∈ Region.ready md ops listed → Ys P md ops Inv InvB A i oi v a →
      wpT1 P md ops Inv InvB A n L f (listed.setIfInBounds i true) (fun b => (a b).put oi.dst (v b)) → wpT1 P md ops Inv InvB A n L (f + 1) listed a := by
  intro f
  induction f with
  | zero =>
    intro listed a inv _ hr hy H
    have hun := (mem_ready.1 hr).1
    refine ⟨fun h => (by rw [h] at hr; cases hr), fun j hj => ?_⟩
    have hjn : j < n := by
      rcases Nat.lt_or_ge j n with h | h
      · exact h
      · exact absurd hj (tail_waits hs hc hn inv _ i rfl hin hun j h)
    refine ⟨hjn, ?_⟩
    by_cases hji : j = i
    · subst hji; exact ⟨oi, v, hi, hy, H⟩
    · have := hdone _ _ H j (ready_mono hj hji)
      omega
  | succ f ih =>
    intro listed a inv hfree hr hy H
    have hun := (mem_ready.1 hr).1
    refine ⟨fun h => (by rw [h] at hr; cases hr), fun j hj => ?_⟩
    have hjn : j < n := by
      rcases Nat.lt_or_ge j n with h | h
      · exact h
      · exact absurd hj (tail_waits hs hc hn inv _ i rfl hin hun j h)
    refine ⟨hjn, ?_⟩
    by_cases hji : j = i
    · subst hji; exact ⟨oi, v, hi, hy, H⟩
    · obtain ⟨oj', u, hoj', hyj, hK⟩ := (H.2 j (ready_mono hj hji)).2
      obtain ⟨hjun, oj, hoj, hall⟩ := mem_ready.1 hj
      obtain rfl : oj' = oj := Option.some.inj (hoj'.symm.trans hoj)
      have hnot : ∀ e ∈ oj'.after, Region.binds md e = true → e.on ≠ i := fun e he hb heq => by
        have h1 := hall e he hb
        rw [heq, getD_both hun] at h1
        cases h1
      have hap := hfree j oj' hoj hji hjun hnot
      obtain ⟨_, h2, _⟩ := Oper.apart_spec hap
      have hfree' : ∀ k ok, ops[k]? = some ok → k ≠ i → (listed.setIfInBounds j true).getD k true = false →
          (∀ e ∈ ok.after, Region.binds md e = true → e.on ≠ i) → oi.apart ops ok = true := fun k ok hk hki hun hno => by
        refine hfree k ok hk hki ?_ hno
        by_cases hjk : j = k
        · subst hjk; exact hjun
        · rw [getD_set_ne true hjk] at hun; exact hun
      refine ⟨oj', u, hoj, hyj.back hap (fun cs b => hsel j oj' cs b hoj), ih (listed.setIfInBounds j true) _ (inv.set hj hjn) hfree' (ready_mono hr (Ne.symm hji)) (hy.keep hap (fun cs b => hsel i oi cs b hi)) ?_⟩
      rw [Array.setIfInBounds_comm _ _ hji, show (fun b => ((a b).put oj'.dst (u b)).put oi.dst (v b)) = (fun b => ((a b).put oi.dst (v b)).put oj'.dst (u b)) from funext fun b => (Act.put_comm (a b) (v b) (u b) h2).symm]
      exact hK
theorem wpT0_first {n i : Nat} {oi : Oper} {v : Value} {L : Array Bool → (Nat → Act) → Prop} (hiA : i ≠ A) (hi : ops[i]? = some oi) (hsel : ∀ (j : Nat) (o : Oper) cs b, ops[j]? = some o → o.op ≠ .select cs b)
    (hs : Region.sinkB md ops n = true) (hc : Region.chainB md ops n = true) (hn : n < ops.size) (hin : i < n)
    (hdone : ∀ listed a, L listed a → ∀ j ∈ Region.ready md ops listed, n ≤ j) :
    ∀ (f : Nat) (listed : Array Bool) (a : Act), HeadInv md ops n listed →
      (∀ j oj, ops[j]? = some oj → j ≠ i → listed.getD j true = false → (∀ e ∈ oj.after, Region.binds md e = true → e.on ≠ i) → oi.apart ops oj = true) →
      i ∈ Region.ready md ops listed → Yg P ops Inv InvB oi v a →
      wpT0 P md ops Inv InvB A mk n L f (listed.setIfInBounds i true) (a.put oi.dst v) → wpT0 P md ops Inv InvB A mk n L (f + 1) listed a := by
  intro f
  induction f with
  | zero => intro listed a inv _ hr hy H; exact H.elim
  | succ f ih =>
    intro listed a inv hfree hr hy H
    have hun := (mem_ready.1 hr).1
    refine ⟨fun h => (by rw [h] at hr; cases hr), fun j hj => ?_⟩
    have hjn : j < n := by
      rcases Nat.lt_or_ge j n with h | h
      · exact h
      · exact absurd hj (tail_waits hs hc hn inv _ i rfl hin hun j h)
    refine ⟨hjn, ?_⟩
    by_cases hji : j = i
    · subst hji; exact ⟨oi, hi, .inr ⟨hiA, v, hy, H⟩⟩
    · obtain ⟨oj', hoj', hK⟩ := (H.2 j (ready_mono hj hji)).2
      obtain ⟨hjun, oj, hoj, hall⟩ := mem_ready.1 hj
      obtain rfl : oj' = oj := Option.some.inj (hoj'.symm.trans hoj)
      have hnot : ∀ e ∈ oj'.after, Region.binds md e = true → e.on ≠ i := fun e he hb heq => by
        have h1 := hall e he hb
        rw [heq, getD_both hun] at h1
        cases h1
      have hap := hfree j oj' hoj hji hjun hnot
      obtain ⟨h1, h2, h3⟩ := Oper.apart_spec hap
      have hfree' : ∀ k ok, ops[k]? = some ok → k ≠ i → (listed.setIfInBounds j true).getD k true = false →
          (∀ e ∈ ok.after, Region.binds md e = true → e.on ≠ i) → oi.apart ops ok = true := fun k ok hk hki hun hno => by
        refine hfree k ok hk hki ?_ hno
        by_cases hjk : j = k
        · subst hjk; exact hjun
        · rw [getD_set_ne true hjk] at hun; exact hun
      refine ⟨oj', hoj, ?_⟩
      rcases hK with ⟨hjA, hya, hT⟩ | ⟨hjA, u, hyj, hT⟩
      · refine .inl ⟨hjA, hya.of_same (execOp_put oj' (fun cs b => hsel j oj' cs b hoj) a oi.dst v h1).symm, ?_⟩
        refine wpT1_first (v := fun _ => v) hi hsel hs hc hn hin hdone f _ _ (inv.set hj hjn) hfree' (ready_mono hr (Ne.symm hji)) (.inl ⟨v, rfl, fun b => hy.keep hap (fun cs b => hsel i oi cs b hi)⟩) ?_
        rw [Array.setIfInBounds_comm _ _ hji, show (fun b => (a.put oj'.dst (mk b)).put oi.dst v) = (fun b => (a.put oi.dst v).put oj'.dst (mk b)) from funext fun b => (Act.put_comm a v (mk b) h2).symm]
        exact hT
      · refine .inr ⟨hjA, u, hyj.back hap (fun cs b => hsel j oj' cs b hoj), ih (listed.setIfInBounds j true) _ (inv.set hj hjn) hfree' (ready_mono hr (Ne.symm hji)) (hy.keep hap (fun cs b => hsel i oi cs b hi)) ?_⟩
        rw [Array.setIfInBounds_comm _ _ hji, ← Act.put_comm a v u h2]
        exact hT
theorem wpT0_make {n : Nat} {oi : Oper} {L : Array Bool → (Nat → Act) → Prop} (hi : ops[A]? = some oi) (hsel : ∀ (j : Nat) (o : Oper) cs b, ops[j]? = some o → o.op ≠ .select cs b)
    (hs : Region.sinkB md ops n = true) (hc : Region.chainB md ops n = true) (hn : n < ops.size) (hin : A < n)
    (hdone : ∀ listed a, L listed a → ∀ j ∈ Region.ready md ops listed, n ≤ j) :
    ∀ (f : Nat) (listed : Array Bool) (a : Act), HeadInv md ops n listed →
      (∀ j oj, ops[j]? = some oj → j ≠ A → listed.getD j true = false → (∀ e ∈ oj.after, Region.binds md e = true → e.on ≠ A) → oi.apart ops oj = true) →
      A ∈ Region.ready md ops listed → Ya P Inv InvB mk oi a →
      wpT1 P md ops Inv InvB A n L f (listed.setIfInBounds A true) (fun b => a.put oi.dst (mk b)) → wpT0 P md ops Inv InvB A mk n L (f + 1) listed a := by
  intro f
  induction f with
  | zero =>
    intro listed a inv _ hr hy H
    have hun := (mem_ready.1 hr).1
    refine ⟨fun h => (by rw [h] at hr; cases hr), fun j hj => ?_⟩
    have hjn : j < n := by
      rcases Nat.lt_or_ge j n with h | h
      · exact h
      · exact absurd hj (tail_waits hs hc hn inv _ A rfl hin hun j h)
    refine ⟨hjn, ?_⟩
    by_cases hji : j = A
    · subst hji; exact ⟨oi, hi, .inl ⟨rfl, hy, H⟩⟩
    · have := hdone _ _ H j (ready_mono hj hji)
      omega
  | succ f ih =>
    intro listed a inv hfree hr hy H
    have hun := (mem_ready.1 hr).1
    refine ⟨fun h => (by rw [h] at hr; cases hr), fun j hj => ?_⟩
    have hjn : j < n := by
      rcases Nat.lt_or_ge j n with h | h
      · exact h
      · exact absurd hj (tail_waits hs hc hn inv _ A rfl hin hun j h)
    refine ⟨hjn, ?_⟩
    by_cases hji : j = A
    · subst hji; exact ⟨oi, hi, .inl ⟨rfl, hy, H⟩⟩
    · obtain ⟨oj', u, hoj', hyj, hT⟩ := (H.2 j (ready_mono hj hji)).2
      obtain ⟨hjun, oj, hoj, hall⟩ := mem_ready.1 hj
      obtain rfl : oj' = oj := Option.some.inj (hoj'.symm.trans hoj)
      have hnot : ∀ e ∈ oj'.after, Region.binds md e = true → e.on ≠ A := fun e he hb heq => by
        have h1 := hall e he hb
        rw [heq, getD_both hun] at h1
        cases h1
      have hap := hfree j oj' hoj hji hjun hnot
      obtain ⟨h1, h2, h3⟩ := Oper.apart_spec hap
      have hfree' : ∀ k ok, ops[k]? = some ok → k ≠ A → (listed.setIfInBounds j true).getD k true = false →
          (∀ e ∈ ok.after, Region.binds md e = true → e.on ≠ A) → oi.apart ops ok = true := fun k ok hk hki hun hno => by
        refine hfree k ok hk hki ?_ hno
        by_cases hjk : j = k
        · subst hjk; exact hjun
        · rw [getD_set_ne true hjk] at hun; exact hun
      refine ⟨oj', hoj, .inr ⟨hji, ?_⟩⟩
      rcases hyj with ⟨x, rfl, hyb⟩ | ⟨hw, _⟩
      · refine ⟨x, (hyb 0).back hap (fun cs b => hsel j oj' cs b hoj), ih (listed.setIfInBounds j true) _ (inv.set hj hjn) hfree' (ready_mono hr (Ne.symm hji)) (hy.of_same (execOp_put oi (fun cs b => hsel A oi cs b hi) a oj'.dst x h3)) ?_⟩
        rw [Array.setIfInBounds_comm _ _ hji, show (fun b => (a.put oj'.dst x).put oi.dst (mk b)) = (fun b => (a.put oi.dst (mk b)).put oj'.dst x) from funext fun b => (Act.put_comm a (mk b) x h2).symm]
        exact hT
      · obtain ⟨oj, hoj2, e, he, hb, hon⟩ := Region.waitsFor_spec hw
        obtain rfl : oj' = oj := Option.some.inj (hoj.symm.trans hoj2)
        exact absurd hon (hnot e he hb)
/-- The operations in the text's order: behind the block's making; all. -/
def wpLexB (P : Program) (md : Region.Mode) (ops : Array Oper) (Inv : World → Prop) (InvB : Nat → World → Prop) (A : Nat) (Q : (Nat → Act) → Prop) : Nat → List Oper → (Nat → Act) → Prop
  | _, [], a => Q a
  | k, o :: l, a => ∃ v, Ys P md ops Inv InvB A k o v a ∧ wpLexB P md ops Inv InvB A Q (k + 1) l (fun b => (a b).put o.dst (v b))
def wpLexA (P : Program) (md : Region.Mode) (ops : Array Oper) (Inv : World → Prop) (InvB : Nat → World → Prop) (A : Nat) (mk : Nat → Value) (Q : (Nat → Act) → Prop) : Nat → List Oper → Act → Prop
  | _, [], _ => False
  | k, o :: l, a => (k = A ∧ Ya P Inv InvB mk o a ∧ wpLexB P md ops Inv InvB A Q (k + 1) l (fun b => a.put o.dst (mk b))) ∨ (k ≠ A ∧ ∃ v, Yg P ops Inv InvB o v a ∧ wpLexA P md ops Inv InvB A mk Q (k + 1) l (a.put o.dst v))
theorem wpT1_lex {n g : Nat} {Lq : (Nat → Act) → Prop} (hsel : Region.noSelect ops = true) (hs : Region.sinkB md ops n = true) (hc : Region.chainB md ops n = true) (hn : n < ops.size) :
    ∀ (l : List Oper) (k : Nat) (listed : Array Bool) (a : Nat → Act), (∀ j, j < l.length → l[j]? = ops[k + j]?) → k + l.length = n → HeadInv md ops n listed →
    Region.lexHead md ops g l.length k listed = true → wpLexB P md ops Inv InvB A Lq k l a →
    wpT1 P md ops Inv InvB A n (fun listed' a' => Region.seqB md ops g n listed' = true ∧ Lq a') l.length listed a
  | [], k, listed, a, _, hk, _, hB, h => by
    have : k = n := by simpa using hk
    subst this
    exact ⟨by simpa [Region.lexHead] using hB, h⟩
  | o :: l, k, listed, a, hl, hk, inv, hB, h => by
    have h0 : ops[k]? = some o := by simpa using (hl 0 (by simp)).symm
    simp only [List.length_cons, Region.lexHead, Bool.and_eq_true] at hB
    obtain ⟨⟨hr, hf⟩, hB'⟩ := hB
    have hkn : k < n := by simp only [List.length_cons] at hk; omega
    have hr' : k ∈ Region.ready md ops listed := by simpa using hr
    obtain ⟨v, hy, hK⟩ := h
    exact wpT1_first h0 (Region.noSelect_spec hsel) hs hc hn hkn (fun listed' a' hL => seqB_ready hL.1) l.length listed a inv (Region.free_spec h0 hf) hr' hy
      (wpT1_lex hsel hs hc hn l (k + 1) _ _ (fun j hj => by have := hl (j + 1) (by simp; omega); simpa [Nat.add_assoc, Nat.add_comm 1 j] using this) (by simp only [List.length_cons] at hk; omega) (inv.set hr' hkn) hB' hK)
theorem wpT0_lex {n g : Nat} {Lq : (Nat → Act) → Prop} (hsel : Region.noSelect ops = true) (hs : Region.sinkB md ops n = true) (hc : Region.chainB md ops n = true) (hn : n < ops.size) :
    ∀ (l : List Oper) (k : Nat) (listed : Array Bool) (a : Act), (∀ j, j < l.length → l[j]? = ops[k + j]?) → k + l.length = n → HeadInv md ops n listed →
    Region.lexHead md ops g l.length k listed = true → wpLexA P md ops Inv InvB A mk Lq k l a →
    wpT0 P md ops Inv InvB A mk n (fun listed' a' => Region.seqB md ops g n listed' = true ∧ Lq a') l.length listed a
  | [], k, listed, a, _, hk, _, hB, h => h.elim
  | o :: l, k, listed, a, hl, hk, inv, hB, h => by
    have h0 : ops[k]? = some o := by simpa using (hl 0 (by simp)).symm
    simp only [List.length_cons, Region.lexHead, Bool.and_eq_true] at hB
    obtain ⟨⟨hr, hf⟩, hB'⟩ := hB
    have hkn : k < n := by simp only [List.length_cons] at hk; omega
    have hr' : k ∈ Region.ready md ops listed := by simpa using hr
    have hl' : ∀ j, j < l.length → l[j]? = ops[k + 1 + j]? := fun j hj => by have := hl (j + 1) (by simp; omega); simpa [Nat.add_assoc, Nat.add_comm 1 j] using this
    have hk' : k + 1 + l.length = n := by simp only [List.length_cons] at hk; omega
    rcases h with ⟨rfl, hy, hK⟩ | ⟨hkA, v, hy, hK⟩
    · exact wpT0_make h0 (Region.noSelect_spec hsel) hs hc hn hkn (fun listed' a' hL => seqB_ready hL.1) l.length listed a inv (Region.free_spec h0 hf) hr' hy
        (wpT1_lex hsel hs hc hn l (k + 1) _ _ hl' hk' (inv.set hr' hkn) hB' hK)
    · exact wpT0_first hkA h0 (Region.noSelect_spec hsel) hs hc hn hkn (fun listed' a' hL => seqB_ready hL.1) l.length listed a inv (Region.free_spec h0 hf) hr' hy
        (wpT0_lex hsel hs hc hn l (k + 1) _ _ hl' hk' (inv.set hr' hkn) hB' hK)
theorem wpAny_of_T1 {n g : Nat} {L : Array Bool → (Nat → Act) → Prop} {Q' : Exit → Act → World → Prop} (hsub : ∀ b W, InvB b W → Inv W) (b : Nat)
    (hL : ∀ listed a W, InvB b W → L listed a → wpAny P md ops Q' g listed (a b) W) :
    ∀ (f : Nat) (listed : Array Bool) (a : Nat → Act) (W : World), InvB b W → wpT1 P md ops Inv InvB A n L f listed a → wpAny P md ops Q' (f + g) listed (a b) W
  | 0, listed, a, W, hI, h => by rw [Nat.zero_add]; exact hL _ _ _ hI h
  | f + 1, listed, a, W, hI, h => by
    rw [show f + 1 + g = (f + g) + 1 by omega]
    refine ⟨fun h0 => absurd h0 h.1, fun i hi => ?_⟩
    obtain ⟨_, o, v, ho, hy, hK⟩ := h.2 i hi
    have hyi : Yi P ops (InvB b) o (v b) (a b) := by
      rcases hy with ⟨x, rfl, hy⟩ | ⟨_, hy⟩
      · exact (hy b).invB hsub b
      · exact hy b
    unfold wpOp
    simp only [ho]
    rcases hyi with ⟨hw, hrun⟩ | ⟨hw, hv⟩
    · rw [if_pos hw]
      left
      unfold Oper.wp
      rcases hrun W hI with hr | ⟨fn, args, hr, hc⟩
      · rw [hr]
        exact wpAny_of_T1 hsub b hL f _ _ W hI hK
      · rw [hr]
        refine Calls.mono hc fun e W' ⟨he, hI'⟩ => ?_
        subst he
        exact wpAny_of_T1 hsub b hL f _ _ W' hI' hK
    · rw [if_neg (by simp [hw])]
      have := wpAny_of_T1 hsub b hL f _ _ W hI hK
      simp only [hv] at this
      exact this
theorem wpAny_of_T0 {n g : Nat} {L : Array Bool → (Nat → Act) → Prop} {Q' : Exit → Act → World → Prop} (hsub : ∀ b W, InvB b W → Inv W)
    (hL : ∀ b listed a W, InvB b W → L listed a → wpAny P md ops Q' g listed (a b) W) :
    ∀ (f : Nat) (listed : Array Bool) (a : Act) (W : World), Inv W → wpT0 P md ops Inv InvB A mk n L f listed a → wpAny P md ops Q' (f + g) listed a W
  | 0, listed, a, W, hI, h => h.elim
  | f + 1, listed, a, W, hI, h => by
    rw [show f + 1 + g = (f + g) + 1 by omega]
    refine ⟨fun h0 => absurd h0 h.1, fun i hi => ?_⟩
    obtain ⟨_, o, ho, hK⟩ := h.2 i hi
    unfold wpOp
    simp only [ho]
    rcases hK with ⟨_, ⟨hg, hya⟩, hT⟩ | ⟨_, v, hy, hT⟩
    · rw [if_pos (by simp [Region.wanted, hg])]
      left
      unfold Oper.wp
      rcases hya W hI with ⟨b, W', hr, hI'⟩ | ⟨fn, args, hr, hc⟩
      · rw [hr]
        exact wpAny_of_T1 hsub b (hL b) f _ _ W' hI' hT
      · rw [hr]
        refine Calls.mono hc fun e W' ⟨b, he, hI'⟩ => ?_
        subst he
        exact wpAny_of_T1 hsub b (hL b) f _ _ W' hI' hT
    · rcases hy.inv with ⟨hw, hrun⟩ | ⟨hw, rfl⟩
      · rw [if_pos hw]
        left
        unfold Oper.wp
        rcases hrun W hI with hr | ⟨fn, args, hr, hc⟩
        · rw [hr]
          exact wpAny_of_T0 hsub hL f _ _ W hI hT
        · rw [hr]
          refine Calls.mono hc fun e W' ⟨he, hI'⟩ => ?_
          subst he
          exact wpAny_of_T0 hsub hL f _ _ W' hI' hT
      · rw [if_neg (by simp [hw])]
        exact wpAny_of_T0 hsub hL f _ _ W hI hT
/-- The law: n operations ahead of a forced tail, number A makes the block. -/
theorem wp_region_make {id : Nat} {Q : Exit → Act → World → Prop} {a : Act} {w : World} {l : List Oper} (Inv : World → Prop) (InvB : Nat → World → Prop) (A : Nat) (mk : Nat → Value) (n : Nat) (hsub : ∀ b W, InvB b W → Inv W) (hm : P.follows .mixedOrders = true) (hB : Region.lexTailB .any l.toArray n = true) (h0 : Inv w.drew)
    (h : wpLexA P .any l.toArray Inv InvB A mk (fun a' => ∀ b W, InvB b W → wpList P l.toArray Q (l.drop n) (a' b) W) 0 (l.take n) a) : (Code.region id l.toArray true).wp P Q a w := by
  simp only [Region.lexTailB, Bool.and_eq_true, decide_eq_true_eq] at hB
  obtain ⟨⟨⟨⟨hsel, hn⟩, hs⟩, hc⟩, hlex⟩ := hB
  have hn' : n < l.length := by simpa using hn
  have htl : (l.take n).length = n := by simp; omega
  have hdl : (l.drop n).length = l.toArray.size - n := by simp
  have inv0 : HeadInv .any l.toArray n (Array.replicate l.toArray.size false) :=
    ⟨by simp, fun j oj _ hl => (by rw [getD_replicate_false] at hl; cases hl), fun t _ ht => getD_in (by simpa using ht) (getD_replicate_false _ _)⟩
  have H := wpT0_lex (md := .any) (g := l.toArray.size - n) hsel hs hc hn (l.take n) 0 _ a (fun j hj => by
    have hj' : j < n := by rw [htl] at hj; exact hj
    simp [hj']) (by simpa using htl) inv0 (by rw [htl]; exact hlex) h
  refine wp_region_any hm ?_
  have := wpAny_of_T0 (Q' := Q) (g := l.toArray.size - n) (ops := l.toArray) hsub (fun b listed a' W hI hL => by
    have h1 := wpAny_of_seq (md := .any) (Q' := Q) (l.drop n) n listed (a' b) W (fun j => by simp [List.getElem?_drop]) (by rw [hdl]; exact hL.1) (hL.2 b W hI)
    rw [hdl] at h1
    exact h1) _ _ _ w.drew h0 H
  rw [htl, show n + (l.toArray.size - n) = l.toArray.size by omega] at this
  exact this
theorem yg_still {o : Oper} {v : Value} {a : Act} (hg : o.guard = none) (h : ∀ W, Inv W → (execOp a.eval o).run P W = .ok (.value v) W) : Yg P ops Inv InvB o v a :=
  .inl ⟨by simp [Region.wanted, hg], fun W hI => .inl (h W hI)⟩
theorem yg_call {o : Oper} {v : Value} {a : Act} {f : FuncId} {args : Array Value} (hg : o.guard = none) (h : ∀ W, Inv W → (execOp a.eval o).run P W = .ok (.enter f args) W)
    (hc : ∀ W, Inv W → Calls P f args W fun e W' => e = .returned v ∧ Inv W' ∧ ∀ b, InvB b W → InvB b W') : Yg P ops Inv InvB o v a :=
  .inl ⟨by simp [Region.wanted, hg], fun W hI => .inr ⟨f, args, h W hI, hc W hI⟩⟩
theorem ys_same {i : Nat} {o : Oper} {u : Value} {a : Nat → Act} (h : ∀ b, Yg P ops Inv InvB o u (a b)) : Ys P md ops Inv InvB A i o (fun _ => u) a := .inl ⟨u, rfl, h⟩
end
end Go.Proofs.YtlcompihcmhbiaaGreatDoor
