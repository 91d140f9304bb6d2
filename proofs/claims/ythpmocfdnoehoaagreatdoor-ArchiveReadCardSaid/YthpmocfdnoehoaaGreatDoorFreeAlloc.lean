/- A law on regions that draw their order: all operations but the last ones are still, save one new block that may be made at any time. -/
import Derived.StillTail
import Derived.StillTactics
import Derived.WalkKit
namespace Go.Proofs.YthpmocfdnoehoaaGreatDoor
open Go
section
variable {P : Program} {ops : Array Oper} {md : Region.Mode} {W0 W1 : World} {A : Nat} {ptr : Value}
/-- Operation i gives v, in both worlds alike; the one that makes the block gives its pointer. -/
def Yb (P : Program) (ops : Array Oper) (W0 W1 : World) (A : Nat) (ptr : Value) (i : Nat) (o : Oper) (v : Value) (a : Act) : Prop :=
  if i = A then v = ptr else YieldsAt P ops W0 o v a ∧ YieldsAt P ops W1 o v a
theorem Yb.keep {i : Nat} {oi oj : Oper} {v u : Value} {a : Act} (hap : oi.apart ops oj = true) (hsi : ∀ cs b, oi.op ≠ .select cs b)
    (h : Yb P ops W0 W1 A ptr i oi v a) : Yb P ops W0 W1 A ptr i oi v (a.put oj.dst u) := by
  obtain ⟨_, _, h3⟩ := Oper.apart_spec hap
  unfold Yb at *
  split
  · rename_i e; rw [if_pos e] at h; exact h
  · rename_i e
    rw [if_neg e] at h
    exact ⟨h.1.of_same (execOp_put oi hsi a oj.dst u h3) (wanted_put oi a oj.dst u h3), h.2.of_same (execOp_put oi hsi a oj.dst u h3) (wanted_put oi a oj.dst u h3)⟩
theorem Yb.back {j : Nat} {oi oj : Oper} {v u : Value} {a : Act} (hap : oi.apart ops oj = true) (hsj : ∀ cs b, oj.op ≠ .select cs b)
    (h : Yb P ops W0 W1 A ptr j oj u (a.put oi.dst v)) : Yb P ops W0 W1 A ptr j oj u a := by
  obtain ⟨h1, _, _⟩ := Oper.apart_spec hap
  unfold Yb at *
  split
  · rename_i e; rw [if_pos e] at h; exact h
  · rename_i e
    rw [if_neg e] at h
    exact ⟨h.1.of_same (execOp_put oj hsj a oi.dst v h1).symm (wanted_put oj a oi.dst v h1).symm, h.2.of_same (execOp_put oj hsj a oi.dst v h1).symm (wanted_put oj a oi.dst v h1).symm⟩
def wpAnyY (P : Program) (md : Region.Mode) (ops : Array Oper) (W0 W1 : World) (A : Nat) (ptr : Value) (n : Nat) (L : Array Bool → Act → Prop) : Nat → Array Bool → Act → Prop
  | 0, listed, a => L listed a
  | f + 1, listed, a => Region.ready md ops listed ≠ [] ∧ ∀ i ∈ Region.ready md ops listed, i < n ∧ ∃ o v, ops[i]? = some o ∧ Yb P ops W0 W1 A ptr i o v a ∧
      wpAnyY P md ops W0 W1 A ptr n L f (listed.setIfInBounds i true) (a.put o.dst v)
theorem wpAnyY_first {n i : Nat} {oi : Oper} {v : Value} {L : Array Bool → Act → Prop} (hi : ops[i]? = some oi) (hsel : ∀ (j : Nat) (o : Oper) cs b, ops[j]? = some o → o.op ≠ .select cs b)
    (hs : Region.sinkB md ops n = true) (hc : Region.chainB md ops n = true) (hn : n < ops.size) (hin : i < n)
    (hdone : ∀ listed a, L listed a → ∀ j ∈ Region.ready md ops listed, n ≤ j) :
    ∀ (f : Nat) (listed : Array Bool) (a : Act), HeadInv md ops n listed →
      (∀ j oj, ops[j]? = some oj → j ≠ i → listed.getD j true = false → (∀ e ∈ oj.after, Region.binds md e = true → e.on ≠ i) → oi.apart ops oj = true) →
      i ∈ Region.ready md ops listed → Yb P ops W0 W1 A ptr i oi v a →
      wpAnyY P md ops W0 W1 A ptr n L f (listed.setIfInBounds i true) (a.put oi.dst v) → wpAnyY P md ops W0 W1 A ptr n L (f + 1) listed a := by
  intro f
  induction f with
  | zero =>
    intro listed a inv _ hr hy H
    have hun := (mem_ready.1 hr).1
    refine ⟨fun h => (by rw [h] at hr; cases hr), fun j hj => ?_⟩
    have hjn : j < n := by
      rcases Nat.lt_or_ge j n with h | h
      · exact h
      · exact absurd hj (tail_waits hs hc hn inv _ i rfl hin hun j h)
    refine ⟨hjn, ?_⟩
    by_cases hji : j = i
    · subst hji; exact ⟨oi, v, hi, hy, H⟩
    · have := hdone _ _ H j (ready_mono hj hji)
      omega
  | succ f ih =>
    intro listed a inv hfree hr hy H
    have hun := (mem_ready.1 hr).1
    refine ⟨fun h => (by rw [h] at hr; cases hr), fun j hj => ?_⟩
    have hjn : j < n := by
      rcases Nat.lt_or_ge j n with h | h
      · exact h
      · exact absurd hj (tail_waits hs hc hn inv _ i rfl hin hun j h)
    refine ⟨hjn, ?_⟩
    by_cases hji : j = i
    · subst hji; exact ⟨oi, v, hi, hy, H⟩
    · obtain ⟨oj', u, hoj', hyj, hK⟩ := (H.2 j (ready_mono hj hji)).2
      obtain ⟨hjun, oj, hoj, hall⟩ := mem_ready.1 hj
      obtain rfl : oj' = oj := Option.some.inj (hoj'.symm.trans hoj)
      have hnot : ∀ e ∈ oj'.after, Region.binds md e = true → e.on ≠ i := fun e he hb heq => by
        have h1 := hall e he hb
        rw [heq, getD_both hun] at h1
        cases h1
      have hap := hfree j oj' hoj hji hjun hnot
      obtain ⟨_, h2, _⟩ := Oper.apart_spec hap
      have hfree' : ∀ k ok, ops[k]? = some ok → k ≠ i → (listed.setIfInBounds j true).getD k true = false →
          (∀ e ∈ ok.after, Region.binds md e = true → e.on ≠ i) → oi.apart ops ok = true := fun k ok hk hki hun hno => by
        refine hfree k ok hk hki ?_ hno
        by_cases hjk : j = k
        · subst hjk; exact hjun
        · rw [getD_set_ne true hjk] at hun; exact hun
      refine ⟨oj', u, hoj, hyj.back hap (fun cs b => hsel j oj' cs b hoj), ih (listed.setIfInBounds j true) _ (inv.set hj hjn) hfree' (ready_mono hr (Ne.symm hji)) (hy.keep hap (fun cs b => hsel i oi cs b hi)) ?_⟩
      rw [Array.setIfInBounds_comm _ _ hji, ← Act.put_comm a v u h2]
      exact hK
/-- The operations in the text's order, from number k on. -/
def wpLex (P : Program) (ops : Array Oper) (W0 W1 : World) (A : Nat) (ptr : Value) (Q : Act → Prop) : Nat → List Oper → Act → Prop
  | _, [], a => Q a
  | k, o :: l, a => ∃ v, Yb P ops W0 W1 A ptr k o v a ∧ wpLex P ops W0 W1 A ptr Q (k + 1) l (a.put o.dst v)
theorem wpAnyY_lex {n g : Nat} {Lq : Act → Prop} (hsel : Region.noSelect ops = true) (hs : Region.sinkB md ops n = true) (hc : Region.chainB md ops n = true) (hn : n < ops.size) :
    ∀ (l : List Oper) (k : Nat) (listed : Array Bool) (a : Act), (∀ j, j < l.length → l[j]? = ops[k + j]?) → k + l.length = n → HeadInv md ops n listed →
    Region.lexHead md ops g l.length k listed = true → wpLex P ops W0 W1 A ptr Lq k l a →
    wpAnyY P md ops W0 W1 A ptr n (fun listed' a' => Region.seqB md ops g n listed' = true ∧ Lq a') l.length listed a
  | [], k, listed, a, _, hk, _, hB, h => by
    have : k = n := by simpa using hk
    subst this
    exact ⟨by simpa [Region.lexHead] using hB, h⟩
  | o :: l, k, listed, a, hl, hk, inv, hB, h => by
    have h0 : ops[k]? = some o := by simpa using (hl 0 (by simp)).symm
    simp only [List.length_cons, Region.lexHead, Bool.and_eq_true] at hB
    obtain ⟨⟨hr, hf⟩, hB'⟩ := hB
    have hkn : k < n := by simp only [List.length_cons] at hk; omega
    have hr' : k ∈ Region.ready md ops listed := by simpa using hr
    obtain ⟨v, hy, hK⟩ := h
    exact wpAnyY_first h0 (Region.noSelect_spec hsel) hs hc hn hkn (fun listed' a' hL => seqB_ready hL.1) l.length listed a inv (Region.free_spec h0 hf) hr' hy
      (wpAnyY_lex hsel hs hc hn l (k + 1) _ _ (fun j hj => by have := hl (j + 1) (by simp; omega); simpa [Nat.add_assoc, Nat.add_comm 1 j] using this) (by simp only [List.length_cons] at hk; omega) (inv.set hr' hkn) hB' hK)
/-- The world in which an operation runs: the second, once the block is made. -/
def wAt (W0 W1 : World) (A : Nat) (listed : Array Bool) : World := if listed.getD A false = true then W1 else W0
theorem wpAny_of_Y {n g : Nat} {oA : Oper} {L : Array Bool → Act → Prop} {Q' : Exit → Act → World → Prop} (hA : ops[A]? = some oA) (hg : oA.guard = none)
    (hrun : ∀ a : Act, (execOp a.eval oA).run P W0 = .ok (.value ptr) W1)
    (hL : ∀ listed a, L listed a → wpAny P md ops Q' g listed a (wAt W0 W1 A listed)) :
    ∀ (f : Nat) (listed : Array Bool) (a : Act), wpAnyY P md ops W0 W1 A ptr n L f listed a → listed.size = ops.size → wpAny P md ops Q' (f + g) listed a (wAt W0 W1 A listed)
  | 0, listed, a, h, _ => by rw [Nat.zero_add]; exact hL _ _ h
  | f + 1, listed, a, h, hsz => by
    rw [show f + 1 + g = (f + g) + 1 by omega]
    refine ⟨fun h0 => absurd h0 h.1, fun i hi => ?_⟩
    obtain ⟨_, o, v, ho, hy, hK⟩ := h.2 i hi
    have hrec := wpAny_of_Y hA hg hrun hL f _ _ hK (by simpa using hsz)
    obtain ⟨hun, _⟩ := mem_ready.1 hi
    have hil : i < listed.size := by rw [hsz]; exact (Array.getElem?_eq_some_iff.1 ho).1
    by_cases hiA : i = A
    · subst hiA
      obtain rfl : o = oA := Option.some.inj (ho.symm.trans hA)
      have hv : v = ptr := by unfold Yb at hy; rw [if_pos rfl] at hy; exact hy
      subst hv
      have hw0 : wAt W0 W1 i listed = W0 := by unfold wAt; rw [getD_both hun]; rfl
      have hw1 : wAt W0 W1 i (listed.setIfInBounds i true) = W1 := by unfold wAt; simp [hil]
      rw [hw1] at hrec
      rw [hw0]
      unfold wpOp
      simp only [ho]
      rw [if_pos (by simp [Region.wanted, hg])]
      left
      unfold Oper.wp
      rw [hrun]
      exact hrec
    · unfold Yb at hy
      rw [if_neg hiA] at hy
      have hw : wAt W0 W1 A (listed.setIfInBounds i true) = wAt W0 W1 A listed := by unfold wAt; rw [getD_set_ne false hiA]
      rw [hw] at hrec
      have hy' : YieldsAt P ops (wAt W0 W1 A listed) o v a := by
        unfold wAt; split
        · exact hy.2
        · exact hy.1
      exact wpOp_of_stOp (K := fun a' => wpAny P md ops Q' (f + g) (listed.setIfInBounds i true) a' (wAt W0 W1 A listed)) (fun _ h => h) (hy'.stOp ho hrec)
theorem yb_pure {i : Nat} {o : Oper} {v : Value} {a : Act} (hk : i ≠ A) (hg : o.guard = none) (h : ∀ W, (execOp a.eval o).run P W = .ok (.value v) W) : Yb P ops W0 W1 A ptr i o v a := by
  unfold Yb
  rw [if_neg hk]
  exact ⟨.inl ⟨by simp [Region.wanted, hg], .inl (h _)⟩, .inl ⟨by simp [Region.wanted, hg], .inl (h _)⟩⟩
theorem yb_call {i : Nat} {o : Oper} {v : Value} {a : Act} {f : FuncId} {args : Array Value} (hk : i ≠ A) (hg : o.guard = none) (h : ∀ W, (execOp a.eval o).run P W = .ok (.enter f args) W)
    (hc : ∀ W, Calls P f args W (fun e w'' => e = .returned v ∧ w'' = W)) : Yb P ops W0 W1 A ptr i o v a := by
  unfold Yb
  rw [if_neg hk]
  exact ⟨.inl ⟨by simp [Region.wanted, hg], .inr (.inr ⟨f, args, h _, hc _⟩)⟩, .inl ⟨by simp [Region.wanted, hg], .inr (.inr ⟨f, args, h _, hc _⟩)⟩⟩
theorem yb_alloc {o : Oper} {a : Act} : Yb P ops W0 W1 A ptr A o ptr a := by
  unfold Yb
  rw [if_pos rfl]
/-- The law: n operations ahead of a forced tail; number A of them makes a block. -/
theorem wp_region_free_alloc {id : Nat} {Q : Exit → Act → World → Prop} {a : Act} {w : World} {l : List Oper} (n A : Nat) (oA : Oper) (ptr : Value) (W1 : World) (hm : P.follows .mixedOrders = true) (hB : Region.lexTailB .any l.toArray n = true)
    (hA : l[A]? = some oA) (hg : oA.guard = none) (hrun : ∀ a : Act, (execOp a.eval oA).run P { w with drawn := w.drawn + 1 } = .ok (.value ptr) W1)
    (hwf : Region.waitsFor .any l.toArray n A = true)
    (h : wpLex P l.toArray { w with drawn := w.drawn + 1 } W1 A ptr (fun a' => wpList P l.toArray Q (l.drop n) a' W1) 0 (l.take n) a) : (Code.region id l.toArray true).wp P Q a w := by
  simp only [Region.lexTailB, Bool.and_eq_true, decide_eq_true_eq] at hB
  obtain ⟨⟨⟨⟨hsel, hn⟩, hs⟩, hc⟩, hlex⟩ := hB
  have hn' : n < l.length := by simpa using hn
  have htl : (l.take n).length = n := by simp; omega
  have hdl : (l.drop n).length = l.toArray.size - n := by simp
  have hlist : ∀ listed : Array Bool, Region.seqB .any l.toArray (l.toArray.size - n) n listed = true → listed.getD A false = true := by
    intro listed hq
    obtain ⟨g, hg2⟩ : ∃ g, l.toArray.size - n = g + 1 := ⟨l.toArray.size - n - 1, by omega⟩
    rw [hg2] at hq
    simp only [Region.seqB, Bool.and_eq_true, decide_eq_true_eq] at hq
    have hr : n ∈ Region.ready .any l.toArray listed := by rw [hq.1]; simp
    obtain ⟨_, o, ho, hall⟩ := mem_ready.1 hr
    obtain ⟨o', ho', e, he, hb, hon⟩ := Region.waitsFor_spec hwf
    obtain rfl : o' = o := Option.some.inj (ho'.symm.trans ho)
    have := hall e he hb
    rwa [hon] at this
  have inv0 : HeadInv .any l.toArray n (Array.replicate l.toArray.size false) :=
    ⟨by simp, fun j oj _ hl => (by rw [getD_replicate_false] at hl; cases hl), fun t _ ht => getD_in (by simpa using ht) (getD_replicate_false _ _)⟩
  have H := wpAnyY_lex (md := .any) (g := l.toArray.size - n) hsel hs hc hn (l.take n) 0 _ a (fun j hj => by
    have hj' : j < n := by rw [htl] at hj; exact hj
    simp [hj']) (by simpa using htl) inv0 (by rw [htl]; exact hlex) h
  refine wp_region_any hm ?_
  have := wpAny_of_Y (Q' := Q) (g := l.toArray.size - n) (ops := l.toArray) (by simpa using hA) hg hrun (fun listed a' hL => by
    have h1 := wpAny_of_seq (md := .any) (Q' := Q) (l.drop n) n listed a' W1 (fun j => by simp [List.getElem?_drop]) (by rw [hdl]; exact hL.1) hL.2
    rw [hdl] at h1
    have hw : wAt { w with drawn := w.drawn + 1 } W1 A listed = W1 := by unfold wAt; rw [if_pos (hlist listed hL.1)]
    rw [hw]
    exact h1) _ _ _ H (by simp)
  rw [htl, show n + (l.toArray.size - n) = l.toArray.size by omega] at this
  have hw0 : wAt { w with drawn := w.drawn + 1 } W1 A (Array.replicate l.toArray.size false) = { w with drawn := w.drawn + 1 } := by
    unfold wAt; rw [getD_replicate_false]; rfl
  rw [hw0] at this
  exact this
end
end Go.Proofs.YthpmocfdnoehoaaGreatDoor
