/- Plain: a law on regions that draw their order, whatever its operations do to memory: each operation keeps an invariant that knows which ones are done. -/
import Derived.StillTail
import Derived.StillTactics
import Derived.WalkKit
namespace Go.Proofs.YtlcompihcmhbiaaGreatDoor
open Go
section
variable {P : Program} {Γ : Type} (val : Nat → Γ → Value) (Wd : (Nat → Bool) → Γ → World → Prop) (l : List Oper) (a0 : Act)
def updL (L : Nat → Bool) (i : Nat) : Nat → Bool := fun j => L j || j == i
/-- What an operation leaves: its value, and the invariant. -/
def FlowPost (L : Nat → Bool) (γ : Γ) (i : Nat) (v : Value) (W : World) : Prop := ∃ γ', Wd (updL L i) γ' W ∧ val i γ' = v ∧ ∀ j, L j = true → val j γ' = val j γ
/-- One operation, whatever was done before it beside what it waits for. -/
def FlowStep (P : Program) (deps : List Nat) (i : Nat) (o : Oper) : Prop :=
  ∀ (L : Nat → Bool) (γ : Γ) (W : World) (ev : Operand → Value), L i = false → (∀ j ∈ deps, L j = true) → Wd L γ W →
    (∀ v, ev (.const v) = v) → (∀ f, ev (.func f) = .func (.func f) #[] #[]) → (∀ g, ev (.global g) = .pointer (some ⟨g, 0, none⟩)) →
    (∀ j ∈ deps, ∀ oj d, l[j]? = some oj → oj.dst = some d → ev (.tmp d) = val j γ) →
    (∀ s, (l.all fun oj => decide (oj.dst ≠ some s)) = true → ev (.tmp s) = a0.tmps.getD s undef) →
    (∃ v W', (execOp ev o).run P W = .ok (.value v) W' ∧ FlowPost val Wd L γ i v W') ∨ (∃ W', (execOp ev o).run P W = .ok .skip W' ∧ FlowPost val Wd L γ i undef W') ∨
      (∃ f args W1, (execOp ev o).run P W = .ok (.enter f args) W1 ∧ Calls P f args W1 fun e W' => ∃ v, e = .returned v ∧ FlowPost val Wd L γ i v W')
def flowAll (P : Program) : List (List Nat) → Nat → List Oper → Prop
  | [], _, r => r = []
  | _ :: _, _, [] => False
  | d :: ds, k, o :: r => FlowStep val Wd l a0 P d k o ∧ flowAll P ds (k + 1) r
def flowPut (γ : Γ) : Nat → List Oper → Act → Act
  | _, [], a => a
  | k, o :: r, a => flowPut γ (k + 1) r (a.put o.dst (val k γ))
def depsOf (md : Region.Mode) (o : Oper) : List Nat := (o.after.toList.filter (Region.binds md)).map (·.on)
/-- No guards, no select; each result has its own slot, below N; what an operation waits for stands ahead of it. -/
def flowB (md : Region.Mode) (N : Nat) (deps : List (List Nat)) (l : List Oper) : Bool :=
  (l.all fun o => o.guard.isNone && (match o.dst with | some d => Nat.blt d N | none => true)) &&
  decide ((l.filterMap (·.dst)).Nodup) &&
  decide (deps = l.map (depsOf md)) &&
  ((List.range l.length).all fun k => (deps.getD k []).all fun e => Nat.blt e k)
end
section
variable {P : Program} {Γ : Type} {val : Nat → Γ → Value} {Wd : (Nat → Bool) → Γ → World → Prop} {l : List Oper} {a0 : Act}
theorem flowAll_at : ∀ {ds : List (List Nat)} {k : Nat} {r : List Oper}, flowAll val Wd l a0 P ds k r → ∀ (j : Nat) (o : Oper), r[j]? = some o → FlowStep val Wd l a0 P (ds.getD j []) (k + j) o
  | [], _, r, h, j, o, ho => by
    have h : r = [] := h
    subst h
    cases ho
  | _ :: _, _, [], h, _, _, _ => h.elim
  | d :: ds, k, o' :: r, h, 0, o, ho => by
    cases ho
    exact h.1
  | d :: ds, k, o' :: r, h, j + 1, o, ho => by
    have := flowAll_at h.2 j o ho
    rw [show k + 1 + j = k + (j + 1) by omega] at this
    exact this
/-- What is known of the slots. -/
structure FlowAct (val : Nat → Γ → Value) (l : List Oper) (a0 : Act) (L : Nat → Bool) (γ : Γ) (a : Act) : Prop where
  size : a.tmps.size = a0.tmps.size
  defers : a.defers = a0.defers
  done : ∀ j oj d, l[j]? = some oj → oj.dst = some d → L j = true → a.tmps.getD d undef = val j γ
  rest : ∀ d, (∀ j oj, l[j]? = some oj → oj.dst = some d → L j = false) → a.tmps.getD d undef = a0.tmps.getD d undef
theorem dst_inj (h : (l.filterMap (·.dst)).Nodup) : ∀ {i j : Nat} {oi oj : Oper} {d : Nat}, l[i]? = some oi → l[j]? = some oj → oi.dst = some d → oj.dst = some d → i = j := by
  induction l with
  | nil => intro i j oi oj d h1; cases h1
  | cons o r ih =>
    intro i j oi oj d h1 h2 h3 h4
    have hr : (r.filterMap (·.dst)).Nodup := by
      rw [List.filterMap_cons] at h
      split at h
      · exact h
      · exact (List.nodup_cons.1 h).2
    have key : ∀ {k : Nat} {ok : Oper}, r[k]? = some ok → ok.dst = some d → o.dst = some d → False := fun {k ok} hk hd ho => by
      rw [List.filterMap_cons, ho] at h
      exact (List.nodup_cons.1 h).1 (List.mem_filterMap.2 ⟨ok, List.mem_of_getElem? hk, hd⟩)
    cases i with
    | zero =>
      cases j with
      | zero => rfl
      | succ j => cases h1; exact (key h2 h4 h3).elim
    | succ i =>
      cases j with
      | zero => cases h2; exact (key h1 h3 h4).elim
      | succ j => rw [ih hr h1 h2 h3 h4]
theorem FlowAct.put {L : Nat → Bool} {γ γ' : Γ} {a : Act} {i : Nat} {o : Oper} {v : Value} (h : FlowAct val l a0 L γ a) (hnd : (l.filterMap (·.dst)).Nodup) (hd : ∀ d, o.dst = some d → d < a0.tmps.size) (hi : l[i]? = some o)
    (hv : val i γ' = v) (hk : ∀ j, L j = true → val j γ' = val j γ) : FlowAct val l a0 (updL L i) γ' (a.put o.dst v) := by
  cases ho : o.dst with
  | none =>
    refine ⟨h.size, h.defers, fun j oj d hj hdj hL => ?_, fun d hd2 => h.rest d (fun j oj hj hdj => ?_)⟩
    · have hji : j ≠ i := fun e => by subst e; rw [hi] at hj; cases hj; rw [ho] at hdj; cases hdj
      have hL2 : L j = true := by
        unfold updL at hL
        rw [Bool.or_eq_true] at hL
        exact hL.resolve_right (by simp [hji])
      rw [hk j hL2]
      exact h.done j oj d hj hdj hL2
    · have := hd2 j oj hj hdj
      unfold updL at this
      rw [Bool.or_eq_false_iff] at this
      exact this.1
  | some s =>
    have hs := hd s ho
    have e : ∀ d, (a.put (some s) v).tmps.getD d undef = if s = d then v else a.tmps.getD d undef := fun d => by
      show (a.tmps.setIfInBounds s v).getD d undef = _
      rw [Array.getD_eq_getD_getElem?, Array.getElem?_setIfInBounds]
      by_cases hsd : s = d
      · rw [if_pos hsd, if_pos hsd, if_pos (by rw [h.size]; exact hs)]
        rfl
      · rw [if_neg hsd, if_neg hsd, ← Array.getD_eq_getD_getElem?]
    refine ⟨by show (a.tmps.setIfInBounds s v).size = _; rw [Array.size_setIfInBounds]; exact h.size, h.defers, fun j oj d hj hdj hL => ?_, fun d hd2 => ?_⟩
    · rw [e]
      by_cases hsd : s = d
      · subst hsd
        obtain rfl := dst_inj hnd hi hj ho hdj
        rw [if_pos rfl, hv]
      · rw [if_neg hsd]
        have hji : j ≠ i := fun e => by subst e; rw [hi] at hj; cases hj; rw [ho] at hdj; cases hdj; exact hsd rfl
        have hL2 : L j = true := by
          unfold updL at hL
          rw [Bool.or_eq_true] at hL
          exact hL.resolve_right (by simp [hji])
        rw [hk j hL2]
        exact h.done j oj d hj hdj hL2
    · have hsd : s ≠ d := fun hs2 => by
        subst hs2
        have := hd2 i o hi ho
        unfold updL at this
        simp at this
      rw [e, if_neg hsd]
      exact h.rest d (fun j oj hj hdj => by
        have := hd2 j oj hj hdj
        unfold updL at this
        rw [Bool.or_eq_false_iff] at this
        exact this.1)
theorem flowPut_tmps (γ : Γ) : ∀ (r : List Oper) (k : Nat) (a : Act), (r.filterMap (·.dst)).Nodup → (∀ o ∈ r, ∀ d, o.dst = some d → d < a.tmps.size) →
    (flowPut val γ k r a).tmps.size = a.tmps.size ∧ (flowPut val γ k r a).defers = a.defers ∧ (∀ j oj d, r[j]? = some oj → oj.dst = some d → (flowPut val γ k r a).tmps.getD d undef = val (k + j) γ) ∧
      ∀ d, (∀ oj ∈ r, oj.dst ≠ some d) → (flowPut val γ k r a).tmps.getD d undef = a.tmps.getD d undef
  | [], _, a, _, _ => ⟨rfl, rfl, fun _ _ _ h => (by cases h), fun _ _ => rfl⟩
  | o :: r, k, a, hnd, hlt => by
    have hr : (r.filterMap (·.dst)).Nodup := by
      rw [List.filterMap_cons] at hnd
      split at hnd
      · exact hnd
      · exact (List.nodup_cons.1 hnd).2
    have hsz : (a.put o.dst (val k γ)).tmps.size = a.tmps.size := by
      cases o.dst with
      | none => rfl
      | some s => show (a.tmps.setIfInBounds s _).size = _; rw [Array.size_setIfInBounds]
    have hdf : (a.put o.dst (val k γ)).defers = a.defers := by cases o.dst <;> rfl
    obtain ⟨i1, i2, i3, i4⟩ := flowPut_tmps γ r (k + 1) (a.put o.dst (val k γ)) hr (fun o' ho' d hd => by rw [hsz]; exact hlt o' (List.mem_cons_of_mem _ ho') d hd)
    refine ⟨i1.trans hsz, i2.trans hdf, fun j oj d hj hd => ?_, fun d hd => ?_⟩
    · cases j with
      | zero =>
        cases hj
        have hno : ∀ oj ∈ r, oj.dst ≠ some d := fun oj hoj e => by
          rw [List.filterMap_cons, hd] at hnd
          exact (List.nodup_cons.1 hnd).1 (List.mem_filterMap.2 ⟨oj, hoj, e⟩)
        show (flowPut val γ (k + 1) r _).tmps.getD d undef = _
        rw [i4 d hno, hd]
        show (a.tmps.setIfInBounds d (val k γ)).getD d undef = _
        rw [Array.getD_eq_getD_getElem?, Array.getElem?_setIfInBounds, if_pos rfl, if_pos (hlt o List.mem_cons_self d hd)]
        rfl
      | succ j =>
        have := i3 j oj d hj hd
        rw [show k + 1 + j = k + (j + 1) by omega] at this
        exact this
    · show (flowPut val γ (k + 1) r _).tmps.getD d undef = _
      rw [i4 d (fun oj hoj => hd oj (List.mem_cons_of_mem _ hoj))]
      have ho := hd o List.mem_cons_self
      cases hdo : o.dst with
      | none => rfl
      | some s =>
        have hsd : s ≠ d := fun e => ho (by rw [hdo, e])
        show (a.tmps.setIfInBounds s _).getD d undef = _
        rw [Array.getD_eq_getD_getElem?, Array.getElem?_setIfInBounds, if_neg hsd, ← Array.getD_eq_getD_getElem?]
theorem FlowAct.all {γ : Γ} {L : Nat → Bool} {a : Act} (h : FlowAct val l a0 L γ a) (hL : ∀ j, j < l.length → L j = true) (hnd : (l.filterMap (·.dst)).Nodup) (hlt : ∀ o ∈ l, ∀ d, o.dst = some d → d < a0.tmps.size) : a = flowPut val γ 0 l a0 := by
  obtain ⟨i1, i2, i3, i4⟩ := flowPut_tmps (val := val) γ l 0 a0 hnd hlt
  obtain ⟨t, df⟩ := a
  generalize flowPut val γ 0 l a0 = b at i1 i2 i3 i4
  obtain ⟨t', df'⟩ := b
  have e1 : df = df' := h.defers.trans i2.symm
  have e2 : t = t' := by
    have hs : t.size = t'.size := h.size.trans i1.symm
    refine Array.ext hs fun d hd hd' => ?_
    have g : t.getD d undef = t'.getD d undef := by
      by_cases hx : ∃ (j : Nat) (oj : Oper), l[j]? = some oj ∧ oj.dst = some d
      · obtain ⟨j, oj, hj, hdj⟩ := hx
        have h1 := h.done j oj d hj hdj (hL j (List.getElem?_eq_some_iff.1 hj).1)
        have h2 := i3 j oj d hj hdj
        rw [Nat.zero_add] at h2
        exact h1.trans h2.symm
      · have h1 := h.rest d (fun j oj hj hdj => (hx ⟨j, oj, hj, hdj⟩).elim)
        have h2 := i4 d (fun oj hoj e => by
          obtain ⟨j, hj⟩ := List.getElem?_of_mem hoj
          exact hx ⟨j, oj, hj, e⟩)
        exact h1.trans h2.symm
    rw [Array.getD_eq_getD_getElem?, Array.getD_eq_getD_getElem?, Array.getElem?_eq_getElem hd, Array.getElem?_eq_getElem hd'] at g
    exact g
  rw [e1, e2]
def cnt (n : Nat) (L : Nat → Bool) : Nat := ((List.range n).filter L).length
theorem cnt_upd {L : Nat → Bool} {i : Nat} (hi : L i = false) : ∀ n, i < n → cnt n (updL L i) = cnt n L + 1
  | 0, h => absurd h (Nat.not_lt_zero _)
  | n + 1, h => by
    unfold cnt
    rw [List.range_succ, List.filter_append, List.filter_append, List.length_append, List.length_append]
    by_cases e : i = n
    · subst e
      have h1 : (List.range i).filter (updL L i) = (List.range i).filter L := List.filter_congr fun x hx => by
        have : x ≠ i := by have := List.mem_range.1 hx; omega
        unfold updL
        simp [this]
      have h2 : updL L i i = true := by unfold updL; simp
      rw [h1, List.filter_cons_of_pos h2, List.filter_cons_of_neg (by rw [hi]; exact Bool.false_ne_true)]
      rfl
    · have := cnt_upd hi n (by omega)
      unfold cnt at this
      have h2 : updL L i n = L n := by unfold updL; simp [Ne.symm e]
      have h3 : List.filter (updL L i) [n] = List.filter L [n] := by
        rw [List.filter_cons, List.filter_cons, h2]
        rfl
      rw [this, h3]
      omega
theorem cnt_le (n : Nat) (L : Nat → Bool) : cnt n L ≤ n := by
  unfold cnt
  have := List.length_filter_le L (List.range n)
  rw [List.length_range] at this
  exact this
theorem cnt_full {n : Nat} {L : Nat → Bool} (h : cnt n L = n) : ∀ j, j < n → L j = true := by
  intro j hj
  by_cases hL : L j = true
  · exact hL
  · exfalso
    have h1 := cnt_upd (Bool.eq_false_iff.2 hL) n hj
    have h2 := cnt_le n (updL L j)
    omega
theorem wpAny_of_flow {md : Region.Mode} {Q : Exit → Act → World → Prop} {deps : List (List Nat)} (hB : flowB md a0.tmps.size deps l = true) (hS : flowAll val Wd l a0 P deps 0 l)
    (hQ : ∀ γ L W, (∀ j, j < l.length → L j = true) → Wd L γ W → Q .normal (flowPut val γ 0 l a0) W) :
    ∀ (fuel : Nat) (listed : Array Bool) (γ : Γ) (a : Act) (W : World), listed.size = l.length → cnt l.length (fun j => listed.getD j false) + fuel = l.length → Wd (fun j => listed.getD j false) γ W →
      FlowAct val l a0 (fun j => listed.getD j false) γ a → wpAny P md l.toArray Q fuel listed a W := by
  simp only [flowB, Bool.and_eq_true, List.all_eq_true, decide_eq_true_eq, List.mem_range] at hB
  obtain ⟨⟨⟨hg, hnd⟩, hde⟩, hback⟩ := hB
  have hlt : ∀ o ∈ l, ∀ d, o.dst = some d → d < a0.tmps.size := fun o ho d hd => by
    have := (hg o ho).2
    rw [hd] at this
    have : Nat.ble (d + 1) a0.tmps.size = true := this
    exact Nat.le_of_ble_eq_true this
  have hdep : ∀ {i o}, l[i]? = some o → deps.getD i [] = depsOf md o := fun {i o} hi => by
    rw [List.getD_eq_getElem?_getD, hde, List.getElem?_map, hi]
    rfl
  have hfin : ∀ (listed : Array Bool) (γ : Γ) (a : Act) (W : World), (∀ j, j < l.length → listed.getD j false = true) → Wd (fun j => listed.getD j false) γ W →
      FlowAct val l a0 (fun j => listed.getD j false) γ a → Q .normal a W := fun listed γ a W hall hW hA => by
    rw [hA.all hall hnd hlt]
    exact hQ γ _ W hall hW
  have hwait : ∀ {i o} {L : Array Bool}, l[i]? = some o → ((∀ e ∈ o.after, Region.binds md e = true → L.getD e.on false = true) ↔ ∀ j ∈ deps.getD i [], L.getD j false = true) := fun {i o L} hi => by
    rw [hdep hi]
    unfold depsOf
    constructor
    · intro h j hj
      obtain ⟨e, he, rfl⟩ := List.mem_map.1 hj
      obtain ⟨h1, h2⟩ := List.mem_filter.1 he
      exact h e (Array.mem_toList_iff.1 h1) h2
    · intro h e he hb
      exact h e.on (List.mem_map.2 ⟨e, List.mem_filter.2 ⟨Array.mem_toList_iff.2 he, hb⟩, rfl⟩)
  have hdone : ∀ (listed : Array Bool), listed.size = l.length → Region.ready md l.toArray listed = [] → ∀ j, j < l.length → listed.getD j false = true := fun listed hsz hr j => by
    induction j using Nat.strongRecOn with
    | ind j ih =>
      intro hj
      by_cases hL : listed.getD j false = true
      · exact hL
      · exfalso
        have hL2 : listed.getD j true = false := by
          rw [Array.getD_eq_getD_getElem?] at hL ⊢
          rw [Array.getElem?_eq_getElem (by omega)] at hL ⊢
          simpa using hL
        have : j ∈ Region.ready md l.toArray listed := mem_ready.2 ⟨hL2, l[j], by simp [hj], (hwait (i := j) (by simp [hj])).2 fun e he => by
          have := hback j hj e he
          have : Nat.ble (e + 1) j = true := this
          have := Nat.le_of_ble_eq_true this
          exact ih e (by omega) (by omega)⟩
        rw [hr] at this
        cases this
  intro fuel
  induction fuel with
  | zero =>
    intro listed γ a W hsz hc hW hA
    have hall := cnt_full (n := l.length) (by omega)
    refine ⟨?_, hfin listed γ a W hall hW hA⟩
    refine List.eq_nil_iff_forall_not_mem.2 fun i hi => ?_
    obtain ⟨h1, o, h2, -⟩ := mem_ready.1 hi
    have hi2 : i < l.length := by
      have := (Array.getElem?_eq_some_iff.1 h2).1
      simpa using this
    have := hall i hi2
    rw [Array.getD_eq_getD_getElem?, Array.getElem?_eq_getElem (by omega)] at h1 this
    simp at h1 this
    rw [h1] at this
    cases this
  | succ fuel ih =>
    intro listed γ a W hsz hc hW hA
    refine ⟨fun hr => hfin listed γ a W (hdone listed hsz hr) hW hA, fun i hi => ?_⟩
    obtain ⟨h1, o, h2, h3⟩ := mem_ready.1 hi
    have hil : l[i]? = some o := by simpa using h2
    have hi2 : i < l.length := (List.getElem?_eq_some_iff.1 hil).1
    have hLi : listed.getD i false = false := by
      rw [Array.getD_eq_getD_getElem?, Array.getElem?_eq_getElem (by omega)] at h1 ⊢
      simpa using h1
    have hdl := (hwait hil).1 h3
    have hst := flowAll_at hS i o hil
    rw [Nat.zero_add] at hst
    have hgo := (hg o (List.mem_of_getElem? hil)).1
    have hgn : o.guard = none := Option.isNone_iff_eq_none.1 hgo
    have hupd : (fun j => (listed.setIfInBounds i true).getD j false) = updL (fun j => listed.getD j false) i := by
      funext j
      unfold updL
      by_cases e : i = j
      · subst e
        rw [Array.getD_eq_getD_getElem?, Array.getElem?_setIfInBounds, if_pos rfl, if_pos (by omega)]
        simp
      · rw [getD_set_ne false e]
        simp [Ne.symm e]
    have hcn : cnt l.length (updL (fun j => listed.getD j false) i) + fuel = l.length := by
      rw [cnt_upd (L := fun j => listed.getD j false) hLi l.length hi2]
      omega
    have next : ∀ v W', FlowPost val Wd (fun j => listed.getD j false) γ i v W' → wpAny P md l.toArray Q fuel (listed.setIfInBounds i true) (a.put o.dst v) W' := fun v W' ⟨γ', p1, p2, p3⟩ => by
      refine ih _ γ' _ W' (by rw [Array.size_setIfInBounds]; exact hsz) (by rw [hupd]; exact hcn) (by rw [hupd]; exact p1) ?_
      rw [hupd]
      exact hA.put hnd (hlt o (List.mem_of_getElem? hil)) hil p2 p3
    unfold wpOp
    rw [h2]
    have hwn : Region.wanted o (yielded l.toArray a.tmps) = true := by simp [Region.wanted, hgn]
    simp only [hwn, if_true]
    left
    unfold Oper.wp
    rcases hst (fun j => listed.getD j false) γ W a.eval hLi hdl hW (fun _ => rfl) (fun _ => rfl) (fun _ => rfl) (fun j hj oj d hoj hd => hA.done j oj d hoj hd (hdl j hj)) (fun s hs => hA.rest s (fun j oj hj hdj => (of_decide_eq_true (List.all_eq_true.1 hs oj (List.mem_of_getElem? hj)) hdj).elim)) with ⟨v, W', hr, hp⟩ | ⟨W', hr, hp⟩ | ⟨f, args, W1, hr, hp⟩
    · rw [hr]
      exact next v W' hp
    · rw [hr]
      exact next undef W' hp
    · rw [hr]
      refine Calls.mono hp fun e W' he => ?_
      obtain ⟨v, rfl, hp'⟩ := he
      exact next v W' hp'
/-- The law. -/
theorem wp_region_flow {id : Nat} {Q : Exit → Act → World → Prop} {w : World} (val : Nat → Γ → Value) (Wd : (Nat → Bool) → Γ → World → Prop) (deps : List (List Nat)) (N : Nat) (γ0 : Γ) (hm : P.follows .mixedOrders = true) (hN : a0.tmps.size = N) (hB : flowB .any N deps l = true)
    (h0 : Wd (fun _ => false) γ0 w.drew) (hS : flowAll val Wd l a0 P deps 0 l)
    (hQ : ∀ γ L W, (∀ j, j < l.length → L j = true) → Wd L γ W → Q .normal (flowPut val γ 0 l a0) W) : (Code.region id l.toArray true).wp P Q a0 w := by
  subst hN
  refine wp_region_any hm ?_
  have e : (fun j => (Array.replicate l.toArray.size false).getD j false) = fun _ => false := by
    funext j
    rw [Array.getD_eq_getD_getElem?, Array.getElem?_replicate]
    split <;> rfl
  refine wpAny_of_flow hB hS hQ l.toArray.size _ γ0 a0 w.drew (by simp) ?_ (by rw [e]; exact h0) ?_
  · rw [e]
    have : cnt l.length (fun _ => false) = 0 := by
      unfold cnt
      rw [List.filter_eq_nil_iff.2 (fun _ _ => Bool.false_ne_true)]
      rfl
    rw [this]
    simp
  · rw [e]
    exact ⟨rfl, rfl, fun _ _ _ _ _ h => (by cases h), fun _ _ => rfl⟩
/-- The values, as a list. -/
def putAll : List Value → List Oper → Act → Act
  | v :: vs, o :: r, a => putAll vs r (a.put o.dst v)
  | _, _, a => a
theorem flowPut_putAll {vals : Γ → List Value} {γ : Γ} : ∀ (r : List Oper) (k : Nat) (a : Act), (vals γ).length = k + r.length → flowPut (fun i γ => (vals γ).getD i undef) γ k r a = putAll ((vals γ).drop k) r a
  | [], k, a, _ => by
    show a = putAll ((vals γ).drop k) [] a
    cases (vals γ).drop k <;> rfl
  | o :: r, k, a, h => by
    have hk : k < (vals γ).length := by rw [h, List.length_cons]; omega
    show flowPut (fun i γ => (vals γ).getD i undef) γ (k + 1) r (a.put o.dst ((vals γ).getD k undef)) = _
    rw [flowPut_putAll r (k + 1) _ (by rw [h, List.length_cons]; omega), List.drop_eq_getElem_cons hk, List.getD_eq_getElem?_getD, List.getElem?_eq_getElem hk]
    rfl
/-- The law, for values given as a list. -/
theorem wp_region_flowL {id : Nat} {Q : Exit → Act → World → Prop} {w : World} (vals : Γ → List Value) (Wd : (Nat → Bool) → Γ → World → Prop) (deps : List (List Nat)) (N : Nat) (γ0 : Γ) (hm : P.follows .mixedOrders = true) (hN : a0.tmps.size = N) (hB : flowB .any N deps l = true)
    (hlen : ∀ γ, (vals γ).length = l.length) (h0 : Wd (fun _ => false) γ0 w.drew) (hS : flowAll (fun i γ => (vals γ).getD i undef) Wd l a0 P deps 0 l)
    (hQ : ∀ γ L W, (∀ j, j < l.length → L j = true) → Wd L γ W → Q .normal (putAll (vals γ) l a0) W) : (Code.region id l.toArray true).wp P Q a0 w := by
  refine wp_region_flow _ Wd deps N γ0 hm hN hB h0 hS fun γ L W hL hW => ?_
  rw [flowPut_putAll l 0 a0 (by rw [Nat.zero_add]; exact hlen γ)]
  exact hQ γ L W hL hW
theorem updL_ne {L : Nat → Bool} {i k : Nat} (h : k ≠ i) : updL L i k = L k := by unfold updL; simp [h]
theorem updL_self {L : Nat → Bool} {i : Nat} : updL L i i = true := by unfold updL; simp
theorem updL_of {L : Nat → Bool} {i k : Nat} (h : updL L i k = true) (hk : k ≠ i) : L k = true := by rwa [updL_ne hk] at h
theorem FlowPost.still {val : Nat → Γ → Value} {Wd : (Nat → Bool) → Γ → World → Prop} {L : Nat → Bool} {γ : Γ} {i : Nat} {v : Value} {W : World} (hW : Wd (updL L i) γ W) (hv : val i γ = v) : FlowPost val Wd L γ i v W := ⟨γ, hW, hv, fun _ _ => rfl⟩
end
end Go.Proofs.YtlcompihcmhbiaaGreatDoor
