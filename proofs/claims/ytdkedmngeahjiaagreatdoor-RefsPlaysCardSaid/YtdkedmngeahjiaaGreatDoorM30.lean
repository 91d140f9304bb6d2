/- Texts of the seat, one behind the other: RfF, RfM. -/
import Derived.Lib.SplitLaws
import Derived.Lib.SlTrimSet
import Derived.Test.YtdkedmngeahjiaaGreatDoorM1
import Derived.Test.YtdkedmngeahjiaaGreatDoorM3
import Derived.Test.YtdkedmngeahjiaaGreatDoorDiskA
import Derived.Test.YtdkedmngeahjiaaGreatDoorM11
set_option maxRecDepth 100000
set_option maxHeartbeats 25600000
/- Plain: references. -/
namespace Go.Proofs.YtdkedmngeahjiaaGreatDoor
open Go
/-! ## A reference -/
def smallB (b:UInt8):Bool:=decide (97≤b.toNat) && decide (b.toNat≤122)
def bigB (b:UInt8):Bool:=decide (65≤b.toNat) && decide (b.toNat≤90)
def numB (b:UInt8):Bool:=decide (48≤b.toNat) && decide (b.toNat≤57)
def okB (oth:List UInt8) (caps:Bool) (b:UInt8):Bool:=(smallB b || numB b || (caps && bigB b)) || oth.contains b
def ofM (oth:List UInt8) (caps:Bool) (l:List UInt8):Bool:=l.all (okB oth caps) && !l.isEmpty
def tagM (l:List UInt8):Bool:=ofM [95,46,45] true l && !(l.head? == some 46) && !(l.head? == some 45)
def sepB:List UInt8:=[46,95,45]
def pieceM (l:List UInt8):Bool:=ofM sepB false l && (Lib.trimS l sepB == l)
def pcs (c:UInt8):List UInt8→List (List UInt8)
 |[]=>[[]]
 |b :: r=>if b=c then [] :: pcs c r else match pcs c r with
  |[]=>[[b]]
  |p :: q=>(b :: p) :: q
def latestB:List UInt8:=[108,97,116,101,115,116]
def scratchB:List UInt8:=[115,99,114,97,116,99,104]
def goM (n t u:List UInt8):Option (List UInt8):=if u.length≤96∧n≠scratchB∧tagM t=true∧(pcs 47 n).all pieceM=true then some u else none
def fullM (s:List UInt8):Option (List UInt8) :=
 if 96 < s.length then none else
 match pcs 58 s with
 |[n]=>goM n latestB (s ++ 58 :: latestB)
 |[n,t]=>goM n t s
 |_=>none
theorem pcs_ne (c:UInt8) (l:List UInt8):pcs c l≠[]:=by
 cases l with
 |nil=>simp [pcs]
 |cons b r =>
  unfold pcs
  split
  ·simp
  ·split <;> simp
theorem pcs_none {c:UInt8}:∀ {l:List UInt8},c ∉ l→pcs c l=[l]
 |[],_=>rfl
 |b :: r,h=>by
  have h1:c ∉ r:=fun hh=>h (List.mem_cons_of_mem _ hh)
  have h2:¬ b=c:=fun e=>h (by rw [e];exact List.mem_cons_self ..)
  rw [pcs,if_neg h2,pcs_none h1]
theorem pcs_split {c:UInt8} (b:List UInt8):∀ {a:List UInt8},c ∉ a→pcs c (a ++ c :: b)=a :: pcs c b
 |[],_=>by rw [List.nil_append,pcs,if_pos rfl]
 |x :: r,h=>by
  have h1:c ∉ r:=fun hh=>h (List.mem_cons_of_mem _ hh)
  have h2:¬ x=c:=fun e=>h (by rw [e];exact List.mem_cons_self ..)
  rw [List.cons_append,pcs,if_neg h2,pcs_split b h1]
theorem pcs_cases (c:UInt8) (l:List UInt8):c ∉ l∨∃ a b,l=a ++ c :: b∧c ∉ a:=by
 by_cases h:c∈l
 ·obtain ⟨a,b,h1,h2⟩:=List.eq_append_cons_of_mem h
  exact .inr ⟨a,b,h1,h2⟩
 ·exact .inl h
theorem idx_none {c:UInt8}:∀ {l:List UInt8},c ∉ l→Lib.index l [c]=-1
 |[],_=>rfl
 |b :: r,h=>by
  have h1:c ∉ r:=fun hh=>h (List.mem_cons_of_mem _ hh)
  have h2:¬ c=b:=fun e=>h (by rw [e];exact List.mem_cons_self ..)
  unfold Lib.index
  rw [idx_none h1]
  simp [List.isPrefixOf,h2]
theorem idx_split {c:UInt8} (b:List UInt8):∀ {a:List UInt8},c ∉ a→Lib.index (a ++ c :: b) [c]=a.length
 |[],_=>by simp [Lib.index,List.isPrefixOf]
 |x :: r,h=>by
  have h1:c ∉ r:=fun hh=>h (List.mem_cons_of_mem _ hh)
  have h2:¬ c=x:=fun e=>h (by rw [e];exact List.mem_cons_self ..)
  rw [List.cons_append]
  unfold Lib.index
  rw [idx_split b h1]
  have h3:((r.length:Int) == -1)=false:=beq_eq_false_iff_ne.2 (by omega)
  simp [List.isPrefixOf,h2,h3]
theorem cut_none {c:UInt8} {l:List UInt8} (h:c ∉ l):Lib.cut l [c]=(l,[],false):=by
 unfold Lib.cut
 rw [idx_none h]
 rfl
theorem cut_split {c:UInt8} (b:List UInt8) {a:List UInt8} (h:c ∉ a):Lib.cut (a ++ c :: b) [c]=(a,b,true):=by
 unfold Lib.cut
 rw [idx_split b h,if_pos (by omega)]
 simp
theorem split_pcs (c:UInt8):∀ (k:Nat) (l:List UInt8),l.count c=k→Lib.splitK [c] 0 k l=pcs c l:=by
 intro k
 induction k with
 |zero =>
  intro l h
  rw [pcs_none (List.count_eq_zero.1 h)]
  rfl
 |succ k ih =>
  intro l h
  rcases pcs_cases c l with h1 | ⟨a,b,rfl,h1⟩
  ·rw [List.count_eq_zero.2 h1] at h
   omega
  ·have h2:b.count c=k:=by
    rw [List.count_append,List.count_eq_zero.2 h1,List.count_cons_self] at h
    omega
   unfold Lib.splitK
   rw [idx_split b h1,pcs_split b h1]
   have h3:((a.length:Int) == -1)=false:=beq_eq_false_iff_ne.2 (by omega)
   rw [if_neg (by rw [h3];decide),Int.toNat_natCast,← ih b h2]
   simp
theorem pcs_len (c:UInt8) (l:List UInt8):(pcs c l).length=l.count c+1:=by
 have h:=congrArg List.length (split_pcs c _ l rfl)
 rw [← h]
 have h1:=Lib.splitB_data ⟨#[c]⟩ 0 (l.count c) ⟨l.toArray⟩
 have h2:=Lib.splitB_all ⟨#[c]⟩ (Nat.le_refl 1) 0 (l.count c) ⟨l.toArray⟩ (Lib.count_one c l)
 have h3:=congrArg List.length h1
 rw [List.length_map,h2] at h3
 exact h3.symm
theorem pcs_snoc (c b:UInt8):∀ l:List UInt8,pcs c (l ++ [b])=if b=c then pcs c l ++ [[]] else (pcs c l).dropLast ++ [((pcs c l).getLast?).getD [] ++ [b]]
 |[]=>by
  rw [List.nil_append]
  unfold pcs
  split <;> rfl
 |x :: r=>by
  have ih:=pcs_snoc c b r
  rw [List.cons_append]
  by_cases hx:x=c
  ·rw [pcs,if_pos hx,pcs,if_pos hx,ih]
   by_cases hb:b=c
   ·rw [if_pos hb,if_pos hb];rfl
   ·rw [if_neg hb,if_neg hb]
    have hn:=pcs_ne c r
    cases hp:pcs c r with
    |nil=>exact absurd hp hn
    |cons p q=>rfl
  ·rw [pcs,if_neg hx,pcs,if_neg hx,ih]
   have hn:=pcs_ne c r
   by_cases hb:b=c
   ·rw [if_pos hb,if_pos hb]
    cases hp:pcs c r with
    |nil=>exact absurd hp hn
    |cons p q=>rfl
   ·rw [if_neg hb,if_neg hb]
    cases hp:pcs c r with
    |nil=>exact absurd hp hn
    |cons p q =>
     cases q with
     |nil=>rfl
     |cons y z=>rfl
def refM (s:List UInt8):Bool :=
 decide (s.length+(if (Lib.cut s [58]).2.2 then 0 else 7)≤96) && !((Lib.cut s [58]).1 == scratchB) &&
  tagM (if (Lib.cut s [58]).2.2 then (Lib.cut s [58]).2.1 else latestB) && (pcs 47 (Lib.cut s [58]).1).all pieceM
theorem ofM_no {oth:List UInt8} {caps:Bool} {c:UInt8} (h:okB oth caps c=false) {l:List UInt8} (hl:c∈l):ofM oth caps l=false:=by
 unfold ofM
 rw [Bool.and_eq_false_iff]
 refine .inl (List.all_eq_false.2 ⟨c,hl,?_⟩)
 rw [h];decide
theorem tagM_no {l:List UInt8} (hl:58∈l):tagM l=false:=by
 unfold tagM
 rw [ofM_no (c:=58) (by decide) hl]
 rfl
theorem goM_some (n t u:List UInt8):(goM n t u).isSome=(decide (u.length≤96) && !(n == scratchB) && tagM t && (pcs 47 n).all pieceM):=by
 unfold goM
 by_cases h1:u.length≤96 <;> by_cases h2:n=scratchB <;> by_cases h3:tagM t=true <;> by_cases h4:(pcs 47 n).all pieceM=true <;> simp [h1,h2,h3,h4]
theorem full_ref (s:List UInt8):(fullM s).isSome=refM s:=by
 unfold fullM refM
 rcases pcs_cases 58 s with h | ⟨a,b,rfl,h⟩
 ·rw [cut_none h,pcs_none h]
  simp only
  by_cases h1:96 < s.length
  ·rw [if_pos h1]
   have:decide (s.length+(if false=true then 0 else 7)≤96)=false:=decide_eq_false (by simp;omega)
   rw [this]
   rfl
  ·rw [if_neg h1,goM_some]
   have:(s ++ 58 :: latestB).length=s.length+7:=by rw [List.length_append];rfl
   rw [this]
   rfl
 ·rw [cut_split b h,pcs_split b h]
  simp only [if_true]
  by_cases h1:96 < (a ++ 58 :: b).length
  ·rw [if_pos h1]
   have:decide ((a ++ 58 :: b).length+0≤96)=false:=decide_eq_false (by omega)
   rw [this]
   rfl
  ·rw [if_neg h1]
   rcases pcs_cases 58 b with h2 | ⟨x,y,rfl,h2⟩
   ·rw [pcs_none h2]
    simp only
    rw [goM_some]
    rfl
   ·rw [pcs_split y h2]
    have h3:tagM (x ++ 58 :: y)=false:=tagM_no (by simp)
    rw [h3,Bool.and_false,Bool.false_and]
    cases hp:pcs 58 y with
    |nil=>exact absurd hp (pcs_ne _ _)
    |cons p q=>rfl
theorem full_of {s:List UInt8} (h:refM s=true):fullM s=some (if 58∈s then s else s ++ 58 :: latestB):=by
 rw [← full_ref] at h
 unfold fullM at h ⊢
 split at h
 ·cases h
 rename_i h1
 rw [if_neg h1]
 rcases pcs_cases 58 s with h2 | ⟨a,b,rfl,h2⟩
 ·rw [pcs_none h2] at h ⊢
  simp only at h ⊢
  rw [if_neg h2]
  unfold goM at h ⊢
  split at h
  ·rename_i h3
   rw [if_pos h3]
  ·cases h
 ·rw [pcs_split b h2] at h ⊢
  rw [if_pos (by simp)]
  cases hp:pcs 58 b with
  |nil=>exact absurd hp (pcs_ne _ _)
  |cons p q =>
   rw [hp] at h
   cases q with
   |nil =>
    simp only at h ⊢
    unfold goM at h ⊢
    split at h
    ·rename_i h3
     rw [if_pos h3]
    ·cases h
   |cons _ _=>cases h
theorem full_none {s:List UInt8} (h:refM s=false):fullM s=none:=by
 rw [← full_ref] at h
 cases hf:fullM s with
 |none=>rfl
 |some u=>rw [hf] at h;cases h
theorem full_full {s u:List UInt8} (h:fullM s=some u):fullM u=some u∧u.length≤96∧58∈u:=by
 unfold fullM at h
 split at h
 ·cases h
 rename_i h1
 rcases pcs_cases 58 s with h2 | ⟨a,b,rfl,h2⟩
 ·rw [pcs_none h2] at h
  simp only at h
  unfold goM at h
  split at h
  ·rename_i h3
   cases h
   refine ⟨?_,h3.1,by simp⟩
   unfold fullM
   rw [if_neg (by omega),pcs_split _ h2,show pcs 58 latestB=[latestB] from by decide]
   simp only
   unfold goM
   exact if_pos h3
  ·cases h
 ·rw [pcs_split b h2] at h
  cases hp:pcs 58 b with
  |nil=>exact absurd hp (pcs_ne _ _)
  |cons p q =>
   rw [hp] at h
   cases q with
   |nil =>
    simp only at h
    unfold goM at h
    split at h
    ·rename_i h3
     cases h
     refine ⟨?_,h3.1,by simp⟩
     unfold fullM
     rw [if_neg h1,pcs_split b h2,hp]
     simp only
     unfold goM
     exact if_pos h3
    ·cases h
   |cons _ _=>cases h
/-! ## Byte for byte -/
def okT (j:Nat) (b:UInt8):Bool:=(smallB b || bigB b) || numB b || b == 95 || (!(j == 0) && (b == 46 || b == 45))
theorem tag_bad {l:List UInt8} {i:Nat} {b:UInt8} (hb:l[i]?=some b) (h:okT i b=false):tagM l=false:=by
 cases ho:okB [95,46,45] true b with
 |false =>
  unfold tagM
  rw [ofM_no ho (List.mem_of_getElem? hb)]
  rfl
 |true =>
  have h1:i=0∧(b=46∨b=45):=by
   unfold okB at ho
   unfold okT at h
   have hc:([95,46,45]:List UInt8).contains b=(b == 95 || (b == 46 || b == 45)):=by
    simp only [List.contains,List.elem]
    cases b == 95 <;> cases b == 46 <;> cases b == 45 <;> rfl
   rw [hc] at ho
   revert ho h
   cases smallB b <;> cases bigB b <;> cases numB b <;> cases hb1:b == 95 <;> cases hb2:b == 46 <;> cases hb3:b == 45 <;> cases hi:i == 0 <;> simp_all
  obtain ⟨rfl,hx⟩:=h1
  have hh:l.head?=some b:=by rw [← hb];cases l <;> rfl
  unfold tagM
  rw [hh]
  rcases hx with rfl | rfl
  ·rw [Bool.and_assoc];simp
  ·simp
theorem tag_all {l:List UInt8} (h:∀ j b,l[j]?=some b→okT j b=true):tagM l=!l.isEmpty:=by
 unfold tagM
 have h1:l.all (okB [95,46,45] true)=true:=by
  rw [List.all_eq_true]
  intro b hb
  obtain ⟨j,hj⟩:=List.mem_iff_getElem?.1 hb
  have h2:=h j b hj
  unfold okT at h2
  unfold okB
  have hc:([95,46,45]:List UInt8).contains b=(b == 95 || (b == 46 || b == 45)):=by
   simp only [List.contains,List.elem]
   cases b == 95 <;> cases b == 46 <;> cases b == 45 <;> rfl
  rw [hc]
  revert h2
  cases smallB b <;> cases bigB b <;> cases numB b <;> cases b == 95 <;> cases b == 46 <;> cases b == 45 <;> cases j == 0 <;> simp
 unfold ofM
 rw [h1,Bool.true_and]
 cases l with
 |nil=>rfl
 |cons x r =>
  have h2:=h 0 x rfl
  have e1:(some x == some (46:UInt8))=false:=by
   rw [beq_eq_false_iff_ne]
   intro e
   cases e
   revert h2;decide
  have e2:(some x == some (45:UInt8))=false:=by
   rw [beq_eq_false_iff_ne]
   intro e
   cases e
   revert h2;decide
  rw [List.head?_cons,e1,e2]
  rfl
theorem trimL_le (l cs:List UInt8):(Lib.trimLeftS l cs).length≤l.length:=by
 unfold Lib.trimLeftS
 exact (List.dropWhile_sublist _).length_le
theorem trimR_le (l cs:List UInt8):(Lib.trimRightS l cs).length≤l.length:=by
 unfold Lib.trimRightS
 rw [List.length_reverse]
 have h:=(List.dropWhile_sublist (l:=l.reverse) (cs.contains ·)).length_le
 rw [List.length_reverse] at h
 exact h
theorem trimR_eq (l cs:List UInt8) (h:∀ b,l.getLast?=some b→cs.contains b=false):Lib.trimRightS l cs=l:=by
 unfold Lib.trimRightS
 have h1:l.reverse.dropWhile (cs.contains ·)=l.reverse:=by
  cases hr:l.reverse with
  |nil=>rfl
  |cons b r =>
   have h2:l.getLast?=some b:=by rw [← List.head?_reverse,hr];rfl
   rw [List.dropWhile_cons,h b h2]
   rfl
 rw [h1,List.reverse_reverse]
theorem trimL_eq (l cs:List UInt8) (h:∀ b,l.head?=some b→cs.contains b=false):Lib.trimLeftS l cs=l:=by
 unfold Lib.trimLeftS
 cases l with
 |nil=>rfl
 |cons b r=>rw [List.dropWhile_cons,h b rfl];rfl
theorem trimL_lt {b:UInt8} {r cs:List UInt8} (h:cs.contains b=true):(Lib.trimLeftS (b :: r) cs).length < (b :: r).length:=by
 have h1:=trimL_le r cs
 unfold Lib.trimLeftS at h1 ⊢
 rw [List.dropWhile_cons,if_pos h,List.length_cons]
 omega
theorem trimR_lt {l:List UInt8} {b:UInt8} {cs:List UInt8} (hl:l.getLast?=some b) (h:cs.contains b=true):(Lib.trimRightS l cs).length < l.length:=by
 unfold Lib.trimRightS
 rw [List.length_reverse]
 cases hr:l.reverse with
 |nil =>
  have:l=[]:=by simpa using hr
  subst this
  cases hl
 |cons c r =>
  have h2:l.getLast?=some c:=by rw [← List.head?_reverse,hr];rfl
  rw [h2] at hl
  cases hl
  have h3:=trimL_lt (r:=r) h
  unfold Lib.trimLeftS at h3
  rw [← hr] at h3 ⊢
  rw [List.length_reverse] at h3
  exact h3
theorem trimS_iff (l cs:List UInt8):(Lib.trimS l cs == l)=(!(l.head?.any cs.contains) && !(l.getLast?.any cs.contains)):=by
 unfold Lib.trimS
 by_cases h1:l.getLast?.any cs.contains=true
 ·obtain ⟨b,hb,hc⟩:=Option.any_eq_true _ _ |>.1 h1
  have h2:=trimR_lt hb hc
  have h3:=trimL_le (Lib.trimRightS l cs) cs
  rw [h1]
  have:(Lib.trimLeftS (Lib.trimRightS l cs) cs == l)=false:=by
   rw [beq_eq_false_iff_ne]
   intro e
   have:=congrArg List.length e
   omega
  rw [this]
  simp
 ·have h1':l.getLast?.any cs.contains=false:=by simpa using h1
  rw [h1',trimR_eq l cs (fun b hb=>by rw [hb] at h1';simpa using h1')]
  cases l with
  |nil=>rfl
  |cons b r =>
   cases hc:cs.contains b with
   |true =>
    have h2:=trimL_lt (r:=r) hc
    have:(Lib.trimLeftS (b :: r) cs == b :: r)=false:=by
     rw [beq_eq_false_iff_ne]
     intro e
     have:=congrArg List.length e
     omega
    rw [this]
    have:(some b).any cs.contains=true:=hc
    rw [List.head?_cons,this]
    rfl
   |false =>
    rw [trimL_eq _ _ (fun c hcc=>by cases hcc;exact hc)]
    have:(some b).any cs.contains=false:=hc
    rw [List.head?_cons,this]
    simp
def okP (n j:Nat) (b:UInt8):Bool:=smallB b || numB b || (!(j == 0) && !(j+1 == n) && sepB.contains b)
theorem piece_bad {l:List UInt8} {i:Nat} {b:UInt8} (hb:l[i]?=some b) (h:okP l.length i b=false):pieceM l=false:=by
 unfold pieceM
 cases ho:okB sepB false b with
 |false=>rw [ofM_no ho (List.mem_of_getElem? hb)];rfl
 |true =>
  have hc:sepB.contains b=true∧(i=0∨i+1=l.length):=by
   unfold okB at ho
   unfold okP at h
   revert ho h
   cases smallB b <;> cases numB b <;> cases sepB.contains b <;> cases hi:i == 0 <;> cases hj:i+1 == l.length <;> simp_all
  rw [trimS_iff]
  rcases hc.2 with rfl | hi
  ·have hh:l.head?=some b:=by rw [← hb];cases l <;> rfl
   rw [hh]
   have:(some b).any sepB.contains=true:=hc.1
   rw [this]
   simp
  ·have hh:l.getLast?=some b:=by rw [List.getLast?_eq_getElem?,← hi];exact hb
   rw [hh]
   have:(some b).any sepB.contains=true:=hc.1
   rw [this]
   simp
theorem piece_all {l:List UInt8} (h:∀ j b,l[j]?=some b→okP l.length j b=true):pieceM l=!l.isEmpty:=by
 unfold pieceM ofM
 have h1:l.all (okB sepB false)=true:=by
  rw [List.all_eq_true]
  intro b hb
  obtain ⟨j,hj⟩:=List.mem_iff_getElem?.1 hb
  have h2:=h j b hj
  unfold okP at h2
  unfold okB
  revert h2
  cases smallB b <;> cases numB b <;> cases sepB.contains b <;> cases j == 0 <;> cases j+1 == l.length <;> simp
 have hno:∀ j b,(j=0∨j+1=l.length)→l[j]?=some b→sepB.contains b=false:=by
  intro j b hj hb
  have h2:=h j b hb
  unfold okP at h2
  have hx:smallB b=true∨numB b=true:=by
   revert h2
   rcases hj with rfl | hj
   ·cases smallB b <;> cases numB b <;> simp
   ·rw [hj]
    cases smallB b <;> cases numB b <;> simp
  have hn:b≠46∧b≠95∧b≠45:=by
   refine ⟨?_,?_,?_⟩ <;> (rintro rfl;revert hx;decide)
  unfold sepB
  simp only [List.contains,List.elem,beq_eq_false_iff_ne.2 hn.1,beq_eq_false_iff_ne.2 hn.2.1,beq_eq_false_iff_ne.2 hn.2.2]
 rw [h1,trimS_iff,Bool.true_and]
 have e1:l.head?.any sepB.contains=false:=by
  cases hh:l.head? with
  |none=>rfl
  |some b=>exact hno 0 b (.inl rfl) (by rw [← hh];cases l <;> rfl)
 have e2:l.getLast?.any sepB.contains=false:=by
  cases hh:l.getLast? with
  |none=>rfl
  |some b =>
   refine hno (l.length - 1) b ?_ (by rw [← hh,List.getLast?_eq_getElem?])
   cases l with
   |nil=>cases hh
   |cons x r=>exact .inr (by rw [List.length_cons];omega)
 rw [e1,e2]
 simp
end Go.Proofs.YtdkedmngeahjiaaGreatDoor
/- Plain: names of images over a disk. -/
namespace Go.Proofs.YtdkedmngeahjiaaGreatDoor
open Go Go.RowKit
def seqM (p:DM × Int) (f:DM→DM × Int):DM × Int:=if p.2=0 then f p.1 else p
theorem seqM_ok {p:DM × Int} {m:DM} (f:DM→DM × Int) (h:p=(m,0)):seqM p f=f m:=by rw [h];rfl
theorem seqM_no {p:DM × Int} {m:DM} {x:Int} (f:DM→DM × Int) (h:p=(m,x)) (hx:x≠0):seqM p f=(m,x):=by rw [h];exact if_neg hx
def refHead:List UInt8:=[114,101,102,115,47]
def handR:ByteArray:=⟨#[116,109,112,47,114,101,102]⟩
def refN (f:List UInt8):ByteArray:=⟨(refHead ++ f).toArray⟩
def tailM (n:ByteArray):List UInt8:=if n.data.toList.take 5=refHead then n.data.toList.drop 5 else n.data.toList
def restM (n:ByteArray):Bool:=fullM (tailM n) == some (tailM n)
def goneM (m:DM):DM × Int:=seqM (m.op (.remove handR)) fun m=>m.op .flush
def clearR (m:DM):DM × Int:=if (m.reads handR).2=0 then goneM m else if (m.reads handR).2=10 then (m,0) else (m,(m.reads handR).2)
def wroteM (n:ByteArray) (p:DM × Int):DM × Int :=
 if p.2=0 then seqM (p.1.op (.sync handR)) fun m=>seqM (m.op (.rename handR n)) fun m=>m.op .flush
 else if p.2=28 then ((goneM p.1).1,28) else p
def setM (m:DM) (n t:ByteArray):DM × Int :=
 seqM (clearR m) fun m=>seqM (m.op (.create handR)) fun m=>wroteM n (m.op (.write handR t))
def getR (m:DM) (f:List UInt8):List UInt8 × Int :=
 if (m.reads (refN f)).2≠0 then (zeroD,(m.reads (refN f)).2) else match parseD (m.reads (refN f)).1 with
  |some d=>(d,0)
  |none=>(zeroD,30)
def delM (m:DM) (n:ByteArray):DM × Int:=seqM (m.op (.remove n)) fun m=>m.op .flush
def namesM (m:DM):List ByteArray→Option (List (List UInt8 × ByteArray))
 |[]=>some []
 |n :: r=>if restM n then match parseD (m.reads n).1,namesM m r with
   |some _,some l=>some ((tailM n,(m.reads n).1) :: l)
   |_,_=>none
  else namesM m r
def listR (m:DM):List (List UInt8 × ByteArray) × Int :=
 if m.off then ([],27) else match namesM m (m.lists ⟨refHead.toArray⟩) with
  |some l=>(l,0)
  |none=>([],30)
def rightR (m:DM) (n:ByteArray):Bool:=restM n && (parseD (m.reads n).1).isSome
def badR (m:DM):List ByteArray:=(if (m.reads handR).2=0 then [handR] else []) ++ (m.lists ⟨refHead.toArray⟩).filter fun n=>!rightR m n
def takesM:List ByteArray→DM→DM × Int
 |[],m=>(m,0)
 |n :: r,m=>seqM (m.op (.remove n)) (takesM r)
def openR (m:DM):DM × Int :=
 if m.off then (m,27) else seqM (takesM (badR m) m) fun m'=>if badR m=[] then (m',0) else m'.op .flush
end Go.Proofs.YtdkedmngeahjiaaGreatDoor
