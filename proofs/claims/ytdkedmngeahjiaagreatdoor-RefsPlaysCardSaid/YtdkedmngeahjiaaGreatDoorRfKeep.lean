/- Numbers copied by append([]int{}, l...) and handed on to the disk. -/
import Derived.Test.YtdkedmngeahjiaaGreatDoorRfActs
import Derived.Test.YtdkedmngeahjiaaGreatDoorM43
import Derived.Test.YtdkedmngeahjiaaGreatDoorRfRow
import Derived.Test.YtdkedmngeahjiaaGreatDoorM24
import Derived.Test.YtdkedmngeahjiaaGreatDoorM12
import Derived.Deep.Upon
set_option maxRecDepth 100000
set_option maxHeartbeats 25600000
namespace Go.Proofs.YtdkedmngeahjiaaGreatDoor
open Go Go.RowKit
theorem infoK:(Tryz.prog.info? 3).map (fun i=>(i.zero,i.size,i.bytes))=some (some (.int .i64 0),1,8):=by kernel_rfl
structure GathN (w wr:World) (ov:Value) (out:List Int):Prop where
 row:wr.ownsRow w.heap.size 3 1 ov out.length (out.map (Value.int .i64))
 bel:Below w.heap.size w wr
theorem GathN.rd {W1 W2:World} {kv:Value} {ks:List Int} (h:GathN W1 W2 kv ks) (hk:∀ k∈ks,-9223372036854775808≤k∧k≤9223372036854775807) (hl:ks.length≤17592186044416) {S:Nat→Prop} (hS:∀ b,S b→b < W1.heap.size):IntsRd S W2 kv ks:=by
 have hr:=h.row
 obtain ⟨p,c,rfl⟩:=row_slice hr
 rcases hr.2 with ⟨h1,h0⟩ | ⟨g,cap,cur,h1,h2,h3,h4,h5,h6,h7⟩
 ·injection h1 with e1 e2 e3
  subst e1 e3
  refine ⟨none,0,rfl,⟨by omega,Nat.zero_le _⟩,fun j k hj=>?_⟩
  have:=(List.getElem?_eq_some_iff.1 hj).1
  omega
 ·injection h1 with e1 e2 e3
  subst e1 e3
  refine ⟨_,_,rfl,⟨h4,h5⟩,fun j k hj=>⟨hk k (List.mem_of_getElem? hj),g,0,rfl,?_,blk_lt h3,.inl (fun hs=>by have:=hS g hs;omega)⟩⟩
  have hjl:=(List.getElem?_eq_some_iff.1 hj).1
  rw [Nat.zero_add,cell_of_heapN h3,← Array.getElem?_toList]
  have h8:(ks.map (Value.int .i64))[j]?=some (.int .i64 k):=by rw [List.getElem?_map,hj];rfl
  rw [← h7,List.getElem?_take,if_pos (by omega)] at h8
  exact h8
theorem GathN.keepB {W1 W2 W3:World} {kv:Value} {ks:List Int} (h:GathN W1 W2 kv ks) (hb:Below W2.heap.size W2 W3):GathN W1 W3 kv ks:=⟨row_same h.row (fun b hv=>hb.block b (row_blk h.row hv).2.1),h.bel.trans (hb.mono h.bel.size)⟩
theorem GathN.none (W:World):GathN W W (.slice none 0 0) []:=⟨World.ownsRow_nil _ _ _ _,Below.refl _ _⟩
theorem addr_add (b o j:Nat):(⟨b,o,none⟩:Addr).add j=⟨b,o+j,none⟩:=by
 unfold Addr.add
 split
 ·rename_i e0;rw [e0];rfl
 ·rfl
theorem app_ints {S:Nat→Prop} {w1 W:World} {g:Nat} (ty:TypeId) (hw:Below w1.heap.size w1 W) (hg:W.heap[g]?=some (.cells #[] 3 (0,0))) (hb:w1.heap.size≤g) {kp:Option Addr} {KL kc:Nat} {ks:List Int} (hkl:ks.length=KL) (hk:IntsRd S W (.slice kp KL kc) ks) (hl:KL * 8≤140737488355328) :
  ∃ v' W',(Builtin.append_ #[51,51] ty #[.slice (some ⟨g,0,none⟩) 0 0,.slice kp KL kc]).run Tryz.prog W=.ok v' W'∧GathN w1 W' v' ks:=by
 obtain ⟨i0,hi,hz0,hz1,hz2⟩:=info_parts infoK
 have hown:W.ownsRow w1.heap.size 3 1 (.slice (some ⟨g,0,none⟩) 0 0) 0 []:=⟨rfl,.inr ⟨g,0,#[],rfl,hb,hg,Nat.le_refl _,Nat.zero_le _,rfl,rfl⟩⟩
 obtain ⟨p,cap,he,⟨h1,h2⟩,h3⟩:=hk
 cases kp with
 |none =>
  have hks:ks=[]:=by
   cases ks with
   |nil=>rfl
   |cons k r =>
    obtain ⟨-,b,off,h5,-⟩:=h3 0 k rfl
    cases he
    cases h5
  subst hks
  obtain rfl:KL=0:=hkl.symm
  exact ⟨_,_,run_append_nothing W _ _ ty _ i0 Tryz.underlying51 hi _ 0 0 (Nat.le_refl _) _ (Src.ofNil W Tryz.underlying51 kc),⟨hown,hw⟩⟩
 |some ad =>
  have hnews:∀ j u,(ks.map (Value.int .i64))[j]?=some u→W.cell? (ad.add j)=some u:=fun j u hj=>by
   rw [List.getElem?_map] at hj
   obtain ⟨k,hk1,rfl⟩:=Option.map_eq_some_iff.1 hj
   obtain ⟨-,b,off,h5,h6,-⟩:=h3 j k hk1
   cases he
   cases h5
   rw [addr_add]
   exact h6
  obtain ⟨v',W',hr,ho,hgr,-⟩:=run_append_own (P:=Tryz.prog) W w1.heap.size 51 ty 3 i0 (.int .i64 0) 1 8 Tryz.underlying51 hi hz0 hz1 hz2 rfl (by decide) _ 0 [] hown ad KL kc (ks.map (Value.int .i64)) (by rw [List.length_map,hkl,Nat.mul_one]) hnews
   (fun u hu=>by obtain ⟨x,-,rfl⟩:=List.mem_map.1 hu;rfl) (by unfold maxLen;omega) (by omega) hw.size
  refine ⟨v',W',hr,?_,hw.grown hgr hw.size (fun j hj=>by cases hj;exact hb)⟩
  rw [Nat.zero_add,List.nil_append] at ho
  rw [hkl]
  exact ho
section
variable {w w1 W2:World} {P:Nat→Prop} {a n:Nat} {m:DM} {kv:Value} {ks:List Int}
theorem st_arm (h:St w (fun _=>False) P a w1 n m) (hg:GathN w1 W2 kv ks) (hk:∀ k∈ks,-9223372036854775808≤k∧k≤9223372036854775807) (hl:ks.length * 8≤140737488355328) (z:Int) (hz:z≤9223372036854775807) :
  Calls Tryz.prog 23 #[.pointer (some ⟨a,0,none⟩),.int .i64 z,.agg #[kv]] W2 fun e w'=>e=.returned (.tuple #[])∧St w (fun _=>False) P a w' n (m.arm z ks)∧SameP P w1 w':=by
 obtain ⟨⟨S1,g1,g2⟩,g3,g4,g5⟩:=h
 refine (arm_any (g1.below hg.bel) z kv ks (hg.rd hk (by omega) g1.lt) hl hz).mono fun e W' hp=>?_
 obtain ⟨q1,q2⟩:=St.post (w1:=W2) g2 (fun k hk=>Nat.lt_of_lt_of_le (g3 k hk) hg.bel.size) (g4.below hg.bel g4.size) g5 hp.2
 exact ⟨hp.1,q1,fun k hk=>(q2 k hk).trans (hg.bel.block k (g3 k hk))⟩
theorem st_crash (h:St w (fun _=>False) P a w1 n m) (hg:GathN w1 W2 kv ks) (hk:∀ k∈ks,-9223372036854775808≤k∧k≤9223372036854775807) (hl:ks.length * 8≤140737488355328) (hn:n≤4000000000) :
  Calls Tryz.prog 26 #[.pointer (some ⟨a,0,none⟩),.agg #[kv]] W2 fun e w'=>e=.returned (.tuple #[])∧St w (fun _=>False) P a w' n (m.crash ks)∧SameP P w1 w':=by
 obtain ⟨⟨S1,g1,g2⟩,g3,g4,g5⟩:=h
 refine (crash_any (g1.below hg.bel) kv ks (hg.rd hk (by omega) g1.lt) (by omega)).mono fun e W' hp=>?_
 obtain ⟨q1,q2⟩:=St.post (w1:=W2) g2 (fun k hk=>Nat.lt_of_lt_of_le (g3 k hk) hg.bel.size) (g4.below hg.bel g4.size) g5 hp.2
 exact ⟨hp.1,q1,fun k hk=>(q2 k hk).trans (hg.bel.block k (g3 k hk))⟩
theorem st_revive (h:St w (fun _=>False) P a w1 n m) :
  Calls Tryz.prog 25 #[.pointer (some ⟨a,0,none⟩)] w1 fun e w'=>e=.returned (.tuple #[])∧St w (fun _=>False) P a w' n m.revive∧SameP P w1 w':=by
 obtain ⟨⟨S1,h1,h2⟩,h3,h4,h5⟩:=h
 refine (revive_any h1).mono fun e w' hp=>?_
 exact ⟨hp.1,St.post h2 h3 h4 h5 hp.2⟩
end
structure KeepG (b c f:Nat) (ds:List (List Nat)) (w5:World) (KL:Nat) (ks:List Int) (F:World→Prop) (L:Nat→Bool) (γ:Nat × Option Addr × Nat) (W:World):Prop where
 bel:L f=false→Below w5.heap.size w5 W
 blk:L b=true→L c=false→W.heap[γ.1]?=some (.cells #[] 3 (0,0))∧w5.heap.size≤γ.1
 row:L c=true→L f=false→GathN w5 W (.slice γ.2.1 KL γ.2.2) ks
 fin:L f=true→F W
 all:L f=true→∀ j,j < f→L j=true
 cl:∀ i,L i=true→∀ j∈ds.getD i [],L j=true
section
variable {b c f:Nat} {ds:List (List Nat)} {w5 W W':World} {KL:Nat} {ks:List Int} {F:World→Prop} {L:Nat→Bool} {γ:Nat × Option Addr × Nat}
theorem KeepG.off (h:KeepG b c f ds w5 KL ks F L γ W) {i:Nat} (hL:L i=false) (hi:i < f):L f=false:=by
 cases hx:L f with
 |false=>rfl
 |true=>rw [h.all hx i hi] at hL;cases hL
theorem cl_upd (h:∀ i,L i=true→∀ j∈ds.getD i [],L j=true) (k:Nat) (hd:∀ j∈ds.getD k [],L j=true):∀ i,updL L k i=true→∀ j∈ds.getD i [],updL L k j=true:=fun i hi j hj=>by
 by_cases e:i=k
 ·subst e;exact updL_keep (hd j hj)
 ·exact updL_keep (h i (updL_of hi e) j hj)
theorem KeepG.start (w5:World) (F:World→Prop) (γ:Nat × Option Addr × Nat):KeepG b c f ds w5 KL ks F (fun _=>false) γ w5.drew :=
 ⟨fun _=>⟨rfl,rfl,rfl,Nat.le_refl _,fun _ _=>rfl⟩,fun h=>(by cases h),fun h=>(by cases h),fun h=>(by cases h),fun h=>(by cases h),fun _ h=>(by cases h)⟩
theorem KeepG.upd (h:KeepG b c f ds w5 KL ks F L γ W) (k:Nat) (h0:k≠b) (h1:k≠c) (h2:k≠f) (hd:∀ j∈ds.getD k [],L j=true):KeepG b c f ds w5 KL ks F (updL L k) γ W:=by
 have e0:updL L k b=L b:=updL_ne h0.symm
 have e1:updL L k c=L c:=updL_ne h1.symm
 have e2:updL L k f=L f:=updL_ne h2.symm
 exact ⟨fun a=>h.bel (e2 ▸ a),fun a g=>h.blk (e0 ▸ a) (e1 ▸ g),fun a g=>h.row (e1 ▸ a) (e2 ▸ g),fun a=>h.fin (e2 ▸ a),fun a j hj=>updL_keep (h.all (e2 ▸ a) j hj),cl_upd h.cl k hd⟩
theorem KeepG.made (h:KeepG b c f ds w5 KL ks F L γ W) (hbf:b < f) (hbc:b≠c) (hL:L b=false) (hc:L c=true→L b=true) (hd:∀ j∈ds.getD b [],L j=true):KeepG b c f ds w5 KL ks F (updL L b) (W.heap.size,γ.2) (W.alloc (.cells #[] 3)):=by
 have hf:=h.off hL hbf
 have hc0:L c=false:=by
  cases hx:L c with
  |false=>rfl
  |true=>rw [hc hx] at hL;cases hL
 have e1:updL L b c=L c:=updL_ne hbc.symm
 have e2:updL L b f=L f:=updL_ne (by omega)
 have hb:=h.bel hf
 refine ⟨fun _=>hb.alloc hb.size _,fun _ _=>⟨heap_new _ _,hb.size⟩,fun a=>?_,fun a=>?_,fun a=>?_,cl_upd h.cl b hd⟩
 ·rw [e1,hc0] at a;cases a
 ·rw [e2,hf] at a;cases a
 ·rw [e2,hf] at a;cases a
theorem KeepG.copied (h:KeepG b c f ds w5 KL ks F L γ W) (hcf:c < f) (hL:L c=false) (hd:∀ j∈ds.getD c [],L j=true) {u:Option Addr} {q:Nat} (hg:GathN w5 W' (.slice u KL q) ks):KeepG b c f ds w5 KL ks F (updL L c) (γ.1,u,q) W':=by
 have h7:=h.off hL hcf
 have e2:updL L c f=L f:=updL_ne (by omega)
 refine ⟨fun _=>hg.bel,fun _ a=>?_,fun _ _=>hg,fun a=>?_,fun a=>?_,cl_upd h.cl c hd⟩
 ·rw [updL_self] at a;cases a
 ·rw [e2,h7] at a;cases a
 ·rw [e2,h7] at a;cases a
theorem KeepG.done (h:KeepG b c f ds w5 KL ks F L γ W) (hcf:c < f) (hc:L c=true) (hd:∀ j∈ds.getD f [],L j=true) (hall:∀ j,j < f→L j=true) (hf:F W'):KeepG b c f ds w5 KL ks F (updL L f) γ W':=by
 refine ⟨fun a=>?_,fun _ a=>?_,fun _ a=>?_,fun _=>hf,fun _ j hj=>updL_keep (hall j hj),cl_upd h.cl f hd⟩
 ·rw [updL_self] at a;cases a
 ·rw [updL_keep hc] at a;cases a
 ·rw [updL_self] at a;cases a
end
end Go.Proofs.YtdkedmngeahjiaaGreatDoor
