/- Texts of the seat, one behind the other: RpPair, RpS, RpN, RpD, RpDisk, RpP0, RpP1, RpP2, RpP3, RpP5, RpP6, RpAl. -/
import Derived.Test.YtdkedmngeahjiaaGreatDoorM40
import Derived.Test.YtdkedmngeahjiaaGreatDoorRfKeep
import Derived.Test.YtdkedmngeahjiaaGreatDoorM43
import Derived.Test.YtdkedmngeahjiaaGreatDoorM45
import Derived.Test.YtdkedmngeahjiaaGreatDoorM12
import Derived.Test.YtdkedmngeahjiaaGreatDoorM19
import Derived.Deep.RegionWith
set_option maxRecDepth 100000
set_option maxHeartbeats 25600000
/- A disk of the program's beside one of the reference's, for names. -/
namespace Go.Proofs.YtdkedmngeahjiaaGreatDoor
open Go Go.RowKit Go.Maps Go.Shelf
theorem DiskAt.frameS {w w':World} {a n:Nat} {m:DM} {S:Nat→Prop} (h:DiskAt w a n m S) (hb:∀ b,S b→w'.heap[b]?=w.heap[b]?):DiskAt w' a n m S:=by
 obtain ⟨bn,bs,pv,fv,loc,h⟩:=h
 exact ⟨bn,bs,pv,fv,loc,{ h with
  head:=(hb _ h.sa).trans h.head
  now:=h.now.keep (hb _ h.sn)
  safe:=h.safe.keep (hb _ h.ss)
  file:=fun i f hf=>⟨(h.file i f hf).1,(hb _ (h.file i f hf).1).trans (h.file i f hf).2⟩
  pend:=by
   obtain ⟨vs,h1,h2,h3⟩:=h.pend
   exact ⟨vs,row_keep h1 h3 (fun b _ hS _=>hb b hS),h2.keep (fun b _ _ hS _ _=>hb b hS) (fun _ x=>x) (fun _ _ _=>rfl),h3⟩
  fate:=⟨row_keep h.fate.1 h.fate.2 (fun b _ hS _=>hb b hS),h.fate.2⟩
  lt:=fun b hS=>by
   have h1:=hb b hS
   rw [Array.getElem?_eq_getElem (h.lt b hS)] at h1
   exact blk_lt h1 }⟩
theorem RefAt.frameS {w w':World} {r n:Nat} {m:DM} {S:Nat→Prop} (h:RefAt w r n m S) (hb:∀ b,S b→w'.heap[b]?=w.heap[b]?):RefAt w' r n m S:=by
 obtain ⟨⟨fv,nv,sv,pv,kv,ro,hr⟩,k2,k3⟩:=h
 refine ⟨⟨fv,nv,sv,pv,kv,ro,{ hr with
  head:=(hb _ hr.sr).trans hr.head
  files:=hr.files.keep (fun b _ hS _=>hb b hS)
  now:=hr.now.keep (fun b _ hS _=>hb b hS)
  safe:=hr.safe.keep (fun b _ hS _=>hb b hS)
  pend:=hr.pend.keep (fun b _ hS _=>hb b hS)
  keep:=hr.keep.keep (fun b cs hS _=>hb b hS) (fun _ h=>h)
  lt:=fun b hS=>by
   have h1:=hb b hS
   rw [Array.getElem?_eq_getElem (hr.lt b hS)] at h1
   exact blk_lt h1 }⟩,k2,k3⟩
def Pair (w w1:World) (P:Nat→Prop) (a n:Nat) (m:DM) (r k:Nat) (mr:DM):Prop :=
 ∃ SA SR:Nat→Prop,DiskAt w1 a n m SA∧RefAt w1 r k mr SR∧(∀ x,SA x→w.heap.size≤x∧¬ P x∧¬ SR x)∧(∀ x,SR x→w.heap.size≤x∧¬ P x)∧Below w.heap.size w w1∧∀ b,P b→b < w1.heap.size
section
variable {w w1 w':World} {P Q:Nat→Prop} {a n r k:Nat} {m mr:DM}
theorem Pair.bel (h:Pair w w1 P a n m r k mr):Below w.heap.size w w1:=by obtain ⟨SA,SR,h1,h2,h3,h4,h5,h6⟩:=h;exact h5
theorem Pair.lt (h:Pair w w1 P a n m r k mr):∀ b,P b→b < w1.heap.size:=by obtain ⟨SA,SR,h1,h2,h3,h4,h5,h6⟩:=h;exact h6
theorem Pair.ok (h:Pair w w1 P a n m r k mr):m.Ok n:=by obtain ⟨SA,SR,h1,h2,h3,h4,h5,h6⟩:=h;exact h1.ok
theorem Pair.okR (h:Pair w w1 P a n m r k mr):mr.Ok k:=by obtain ⟨SA,SR,h1,h2,h3,h4,h5,h6⟩:=h;exact h2.ok
theorem Pair.below (h:Pair w w1 P a n m r k mr) (hb:Below w1.heap.size w1 w'):Pair w w' P a n m r k mr:=by
 obtain ⟨SA,SR,h1,h2,h3,h4,h5,h6⟩:=h
 exact ⟨SA,SR,h1.below hb,h2.below hb,h3,h4,h5.trans (hb.mono h5.size),fun b hP=>Nat.lt_of_lt_of_le (h6 b hP) hb.size⟩
theorem Pair.same (h:Pair w w1 P a n m r k mr) (hb:Below w1.heap.size w1 w'):SameP P w1 w':=fun b hP=>hb.block b (h.lt b hP)
theorem Pair.drews {q:Nat} (h:Pair w w1 P a n m r k mr):Pair w (w1.drewN q) P a n m r k mr:=h.below ⟨rfl,rfl,rfl,Nat.le_refl _,fun _ _=>rfl⟩
theorem Pair.keeps (h:Pair w w1 P a n m r k mr) (hb:Below w1.heap.size w1 w'):Pair w w' (fun b=>P b∨(w1.heap.size≤b∧b < w'.heap.size)) a n m r k mr:=by
 obtain ⟨SA,SR,h1,h2,h3,h4,h5,h6⟩:=h
 refine ⟨SA,SR,h1.below hb,h2.below hb,fun x hx=>⟨(h3 x hx).1,?_,(h3 x hx).2.2⟩,fun x hx=>⟨(h4 x hx).1,?_⟩,h5.trans (hb.mono h5.size),?_⟩
 ·rintro (hP | ⟨hP,-⟩)
  ·exact (h3 x hx).2.1 hP
  ·exact absurd (h1.lt x hx) (by omega)
 ·rintro (hP | ⟨hP,-⟩)
  ·exact (h4 x hx).2 hP
  ·exact absurd (h2.lt x hx) (by omega)
 ·rintro b (hP | ⟨-,hP⟩)
  ·exact Nat.lt_of_lt_of_le (h6 b hP) hb.size
  ·exact hP
theorem Pair.sub (h:Pair w w1 P a n m r k mr) (hs:∀ b,Q b→P b):Pair w w1 Q a n m r k mr:=by
 obtain ⟨SA,SR,h1,h2,h3,h4,h5,h6⟩:=h
 exact ⟨SA,SR,h1,h2,fun x hx=>⟨(h3 x hx).1,fun hQ=>(h3 x hx).2.1 (hs x hQ),(h3 x hx).2.2⟩,fun x hx=>⟨(h4 x hx).1,fun hQ=>(h4 x hx).2 (hs x hQ)⟩,h5,fun b hQ=>h6 b (hs b hQ)⟩
theorem Pair.more {n' k':Nat} (h:Pair w w1 P a n m r k mr) (hn:n≤n') (hk:k≤k'):Pair w w1 P a n' m r k' mr:=by
 obtain ⟨SA,SR,h1,h2,h3⟩:=h
 exact ⟨SA,SR,h1.more hn,h2.more hk,h3⟩
theorem Pair.setP (h:Pair w w1 P a n m r k mr) {p:Addr} (hp:P p.block) (hw:w.heap.size≤p.block) (v:Value):Pair w (w1.setCell p v) P a n m r k mr:=by
 obtain ⟨SA,SR,h1,h2,h3,h4,h5,h6⟩:=h
 have hz:w1.heap.size≤(w1.setCell p v).heap.size:=by rw [World.size_setCell];exact Nat.le_refl _
 exact ⟨SA,SR,h1.frame (fun b hS=>Below.heap_setCell _ _ _ _ (fun e=>(h3 b hS).2.1 (e ▸ hp))) hz,h2.frame (fun b hS=>Below.heap_setCell _ _ _ _ (fun e=>(h4 b hS).2 (e ▸ hp))) hz,h3,h4,h5.setCell hw v,fun b hP=>by rw [World.size_setCell];exact h6 b hP⟩
theorem Pair.st (h:Pair w w1 P a n m r k mr):∃ SR,St w (fun _=>False) (fun b=>P b∨SR b) a w1 n m∧RefAt w1 r k mr SR∧(∀ x,SR x→w.heap.size≤x∧¬ P x):=by
 obtain ⟨SA,SR,h1,h2,h3,h4,h5,h6⟩:=h
 exact ⟨SR,⟨⟨SA,h1,fun b hb=>⟨.inr (h3 b hb).1,fun hp=>hp.elim (h3 b hb).2.1 (h3 b hb).2.2⟩⟩,fun b hb=>hb.elim (h6 b) (h2.lt b),⟨h5.os,h5.tape,h5.output,h5.size,fun i hi _=>h5.block i hi⟩,fun _ hb=>hb.elim⟩,h2,h4⟩
theorem Pair.rst (h:Pair w w1 P a n m r k mr):∃ SA,RSt w (fun _=>False) (fun b=>P b∨SA b) r w1 k mr∧DiskAt w1 a n m SA∧(∀ x,SA x→w.heap.size≤x∧¬ P x):=by
 obtain ⟨SA,SR,h1,h2,h3,h4,h5,h6⟩:=h
 exact ⟨SA,⟨⟨SR,h2,fun b hb=>⟨.inr (h4 b hb).1,fun hp=>hp.elim (h4 b hb).2 (fun ha=>(h3 b ha).2.2 hb)⟩⟩,fun b hb=>hb.elim (h6 b) (h1.lt b),⟨h5.os,h5.tape,h5.output,h5.size,fun i hi _=>h5.block i hi⟩,fun _ hb=>hb.elim⟩,h1,fun x hx=>⟨(h3 x hx).1,(h3 x hx).2.1⟩⟩
theorem off_below {w w1:World} (h:Off (fun _=>False) w w1):Below w.heap.size w w1:=⟨h.os,h.tape,h.output,h.size,fun i hi=>h.block i hi (fun e=>e)⟩
theorem Pair.did {SR:Nat→Prop} {n':Nat} {m':DM} (hl:∀ b,P b→b < w1.heap.size) (hs:St w (fun _=>False) (fun b=>P b∨SR b) a w' n' m') (h2:RefAt w1 r k mr SR) (h4:∀ x,SR x→w.heap.size≤x∧¬ P x) (hk:SameP (fun b=>P b∨SR b) w1 w'):Pair w w' P a n' m' r k mr:=by
 obtain ⟨⟨SA,g1,g2⟩,g3,g4,-⟩:=hs
 exact ⟨SA,SR,g1,h2.frameS (fun b hb=>hk b (.inr hb)),fun x hx=>⟨(g2 x hx).1.elim (fun e=>e.elim) id,fun hp=>(g2 x hx).2 (.inl hp),fun hp=>(g2 x hx).2 (.inr hp)⟩,h4,off_below g4,fun b hb=>g3 b (.inl hb)⟩
theorem Pair.rdid {SA:Nat→Prop} {k':Nat} {mr':DM} (hs:RSt w (fun _=>False) (fun b=>P b∨SA b) r w' k' mr') (h1:DiskAt w1 a n m SA) (h3:∀ x,SA x→w.heap.size≤x∧¬ P x) (hk:SameP (fun b=>P b∨SA b) w1 w'):Pair w w' P a n m r k' mr':=by
 obtain ⟨⟨SR,g1,g2⟩,g3,g4,-⟩:=hs
 exact ⟨SA,SR,h1.frameS (fun b hb=>hk b (.inr hb)),g1,fun x hx=>⟨(h3 x hx).1,(h3 x hx).2,fun hr=>(g2 x hr).2 (.inr hx)⟩,fun x hx=>⟨(g2 x hx).1.elim (fun e=>e.elim) id,fun hp=>(g2 x hx).2 (.inl hp)⟩,off_below g4,fun b hb=>g3 b (.inl hb)⟩
end
end Go.Proofs.YtdkedmngeahjiaaGreatDoor
/- RefsPlays: what holds between the steps: both disks, and the boxes that are kept. -/
namespace Go.Proofs.YtdkedmngeahjiaaGreatDoor
open Go Go.RowKit
structure PlayB (w:World) (a r:Nat) (W:World) (n:Nat) (m:DM) (k:Nat) (mr:DM) (Ks:List (Nat × Obj)):Prop where
 pair:∃ P,Pair w W P a n m r k mr∧∀ q∈Ks,P q.1
 kept:∀ q∈Ks,W.heap[q.1]?=some q.2
section
variable {w W W':World} {a r n k:Nat} {m mr:DM} {Ks Js:List (Nat × Obj)}
theorem PlayB.toB (h:PlayB w a r W n m k mr Ks):Below w.heap.size w W:=by
 obtain ⟨P,h1,-⟩:=h.pair
 exact h1.bel
theorem PlayB.ok (h:PlayB w a r W n m k mr Ks):m.Ok n:=by
 obtain ⟨P,h1,-⟩:=h.pair
 exact h1.ok
theorem PlayB.okR (h:PlayB w a r W n m k mr Ks):mr.Ok k:=by
 obtain ⟨P,h1,-⟩:=h.pair
 exact h1.okR
theorem PlayB.more {n' k':Nat} (h:PlayB w a r W n m k mr Ks) (hn:n≤n') (hk:k≤k'):PlayB w a r W n' m k' mr Ks:=by
 obtain ⟨P,h1,h2⟩:=h.pair
 exact ⟨⟨P,h1.more hn hk,h2⟩,h.kept⟩
theorem PlayB.sub (h:PlayB w a r W n m k mr Ks) (hs:∀ q∈Js,q∈Ks):PlayB w a r W n m k mr Js:=by
 obtain ⟨P,h1,h5⟩:=h.pair
 exact ⟨⟨P,h1,fun q hq=>h5 q (hs q hq)⟩,fun q hq=>h.kept q (hs q hq)⟩
theorem PlayB.bel (h:PlayB w a r W n m k mr Ks) (hb:Below W.heap.size W W'):PlayB w a r W' n m k mr Ks:=by
 obtain ⟨P,h1,h2⟩:=h.pair
 exact ⟨⟨P,h1.below hb,h2⟩,fun q hq=>(hb.block _ (blk_lt (h.kept q hq))).trans (h.kept q hq)⟩
theorem PlayB.keep (h:PlayB w a r W n m k mr Ks) (hb:Below W.heap.size W W') {c:Nat} {o:Obj} (h1:W.heap.size≤c) (h2:W'.heap[c]?=some o):PlayB w a r W' n m k mr ((c,o) :: Ks):=by
 obtain ⟨P,g1,g5⟩:=h.pair
 have hlt:=blk_lt h2
 refine ⟨⟨_,g1.keeps hb,fun q hq=>?_⟩,fun q hq=>?_⟩
 ·rcases List.mem_cons.1 hq with rfl | hq
  ·exact .inr ⟨h1,hlt⟩
  ·exact .inl (g5 q hq)
 ·rcases List.mem_cons.1 hq with rfl | hq
  ·exact h2
  ·exact (hb.block _ (blk_lt (h.kept q hq))).trans (h.kept q hq)
theorem PlayB.lift {f:FuncId} {args:Array Value} (R:Ending→Prop) {n':Nat} {m':DM} (h:PlayB w a r W n m k mr Ks)
  (hc:∀ P,St w (fun _=>False) P a W n m→(∀ q∈Ks,P q.1)→Calls Tryz.prog f args W fun e w'=>R e∧St w (fun _=>False) P a w' n' m'∧SameP P W w') :
  Calls Tryz.prog f args W fun e w'=>R e∧PlayB w a r w' n' m' k mr Ks:=by
 obtain ⟨P,g1,g5⟩:=h.pair
 obtain ⟨SR,s1,s2,s3⟩:=g1.st
 refine (hc _ s1 (fun q hq=>.inl (g5 q hq))).mono fun e w' hp=>?_
 obtain ⟨hR,t1,t2⟩:=hp
 exact ⟨hR,⟨P,Pair.did g1.lt t1 s2 s3 t2,g5⟩,fun q hq=>(t2 _ (.inl (g5 q hq))).trans (h.kept q hq)⟩
theorem PlayB.liftR {f:FuncId} {args:Array Value} (R:Ending→Prop) {k':Nat} {mr':DM} (h:PlayB w a r W n m k mr Ks)
  (hc:∀ P,RSt w (fun _=>False) P r W k mr→(∀ q∈Ks,P q.1)→Calls Tryz.prog f args W fun e w'=>R e∧RSt w (fun _=>False) P r w' k' mr'∧SameP P W w') :
  Calls Tryz.prog f args W fun e w'=>R e∧PlayB w a r w' n m k' mr' Ks:=by
 obtain ⟨P,g1,g5⟩:=h.pair
 obtain ⟨SA,s1,s2,s3⟩:=g1.rst
 refine (hc _ s1 (fun q hq=>.inl (g5 q hq))).mono fun e w' hp=>?_
 obtain ⟨hR,t1,t2⟩:=hp
 exact ⟨hR,⟨P,Pair.rdid t1 s2 s3 t2,g5⟩,fun q hq=>(t2 _ (.inl (g5 q hq))).trans (h.kept q hq)⟩
end
theorem rst_do {w w1:World} {S P:Nat→Prop} {r n:Nat} {m:DM} (h:RSt w S P r w1 n m) (o:ROp) (s:ByteArray) (hk1:1≤o.kind) (hk2:o.kind≤6) (hf:o.file=0) (hn:n≤4000000000) (hs:s.size≤140737488355328) :
  Calls Tryz.prog 123 #[.pointer (some ⟨r,0,none⟩),.agg #[.int .i64 o.kind,.string o.old,.string o.name,.int .i64 0],.string s] w1 (RPost w S P r w1 n m (rcall o s)):=by
 obtain ⟨⟨S1,h1,h2⟩,h3,h4,h5⟩:=h
 have hd:=refDo_any h1 o s hk1 hk2 (room_fit h1.ok hn) (by omega) hs (by rw [hf];decide)
 unfold ropCl at hd
 rw [hf] at hd
 refine hd.mono fun e w' hp=>?_
 obtain ⟨q1,q2⟩:=RSt.post h2 h3 h4 h5 hp.2
 exact ⟨hp.1,q1,q2⟩
theorem rst_revive {w w1:World} {S P:Nat→Prop} {r n:Nat} {m:DM} (h:RSt w S P r w1 n m) :
  Calls Tryz.prog 64 #[.pointer (some ⟨r,0,none⟩)] w1 fun e w'=>e=.returned (.tuple #[])∧RSt w S P r w' n m.revive∧SameP P w1 w':=by
 obtain ⟨⟨S1,h1,h2⟩,h3,h4,h5⟩:=h
 refine (refRevive_any h1).mono fun e w' hp=>?_
 obtain ⟨q1,q2⟩:=RSt.post h2 h3 h4 h5 hp.2
 exact ⟨hp.1,q1,q2⟩
section
variable {w W W':World} {a r n k:Nat} {m mr:DM} {Ks:List (Nat × Obj)}
theorem PlayB.pcreate (h:PlayB w a r W n m k mr Ks) (s:ByteArray) (hs:s.size≤maxLen) (hn:n≤4000000000) :
  Calls Tryz.prog 47 #[.pointer (some ⟨a,0,none⟩),.string s] W fun e W'=>e=.returned (errE (m.op (.create s)).2)∧PlayB w a r W' (n+1) (m.op (.create s)).1 k mr Ks :=
 h.lift (fun e=>e=.returned (errE (m.op (.create s)).2)) fun P hst _=>(st_create hst s hs hn).mono fun _ _ hp=>hp
theorem PlayB.pwrite (h:PlayB w a r W n m k mr Ks) (s d:ByteArray) (hs:s.size≤maxLen) (hd:d.size≤140737488355328) (hn:n≤4000000000) :
  Calls Tryz.prog 48 #[.pointer (some ⟨a,0,none⟩),.string s,.string d] W fun e W'=>e=.returned (errE (m.op (.write s d)).2)∧PlayB w a r W' (n+1) (m.op (.write s d)).1 k mr Ks :=
 h.lift (fun e=>e=.returned (errE (m.op (.write s d)).2)) fun P hst _=>(st_write hst s d hs hd hn).mono fun _ _ hp=>hp
theorem PlayB.psync (h:PlayB w a r W n m k mr Ks) (s:ByteArray) (hs:s.size≤maxLen) (hn:n≤4000000000) :
  Calls Tryz.prog 50 #[.pointer (some ⟨a,0,none⟩),.string s] W fun e W'=>e=.returned (errE (m.op (.sync s)).2)∧PlayB w a r W' (n+1) (m.op (.sync s)).1 k mr Ks :=
 h.lift (fun e=>e=.returned (errE (m.op (.sync s)).2)) fun P hst _=>(st_sync hst s hs hn).mono fun _ _ hp=>hp
theorem PlayB.premove (h:PlayB w a r W n m k mr Ks) (s:ByteArray) (hs:s.size≤maxLen) (hn:n≤4000000000) :
  Calls Tryz.prog 44 #[.pointer (some ⟨a,0,none⟩),.string s] W fun e W'=>e=.returned (errE (m.op (.remove s)).2)∧PlayB w a r W' (n+1) (m.op (.remove s)).1 k mr Ks :=
 h.lift (fun e=>e=.returned (errE (m.op (.remove s)).2)) fun P hst _=>(st_remove hst s hs hn).mono fun _ _ hp=>hp
theorem PlayB.rdo (h:PlayB w a r W n m k mr Ks) (o:ROp) (s:ByteArray) (hk1:1≤o.kind) (hk2:o.kind≤6) (hf:o.file=0) (hk:k≤4000000000) (hs:s.size≤140737488355328) :
  Calls Tryz.prog 123 #[.pointer (some ⟨r,0,none⟩),.agg #[.int .i64 o.kind,.string o.old,.string o.name,.int .i64 0],.string s] W fun e W'=>e=.returned (.int .i64 (mr.op (rcall o s)).2)∧PlayB w a r W' n m (k+1) (mr.op (rcall o s)).1 Ks :=
 h.liftR (fun e=>e=.returned (.int .i64 (mr.op (rcall o s)).2)) fun P hst _=>(rst_do hst o s hk1 hk2 hf hk hs).mono fun _ _ hp=>hp
theorem PlayB.previve (h:PlayB w a r W n m k mr Ks) :
  Calls Tryz.prog 25 #[.pointer (some ⟨a,0,none⟩)] W fun e W'=>e=.returned (.tuple #[])∧PlayB w a r W' n m.revive k mr Ks :=
 h.lift (fun e=>e=.returned (.tuple #[])) fun P hst _=>(st_revive hst).mono fun _ _ hp=>hp
theorem PlayB.rrevive (h:PlayB w a r W n m k mr Ks) :
  Calls Tryz.prog 64 #[.pointer (some ⟨r,0,none⟩)] W fun e W'=>e=.returned (.tuple #[])∧PlayB w a r W' n m k mr.revive Ks :=
 h.liftR (fun e=>e=.returned (.tuple #[])) fun P hst _=>(rst_revive hst).mono fun _ _ hp=>hp
end
theorem GathI.rdP {W1 W2:World} {kv:Value} {ks:List Int} (h:GathI W1 W2 kv ks) (hk:∀ k∈ks,-9223372036854775808≤k∧k≤9223372036854775807) (hl:ks.length≤17592186044416) {S:Nat→Prop} (hS:∀ b,S b→kv.ownBlock≠some b):IntsRd S W2 kv ks:=by
 have hr:=h.row
 obtain ⟨p,c,rfl⟩:=row_slice hr
 rcases hr.2 with ⟨h1,h0⟩ | ⟨g,cap,cur,h1,h2,h3,h4,h5,h6,h7⟩
 ·injection h1 with e1 e2 e3
  subst e1 e3
  refine ⟨none,0,rfl,⟨by omega,Nat.zero_le _⟩,fun j k hj=>?_⟩
  have:=(List.getElem?_eq_some_iff.1 hj).1
  omega
 ·injection h1 with e1 e2 e3
  subst e1 e3
  refine ⟨_,_,rfl,⟨h4,h5⟩,fun j k hj=>⟨hk k (List.mem_of_getElem? hj),g,0,rfl,?_,blk_lt h3,.inl (fun hs=>hS g hs rfl)⟩⟩
  have hjl:=(List.getElem?_eq_some_iff.1 hj).1
  rw [Nat.zero_add,cell_of_heapN h3,← Array.getElem?_toList]
  have h8:(ks.map (Value.int .i64))[j]?=some (.int .i64 k):=by rw [List.getElem?_map,hj];rfl
  rw [← h7,List.getElem?_take,if_pos (by omega)] at h8
  exact h8
section
variable {w W W' W2:World} {a r n k:Nat} {m mr:DM} {Ks:List (Nat × Obj)} {kv:Value} {ks:List Int}
theorem PlayB.gath (h:PlayB w a r W n m k mr Ks) (hg:GathI W W2 kv ks):∃ Js:List (Nat × Obj),PlayB w a r W2 n m k mr Js∧(∀ q∈Ks,q∈Js)∧∀ b,kv.ownBlock=some b→∃ q∈Js,q.1=b:=by
 have hr:=hg.row
 obtain ⟨p,c,rfl⟩:=row_slice hr
 rcases hr.2 with ⟨h1,h0⟩ | ⟨g,cap,cur,h1,h2,h3,h4,h5,h6,h7⟩
 ·refine ⟨Ks,h.bel hg.bel,fun _ hq=>hq,fun b hb=>?_⟩
  rw [h1] at hb
  cases hb
 ·refine ⟨_,h.keep hg.bel h2 h3,fun q hq=>List.mem_cons_of_mem _ hq,fun b hb=>?_⟩
  rw [h1] at hb
  cases hb
  exact ⟨_,List.mem_cons_self ..,rfl⟩
theorem PlayB.parm (h:PlayB w a r W n m k mr Ks) (hg:GathI W W2 kv ks) (hk:∀ k∈ks,-9223372036854775808≤k∧k≤9223372036854775807) (hl:ks.length * 8≤140737488355328) (z:Int) (hz:z≤9223372036854775807) :
  Calls Tryz.prog 23 #[.pointer (some ⟨a,0,none⟩),.int .i64 z,.agg #[kv]] W2 fun e W'=>e=.returned (.tuple #[])∧PlayB w a r W' n (m.arm z ks) k mr Ks:=by
 obtain ⟨Js,h1,h2,h3⟩:=h.gath hg
 refine (h1.lift (fun e=>e=.returned (.tuple #[])) (n':=n) (m':=m.arm z ks) fun P hst hP=>?_).mono fun e W' hp=>⟨hp.1,hp.2.sub h2⟩
 obtain ⟨⟨S1,g1,g2⟩,g3,g4,g5⟩:=hst
 refine (arm_any g1 z kv ks (hg.rdP hk (by omega) (fun b hb e=>?_)) hl hz).mono fun e w' hp=>?_
 ·obtain ⟨q,hq,he⟩:=h3 b e
  exact (g2 b hb).2 (he ▸ hP q hq)
 ·obtain ⟨q1,q2⟩:=St.post g2 g3 g4 g5 hp.2
  exact ⟨hp.1,q1,q2⟩
theorem PlayB.pcrash (h:PlayB w a r W n m k mr Ks) (hg:GathI W W2 kv ks) (hk:∀ k∈ks,-9223372036854775808≤k∧k≤9223372036854775807) (hl:ks.length * 8≤140737488355328) (hn:n≤4000000000) :
  Calls Tryz.prog 26 #[.pointer (some ⟨a,0,none⟩),.agg #[kv]] W2 fun e W'=>e=.returned (.tuple #[])∧PlayB w a r W' n (m.crash ks) k mr Ks:=by
 obtain ⟨Js,h1,h2,h3⟩:=h.gath hg
 refine (h1.lift (fun e=>e=.returned (.tuple #[])) (n':=n) (m':=m.crash ks) fun P hst hP=>?_).mono fun e W' hp=>⟨hp.1,hp.2.sub h2⟩
 obtain ⟨⟨S1,g1,g2⟩,g3,g4,g5⟩:=hst
 refine (crash_any g1 kv ks (hg.rdP hk (by omega) (fun b hb e=>?_)) (by omega)).mono fun e w' hp=>?_
 ·obtain ⟨q,hq,he⟩:=h3 b e
  exact (g2 b hb).2 (he ▸ hP q hq)
 ·obtain ⟨q1,q2⟩:=St.post g2 g3 g4 g5 hp.2
  exact ⟨hp.1,q1,q2⟩
theorem PlayB.rarm (h:PlayB w a r W n m k mr Ks) (hi:IntsIn w kv ks) (hl:ks.length * 8≤140737488355328) (z:Int) (hz:z≤9223372036854775807) :
  Calls Tryz.prog 122 #[.pointer (some ⟨r,0,none⟩),.int .i64 z,kv] W fun e W'=>e=.returned (.tuple #[])∧PlayB w a r W' n m k (mr.arm z ks) Ks:=by
 have hb:=h.toB
 refine h.liftR (fun e=>e=.returned (.tuple #[])) fun P hst _=>?_
 obtain ⟨⟨S1,g1,g2⟩,g3,g4,g5⟩:=hst
 refine (refArm_any g1 z kv ks (hi.rd hb (fun b hs=>(g2 b hs).1.resolve_left id)) hl hz).mono fun e w' hp=>?_
 obtain ⟨q1,q2⟩:=RSt.post g2 g3 g4 g5 hp.2
 exact ⟨hp.1,q1,q2⟩
theorem PlayB.rcrash (h:PlayB w a r W n m k mr Ks) (hi:IntsIn w kv ks) (hk:k≤4000000000) :
  Calls Tryz.prog 68 #[.pointer (some ⟨r,0,none⟩),kv] W fun e W'=>e=.returned (.tuple #[])∧PlayB w a r W' n m k (mr.crash ks) Ks:=by
 have hb:=h.toB
 refine h.liftR (fun e=>e=.returned (.tuple #[])) fun P hst _=>?_
 obtain ⟨⟨S1,g1,g2⟩,g3,g4,g5⟩:=hst
 refine (refCrash_any g1 kv ks (hi.rd hb (fun b hs=>(g2 b hs).1.resolve_left id)) (by omega)).mono fun e w' hp=>?_
 obtain ⟨q1,q2⟩:=RSt.post g2 g3 g4 g5 hp.2
 exact ⟨hp.1,q1,q2⟩
end
theorem PlayB.pflush {w W:World} {a r n k:Nat} {m mr:DM} {Ks:List (Nat × Obj)} (h:PlayB w a r W n m k mr Ks) (hn:n≤4000000000) :
  Calls Tryz.prog 45 #[.pointer (some ⟨a,0,none⟩)] W fun e W'=>e=.returned (errE (m.op .flush).2)∧PlayB w a r W' (n+1) (m.op .flush).1 k mr Ks :=
 h.lift (fun e=>e=.returned (errE (m.op .flush).2)) fun P hst _=>(st_flush hst hn).mono fun _ _ hp=>hp
section
variable {w W W1 W2:World} {a r n k:Nat} {m mr:DM} {Ks:List (Nat × Obj)}
theorem PlayB.set (h:PlayB w a r W n m k mr Ks) {b:Nat} {o o':Obj} (hm:(b,o)∈Ks) (hw:w.heap.size≤b) (Js:List (Nat × Obj)) (hJ:∀ q∈Js,q=(b,o')∨(q∈Ks∧q.1≠b)):PlayB w a r (setBlk W b o') n m k mr Js:=by
 obtain ⟨P,⟨SA,SR,h1,h2,h3,h4,h5,h6⟩,p4⟩:=h.pair
 have hP:P b:=p4 _ hm
 have hlt:=blk_lt (h.kept _ hm)
 refine ⟨⟨P,⟨SA,SR,h1.frameS (fun c hc=>setBlk_other (fun e=>(h3 c hc).2.1 (e ▸ hP))),h2.frameS (fun c hc=>setBlk_other (fun e=>(h4 c hc).2 (e ▸ hP))),h3,h4,h5.setBlk hw,fun c hc=>by rw [setBlk_size];exact h6 c hc⟩,fun q hq=>?_⟩,fun q hq=>?_⟩
 ·rcases hJ q hq with rfl | ⟨hq,-⟩
  ·exact hP
  ·exact p4 q hq
 ·rcases hJ q hq with rfl | ⟨hq,hne⟩
  ·exact setBlk_heap hlt
  ·exact (setBlk_other hne).trans (h.kept q hq)
theorem PlayB.start {rm:Int} (hd:DiskAt W1 a 0 (DM.new rm) (fun b=>w.heap.size≤b∧b < W1.heap.size)) (hb1:Below w.heap.size w W1) (hr:RefAt W2 r 0 (DM.new rm) (fun b=>W1.heap.size≤b∧b < W2.heap.size)) (hb2:Below W1.heap.size W1 W2):PlayB w a r W2 0 (DM.new rm) 0 (DM.new rm) []:=by
 have hz:=hb1.size
 have hb:=hb1.trans (hb2.mono hz)
 exact ⟨⟨fun b=>b < w.heap.size,⟨_,_,hd.below hb2,hr,fun x hx=>⟨hx.1,Nat.not_lt.2 hx.1,fun hp=>Nat.not_lt.2 hp.1 hx.2⟩,fun x hx=>⟨Nat.le_trans hz hx.1,Nat.not_lt.2 (Nat.le_trans hz hx.1)⟩,hb,fun b hb3=>Nat.lt_of_lt_of_le hb3 hb.size⟩,fun q hq=>by cases hq⟩,fun q hq=>by cases hq⟩
end
end Go.Proofs.YtdkedmngeahjiaaGreatDoor
/- RefsPlays: the calls of both names, beside both disks. -/
namespace Go.Proofs.YtdkedmngeahjiaaGreatDoor
open Go Go.RowKit
theorem Pair.didK {w w1 w':World} {P Q SR:Nat→Prop} {a n' r k:Nat} {m' mr:DM} (hQ:∀ b,Q b→w1.heap.size≤b) (hs:St w (fun _=>False) (fun b=>(P b∨SR b)∨Q b) a w' n' m') (h2:RefAt w1 r k mr SR) (h4:∀ x,SR x→w.heap.size≤x∧¬ P x) (hk:SameP (fun b=>P b∨SR b) w1 w'):Pair w w' (fun b=>P b∨Q b) a n' m' r k mr:=by
 obtain ⟨⟨SA,g1,g2⟩,g3,g4,-⟩:=hs
 exact ⟨SA,SR,g1,h2.frameS (fun b hb=>hk b (.inr hb)),fun x hx=>⟨(g2 x hx).1.elim (fun e=>e.elim) id,fun hp=>hp.elim (fun hp=>(g2 x hx).2 (.inl (.inl hp))) (fun hq=>(g2 x hx).2 (.inr hq)),fun hp=>(g2 x hx).2 (.inl (.inr hp))⟩,fun x hx=>⟨(h4 x hx).1,fun hp=>hp.elim (h4 x hx).2 (fun hq=>by
  have:=hQ x hq
  have:=h2.lt x hx
  omega)⟩,off_below g4,fun b hb=>hb.elim (fun hp=>g3 b (.inl (.inl hp))) (fun hq=>g3 b (.inr hq))⟩
theorem Pair.rdidK {w w1 w':World} {P Q SA:Nat→Prop} {a n r k':Nat} {m mr':DM} (hQ:∀ b,Q b→w1.heap.size≤b) (hs:RSt w (fun _=>False) (fun b=>(P b∨SA b)∨Q b) r w' k' mr') (h1:DiskAt w1 a n m SA) (h3:∀ x,SA x→w.heap.size≤x∧¬ P x) (hk:SameP (fun b=>P b∨SA b) w1 w'):Pair w w' (fun b=>P b∨Q b) a n m r k' mr':=by
 obtain ⟨⟨SR,g1,g2⟩,g3,g4,-⟩:=hs
 exact ⟨SA,SR,h1.frameS (fun b hb=>hk b (.inr hb)),g1,fun x hx=>⟨(h3 x hx).1,fun hp=>hp.elim (h3 x hx).2 (fun hq=>by
  have:=hQ x hq
  have:=h1.lt x hx
  omega),fun hr=>(g2 x hr).2 (.inl (.inr hx))⟩,fun x hx=>⟨(g2 x hx).1.elim (fun e=>e.elim) id,fun hp=>hp.elim (fun hp=>(g2 x hx).2 (.inl (.inl hp))) (fun hq=>(g2 x hx).2 (.inr hq))⟩,off_below g4,fun b hb=>hb.elim (fun hp=>g3 b (.inl (.inl hp))) (fun hq=>g3 b (.inr hq))⟩
section
variable {w W W':World} {a r n k rb xb:Nat} {m mr:DM} {Ks:List (Nat × Obj)}
theorem PlayB.rf (h:PlayB w a r W n m k mr Ks) (hm:(rb,refsO a)∈Ks):∃ P,Rf w (fun _=>False) P rb a W n m:=by
 obtain ⟨P,g1,g5⟩:=h.pair
 obtain ⟨SR,s1,s2,s3⟩:=g1.st
 exact ⟨_,s1,h.kept _ hm,.inl (g5 _ hm)⟩
theorem PlayB.rrf (h:PlayB w a r W n m k mr Ks) (hm:(xb,refsR r)∈Ks):∃ P,RRf w (fun _=>False) P xb r W k mr:=by
 obtain ⟨P,g1,g5⟩:=h.pair
 obtain ⟨SR,s1,s2,s3⟩:=g1.rst
 exact ⟨_,s1,h.kept _ hm,.inl (g5 _ hm)⟩
theorem PlayB.pset (h:PlayB w a r W n m k mr Ks) (hm:(rb,refsO a)∈Ks) (hn:n+7≤4000000000) (s:ByteArray) (hs:(s.size:Int)≤140737488355328) (D:List UInt8) (hD:D.length=32) :
  Calls Tryz.prog 15 #[.pointer (some ⟨rb,0,none⟩),.string s,digV D] W fun e W'=>(∃ t,e=.returned (wrapE t (setF m s.data.toList D).2))∧PlayB w a r W' (n+7) (setF m s.data.toList D).1 k mr Ks :=
 h.lift (fun e=>∃ t,e=.returned (wrapE t (setF m s.data.toList D).2)) fun _ hst hP=>(set_any ⟨hst,h.kept _ hm,hP _ hm⟩ hn s hs D hD).mono fun _ _ hp=>hp
theorem PlayB.pdel (h:PlayB w a r W n m k mr Ks) (hm:(rb,refsO a)∈Ks) (hn:n+2≤4000000000) (s:ByteArray) (hs:(s.size:Int)≤140737488355328) :
  Calls Tryz.prog 24 #[.pointer (some ⟨rb,0,none⟩),.string s] W fun e W'=>(∃ t,e=.returned (wrapE t (delF m s.data.toList).2))∧PlayB w a r W' (n+2) (delF m s.data.toList).1 k mr Ks :=
 h.lift (fun e=>∃ t,e=.returned (wrapE t (delF m s.data.toList).2)) fun _ hst hP=>(del_any ⟨hst,h.kept _ hm,hP _ hm⟩ hn s hs).mono fun _ _ hp=>hp
theorem PlayB.pget (h:PlayB w a r W n m k mr Ks) (hm:(rb,refsO a)∈Ks) (s:ByteArray) (hs:(s.size:Int)≤140737488355328) :
  Calls Tryz.prog 38 #[.pointer (some ⟨rb,0,none⟩),.string s] W (RGetPost W (getF m s.data.toList)):=by
 obtain ⟨P,hf⟩:=h.rf hm
 exact rget_any hf s hs
theorem PlayB.plist (h:PlayB w a r W n m k mr Ks) (hm:(rb,refsO a)∈Ks) (hn:n≤1000000000) (hsh:m.Short) :
  Calls Tryz.prog 39 #[.pointer (some ⟨rb,0,none⟩)] W (RListPost W (listR m)):=by
 obtain ⟨P,hf⟩:=h.rf hm
 exact rlist_any hf hn (lists_short hsh _)
theorem PlayB.rset (h:PlayB w a r W n m k mr Ks) (hm:(xb,refsR r)∈Ks) (hk:k+7≤4000000000) (s:ByteArray) (hs:(s.size:Int)≤140737488355328) (D:List UInt8) (hD:D.length=32) :
  Calls Tryz.prog 57 #[.pointer (some ⟨xb,0,none⟩),.string s,digV D] W fun e W'=>e=.returned (.int .i64 (setF mr s.data.toList D).2)∧PlayB w a r W' n m (k+7) (setF mr s.data.toList D).1 Ks :=
 h.liftR (fun e=>e=.returned (.int .i64 (setF mr s.data.toList D).2)) fun _ hst hP=>(rset24_any ⟨hst,h.kept _ hm,hP _ hm⟩ hk s hs D hD).mono fun _ _ hp=>hp
theorem PlayB.rdel (h:PlayB w a r W n m k mr Ks) (hm:(xb,refsR r)∈Ks) (hk:k+2≤4000000000) (s:ByteArray) (hs:(s.size:Int)≤140737488355328) :
  Calls Tryz.prog 59 #[.pointer (some ⟨xb,0,none⟩),.string s] W fun e W'=>e=.returned (.int .i64 (delF mr s.data.toList).2)∧PlayB w a r W' n m (k+2) (delF mr s.data.toList).1 Ks :=
 h.liftR (fun e=>e=.returned (.int .i64 (delF mr s.data.toList).2)) fun _ hst hP=>(rdel24_any ⟨hst,h.kept _ hm,hP _ hm⟩ hk s hs).mono fun _ _ hp=>hp
theorem PlayB.rget (h:PlayB w a r W n m k mr Ks) (hm:(xb,refsR r)∈Ks) (hk:k≤4000000000) (s:ByteArray) (hs:(s.size:Int)≤140737488355328) :
  Calls Tryz.prog 58 #[.pointer (some ⟨xb,0,none⟩),.string s] W (RGet24 W (getF mr s.data.toList)):=by
 obtain ⟨P,hf⟩:=h.rrf hm
 exact rget24_any hf hk s hs
theorem PlayB.rlist (h:PlayB w a r W n m k mr Ks) (hm:(xb,refsR r)∈Ks) (hk:k≤1000000000) (hsh:mr.Short) :
  Calls Tryz.prog 60 #[.pointer (some ⟨xb,0,none⟩)] W (RList24 W (listR mr)):=by
 obtain ⟨P,hf⟩:=h.rrf hm
 exact rlist24_any hf (short_name hsh.1) hk (lists_short hsh _)
end
def POpen (w:World) (a r n N k:Nat) (mr:DM) (Ks:List (Nat × Obj)) (p:DM × Int) (e:Ending) (W':World):Prop :=
 ∃ v,e=.returned v∧((p.2=0∧∃ rb,v=.tuple #[.pointer (some ⟨rb,0,none⟩),.nilIface]∧PlayB w a r W' (n+N+1) p.1 k mr ((rb,refsO a) :: Ks)) ∨
  (p.2≠0∧∃ t,v=.tuple #[.pointer none,wrapE t p.2]∧PlayB w a r W' (n+N+1) p.1 k mr Ks))
def ROpenB (w:World) (a r n k N:Nat) (m:DM) (Ks:List (Nat × Obj)) (p:DM × Int) (e:Ending) (W':World):Prop :=
 ∃ v,e=.returned v∧((p.2=0∧∃ xb,v=.tuple #[.pointer (some ⟨xb,0,none⟩),.int .i64 0]∧PlayB w a r W' n m (k+N+1) p.1 ((xb,refsR r) :: Ks)) ∨
  (p.2≠0∧v=.tuple #[.pointer none,.int .i64 p.2]∧PlayB w a r W' n m (k+N+1) p.1 Ks))
section
variable {w W W':World} {a r n k:Nat} {m mr:DM} {Ks:List (Nat × Obj)}
theorem PlayB.popen (h:PlayB w a r W n m k mr Ks) (hn:n≤1000000000) (hsh:m.Short) :
  Calls Tryz.prog 13 #[.pointer (some ⟨a,0,none⟩)] W (POpen w a r n (badR m).length k mr Ks (openR m)):=by
 obtain ⟨P,g1,g5⟩:=h.pair
 obtain ⟨SR,s1,s2,s3⟩:=g1.st
 refine (ropen_any s1 hn (lists_short hsh _)).mono ?_
 rintro e W' ⟨v,rfl,hr,hk⟩
 refine ⟨v,rfl,?_⟩
 rcases hr with ⟨h0,rb,rfl,hge,hrf⟩ | ⟨h0,u,t,rfl,rfl,hst⟩
 ·refine .inl ⟨h0,rb,rfl,⟨_,Pair.didK (Q:=fun b=>b=rb) (fun b hb=>by rw [hb];exact hge) hrf.st s2 s3 hk,fun q hq=>?_⟩,fun q hq=>?_⟩
  ·rcases List.mem_cons.1 hq with rfl | hq
   ·exact .inr rfl
   ·exact .inl (g5 q hq)
  ·rcases List.mem_cons.1 hq with rfl | hq
   ·exact hrf.box
   ·exact (hk _ (.inl (g5 q hq))).trans (h.kept q hq)
 ·exact .inr ⟨h0,t,rfl,⟨P,Pair.did g1.lt hst s2 s3 hk,g5⟩,fun q hq=>(hk _ (.inl (g5 q hq))).trans (h.kept q hq)⟩
theorem PlayB.ropen (h:PlayB w a r W n m k mr Ks) (hk:k≤1000000000) (hsh:mr.Short) :
  Calls Tryz.prog 56 #[.pointer (some ⟨r,0,none⟩)] W (ROpenB w a r n k (badR mr).length m Ks (openR mr)):=by
 obtain ⟨P,g1,g5⟩:=h.pair
 obtain ⟨SA,s1,s2,s3⟩:=g1.rst
 refine (ropen24_any s1 (short_name hsh.1) hk (lists_short hsh _)).mono ?_
 rintro e W' ⟨v,rfl,hr,hk⟩
 refine ⟨v,rfl,?_⟩
 rcases hr with ⟨h0,xb,rfl,hge,hrf⟩ | ⟨h0,rfl,hst⟩
 ·refine .inl ⟨h0,xb,rfl,⟨_,Pair.rdidK (Q:=fun b=>b=xb) (fun b hb=>by rw [hb];exact hge) hrf.st s2 s3 hk,fun q hq=>?_⟩,fun q hq=>?_⟩
  ·rcases List.mem_cons.1 hq with rfl | hq
   ·exact .inr rfl
   ·exact .inl (g5 q hq)
  ·rcases List.mem_cons.1 hq with rfl | hq
   ·exact hrf.box
   ·exact (hk _ (.inl (g5 q hq))).trans (h.kept q hq)
 ·exact .inr ⟨h0,rfl,⟨P,Pair.rdid hst s2 s3 hk,g5⟩,fun q hq=>(hk _ (.inl (g5 q hq))).trans (h.kept q hq)⟩
end
end Go.Proofs.YtdkedmngeahjiaaGreatDoor
/- RefsPlays: the disks are asked beside one another; the law's box. -/
namespace Go.Proofs.YtdkedmngeahjiaaGreatDoor
open Go Go.RowKit Go.Maps Go.Shelf
def worldO (a r:Nat) (rp xp:Option Addr):Obj:=.cells #[.pointer (some ⟨a,0,none⟩),.pointer (some ⟨r,0,none⟩),.pointer rp,.pointer xp] 106 (0,0)
theorem gathI_nil (W:World):GathI W W (.slice none 0 0) []:=⟨World.ownsRow_nil _ _ _ _,Below.refl _ _⟩
theorem intsIn_nil (w:World):IntsIn w (.slice none 0 0) []:=⟨none,0,rfl,⟨Nat.le_refl _,Nat.zero_le _⟩,fun j k hj=>by simp at hj⟩
section
variable {w W W':World} {a r n k:Nat} {m mr:DM} {Ks:List (Nat × Obj)}
theorem PlayB.cel (h:PlayB w a r W n m k mr Ks) {b:Nat} {c:Array Value} {t:TypeId} (hm:(b,.cells c t (0,0))∈Ks) (i:Nat):W.cell? ⟨b,i,none⟩=c[i]?:=cell_of_heapN (h.kept _ hm)
theorem PlayB.wcel {rp xp:Option Addr} (h:PlayB w a r W n m k mr Ks) (wb:Nat) (hm:(wb,worldO a r rp xp)∈Ks):W.cell? ⟨wb,0,none⟩=some (.pointer (some ⟨a,0,none⟩))∧W.cell? ⟨wb,1,none⟩=some (.pointer (some ⟨r,0,none⟩))∧W.cell? ⟨wb,2,none⟩=some (.pointer rp)∧W.cell? ⟨wb,3,none⟩=some (.pointer xp) :=
 ⟨h.cel hm 0,h.cel hm 1,h.cel hm 2,h.cel hm 3⟩
theorem PlayB.pls (h:PlayB w a r W n m k mr Ks) (hd:ByteArray) (hn:n≤4000000000) :
  Calls Tryz.prog 17 #[.pointer (some ⟨a,0,none⟩),.string hd] W fun e w'=>∃ v,e=.returned (.tuple #[v,errE (if m.off then 27 else 0)])∧OwnTexts W.heap.size w' v (m.lists hd)∧Below W.heap.size W w':=by
 obtain ⟨P,g1,-⟩:=h.pair
 obtain ⟨SR,s1,-⟩:=g1.st
 exact st_list s1 hd hn
theorem PlayB.prd (h:PlayB w a r W n m k mr Ks) (s:ByteArray) (hs:s.size≤maxLen) :
  Calls Tryz.prog 40 #[.pointer (some ⟨a,0,none⟩),.string s] W fun e w'=>e=.returned (.tuple #[.string (m.reads s).1,errE (m.reads s).2])∧W=w':=by
 obtain ⟨P,g1,-⟩:=h.pair
 obtain ⟨SR,s1,-⟩:=g1.st
 exact st_read s1 s hs
theorem PlayB.rls (h:PlayB w a r W n m k mr Ks) (hsh:mr.Short) (hd:ByteArray) (hhd:hd.size≤140737488355328) (hk:k≤4000000000) :
  Calls Tryz.prog 65 #[.pointer (some ⟨r,0,none⟩),.string hd] W fun e w'=>∃ u,e=.returned (.tuple #[u,.int .i64 (if mr.off then 27 else 0)])∧GathT W w' u (mr.lists hd):=by
 obtain ⟨P,g1,-⟩:=h.pair
 obtain ⟨SA,s1,-⟩:=g1.rst
 exact rlist_st s1 hk (short_name hsh.1) hd hhd
theorem PlayB.rrd (h:PlayB w a r W n m k mr Ks) (hk:k≤4000000000) (s:ByteArray) :
  Calls Tryz.prog 67 #[.pointer (some ⟨r,0,none⟩),.string s] W fun e w'=>e=.returned (.tuple #[.string (mr.reads s).1,.int .i64 (mr.reads s).2])∧∃ q,w'=W.drewN q:=by
 obtain ⟨P,g1,-⟩:=h.pair
 obtain ⟨SA,s1,-⟩:=g1.rst
 exact rread_st s1 hk s
theorem PlayB.dr (h:PlayB w a r W n m k mr Ks) (q:Nat):PlayB w a r (W.drewN q) n m k mr Ks:=h.bel ⟨rfl,rfl,rfl,Nat.le_refl _,fun _ _=>rfl⟩
end
theorem lists_leB {m:DM} {n:Nat} (h:m.Ok n) (s:ByteArray):(m.lists s).length≤n:=by
 unfold DM.lists
 split
 ·exact Nat.zero_le _
 ·rw [List.length_map]
  exact Nat.le_trans (List.length_filter_le _ _) h.nowN
theorem lists_readB {m:DM} {n:Nat} (h:m.Ok n) (hs:m.Short) (t:ByteArray):∀ s∈m.lists t,(m.reads s).2=0∧s.size≤200:=fun s hm=>by
 refine ⟨?_,lists_short hs t s hm⟩
 cases ho:m.off with
 |true =>
  unfold DM.lists at hm
  rw [ho] at hm
  cases hm
 |false=>exact reads_listed h.now ho hm
end Go.Proofs.YtdkedmngeahjiaaGreatDoor
/- (*world).disk of stratalaw24: what others do to both disks. Printed by wip/g56.py. -/
namespace Go.Proofs.YtdkedmngeahjiaaGreatDoor
open Go Go.RowKit
def opO (o:OpR) (kv:Value):Obj:=.cells (o.cells kv).toArray 53 (0,0)
theorem GathI.keepB {W1 W2 W3:World} {kv:Value} {ks:List Int} (h:GathI W1 W2 kv ks) (hb:Below W2.heap.size W2 W3):GathI W1 W3 kv ks:=⟨row_same h.row (fun b hv=>hb.block b (row_blk h.row hv).2.1),h.bel.trans (hb.mono h.bel.size)⟩
section
variable {w W W':World} {a r n k:Nat} {m mr:DM} {Ks:List (Nat × Obj)}
theorem PlayB.ocel {o:OpR} {kv:Value} (h:PlayB w a r W n m k mr Ks) (ob:Nat) (hm:(ob,opO o kv)∈Ks) (h32:o.dig.length=32):W.cell? ⟨ob,0,none⟩=some (.int .i64 o.kind)∧W.cell? ⟨ob,1,none⟩=some (.string o.name)∧W.cell? ⟨ob,34,none⟩=some (.string o.text)∧W.cell? ⟨ob,35,none⟩=some (.int .i64 o.num)∧W.cell? ⟨ob,36,none⟩=some kv:=by
 have hc:∀ i,W.cell? ⟨ob,i,none⟩=(o.cells kv)[i]?:=fun i=>by rw [h.cel hm i,List.getElem?_toArray]
 exact ⟨hc 0,hc 1,(hc 34).trans (OpR.c34 h32),(hc 35).trans (OpR.c35 h32),(hc 36).trans (OpR.c36 h32)⟩
theorem PlayB.odig {o:OpR} {kv:Value} (h:PlayB w a r W n m k mr Ks) (ob:Nat) (hm:(ob,opO o kv)∈Ks) (h32:o.dig.length=32):W.rangeAt ob 2 (o.dig.map byteV):=fun j u hj=>by
 have hj32:j < 32:=by have:=(List.getElem?_eq_some_iff.1 hj).1;rw [List.length_map,h32] at this;exact this
 rw [h.cel hm (2+j),List.getElem?_toArray,OpR.cd h32 hj32]
 exact hj
end
theorem disk_any {w W:World} {a r n k wb:Nat} {rp xp:Option Addr} {m:DM} {Ks:List (Nat × Obj)} (h:PlayB w a r W n m k m Ks) (hwb:(wb,worldO a r rp xp)∈Ks) (hn:n+2≤1000000000) (hk:k+2≤1000000000)
  (o:OpR) (kv:Value) (hF:o.Fits) (hkv:IntsIn w kv o.keep) :
  Calls Tryz.prog 63 #[.pointer (some ⟨wb,0,none⟩),.agg (o.cells kv).toArray] W fun e W'=>e=.returned (.tuple #[])∧PlayB w a r W' (n+2) (diskM m o.kind o.name o.text o.num o.keep) (k+2) (diskM m o.kind o.name o.text o.num o.keep) Ks:=by
 obtain ⟨h32,f1,f2,f3,f4,f5⟩:=hF
 obtain ⟨KL,hKL⟩:∃ KL,o.keep.length=KL:=⟨_,rfl⟩
 have hkv2:=hkv
 obtain ⟨kp,kc,rfl,-,-⟩:=hkv2
 rw [hKL] at hkv ⊢
 obtain ⟨ob,hob⟩:∃ b,W.heap.size=b:=⟨_,rfl⟩
 obtain ⟨W0,hW0⟩:∃ W0,W.alloc (opO o (.slice kp KL kc))=W0:=⟨_,rfl⟩
 have hp0:=h.keep (c:=ob) (o:=opO o (.slice kp KL kc)) (W':=W0) (by rw [← hW0];exact (Below.refl _ _).alloc (Nat.le_refl _) _) (by rw [hob];exact Nat.le_refl _) (by rw [← hW0,← hob];exact heap_new _ _)
 have HP0:=hZ hp0
 have HMW:Hid ((wb,worldO a r rp xp)∈(ob,opO o (.slice kp KL kc)) :: Ks):=hZ (List.mem_cons_of_mem _ hwb)
 have HMO:Hid ((ob,opO o (.slice kp KL kc))∈(ob,opO o (.slice kp KL kc)) :: Ks):=hZ (List.mem_cons_self ..)
 have HD32:=hZ h32
 have hW0':W.alloc (.cells (o.cells (.slice kp KL kc)).toArray 53)=W0:=hW0
 obtain ⟨C,hC⟩:∃ C,(o.cells (.slice kp KL kc)).toArray=C:=⟨_,rfl⟩
 rw [hC] at hW0' ⊢
 obtain ⟨kd,nm,dg,tx,z,ks⟩:=o
 simp only at f1 f2 f3 f4 f5 hKL h32 hkv
 have HNK:=hZ (show n+2≤1000000000∧k+2≤1000000000 from ⟨hn,hk⟩)
 have HFN:=hZ f3
 have HFT:=hZ f4
 have HFK:=hZ f5
 have HFZ:=hZ f2
 obtain ⟨f1a,f1b⟩:=f1
 obtain ⟨f2a,f2b⟩:=f2
 have HKI:=hZ hkv
 have HKB:=hZ hkv.bounds
 have HKL:=hZ hKL
 have hci:=copyInts_any (hkv.rd (w1:=W0) HP0.out.toB (S:=fun _=>False) (fun _ e=>e.elim)) (by omega)
 clear h hp0 hwb hn hk hW0 hC h32 f3 f4 f5 hkv hKL
 obtain ⟨b0,b1,-,-⟩:=HP0.out.wcel wb HMW.out
 obtain ⟨a0,a1,a34,a35,a36⟩:=HP0.out.ocel ob HMO.out HD32.out
 go_enter Tryz.func63,Tryz.ntmps63
 go_wp2_with (rw [hW0'])
 refine hci.mono ?_
 rintro e w1 ⟨u,rfl,hg⟩
 obtain ⟨up,uc,rfl⟩:=row_slice hg.row
 rw [HKL.out]
 have hg2:GathI W0 w1 (.slice up KL uc) ks:=by have h9:=hg;rw [HKL.out] at h9;exact h9
 obtain ⟨w4,hw4⟩:∃ V,V=w1.alloc (.cells #[.slice up KL uc] 62):=⟨_,rfl⟩
 have hb4:Below w1.heap.size w1 w4:=by rw [hw4];exact (Below.refl _ _).alloc (Nat.le_refl _) _
 have hcf:w4.cell? ⟨w1.heap.size,0,none⟩=some (.slice up KL uc):=by rw [hw4,cell_of_heapN (heap_new _ _)];rfl
 have HGI:Hid (GathI W0 (w4.drewN 1) (.slice up KL uc) ks):=hZ ((hg2.keepB hb4).keepB ⟨rfl,rfl,rfl,Nat.le_refl _,fun _ _=>rfl⟩)
 have HP4:=hZ (HP0.out.bel (hg2.bel.trans (hb4.mono hg2.bel.size)))
 have HCF:=hZ hcf
 clear hci hg hg2 hb4 hcf b0 b1 a0 a1 a34 a35 a36 hW0'
 subst hw4
 by_cases h6:kd=6
 ·subst h6
  obtain ⟨b0,b1,-,-⟩:=HP4.out.wcel wb HMW.out
  obtain ⟨a0,a1,a34,a35,a36⟩:=HP4.out.ocel ob HMO.out HD32.out
  have hc1:=HP0.out.parm HGI.out HKB.out (by have:=HFK.out;omega) z (by have:=HFZ.out.2;omega)
  have cf:=HCF.out
  go_wp2_with fail
  refine wp_region_tailD 7 mixedD (by kernel_rfl) ?_
  simp only [List.take_succ_cons,List.take_zero,List.drop_succ_cons,List.drop_zero]
  repeat still_step
  refine wpStill_nil ?_
  go_wp2_with fail
  refine hc1.mono ?_
  rintro e w5 ⟨rfl,hp⟩
  have HP5:=hZ hp
  clear hp hc1 cf
  clear b0 b1 a0 a1 a34 a35 a36
  obtain ⟨b0,b1,-,-⟩:=HP5.out.wcel wb HMW.out
  obtain ⟨a0,a1,a34,a35,a36⟩:=HP5.out.ocel ob HMO.out HD32.out
  have hc1:=(HP5.out.dr 1).rarm HKI.out (by have:=HFK.out;omega) z (by have:=HFZ.out.2;omega)
  go_wp2_with fail
  refine wp_region_tailD 8 mixedD (by kernel_rfl) ?_
  simp only [List.take_succ_cons,List.take_zero,List.drop_succ_cons,List.drop_zero]
  repeat still_step
  refine wpStill_nil ?_
  go_wp2_with fail
  refine hc1.mono ?_
  rintro e w6 ⟨rfl,hp⟩
  have HP6:=hZ hp
  clear hp hc1
  clear b0 b1 a0 a1 a34 a35 a36
  go_wp2_with fail
  first
   |refine bodyPost_ret (results_none rfl _ _ _) rfl ?_
   |refine bodyPost_end (fn:=Tryz.f63) (results_none rfl _ _ _) rfl ?_
  exact ⟨rfl,by rw [show diskM m 6 nm tx z ks=m.arm z ks from rfl];exact (HP6.out.more (by omega) (by omega)).sub (fun q hq=>by simp [hq])⟩
 ·by_cases h7:kd=7
  ·subst h7
   obtain ⟨b0,b1,-,-⟩:=HP4.out.wcel wb HMW.out
   obtain ⟨a0,a1,a34,a35,a36⟩:=HP4.out.ocel ob HMO.out HD32.out
   have hc1:=HP0.out.pcrash HGI.out HKB.out (by have:=HFK.out;omega) (by have:=HNK.out;omega)
   have cf:=HCF.out
   go_wp2_with fail
   refine wp_region_tailD 5 mixedD (by kernel_rfl) ?_
   simp only [List.take_succ_cons,List.take_zero,List.drop_succ_cons,List.drop_zero]
   repeat still_step
   refine wpStill_nil ?_
   go_wp2_with fail
   refine hc1.mono ?_
   rintro e w5 ⟨rfl,hp⟩
   have HP5:=hZ hp
   clear hp hc1 cf
   clear b0 b1 a0 a1 a34 a35 a36
   obtain ⟨b0,b1,-,-⟩:=HP5.out.wcel wb HMW.out
   obtain ⟨a0,a1,a34,a35,a36⟩:=HP5.out.ocel ob HMO.out HD32.out
   have hc1:=(HP5.out.dr 1).rcrash HKI.out (by have:=HNK.out;omega)
   go_wp2_with fail
   refine wp_region_tailD 6 mixedD (by kernel_rfl) ?_
   simp only [List.take_succ_cons,List.take_zero,List.drop_succ_cons,List.drop_zero]
   repeat still_step
   refine wpStill_nil ?_
   go_wp2_with fail
   refine hc1.mono ?_
   rintro e w6 ⟨rfl,hp⟩
   have HP6:=hZ hp
   clear hp hc1
   clear b0 b1 a0 a1 a34 a35 a36
   go_wp2_with fail
   first
    |refine bodyPost_ret (results_none rfl _ _ _) rfl ?_
    |refine bodyPost_end (fn:=Tryz.f63) (results_none rfl _ _ _) rfl ?_
   exact ⟨rfl,by rw [show diskM m 7 nm tx z ks=m.crash ks from rfl];exact (HP6.out.more (by omega) (by omega)).sub (fun q hq=>by simp [hq])⟩
  ·by_cases h8:kd=8
   ·subst h8
    obtain ⟨b0,b1,-,-⟩:=HP4.out.wcel wb HMW.out
    obtain ⟨a0,a1,a34,a35,a36⟩:=HP4.out.ocel ob HMO.out HD32.out
    have hc1:=HP4.out.previve
    go_wp2_with fail
    refine hc1.mono ?_
    rintro e w5 ⟨rfl,hp⟩
    have HP5:=hZ hp
    clear hp hc1
    clear b0 b1 a0 a1 a34 a35 a36
    obtain ⟨b0,b1,-,-⟩:=HP5.out.wcel wb HMW.out
    obtain ⟨a0,a1,a34,a35,a36⟩:=HP5.out.ocel ob HMO.out HD32.out
    have hc1:=HP5.out.rrevive
    go_wp2_with fail
    refine hc1.mono ?_
    rintro e w6 ⟨rfl,hp⟩
    have HP6:=hZ hp
    clear hp hc1
    clear b0 b1 a0 a1 a34 a35 a36
    go_wp2_with fail
    first
     |refine bodyPost_ret (results_none rfl _ _ _) rfl ?_
     |refine bodyPost_end (fn:=Tryz.f63) (results_none rfl _ _ _) rfl ?_
    exact ⟨rfl,by rw [show diskM m 8 nm tx z ks=m.revive from rfl];exact (HP6.out.more (by omega) (by omega)).sub (fun q hq=>by simp [hq])⟩
   ·by_cases h9:kd=9
    ·subst h9
     obtain ⟨b0,b1,-,-⟩:=HP4.out.wcel wb HMW.out
     obtain ⟨a0,a1,a34,a35,a36⟩:=HP4.out.ocel ob HMO.out HD32.out
     have hc1:=(HP4.out.dr 1).pcreate nm (by have:=HFN.out;unfold maxLen;omega) (by have:=HNK.out;omega)
     go_wp2_with fail
     refine wp_region_tailD 6 mixedD (by kernel_rfl) ?_
     simp only [List.take_succ_cons,List.take_zero,List.drop_succ_cons,List.drop_zero]
     repeat still_step
     refine wpStill_nil ?_
     go_wp2_with fail
     refine hc1.mono ?_
     rintro e w5 ⟨rfl,hp⟩
     have HP5:=hZ hp
     clear hp hc1
     clear b0 b1 a0 a1 a34 a35 a36
     obtain ⟨b0,b1,-,-⟩:=HP5.out.wcel wb HMW.out
     obtain ⟨a0,a1,a34,a35,a36⟩:=HP5.out.ocel ob HMO.out HD32.out
     have hc1:=(HP5.out.dr 1).rdo ⟨1,⟨#[]⟩,nm,0⟩ ⟨#[]⟩ (by show (1:Int)≤_;exact (by decide:(1:Int)≤1)) (by show _≤(6:Int);exact (by decide:(1:Int)≤6)) rfl (by have:=HNK.out;omega) (by decide)
     rw [show rcall ⟨1,⟨#[]⟩,nm,0⟩ ⟨#[]⟩=.create nm from rfl] at hc1
     go_wp2_with fail
     refine wp_region_tailD 7 mixedD (by kernel_rfl) ?_
     simp only [List.take_succ_cons,List.take_zero,List.drop_succ_cons,List.drop_zero]
     repeat still_step
     refine wpStill_nil ?_
     go_wp2_with fail
     refine hc1.mono ?_
     rintro e w6 ⟨rfl,hp⟩
     have HP6:=hZ hp
     clear hp hc1
     clear b0 b1 a0 a1 a34 a35 a36
     obtain ⟨b0,b1,-,-⟩:=HP6.out.wcel wb HMW.out
     obtain ⟨a0,a1,a34,a35,a36⟩:=HP6.out.ocel ob HMO.out HD32.out
     have hc1:=(HP6.out.dr 1).pwrite nm tx (by have:=HFN.out;unfold maxLen;omega) (by have:=HFT.out;omega) (by have:=HNK.out;omega)
     go_wp2_with fail
     refine wp_region_tailD 8 mixedD (by kernel_rfl) ?_
     simp only [List.take_succ_cons,List.take_zero,List.drop_succ_cons,List.drop_zero]
     repeat still_step
     refine wpStill_nil ?_
     go_wp2_with fail
     refine hc1.mono ?_
     rintro e w7 ⟨rfl,hp⟩
     have HP7:=hZ hp
     clear hp hc1
     clear b0 b1 a0 a1 a34 a35 a36
     obtain ⟨b0,b1,-,-⟩:=HP7.out.wcel wb HMW.out
     obtain ⟨a0,a1,a34,a35,a36⟩:=HP7.out.ocel ob HMO.out HD32.out
     have hc1:=(HP7.out.dr 1).rdo ⟨2,⟨#[]⟩,nm,0⟩ tx (by show (1:Int)≤_;exact (by decide:(1:Int)≤2)) (by show _≤(6:Int);exact (by decide:(2:Int)≤6)) rfl (by have:=HNK.out;omega) (by have:=HFT.out;omega)
     rw [show rcall ⟨2,⟨#[]⟩,nm,0⟩ tx=.write nm tx from rfl] at hc1
     go_wp2_with fail
     refine wp_region_tailD 9 mixedD (by kernel_rfl) ?_
     simp only [List.take_succ_cons,List.take_zero,List.drop_succ_cons,List.drop_zero]
     repeat still_step
     refine wpStill_nil ?_
     go_wp2_with fail
     refine hc1.mono ?_
     rintro e w8 ⟨rfl,hp⟩
     have HP8:=hZ hp
     clear hp hc1
     clear b0 b1 a0 a1 a34 a35 a36
     go_wp2_with fail
     first
      |refine bodyPost_ret (results_none rfl _ _ _) rfl ?_
      |refine bodyPost_end (fn:=Tryz.f63) (results_none rfl _ _ _) rfl ?_
     exact ⟨rfl,by rw [show diskM m 9 nm tx z ks=((m.op (.create nm)).1.op (.write nm tx)).1 from rfl];exact (HP8.out.more (by omega) (by omega)).sub (fun q hq=>by simp [hq])⟩
    ·by_cases h10:kd=10
     ·subst h10
      obtain ⟨b0,b1,-,-⟩:=HP4.out.wcel wb HMW.out
      obtain ⟨a0,a1,a34,a35,a36⟩:=HP4.out.ocel ob HMO.out HD32.out
      have hc1:=(HP4.out.dr 1).psync nm (by have:=HFN.out;unfold maxLen;omega) (by have:=HNK.out;omega)
      go_wp2_with fail
      refine wp_region_tailD 6 mixedD (by kernel_rfl) ?_
      simp only [List.take_succ_cons,List.take_zero,List.drop_succ_cons,List.drop_zero]
      repeat still_step
      refine wpStill_nil ?_
      go_wp2_with fail
      refine hc1.mono ?_
      rintro e w5 ⟨rfl,hp⟩
      have HP5:=hZ hp
      clear hp hc1
      clear b0 b1 a0 a1 a34 a35 a36
      obtain ⟨b0,b1,-,-⟩:=HP5.out.wcel wb HMW.out
      obtain ⟨a0,a1,a34,a35,a36⟩:=HP5.out.ocel ob HMO.out HD32.out
      have hc1:=(HP5.out.dr 1).rdo ⟨3,⟨#[]⟩,nm,0⟩ ⟨#[]⟩ (by show (1:Int)≤_;exact (by decide:(1:Int)≤3)) (by show _≤(6:Int);exact (by decide:(3:Int)≤6)) rfl (by have:=HNK.out;omega) (by decide)
      rw [show rcall ⟨3,⟨#[]⟩,nm,0⟩ ⟨#[]⟩=.sync nm from rfl] at hc1
      go_wp2_with fail
      refine wp_region_tailD 7 mixedD (by kernel_rfl) ?_
      simp only [List.take_succ_cons,List.take_zero,List.drop_succ_cons,List.drop_zero]
      repeat still_step
      refine wpStill_nil ?_
      go_wp2_with fail
      refine hc1.mono ?_
      rintro e w6 ⟨rfl,hp⟩
      have HP6:=hZ hp
      clear hp hc1
      clear b0 b1 a0 a1 a34 a35 a36
      go_wp2_with fail
      first
       |refine bodyPost_ret (results_none rfl _ _ _) rfl ?_
       |refine bodyPost_end (fn:=Tryz.f63) (results_none rfl _ _ _) rfl ?_
      exact ⟨rfl,by rw [show diskM m 10 nm tx z ks=(m.op (.sync nm)).1 from rfl];exact (HP6.out.more (by omega) (by omega)).sub (fun q hq=>by simp [hq])⟩
     ·by_cases h11:kd=11
      ·subst h11
       obtain ⟨b0,b1,-,-⟩:=HP4.out.wcel wb HMW.out
       obtain ⟨a0,a1,a34,a35,a36⟩:=HP4.out.ocel ob HMO.out HD32.out
       have hc1:=HP4.out.pflush (by have:=HNK.out;omega)
       go_wp2_with fail
       refine hc1.mono ?_
       rintro e w5 ⟨rfl,hp⟩
       have HP5:=hZ hp
       clear hp hc1
       clear b0 b1 a0 a1 a34 a35 a36
       obtain ⟨b0,b1,-,-⟩:=HP5.out.wcel wb HMW.out
       obtain ⟨a0,a1,a34,a35,a36⟩:=HP5.out.ocel ob HMO.out HD32.out
       have hc1:=HP5.out.rdo ⟨6,⟨#[]⟩,⟨#[]⟩,0⟩ ⟨#[]⟩ (by show (1:Int)≤_;exact (by decide:(1:Int)≤6)) (by show _≤(6:Int);exact (by decide:(6:Int)≤6)) rfl (by have:=HNK.out;omega) (by decide)
       rw [show rcall ⟨6,⟨#[]⟩,⟨#[]⟩,0⟩ ⟨#[]⟩=.flush from rfl] at hc1
       go_wp2_with fail
       refine hc1.mono ?_
       rintro e w6 ⟨rfl,hp⟩
       have HP6:=hZ hp
       clear hp hc1
       clear b0 b1 a0 a1 a34 a35 a36
       go_wp2_with fail
       first
        |refine bodyPost_ret (results_none rfl _ _ _) rfl ?_
        |refine bodyPost_end (fn:=Tryz.f63) (results_none rfl _ _ _) rfl ?_
       exact ⟨rfl,by rw [show diskM m 11 nm tx z ks=(m.op .flush).1 from rfl];exact (HP6.out.more (by omega) (by omega)).sub (fun q hq=>by simp [hq])⟩
      ·by_cases h12:kd=12
       ·subst h12
        obtain ⟨b0,b1,-,-⟩:=HP4.out.wcel wb HMW.out
        obtain ⟨a0,a1,a34,a35,a36⟩:=HP4.out.ocel ob HMO.out HD32.out
        have hc1:=(HP4.out.dr 1).premove nm (by have:=HFN.out;unfold maxLen;omega) (by have:=HNK.out;omega)
        go_wp2_with fail
        refine wp_region_tailD 6 mixedD (by kernel_rfl) ?_
        simp only [List.take_succ_cons,List.take_zero,List.drop_succ_cons,List.drop_zero]
        repeat still_step
        refine wpStill_nil ?_
        go_wp2_with fail
        refine hc1.mono ?_
        rintro e w5 ⟨rfl,hp⟩
        have HP5:=hZ hp
        clear hp hc1
        clear b0 b1 a0 a1 a34 a35 a36
        obtain ⟨b0,b1,-,-⟩:=HP5.out.wcel wb HMW.out
        obtain ⟨a0,a1,a34,a35,a36⟩:=HP5.out.ocel ob HMO.out HD32.out
        have hc1:=(HP5.out.dr 1).rdo ⟨5,⟨#[]⟩,nm,0⟩ ⟨#[]⟩ (by show (1:Int)≤_;exact (by decide:(1:Int)≤5)) (by show _≤(6:Int);exact (by decide:(5:Int)≤6)) rfl (by have:=HNK.out;omega) (by decide)
        rw [show rcall ⟨5,⟨#[]⟩,nm,0⟩ ⟨#[]⟩=.remove nm from rfl] at hc1
        go_wp2_with fail
        refine wp_region_tailD 7 mixedD (by kernel_rfl) ?_
        simp only [List.take_succ_cons,List.take_zero,List.drop_succ_cons,List.drop_zero]
        repeat still_step
        refine wpStill_nil ?_
        go_wp2_with fail
        refine hc1.mono ?_
        rintro e w6 ⟨rfl,hp⟩
        have HP6:=hZ hp
        clear hp hc1
        clear b0 b1 a0 a1 a34 a35 a36
        go_wp2_with fail
        first
         |refine bodyPost_ret (results_none rfl _ _ _) rfl ?_
         |refine bodyPost_end (fn:=Tryz.f63) (results_none rfl _ _ _) rfl ?_
        exact ⟨rfl,by rw [show diskM m 12 nm tx z ks=(m.op (.remove nm)).1 from rfl];exact (HP6.out.more (by omega) (by omega)).sub (fun q hq=>by simp [hq])⟩
       ·obtain ⟨b0,b1,-,-⟩:=HP4.out.wcel wb HMW.out
        obtain ⟨a0,a1,a34,a35,a36⟩:=HP4.out.ocel ob HMO.out HD32.out
        have hno:diskM m kd nm tx z ks=m:=by unfold diskM;rw [if_neg h6,if_neg h7,if_neg h8,if_neg h9,if_neg h10,if_neg h11,if_neg h12]
        have HNO:=hZ hno
        clear hno
        go_wp2_with fail
        first
         |refine bodyPost_ret (results_none rfl _ _ _) rfl ?_
         |refine bodyPost_end (fn:=Tryz.f63) (results_none rfl _ _ _) rfl ?_
        exact ⟨rfl,by rw [HNO.out];exact (HP4.out.more (by omega) (by omega)).sub (fun q hq=>by simp [hq])⟩
end Go.Proofs.YtdkedmngeahjiaaGreatDoor
/- (*world).plays of stratalaw24: what is common. Printed by wip/g57.py. -/
namespace Go.Proofs.YtdkedmngeahjiaaGreatDoor
open Go Go.RowKit
def KS (a r wb rb xb:Nat):List (Nat × Obj):=[(wb,worldO a r (some ⟨rb,0,none⟩) (some ⟨xb,0,none⟩)),(rb,refsO a),(xb,refsR r)]
def PlaysP (w:World) (a r wb n k:Nat) (M:DM) (e:Ending) (W':World):Prop:=e=.returned (.bool true)∧∃ rb xb,PlayB w a r W' n M k M (KS a r wb rb xb)
def FW (w:World) (a r n n' k k':Nat) (m M:DM) (Ks:List (Nat × Obj)) (j:Nat) (W:World):Prop:=PlayB w a r W (if j=0 then n else n') (if j=0 then m else M) (if j≤1 then k else k') (if j≤1 then m else M) Ks
def GW (W3:World) (q:Nat) (E:List UInt8) (j:Nat) (W:World):Prop:=Below W3.heap.size W3 W∧(1≤j→W3.heap.size≤q)∧(j=1→W.heap[q]?=some (.cells z32 33 (0,0)))∧(2≤j→W.heap[q]?=some (.cells (E.map byteV).toArray 33 (0,0)))
section
variable {w W W' W3:World} {a r n n' k k' wb ob q:Nat} {rp xp:Option Addr} {m M:DM} {Ks:List (Nat × Obj)} {ds:List (List Nat)} {cs:List Nat} {L:Nat→Bool}
theorem Chn.rds {o:OpR} {kv:Value} (h:Chn ds cs (FW w a r n n' k k' m M Ks) L W) (hm:(wb,worldO a r rp xp)∈Ks) (ho:(ob,opO o kv)∈Ks) (h32:o.dig.length=32) :
  W.cell? ⟨wb,2,none⟩=some (.pointer rp)∧W.cell? ⟨wb,3,none⟩=some (.pointer xp)∧W.cell? ⟨ob,1,none⟩=some (.string o.name)∧W.rangeAt ob 2 (o.dig.map byteV):=by
 obtain ⟨j,hj,-⟩:=h.st
 unfold FW at hj
 obtain ⟨-,-,c2,c3⟩:=hj.wcel wb hm
 obtain ⟨-,d1,-,-,-⟩:=hj.ocel ob ho h32
 exact ⟨c2,c3,d1,hj.odig ob ho h32⟩
theorem GW.below {E:List UInt8} {j:Nat} (h:GW W3 q E j W) (hb:Below W.heap.size W W'):GW W3 q E j W':=by
 obtain ⟨h1,h2,h3,h4⟩:=h
 exact ⟨h1.trans (hb.mono h1.size),h2,fun e=>(hb.block q (blk_lt (h3 e))).trans (h3 e),fun e=>(hb.block q (blk_lt (h4 e))).trans (h4 e)⟩
theorem gw_bel {E:List UInt8} (h:Chn ds cs (GW W3 q E) L W):Below W3.heap.size W3 W:=by
 obtain ⟨j,hj,-⟩:=h.st
 exact hj.1
end
theorem setRow_two {w:World} {b:Nat} {c0 c1 c2 c3 v2 v3:Value} {t:TypeId} (h:w.heap[b]?=some (.cells #[c0,c1,c2,c3] t (0,0))):(w.setCell ⟨b,2,none⟩ v2).setCell ⟨b,3,none⟩ v3=setBlk w b (.cells #[c0,c1,v2,v3] t (0,0)):=by
 have hb:=blk_lt h
 simp only [setCell_blk h,setBlk_setCell hb]
 rfl
theorem there_put {w:World} {g o n:Nat} {cur:Array Value} {t:TypeId} (h:w.heap[g]?=some (.cells cur t (0,0))) (hs:o+n≤cur.size):w.there g o n:=fun j hj=>by
 refine ⟨?_,frozen_blk h⟩
 rw [cell_of_heapN h,Array.getElem?_eq_getElem (show o+j < cur.size by omega)]
 rfl
theorem setCells_put {g:Nat} {t:TypeId}:∀ (vs:List Value) (o:Nat) (cur:Array Value) (w:World),w.heap[g]?=some (.cells cur t (0,0))→w.setCells g o vs=setBlk w g (.cells (curPut cur o vs) t (0,0))
 |[],_,_,_,h=>(setBlk_self h).symm
 |v :: r,o,cur,w,h=>by
  rw [World.setCells,setCell_blk h,setCells_put r (o+1) _ _ (setBlk_heap (blk_lt h)),setBlk_setBlk]
  rfl
theorem put_all {E:List UInt8} (hE:E.length=32):curPut z32 0 (E.map byteV)=(E.map byteV).toArray:=by
 have hl:(E.map byteV).length=32:=by rw [List.length_map,hE]
 refine Array.ext_getElem? fun j=>?_
 rw [curPut_at z32 0 (E.map byteV) (by rw [hl];exact Nat.le_refl _),hl]
 have e:(E.map byteV).toArray[j]?=(E.map byteV)[j]?:=by rw [List.getElem?_toArray]
 rw [e]
 by_cases hj:j < 32
 ·rw [if_pos ⟨Nat.zero_le _,by omega⟩,Nat.sub_zero]
 ·rw [if_neg (by omega),List.getElem?_eq_none (by rw [hl];omega)]
  exact Array.getElem?_eq_none (show z32.size≤j from Nat.not_lt.1 hj)
theorem run_store_dig {W:World} {q:Nat} {E:List UInt8} (hE:E.length=32) (h:W.heap[q]?=some (.cells z32 33 (0,0))) :
  (Instr.storeAt 33 (.pointer (some ⟨q,0,none⟩)) (.agg (E.map byteV).toArray)).run Tryz.prog W=.ok () (setBlk W q (.cells (E.map byteV).toArray 33 (0,0))):=by
 have hl:(E.map byteV).length=32:=by rw [List.length_map,hE]
 rw [run_storeAt_mid (P:=Tryz.prog) W q 0 33 (E.map byteV).toArray (by rw [List.size_toArray,hl];exact there_put h (Nat.le_refl _)) (dig_info2 hE) (dig_one E)]
 rw [setCells_put _ 0 z32 W h,List.toList_toArray,put_all hE]
end Go.Proofs.YtdkedmngeahjiaaGreatDoor
/- (*world).plays of stratalaw24 (Set). Printed by wip/g57.py. -/
namespace Go.Proofs.YtdkedmngeahjiaaGreatDoor
open Go Go.RowKit
theorem plays_set {w W:World} {a r n k wb rb xb N:Nat} {m:DM} (h:PlayB w a r W n m k m (KS a r wb rb xb)) (hwb:w.heap.size≤wb) (hG:ErrT w) (hT:TabP m N) (hn:n+N+9≤1000000000) (hk:k+N+9≤1000000000)
  (o:OpR) (kv:Value) (hF:o.Fits) (hkv:IntsIn w kv o.keep) (hK:o.kind=1) :
  Calls Tryz.prog 20 #[.pointer (some ⟨wb,0,none⟩),.agg (o.cells kv).toArray] W (PlaysP w a r wb (n+N+9) (k+N+9) (playM m o.kind o.name o.dig o.text o.num o.keep)):=by
 have HOF:=hZ hF
 have HKV:=hZ hkv
 obtain ⟨h32,f1,f2,f3,f4,f5⟩:=hF
 obtain ⟨ob,hob⟩:∃ b,W.heap.size=b:=⟨_,rfl⟩
 obtain ⟨W0,hW0⟩:∃ W0,W.alloc (opO o kv)=W0:=⟨_,rfl⟩
 have hp0:=h.keep (c:=ob) (o:=opO o kv) (W':=W0) (by rw [← hW0];exact (Below.refl _ _).alloc (Nat.le_refl _) _) (by rw [hob];exact Nat.le_refl _) (by rw [← hW0,← hob];exact heap_new _ _)
 have hW0':W.alloc (.cells (o.cells kv).toArray 53)=W0:=hW0
 obtain ⟨Ks,hKs⟩:∃ Ks,(ob,opO o kv) :: KS a r wb rb xb=Ks:=⟨_,rfl⟩
 have HSUB:Hid (∀ q∈KS a r wb rb xb,q∈Ks):=hZ (fun q hq=>by rw [← hKs];exact List.mem_cons_of_mem _ hq)
 have HMO:Hid ((ob,opO o kv)∈Ks):=hZ (by rw [← hKs];exact List.mem_cons_self ..)
 have HMW:Hid ((wb,worldO a r (some ⟨rb,0,none⟩) (some ⟨xb,0,none⟩))∈Ks):=hZ (by rw [← hKs];simp [KS])
 have HMR:Hid ((rb,refsO a)∈Ks):=hZ (by rw [← hKs];simp [KS])
 have HMX:Hid ((xb,refsR r)∈Ks):=hZ (by rw [← hKs];simp [KS])
 rw [hKs] at hp0
 have HP0:=hZ hp0
 have HWZ:=hZ hwb
 have HG:=hZ hG
 have HT:=hZ hT
 have HNK:=hZ (show n+N+9≤1000000000∧k+N+9≤1000000000 from ⟨hn,hk⟩)
 have HD32:=hZ h32
 have HFN:=hZ f3
 have HKD:=hZ hK
 obtain ⟨C,hC⟩:∃ C,(o.cells kv).toArray=C:=⟨_,rfl⟩
 rw [hC] at hW0' ⊢
 have e0:=HP0.out.ocel ob HMO.out HD32.out
 obtain ⟨a0,a1,-,-,-⟩:=e0
 obtain ⟨nm,hnm⟩:∃ nm,o.name=nm:=⟨_,rfl⟩
 obtain ⟨D,hD⟩:∃ D,o.dig=D:=⟨_,rfl⟩
 rw [hnm] at a1 HFN ⊢
 rw [hD] at HD32 ⊢
 have HNM:=hZ hnm
 have HDD:=hZ hD
 obtain ⟨M,hM⟩:∃ M,(setF m nm.data.toList D).1=M:=⟨_,rfl⟩
 obtain ⟨z,hz⟩:∃ z,(setF m nm.data.toList D).2=z:=⟨_,rfl⟩
 have hcz:Code z:=by rw [← hz];exact setF_code _ _ _
 have hpm:playM m o.kind nm D o.text o.num o.keep=M:=by rw [← hM,hK];rfl
 have HPM:=hZ hpm
 have HZC:=hZ hcz
 have HM:=hZ hM
 have HZ:=hZ hz
 obtain ⟨n',hn'⟩:∃ x,n+7=x:=⟨_,rfl⟩
 obtain ⟨k',hk'⟩:∃ x,k+7=x:=⟨_,rfl⟩
 have HN9:Hid (n'≤n+N+9∧k'≤k+N+9):=hZ ⟨by omega,by omega⟩
 have HN':=hZ hn'
 have HK':=hZ hk'
 have hI:=dig_info HD32.out
 have hU:=dig_und
 rw [hK] at a0
 clear h hp0 hwb hG hT hn hk hW0 hKs h32 f1 f2 f3 f4 f5 hkv hC hnm hD hM hz hcz hpm hn' hk' hK
 go_enter Tryz.func20,Tryz.ntmps20
 go_wp2_with (rw [hW0'])
 clear a0 a1
 have hI0:Chn [[],[0],[1],[2],[],[4],[],[6],[3,5,7],[],[9],[10],[11],[],[13],[],[15],[12,14,16,8],[8,17,17],[18,18,0,1,2,3,4,5,6,7,8,9,10,11,12,13,14,15,16,17,18]] [8,17,18] (FW w a r n n' k k' m M Ks) (fun _=>false) W0.drew:=Chn.start (show PlayB w a r W0.drew n m k m Ks from HP0.out.dr 1)
 refine wp_region_flowG (fun γ:ByteArray=>[.pointer (some ⟨wb,0,none⟩),.pointer (some ⟨wb,0,none⟩),.pointer (some ⟨wb,2,none⟩),.pointer (some ⟨rb,0,none⟩),.pointer (some ⟨ob,1,none⟩),.string nm,.pointer (some ⟨ob,2,none⟩),.agg (D.map byteV).toArray,wrapE γ z,.pointer (some ⟨wb,0,none⟩),.pointer (some ⟨wb,0,none⟩),.pointer (some ⟨wb,3,none⟩),.pointer (some ⟨xb,0,none⟩),.pointer (some ⟨ob,1,none⟩),.string nm,.pointer (some ⟨ob,2,none⟩),.agg (D.map byteV).toArray,.int .i64 z,.bool true,.bool true]) (fun L _ W=>Chn [[],[0],[1],[2],[],[4],[],[6],[3,5,7],[],[9],[10],[11],[],[13],[],[15],[12,14,16,8],[8,17,17],[18,18,0,1,2,3,4,5,6,7,8,9,10,11,12,13,14,15,16,17,18]] [8,17,18] (FW w a r n n' k k' m M Ks) L W)
  [[],[0],[1],[2],[],[4],[],[6],[3,5,7],[],[9],[10],[11],[],[13],[],[15],[12,14,16,8],[8,17,17],[18,18,0,1,2,3,4,5,6,7,8,9,10,11,12,13,14,15,16,17,18]] 181 ⟨#[]⟩ mixedD rfl (by kernel_rfl) (fun _=>rfl) hI0 ?_ ?_
 ·refine ⟨?_,?_,?_,?_,?_,?_,?_,?_,?_,?_,?_,?_,?_,?_,?_,?_,?_,?_,?_,?_,rfl⟩
  all_goals intro L γ W ev hL hd hW hc hf hg he h0
  ·have e0:ev (.tmp 0)=.pointer (some ⟨wb,0,none⟩):=h0 0 rfl
   clear he h0 hc hf hg
   exact flS rfl (by go_simp <;> rfl) (hW.upd 0 (by decide) hd) rfl
  ·have e23:ev (.tmp 23)=.pointer (some ⟨wb,0,none⟩):=he 0 (by decide) _ 23 rfl rfl
   clear he h0 hc hf hg
   exact flS rfl (by go_simp <;> rfl) (hW.upd 1 (by decide) hd) rfl
  ·have e24:ev (.tmp 24)=.pointer (some ⟨wb,0,none⟩):=he 1 (by decide) _ 24 rfl rfl
   clear he h0 hc hf hg
   exact flS rfl (by go_simp <;> rfl) (hW.upd 2 (by decide) hd) rfl
  ·have e25:ev (.tmp 25)=.pointer (some ⟨wb,2,none⟩):=he 2 (by decide) _ 25 rfl rfl
   obtain ⟨r2,r3,r1,rD⟩:=hW.rds HMW.out HMO.out (by rw [HDD.out];exact HD32.out)
   rw [HNM.out] at r1
   rw [HDD.out] at rD
   clear he h0 hc hf hg
   exact flS rfl (by go_simp <;> rfl) (hW.upd 3 (by decide) hd) rfl
  ·have e3:ev (.tmp 3)=.pointer (some ⟨ob,0,none⟩):=h0 3 rfl
   clear he h0 hc hf hg
   exact flS rfl (by go_simp <;> rfl) (hW.upd 4 (by decide) hd) rfl
  ·have e27:ev (.tmp 27)=.pointer (some ⟨ob,1,none⟩):=he 4 (by decide) _ 27 rfl rfl
   obtain ⟨r2,r3,r1,rD⟩:=hW.rds HMW.out HMO.out (by rw [HDD.out];exact HD32.out)
   rw [HNM.out] at r1
   rw [HDD.out] at rD
   clear he h0 hc hf hg
   exact flS rfl (by go_simp <;> rfl) (hW.upd 5 (by decide) hd) rfl
  ·have e3:ev (.tmp 3)=.pointer (some ⟨ob,0,none⟩):=h0 3 rfl
   clear he h0 hc hf hg
   exact flS rfl (by go_simp <;> rfl) (hW.upd 6 (by decide) hd) rfl
  ·have e29:ev (.tmp 29)=.pointer (some ⟨ob,2,none⟩):=he 6 (by decide) _ 29 rfl rfl
   clear he h0 hc hg
   obtain ⟨r2,r3,r1,rD⟩:=hW.rds HMW.out HMO.out (by rw [HDD.out];exact HD32.out)
   rw [HNM.out] at r1
   rw [HDD.out] at rD
   have hlv:=run_loadVar_mid (P:=Tryz.prog) W ob 2 33 (D.map byteV) _ rD hU rfl hI
   refine .inl ⟨rfl,.inl ⟨_,W,?_,.still (hW.upd 7 (by decide) hd) rfl⟩⟩
   unfold execOp
   simp only [e29,Instr.loadAt,Instr.sureAddr,Sem.run_bind,Sem.run_pure,Result.andThen_ok,hlv]
   try rfl
  ·have e26:ev (.tmp 26)=.pointer (some ⟨rb,0,none⟩):=he 3 (by decide) _ 26 rfl rfl
   have e28:ev (.tmp 28)=.string nm:=he 5 (by decide) _ 28 rfl rfl
   have e30:ev (.tmp 30)=.agg (D.map byteV).toArray:=he 7 (by decide) _ 30 rfl rfl
   clear he h0 hc hg
   refine .inl ⟨rfl,.inr (.inr ⟨15,#[.pointer (some ⟨rb,0,none⟩),.string nm,digV D],W,(by have hff:=hf 15;clear hf;go_simp <;> rfl),?_⟩)⟩
   have hF:=hW.at 0 (by decide) hL (.inl rfl)
   refine ((show Calls _ _ _ W _ from (by
    have hp1:=(show PlayB w a r W n m k m Ks from hF).pset HMR.out (by have:=HNK.out;omega) nm (by have:=HFN.out;omega) D HD32.out
    rw [HM.out,HZ.out,HN'.out] at hp1
    exact hp1))).mono ?_
   rintro e w' ⟨⟨t,rfl⟩,hp⟩
   refine ⟨_,rfl,t,hW.done (by decide) 0 (by decide) hL (.inl rfl) hd (show FW w a r n n' k k' m M Ks 1 w' from hp),rfl,fun j hj=>?_⟩
   have hj2:j≠8:=fun e=>(by subst e;rw [hL] at hj;cases hj)
   match j,hj2 with
   |0,_=>rfl
   |1,_=>rfl
   |2,_=>rfl
   |3,_=>rfl
   |4,_=>rfl
   |5,_=>rfl
   |6,_=>rfl
   |7,_=>rfl
   |9,_=>rfl
   |10,_=>rfl
   |11,_=>rfl
   |12,_=>rfl
   |13,_=>rfl
   |14,_=>rfl
   |15,_=>rfl
   |16,_=>rfl
   |17,_=>rfl
   |18,_=>rfl
   |19,_=>rfl
   |8,h=>exact absurd rfl h
   |n+20,_=>rfl
  ·have e0:ev (.tmp 0)=.pointer (some ⟨wb,0,none⟩):=h0 0 rfl
   clear he h0 hc hf hg
   exact flS rfl (by go_simp <;> rfl) (hW.upd 9 (by decide) hd) rfl
  ·have e32:ev (.tmp 32)=.pointer (some ⟨wb,0,none⟩):=he 9 (by decide) _ 32 rfl rfl
   clear he h0 hc hf hg
   exact flS rfl (by go_simp <;> rfl) (hW.upd 10 (by decide) hd) rfl
  ·have e33:ev (.tmp 33)=.pointer (some ⟨wb,0,none⟩):=he 10 (by decide) _ 33 rfl rfl
   clear he h0 hc hf hg
   exact flS rfl (by go_simp <;> rfl) (hW.upd 11 (by decide) hd) rfl
  ·have e34:ev (.tmp 34)=.pointer (some ⟨wb,3,none⟩):=he 11 (by decide) _ 34 rfl rfl
   obtain ⟨r2,r3,r1,rD⟩:=hW.rds HMW.out HMO.out (by rw [HDD.out];exact HD32.out)
   rw [HNM.out] at r1
   rw [HDD.out] at rD
   clear he h0 hc hf hg
   exact flS rfl (by go_simp <;> rfl) (hW.upd 12 (by decide) hd) rfl
  ·have e3:ev (.tmp 3)=.pointer (some ⟨ob,0,none⟩):=h0 3 rfl
   clear he h0 hc hf hg
   exact flS rfl (by go_simp <;> rfl) (hW.upd 13 (by decide) hd) rfl
  ·have e36:ev (.tmp 36)=.pointer (some ⟨ob,1,none⟩):=he 13 (by decide) _ 36 rfl rfl
   obtain ⟨r2,r3,r1,rD⟩:=hW.rds HMW.out HMO.out (by rw [HDD.out];exact HD32.out)
   rw [HNM.out] at r1
   rw [HDD.out] at rD
   clear he h0 hc hf hg
   exact flS rfl (by go_simp <;> rfl) (hW.upd 14 (by decide) hd) rfl
  ·have e3:ev (.tmp 3)=.pointer (some ⟨ob,0,none⟩):=h0 3 rfl
   clear he h0 hc hf hg
   exact flS rfl (by go_simp <;> rfl) (hW.upd 15 (by decide) hd) rfl
  ·have e38:ev (.tmp 38)=.pointer (some ⟨ob,2,none⟩):=he 15 (by decide) _ 38 rfl rfl
   clear he h0 hc hg
   obtain ⟨r2,r3,r1,rD⟩:=hW.rds HMW.out HMO.out (by rw [HDD.out];exact HD32.out)
   rw [HNM.out] at r1
   rw [HDD.out] at rD
   have hlv:=run_loadVar_mid (P:=Tryz.prog) W ob 2 33 (D.map byteV) _ rD hU rfl hI
   refine .inl ⟨rfl,.inl ⟨_,W,?_,.still (hW.upd 16 (by decide) hd) rfl⟩⟩
   unfold execOp
   simp only [e38,Instr.loadAt,Instr.sureAddr,Sem.run_bind,Sem.run_pure,Result.andThen_ok,hlv]
   try rfl
  ·have e35:ev (.tmp 35)=.pointer (some ⟨xb,0,none⟩):=he 12 (by decide) _ 35 rfl rfl
   have e37:ev (.tmp 37)=.string nm:=he 14 (by decide) _ 37 rfl rfl
   have e39:ev (.tmp 39)=.agg (D.map byteV).toArray:=he 16 (by decide) _ 39 rfl rfl
   clear he h0 hc hg
   refine .inl ⟨rfl,.inr (.inr ⟨57,#[.pointer (some ⟨xb,0,none⟩),.string nm,digV D],W,(by have hff:=hf 57;clear hf;go_simp <;> rfl),?_⟩)⟩
   have hF:=hW.at 1 (by decide) hL (.inr (hd 8 (by decide)))
   refine ((show Calls _ _ _ W _ from (by
    have hp1:=(show PlayB w a r W n' M k m Ks from hF).rset HMX.out (by have:=HNK.out;omega) nm (by have:=HFN.out;omega) D HD32.out
    rw [HM.out,HZ.out,HK'.out] at hp1
    exact hp1))).mono ?_
   rintro e w' ⟨rfl,hp⟩
   exact ⟨_,rfl,.still (hW.done (by decide) 1 (by decide) hL (.inr (hd 8 (by decide))) hd (show FW w a r n n' k k' m M Ks 2 w' from hp)) rfl⟩
  ·have e31:ev (.tmp 31)=wrapE γ z:=he 8 (by decide) _ 31 rfl rfl
   have e40:ev (.tmp 40)=.int .i64 z:=he 17 (by decide) _ 40 rfl rfl
   clear he h0 hc hg
   refine .inl ⟨rfl,.inr (.inr ⟨10,#[wrapE γ z,.int .i64 z],W,(by have hff:=hf 10;clear hf;go_simp <;> rfl),?_⟩)⟩
   have hF:=hW.at 2 (by decide) hL (.inr (hd 17 (by decide)))
   have hF2:PlayB w a r W n' M k' M Ks:=hF
   refine (plain_ref γ z HZC.out z W (HG.out.below hF2.toB HG.out.2)).mono ?_
   rintro e w' ⟨rfl,hb⟩
   exact ⟨_,rfl,.still (hW.done (by decide) 2 (by decide) hL (.inr (hd 17 (by decide))) hd (show FW w a r n n' k k' m M Ks 3 w' from hF2.bel hb)) (by rw [beq_self_eq_true];rfl)⟩
  ·have e41:ev (.tmp 41)=.bool true:=he 18 (by decide) _ 41 rfl rfl
   clear he h0 hc hf hg
   exact flS rfl (by go_simp <;> rfl) (hW.upd 19 (by decide) hd) rfl
 intro γ L w5 hL hW
 have HP5:Hid (PlayB w a r w5 n' M k' M Ks):=hZ (hW.fin (fun c hc=>hL c (by
  have h9:c=8∨c=17∨c=18:=by simpa using hc
  show c < 20
  omega)))
 clear hL hW hI0
 simp only [putAll,Act.put,List.setIfInBounds_toArray,List.set_cons_succ,List.set_cons_zero]
 go_wp2_with fail
 go_ret
 exact ⟨rfl,rb,xb,by rw [HPM.out];exact (HP5.out.more HN9.out.1 HN9.out.2).sub HSUB.out⟩
end Go.Proofs.YtdkedmngeahjiaaGreatDoor
/- (*world).plays of stratalaw24 (Get). Printed by wip/g57.py. -/
namespace Go.Proofs.YtdkedmngeahjiaaGreatDoor
open Go Go.RowKit
theorem plays_get {w W:World} {a r n k wb rb xb N:Nat} {m:DM} (h:PlayB w a r W n m k m (KS a r wb rb xb)) (hwb:w.heap.size≤wb) (hG:ErrT w) (hT:TabP m N) (hn:n+N+9≤1000000000) (hk:k+N+9≤1000000000)
  (o:OpR) (kv:Value) (hF:o.Fits) (hkv:IntsIn w kv o.keep) (hK:o.kind=2) :
  Calls Tryz.prog 20 #[.pointer (some ⟨wb,0,none⟩),.agg (o.cells kv).toArray] W (PlaysP w a r wb (n+N+9) (k+N+9) (playM m o.kind o.name o.dig o.text o.num o.keep)):=by
 have HOF:=hZ hF
 have HKV:=hZ hkv
 obtain ⟨h32,f1,f2,f3,f4,f5⟩:=hF
 obtain ⟨ob,hob⟩:∃ b,W.heap.size=b:=⟨_,rfl⟩
 obtain ⟨W0,hW0⟩:∃ W0,W.alloc (opO o kv)=W0:=⟨_,rfl⟩
 have hp0:=h.keep (c:=ob) (o:=opO o kv) (W':=W0) (by rw [← hW0];exact (Below.refl _ _).alloc (Nat.le_refl _) _) (by rw [hob];exact Nat.le_refl _) (by rw [← hW0,← hob];exact heap_new _ _)
 have hW0':W.alloc (.cells (o.cells kv).toArray 53)=W0:=hW0
 obtain ⟨Ks,hKs⟩:∃ Ks,(ob,opO o kv) :: KS a r wb rb xb=Ks:=⟨_,rfl⟩
 have HSUB:Hid (∀ q∈KS a r wb rb xb,q∈Ks):=hZ (fun q hq=>by rw [← hKs];exact List.mem_cons_of_mem _ hq)
 have HMO:Hid ((ob,opO o kv)∈Ks):=hZ (by rw [← hKs];exact List.mem_cons_self ..)
 have HMW:Hid ((wb,worldO a r (some ⟨rb,0,none⟩) (some ⟨xb,0,none⟩))∈Ks):=hZ (by rw [← hKs];simp [KS])
 have HMR:Hid ((rb,refsO a)∈Ks):=hZ (by rw [← hKs];simp [KS])
 have HMX:Hid ((xb,refsR r)∈Ks):=hZ (by rw [← hKs];simp [KS])
 rw [hKs] at hp0
 have HP0:=hZ hp0
 have HWZ:=hZ hwb
 have HG:=hZ hG
 have HT:=hZ hT
 have HNK:=hZ (show n+N+9≤1000000000∧k+N+9≤1000000000 from ⟨hn,hk⟩)
 have HD32:=hZ h32
 have HFN:=hZ f3
 have HKD:=hZ hK
 obtain ⟨C,hC⟩:∃ C,(o.cells kv).toArray=C:=⟨_,rfl⟩
 rw [hC] at hW0' ⊢
 have e0:=HP0.out.ocel ob HMO.out HD32.out
 obtain ⟨a0,a1,-,-,-⟩:=e0
 obtain ⟨nm,hnm⟩:∃ nm,o.name=nm:=⟨_,rfl⟩
 obtain ⟨D,hD⟩:∃ D,o.dig=D:=⟨_,rfl⟩
 rw [hnm] at a1 HFN ⊢
 rw [hD] at HD32 ⊢
 have HNM:=hZ hnm
 have HDD:=hZ hD
 obtain ⟨E,hE⟩:∃ E,(getF m nm.data.toList).1=E:=⟨_,rfl⟩
 obtain ⟨z,hz⟩:∃ z,(getF m nm.data.toList).2=z:=⟨_,rfl⟩
 have hcz:Code z:=by rw [← hz];exact getF_code _ _
 have hel:E.length=32:=by rw [← hE];exact getF_len _ _
 have hpm:playM m o.kind nm D o.text o.num o.keep=m:=by rw [hK];rfl
 have HPM:=hZ hpm
 have HZC:=hZ hcz
 have HEL:=hZ hel
 have HZ:Hid (getF m nm.data.toList=(E,z)):=hZ (by rw [← hE,← hz])
 have hIE:=dig_info HEL.out
 have hU:=dig_und
 have hee:(E == E)=true:=beq_self_eq_true _
 rw [hK] at a0
 clear h hp0 hwb hG hT hn hk hW0 hKs h32 f1 f2 f3 f4 f5 hkv hC hnm hD hE hz hcz hel hpm hK
 go_enter Tryz.func20,Tryz.ntmps20
 go_wp2_with (rw [hW0'])
 clear a0 a1
 have hI0:Chn [[],[0],[1],[2],[],[4],[3,5],[6],[7],[7],[],[10,8,6,0,1,2,3,4,5,6,7,8,10],[9,11,0,1,2,3,4,5,6,7,8,9,10,11]] [10,11] (GW W0 0 E) (fun _=>false) W0.drew:=Chn.start ⟨⟨rfl,rfl,rfl,Nat.le_refl _,fun _ _=>rfl⟩,fun h=>absurd h (by decide),fun h=>absurd h (by decide),fun h=>absurd h (by decide)⟩
 refine wp_region_flowG (fun γ:ByteArray × Nat=>[.pointer (some ⟨wb,0,none⟩),.pointer (some ⟨wb,0,none⟩),.pointer (some ⟨wb,2,none⟩),.pointer (some ⟨rb,0,none⟩),.pointer (some ⟨ob,1,none⟩),.string nm,.tuple #[digV E,wrapE γ.1 z],.tuple #[digV E,wrapE γ.1 z],digV E,wrapE γ.1 z,.pointer (some ⟨γ.2,0,none⟩),undef,wrapE γ.1 z]) (fun L γ W=>Chn [[],[0],[1],[2],[],[4],[3,5],[6],[7],[7],[],[10,8,6,0,1,2,3,4,5,6,7,8,10],[9,11,0,1,2,3,4,5,6,7,8,9,10,11]] [10,11] (GW W0 γ.2 E) L W)
  [[],[0],[1],[2],[],[4],[3,5],[6],[7],[7],[],[10,8,6,0,1,2,3,4,5,6,7,8,10],[9,11,0,1,2,3,4,5,6,7,8,9,10,11]] 181 (⟨#[]⟩,0) mixedD rfl (by kernel_rfl) (fun _=>rfl) hI0 ?_ ?_
 ·refine ⟨?_,?_,?_,?_,?_,?_,?_,?_,?_,?_,?_,?_,?_,rfl⟩
  all_goals intro L γ W ev hL hd hW hc hf hg he h0
  ·have e0:ev (.tmp 0)=.pointer (some ⟨wb,0,none⟩):=h0 0 rfl
   clear he h0 hc hf hg
   exact flS rfl (by go_simp <;> rfl) (hW.upd 0 (by decide) hd) rfl
  ·have e45:ev (.tmp 45)=.pointer (some ⟨wb,0,none⟩):=he 0 (by decide) _ 45 rfl rfl
   clear he h0 hc hf hg
   exact flS rfl (by go_simp <;> rfl) (hW.upd 1 (by decide) hd) rfl
  ·have e46:ev (.tmp 46)=.pointer (some ⟨wb,0,none⟩):=he 1 (by decide) _ 46 rfl rfl
   clear he h0 hc hf hg
   exact flS rfl (by go_simp <;> rfl) (hW.upd 2 (by decide) hd) rfl
  ·have e47:ev (.tmp 47)=.pointer (some ⟨wb,2,none⟩):=he 2 (by decide) _ 47 rfl rfl
   have hpb:=HP0.out.bel (gw_bel hW)
   obtain ⟨-,-,r2,r3⟩:=hpb.wcel wb HMW.out
   clear he h0 hc hf hg
   exact flS rfl (by go_simp <;> rfl) (hW.upd 3 (by decide) hd) rfl
  ·have e3:ev (.tmp 3)=.pointer (some ⟨ob,0,none⟩):=h0 3 rfl
   clear he h0 hc hf hg
   exact flS rfl (by go_simp <;> rfl) (hW.upd 4 (by decide) hd) rfl
  ·have e49:ev (.tmp 49)=.pointer (some ⟨ob,1,none⟩):=he 4 (by decide) _ 49 rfl rfl
   have hpb:=HP0.out.bel (gw_bel hW)
   obtain ⟨-,r1,-,-,-⟩:=hpb.ocel ob HMO.out (by rw [HDD.out];exact HD32.out)
   rw [HNM.out] at r1
   clear he h0 hc hf hg
   exact flS rfl (by go_simp <;> rfl) (hW.upd 5 (by decide) hd) rfl
  ·have e48:ev (.tmp 48)=.pointer (some ⟨rb,0,none⟩):=he 3 (by decide) _ 48 rfl rfl
   have e50:ev (.tmp 50)=.string nm:=he 5 (by decide) _ 50 rfl rfl
   clear he h0 hc hg
   have hpb:=HP0.out.bel (gw_bel hW)
   have hcc:Calls Tryz.prog 38 #[.pointer (some ⟨rb,0,none⟩),.string nm] W _:=hpb.pget HMR.out nm (by have:=HFN.out;omega)
   rw [HZ.out] at hcc
   refine .inl ⟨rfl,.inr (.inr ⟨38,#[.pointer (some ⟨rb,0,none⟩),.string nm],W,(by have hff:=hf 38;clear hf;go_simp <;> rfl),?_⟩)⟩
   refine hcc.mono ?_
   rintro e w' ⟨⟨t,rfl⟩,hb2⟩
   refine ⟨_,rfl,(t,γ.2),hW.updW 6 (by decide) hd (fun _ h=>h.below hb2),rfl,fun j hj=>?_⟩
   have hj2:j≠6∧j≠7∧j≠9∧j≠12:=⟨fun e=>(by subst e;rw [hL] at hj;cases hj),fun e=>(by subst e;have h9:=hW.cl 7 hj 6 (by decide);rw [hL] at h9;cases h9),fun e=>(by subst e;have h9:=hW.cl 9 hj 7 (by decide);have h8:=hW.cl 7 h9 6 (by decide);rw [hL] at h8;cases h8),fun e=>(by subst e;have h9:=hW.cl 12 hj 6 (by decide);rw [hL] at h9;cases h9)⟩
   match j,hj2 with
   |0,_=>rfl
   |1,_=>rfl
   |2,_=>rfl
   |3,_=>rfl
   |4,_=>rfl
   |5,_=>rfl
   |8,_=>rfl
   |10,_=>rfl
   |11,_=>rfl
   |6,h=>exact absurd rfl h.1
   |7,h=>exact absurd rfl h.2.1
   |9,h=>exact absurd rfl h.2.2.1
   |12,h=>exact absurd rfl h.2.2.2
   |n+13,_=>rfl
  ·have e51:ev (.tmp 51)=.tuple #[digV E,wrapE γ.1 z]:=he 6 (by decide) _ 51 rfl rfl
   clear he h0 hc hf hg
   exact flS rfl (by go_simp <;> rfl) (hW.upd 7 (by decide) hd) rfl
  ·have e44:ev (.tmp 44)=.tuple #[digV E,wrapE γ.1 z]:=he 7 (by decide) _ 44 rfl rfl
   clear he h0 hc hf hg
   exact flS rfl (by go_simp <;> rfl) (hW.upd 8 (by decide) hd) rfl
  ·have e44:ev (.tmp 44)=.tuple #[digV E,wrapE γ.1 z]:=he 7 (by decide) _ 44 rfl rfl
   clear he h0 hc hf hg
   exact flS rfl (by go_simp <;> rfl) (hW.upd 9 (by decide) hd) rfl
  ·clear he h0 hc hg
   have hF:=hW.at 0 (by decide) hL (.inl rfl)
   refine .inl ⟨rfl,.inl ⟨_,W.alloc (.cells #[.int .u8 0,.int .u8 0,.int .u8 0,.int .u8 0,.int .u8 0,.int .u8 0,.int .u8 0,.int .u8 0,.int .u8 0,.int .u8 0,.int .u8 0,.int .u8 0,.int .u8 0,.int .u8 0,.int .u8 0,.int .u8 0,.int .u8 0,.int .u8 0,.int .u8 0,.int .u8 0,.int .u8 0,.int .u8 0,.int .u8 0,.int .u8 0,.int .u8 0,.int .u8 0,.int .u8 0,.int .u8 0,.int .u8 0,.int .u8 0,.int .u8 0,.int .u8 0] 33),(by go_simp <;> rfl),(γ.1,W.heap.size),hW.done (F':=GW W0 W.heap.size E) (by decide) 0 (by decide) hL (.inl rfl) hd ⟨hF.1.alloc hF.1.size _,fun _=>hF.1.size,fun _=>heap_new _ _,fun h=>absurd h (by decide)⟩,rfl,fun j hj=>?_⟩⟩
   have hj2:j≠10:=fun e=>(by subst e;rw [hL] at hj;cases hj)
   match j,hj2 with
   |0,_=>rfl
   |1,_=>rfl
   |2,_=>rfl
   |3,_=>rfl
   |4,_=>rfl
   |5,_=>rfl
   |6,_=>rfl
   |7,_=>rfl
   |8,_=>rfl
   |9,_=>rfl
   |11,_=>rfl
   |12,_=>rfl
   |10,h=>exact absurd rfl h
   |n+13,_=>rfl
  ·have e5:ev (.tmp 5)=.pointer (some ⟨γ.2,0,none⟩):=he 10 (by decide) _ 5 rfl rfl
   have e52:ev (.tmp 52)=digV E:=he 8 (by decide) _ 52 rfl rfl
   clear he h0 hc hg
   have hF:=hW.at 1 (by decide) hL (.inr (hd 10 (by decide)))
   have hrs:=run_store_dig HEL.out (hF.2.2.1 rfl)
   refine .inl ⟨rfl,.inr (.inl ⟨setBlk W γ.2 (.cells (E.map byteV).toArray 33 (0,0)),?_,.still (hW.done (F':=GW W0 γ.2 E) (by decide) 1 (by decide) hL (.inr (hd 10 (by decide))) hd ⟨hF.1.setBlk (hF.2.1 (Nat.le_refl _)),fun _=>hF.2.1 (Nat.le_refl _),fun h=>absurd h (by decide),fun _=>setBlk_heap (blk_lt (hF.2.2.1 rfl))⟩) rfl⟩)⟩
   unfold execOp
   unfold digV at e52
   simp only [e5,e52,Sem.run_bind,Sem.run_pure,Result.andThen_ok,hrs]
   try rfl
  ·have e53:ev (.tmp 53)=wrapE γ.1 z:=he 9 (by decide) _ 53 rfl rfl
   clear he h0 hc hf hg
   exact flS rfl (by go_simp <;> rfl) (hW.upd 12 (by decide) hd) rfl
 intro γ L W5 hL hW
 have hF:=hW.fin (fun c hc=>hL c (by
  have h9:c=10∨c=11:=by simpa using hc
  show c < 13
  omega))
 have hF2:GW W0 γ.2 E 2 W5:=hF
 obtain ⟨q1,hq1⟩:∃ q,γ.2=q:=⟨_,rfl⟩
 obtain ⟨tx,htx⟩:∃ t,γ.1=t:=⟨_,rfl⟩
 rw [hq1] at hF2
 have HP5:=hZ (HP0.out.keep hF2.1 (hF2.2.1 (by decide)) (hF2.2.2.2 (Nat.le_refl _)))
 clear hL hI0 hF hF2
 simp only [putAll,Act.put,List.setIfInBounds_toArray,List.set_cons_succ,List.set_cons_zero]
 rw [hq1]
 rw [htx]
 clear hW
 go_wp2_with fail
 have hI0:Chn [[],[0],[1],[2],[],[4],[3,5],[6],[7],[7],[],[10,8,6,0,1,2,3,4,5,6,7,8,10],[9,11,0,1,2,3,4,5,6,7,8,9,10,11]] [10,11] (GW W5 0 E) (fun _=>false) W5.drew:=Chn.start ⟨⟨rfl,rfl,rfl,Nat.le_refl _,fun _ _=>rfl⟩,fun h=>absurd h (by decide),fun h=>absurd h (by decide),fun h=>absurd h (by decide)⟩
 refine wp_region_flowG (fun γ:Nat=>[.pointer (some ⟨wb,0,none⟩),.pointer (some ⟨wb,0,none⟩),.pointer (some ⟨wb,3,none⟩),.pointer (some ⟨xb,0,none⟩),.pointer (some ⟨ob,1,none⟩),.string nm,.tuple #[digV E,.int .i64 z],.tuple #[digV E,.int .i64 z],digV E,.int .i64 z,.pointer (some ⟨γ,0,none⟩),undef,.int .i64 z]) (fun L γ W=>Chn [[],[0],[1],[2],[],[4],[3,5],[6],[7],[7],[],[10,8,6,0,1,2,3,4,5,6,7,8,10],[9,11,0,1,2,3,4,5,6,7,8,9,10,11]] [10,11] (GW W5 γ E) L W)
  [[],[0],[1],[2],[],[4],[3,5],[6],[7],[7],[],[10,8,6,0,1,2,3,4,5,6,7,8,10],[9,11,0,1,2,3,4,5,6,7,8,9,10,11]] 181 0 mixedD rfl (by kernel_rfl) (fun _=>rfl) hI0 ?_ ?_
 ·refine ⟨?_,?_,?_,?_,?_,?_,?_,?_,?_,?_,?_,?_,?_,rfl⟩
  all_goals intro L γ W ev hL hd hW hc hf hg he h0
  ·have e0:ev (.tmp 0)=.pointer (some ⟨wb,0,none⟩):=h0 0 rfl
   clear he h0 hc hf hg
   exact flS rfl (by go_simp <;> rfl) (hW.upd 0 (by decide) hd) rfl
  ·have e55:ev (.tmp 55)=.pointer (some ⟨wb,0,none⟩):=he 0 (by decide) _ 55 rfl rfl
   clear he h0 hc hf hg
   exact flS rfl (by go_simp <;> rfl) (hW.upd 1 (by decide) hd) rfl
  ·have e56:ev (.tmp 56)=.pointer (some ⟨wb,0,none⟩):=he 1 (by decide) _ 56 rfl rfl
   clear he h0 hc hf hg
   exact flS rfl (by go_simp <;> rfl) (hW.upd 2 (by decide) hd) rfl
  ·have e57:ev (.tmp 57)=.pointer (some ⟨wb,3,none⟩):=he 2 (by decide) _ 57 rfl rfl
   have hpb:=HP5.out.bel (gw_bel hW)
   obtain ⟨-,-,r2,r3⟩:=hpb.wcel wb (List.mem_cons_of_mem _ HMW.out)
   clear he h0 hc hf hg
   exact flS rfl (by go_simp <;> rfl) (hW.upd 3 (by decide) hd) rfl
  ·have e3:ev (.tmp 3)=.pointer (some ⟨ob,0,none⟩):=h0 3 rfl
   clear he h0 hc hf hg
   exact flS rfl (by go_simp <;> rfl) (hW.upd 4 (by decide) hd) rfl
  ·have e59:ev (.tmp 59)=.pointer (some ⟨ob,1,none⟩):=he 4 (by decide) _ 59 rfl rfl
   have hpb:=HP5.out.bel (gw_bel hW)
   obtain ⟨-,r1,-,-,-⟩:=hpb.ocel ob (List.mem_cons_of_mem _ HMO.out) (by rw [HDD.out];exact HD32.out)
   rw [HNM.out] at r1
   clear he h0 hc hf hg
   exact flS rfl (by go_simp <;> rfl) (hW.upd 5 (by decide) hd) rfl
  ·have e58:ev (.tmp 58)=.pointer (some ⟨xb,0,none⟩):=he 3 (by decide) _ 58 rfl rfl
   have e60:ev (.tmp 60)=.string nm:=he 5 (by decide) _ 60 rfl rfl
   clear he h0 hc hg
   have hpb:=HP5.out.bel (gw_bel hW)
   have hcc:Calls Tryz.prog 58 #[.pointer (some ⟨xb,0,none⟩),.string nm] W _:=hpb.rget (List.mem_cons_of_mem _ HMX.out) (by have:=HNK.out;omega) nm (by have:=HFN.out;omega)
   rw [HZ.out] at hcc
   refine .inl ⟨rfl,.inr (.inr ⟨58,#[.pointer (some ⟨xb,0,none⟩),.string nm],W,(by have hff:=hf 58;clear hf;go_simp <;> rfl),?_⟩)⟩
   refine hcc.mono ?_
   rintro e w' ⟨rfl,hb2⟩
   exact ⟨_,rfl,.still (hW.updW 6 (by decide) hd (fun _ h=>h.below hb2)) rfl⟩
  ·have e61:ev (.tmp 61)=.tuple #[digV E,.int .i64 z]:=he 6 (by decide) _ 61 rfl rfl
   clear he h0 hc hf hg
   exact flS rfl (by go_simp <;> rfl) (hW.upd 7 (by decide) hd) rfl
  ·have e54:ev (.tmp 54)=.tuple #[digV E,.int .i64 z]:=he 7 (by decide) _ 54 rfl rfl
   clear he h0 hc hf hg
   exact flS rfl (by go_simp <;> rfl) (hW.upd 8 (by decide) hd) rfl
  ·have e54:ev (.tmp 54)=.tuple #[digV E,.int .i64 z]:=he 7 (by decide) _ 54 rfl rfl
   clear he h0 hc hf hg
   exact flS rfl (by go_simp <;> rfl) (hW.upd 9 (by decide) hd) rfl
  ·clear he h0 hc hg
   have hF:=hW.at 0 (by decide) hL (.inl rfl)
   refine .inl ⟨rfl,.inl ⟨_,W.alloc (.cells #[.int .u8 0,.int .u8 0,.int .u8 0,.int .u8 0,.int .u8 0,.int .u8 0,.int .u8 0,.int .u8 0,.int .u8 0,.int .u8 0,.int .u8 0,.int .u8 0,.int .u8 0,.int .u8 0,.int .u8 0,.int .u8 0,.int .u8 0,.int .u8 0,.int .u8 0,.int .u8 0,.int .u8 0,.int .u8 0,.int .u8 0,.int .u8 0,.int .u8 0,.int .u8 0,.int .u8 0,.int .u8 0,.int .u8 0,.int .u8 0,.int .u8 0,.int .u8 0] 33),(by go_simp <;> rfl),W.heap.size,hW.done (F':=GW W5 W.heap.size E) (by decide) 0 (by decide) hL (.inl rfl) hd ⟨hF.1.alloc hF.1.size _,fun _=>hF.1.size,fun _=>heap_new _ _,fun h=>absurd h (by decide)⟩,rfl,fun j hj=>?_⟩⟩
   have hj2:j≠10:=fun e=>(by subst e;rw [hL] at hj;cases hj)
   match j,hj2 with
   |0,_=>rfl
   |1,_=>rfl
   |2,_=>rfl
   |3,_=>rfl
   |4,_=>rfl
   |5,_=>rfl
   |6,_=>rfl
   |7,_=>rfl
   |8,_=>rfl
   |9,_=>rfl
   |11,_=>rfl
   |12,_=>rfl
   |10,h=>exact absurd rfl h
   |n+13,_=>rfl
  ·have e7:ev (.tmp 7)=.pointer (some ⟨γ,0,none⟩):=he 10 (by decide) _ 7 rfl rfl
   have e62:ev (.tmp 62)=digV E:=he 8 (by decide) _ 62 rfl rfl
   clear he h0 hc hg
   have hF:=hW.at 1 (by decide) hL (.inr (hd 10 (by decide)))
   have hrs:=run_store_dig HEL.out (hF.2.2.1 rfl)
   refine .inl ⟨rfl,.inr (.inl ⟨setBlk W γ (.cells (E.map byteV).toArray 33 (0,0)),?_,.still (hW.done (F':=GW W5 γ E) (by decide) 1 (by decide) hL (.inr (hd 10 (by decide))) hd ⟨hF.1.setBlk (hF.2.1 (Nat.le_refl _)),fun _=>hF.2.1 (Nat.le_refl _),fun h=>absurd h (by decide),fun _=>setBlk_heap (blk_lt (hF.2.2.1 rfl))⟩) rfl⟩)⟩
   unfold execOp
   unfold digV at e62
   simp only [e7,e62,Sem.run_bind,Sem.run_pure,Result.andThen_ok,hrs]
   try rfl
  ·have e63:ev (.tmp 63)=.int .i64 z:=he 9 (by decide) _ 63 rfl rfl
   clear he h0 hc hf hg
   exact flS rfl (by go_simp <;> rfl) (hW.upd 12 (by decide) hd) rfl
 intro γ L W6 hL hW
 have hF:=hW.fin (fun c hc=>hL c (by
  have h9:c=10∨c=11:=by simpa using hc
  show c < 13
  omega))
 have hF2:GW W5 γ E 2 W6:=hF
 obtain ⟨q2,hq2⟩:∃ q,γ=q:=⟨_,rfl⟩
 skip
 rw [hq2] at hF2
 have HP6:=hZ (HP5.out.keep hF2.1 (hF2.2.1 (by decide)) (hF2.2.2.2 (Nat.le_refl _)))
 clear hL hI0 hF hF2
 simp only [putAll,Act.put,List.setIfInBounds_toArray,List.set_cons_succ,List.set_cons_zero]
 rw [hq2]
 skip
 clear hW
 have HR1:=hZ (dig_range (HP6.out.kept (q1,.cells (E.map byteV).toArray 33 (0,0)) (by simp)))
 have HR2:=hZ (dig_range (HP6.out.kept (q2,.cells (E.map byteV).toArray 33 (0,0)) (by simp)))
 have hpl:=plain_ref tx z HZC.out z W6 (HG.out.below HP6.out.toB HG.out.2)
 rw [beq_self_eq_true] at hpl
 unfold digV
 clear hq1 hq2 htx
 go_wp2_with (first | refine wpList_load_mid rfl _ _ rfl q1 0 rfl (E.map byteV) _ HR1.out hU rfl hIE ?_ | (refine wpList_load_mid rfl _ _ rfl q2 0 rfl (E.map byteV) _ HR2.out hU rfl hIE ?_;simp only [Act.put,List.setIfInBounds_toArray,List.set_cons_succ,List.set_cons_zero];refine wpList_eqlD rfl _ _ _ rfl HEL.out HEL.out rfl rfl ?_;simp only [Act.put,List.setIfInBounds_toArray,List.set_cons_succ,List.set_cons_zero];rw [hee];clear hee hU hIE))
 refine hpl.mono ?_
 rintro e w10 ⟨rfl,hb10⟩
 have HPX:=hZ (HP6.out.bel hb10)
 clear hb10 hpl
 go_wp2_with fail
 go_ret
 exact ⟨rfl,rb,xb,by rw [HPM.out];exact (HPX.out.more (by have:=HNK.out;omega) (by have:=HNK.out;omega)).sub (fun q hq=>List.mem_cons_of_mem _ (List.mem_cons_of_mem _ (HSUB.out q hq)))⟩
end Go.Proofs.YtdkedmngeahjiaaGreatDoor
/- (*world).plays of stratalaw24 (Delete). Printed by wip/g57.py. -/
namespace Go.Proofs.YtdkedmngeahjiaaGreatDoor
open Go Go.RowKit
theorem plays_del {w W:World} {a r n k wb rb xb N:Nat} {m:DM} (h:PlayB w a r W n m k m (KS a r wb rb xb)) (hwb:w.heap.size≤wb) (hG:ErrT w) (hT:TabP m N) (hn:n+N+9≤1000000000) (hk:k+N+9≤1000000000)
  (o:OpR) (kv:Value) (hF:o.Fits) (hkv:IntsIn w kv o.keep) (hK:o.kind=3) :
  Calls Tryz.prog 20 #[.pointer (some ⟨wb,0,none⟩),.agg (o.cells kv).toArray] W (PlaysP w a r wb (n+N+9) (k+N+9) (playM m o.kind o.name o.dig o.text o.num o.keep)):=by
 have HOF:=hZ hF
 have HKV:=hZ hkv
 obtain ⟨h32,f1,f2,f3,f4,f5⟩:=hF
 obtain ⟨ob,hob⟩:∃ b,W.heap.size=b:=⟨_,rfl⟩
 obtain ⟨W0,hW0⟩:∃ W0,W.alloc (opO o kv)=W0:=⟨_,rfl⟩
 have hp0:=h.keep (c:=ob) (o:=opO o kv) (W':=W0) (by rw [← hW0];exact (Below.refl _ _).alloc (Nat.le_refl _) _) (by rw [hob];exact Nat.le_refl _) (by rw [← hW0,← hob];exact heap_new _ _)
 have hW0':W.alloc (.cells (o.cells kv).toArray 53)=W0:=hW0
 obtain ⟨Ks,hKs⟩:∃ Ks,(ob,opO o kv) :: KS a r wb rb xb=Ks:=⟨_,rfl⟩
 have HSUB:Hid (∀ q∈KS a r wb rb xb,q∈Ks):=hZ (fun q hq=>by rw [← hKs];exact List.mem_cons_of_mem _ hq)
 have HMO:Hid ((ob,opO o kv)∈Ks):=hZ (by rw [← hKs];exact List.mem_cons_self ..)
 have HMW:Hid ((wb,worldO a r (some ⟨rb,0,none⟩) (some ⟨xb,0,none⟩))∈Ks):=hZ (by rw [← hKs];simp [KS])
 have HMR:Hid ((rb,refsO a)∈Ks):=hZ (by rw [← hKs];simp [KS])
 have HMX:Hid ((xb,refsR r)∈Ks):=hZ (by rw [← hKs];simp [KS])
 rw [hKs] at hp0
 have HP0:=hZ hp0
 have HWZ:=hZ hwb
 have HG:=hZ hG
 have HT:=hZ hT
 have HNK:=hZ (show n+N+9≤1000000000∧k+N+9≤1000000000 from ⟨hn,hk⟩)
 have HD32:=hZ h32
 have HFN:=hZ f3
 have HKD:=hZ hK
 obtain ⟨C,hC⟩:∃ C,(o.cells kv).toArray=C:=⟨_,rfl⟩
 rw [hC] at hW0' ⊢
 have e0:=HP0.out.ocel ob HMO.out HD32.out
 obtain ⟨a0,a1,-,-,-⟩:=e0
 obtain ⟨nm,hnm⟩:∃ nm,o.name=nm:=⟨_,rfl⟩
 obtain ⟨D,hD⟩:∃ D,o.dig=D:=⟨_,rfl⟩
 rw [hnm] at a1 HFN ⊢
 rw [hD] at HD32 ⊢
 have HNM:=hZ hnm
 have HDD:=hZ hD
 obtain ⟨M,hM⟩:∃ M,(delF m nm.data.toList).1=M:=⟨_,rfl⟩
 obtain ⟨z,hz⟩:∃ z,(delF m nm.data.toList).2=z:=⟨_,rfl⟩
 have hcz:Code z:=by rw [← hz];exact delF_code _ _
 have hpm:playM m o.kind nm D o.text o.num o.keep=M:=by rw [← hM,hK];rfl
 have HPM:=hZ hpm
 have HZC:=hZ hcz
 have HM:=hZ hM
 have HZ:=hZ hz
 obtain ⟨n',hn'⟩:∃ x,n+2=x:=⟨_,rfl⟩
 obtain ⟨k',hk'⟩:∃ x,k+2=x:=⟨_,rfl⟩
 have HN9:Hid (n'≤n+N+9∧k'≤k+N+9):=hZ ⟨by omega,by omega⟩
 have HN':=hZ hn'
 have HK':=hZ hk'
 have hI:=dig_info HD32.out
 have hU:=dig_und
 rw [hK] at a0
 clear h hp0 hwb hG hT hn hk hW0 hKs h32 f1 f2 f3 f4 f5 hkv hC hnm hD hM hz hcz hpm hn' hk' hK
 go_enter Tryz.func20,Tryz.ntmps20
 go_wp2_with (rw [hW0'])
 clear a0 a1
 have hI0:Chn [[],[0],[1],[2],[],[4],[3,5],[],[7],[8],[9],[],[11],[10,12,6],[6,13,13],[14,14,0,1,2,3,4,5,6,7,8,9,10,11,12,13,14]] [6,13,14] (FW w a r n n' k k' m M Ks) (fun _=>false) W0.drew:=Chn.start (show PlayB w a r W0.drew n m k m Ks from HP0.out.dr 1)
 refine wp_region_flowG (fun γ:ByteArray=>[.pointer (some ⟨wb,0,none⟩),.pointer (some ⟨wb,0,none⟩),.pointer (some ⟨wb,2,none⟩),.pointer (some ⟨rb,0,none⟩),.pointer (some ⟨ob,1,none⟩),.string nm,wrapE γ z,.pointer (some ⟨wb,0,none⟩),.pointer (some ⟨wb,0,none⟩),.pointer (some ⟨wb,3,none⟩),.pointer (some ⟨xb,0,none⟩),.pointer (some ⟨ob,1,none⟩),.string nm,.int .i64 z,.bool true,.bool true]) (fun L _ W=>Chn [[],[0],[1],[2],[],[4],[3,5],[],[7],[8],[9],[],[11],[10,12,6],[6,13,13],[14,14,0,1,2,3,4,5,6,7,8,9,10,11,12,13,14]] [6,13,14] (FW w a r n n' k k' m M Ks) L W)
  [[],[0],[1],[2],[],[4],[3,5],[],[7],[8],[9],[],[11],[10,12,6],[6,13,13],[14,14,0,1,2,3,4,5,6,7,8,9,10,11,12,13,14]] 181 ⟨#[]⟩ mixedD rfl (by kernel_rfl) (fun _=>rfl) hI0 ?_ ?_
 ·refine ⟨?_,?_,?_,?_,?_,?_,?_,?_,?_,?_,?_,?_,?_,?_,?_,?_,rfl⟩
  all_goals intro L γ W ev hL hd hW hc hf hg he h0
  ·have e0:ev (.tmp 0)=.pointer (some ⟨wb,0,none⟩):=h0 0 rfl
   clear he h0 hc hf hg
   exact flS rfl (by go_simp <;> rfl) (hW.upd 0 (by decide) hd) rfl
  ·have e74:ev (.tmp 74)=.pointer (some ⟨wb,0,none⟩):=he 0 (by decide) _ 74 rfl rfl
   clear he h0 hc hf hg
   exact flS rfl (by go_simp <;> rfl) (hW.upd 1 (by decide) hd) rfl
  ·have e75:ev (.tmp 75)=.pointer (some ⟨wb,0,none⟩):=he 1 (by decide) _ 75 rfl rfl
   clear he h0 hc hf hg
   exact flS rfl (by go_simp <;> rfl) (hW.upd 2 (by decide) hd) rfl
  ·have e76:ev (.tmp 76)=.pointer (some ⟨wb,2,none⟩):=he 2 (by decide) _ 76 rfl rfl
   obtain ⟨r2,r3,r1,rD⟩:=hW.rds HMW.out HMO.out (by rw [HDD.out];exact HD32.out)
   rw [HNM.out] at r1
   rw [HDD.out] at rD
   clear he h0 hc hf hg
   exact flS rfl (by go_simp <;> rfl) (hW.upd 3 (by decide) hd) rfl
  ·have e3:ev (.tmp 3)=.pointer (some ⟨ob,0,none⟩):=h0 3 rfl
   clear he h0 hc hf hg
   exact flS rfl (by go_simp <;> rfl) (hW.upd 4 (by decide) hd) rfl
  ·have e78:ev (.tmp 78)=.pointer (some ⟨ob,1,none⟩):=he 4 (by decide) _ 78 rfl rfl
   obtain ⟨r2,r3,r1,rD⟩:=hW.rds HMW.out HMO.out (by rw [HDD.out];exact HD32.out)
   rw [HNM.out] at r1
   rw [HDD.out] at rD
   clear he h0 hc hf hg
   exact flS rfl (by go_simp <;> rfl) (hW.upd 5 (by decide) hd) rfl
  ·have e77:ev (.tmp 77)=.pointer (some ⟨rb,0,none⟩):=he 3 (by decide) _ 77 rfl rfl
   have e79:ev (.tmp 79)=.string nm:=he 5 (by decide) _ 79 rfl rfl
   clear he h0 hc hg
   refine .inl ⟨rfl,.inr (.inr ⟨24,#[.pointer (some ⟨rb,0,none⟩),.string nm],W,(by have hff:=hf 24;clear hf;go_simp <;> rfl),?_⟩)⟩
   have hF:=hW.at 0 (by decide) hL (.inl rfl)
   refine ((show Calls _ _ _ W _ from (by
    have hp1:=(show PlayB w a r W n m k m Ks from hF).pdel HMR.out (by have:=HNK.out;omega) nm (by have:=HFN.out;omega)
    rw [HM.out,HZ.out,HN'.out] at hp1
    exact hp1))).mono ?_
   rintro e w' ⟨⟨t,rfl⟩,hp⟩
   refine ⟨_,rfl,t,hW.done (by decide) 0 (by decide) hL (.inl rfl) hd (show FW w a r n n' k k' m M Ks 1 w' from hp),rfl,fun j hj=>?_⟩
   have hj2:j≠6:=fun e=>(by subst e;rw [hL] at hj;cases hj)
   match j,hj2 with
   |0,_=>rfl
   |1,_=>rfl
   |2,_=>rfl
   |3,_=>rfl
   |4,_=>rfl
   |5,_=>rfl
   |7,_=>rfl
   |8,_=>rfl
   |9,_=>rfl
   |10,_=>rfl
   |11,_=>rfl
   |12,_=>rfl
   |13,_=>rfl
   |14,_=>rfl
   |15,_=>rfl
   |6,h=>exact absurd rfl h
   |n+16,_=>rfl
  ·have e0:ev (.tmp 0)=.pointer (some ⟨wb,0,none⟩):=h0 0 rfl
   clear he h0 hc hf hg
   exact flS rfl (by go_simp <;> rfl) (hW.upd 7 (by decide) hd) rfl
  ·have e81:ev (.tmp 81)=.pointer (some ⟨wb,0,none⟩):=he 7 (by decide) _ 81 rfl rfl
   clear he h0 hc hf hg
   exact flS rfl (by go_simp <;> rfl) (hW.upd 8 (by decide) hd) rfl
  ·have e82:ev (.tmp 82)=.pointer (some ⟨wb,0,none⟩):=he 8 (by decide) _ 82 rfl rfl
   clear he h0 hc hf hg
   exact flS rfl (by go_simp <;> rfl) (hW.upd 9 (by decide) hd) rfl
  ·have e83:ev (.tmp 83)=.pointer (some ⟨wb,3,none⟩):=he 9 (by decide) _ 83 rfl rfl
   obtain ⟨r2,r3,r1,rD⟩:=hW.rds HMW.out HMO.out (by rw [HDD.out];exact HD32.out)
   rw [HNM.out] at r1
   rw [HDD.out] at rD
   clear he h0 hc hf hg
   exact flS rfl (by go_simp <;> rfl) (hW.upd 10 (by decide) hd) rfl
  ·have e3:ev (.tmp 3)=.pointer (some ⟨ob,0,none⟩):=h0 3 rfl
   clear he h0 hc hf hg
   exact flS rfl (by go_simp <;> rfl) (hW.upd 11 (by decide) hd) rfl
  ·have e85:ev (.tmp 85)=.pointer (some ⟨ob,1,none⟩):=he 11 (by decide) _ 85 rfl rfl
   obtain ⟨r2,r3,r1,rD⟩:=hW.rds HMW.out HMO.out (by rw [HDD.out];exact HD32.out)
   rw [HNM.out] at r1
   rw [HDD.out] at rD
   clear he h0 hc hf hg
   exact flS rfl (by go_simp <;> rfl) (hW.upd 12 (by decide) hd) rfl
  ·have e84:ev (.tmp 84)=.pointer (some ⟨xb,0,none⟩):=he 10 (by decide) _ 84 rfl rfl
   have e86:ev (.tmp 86)=.string nm:=he 12 (by decide) _ 86 rfl rfl
   clear he h0 hc hg
   refine .inl ⟨rfl,.inr (.inr ⟨59,#[.pointer (some ⟨xb,0,none⟩),.string nm],W,(by have hff:=hf 59;clear hf;go_simp <;> rfl),?_⟩)⟩
   have hF:=hW.at 1 (by decide) hL (.inr (hd 6 (by decide)))
   refine ((show Calls _ _ _ W _ from (by
    have hp1:=(show PlayB w a r W n' M k m Ks from hF).rdel HMX.out (by have:=HNK.out;omega) nm (by have:=HFN.out;omega)
    rw [HM.out,HZ.out,HK'.out] at hp1
    exact hp1))).mono ?_
   rintro e w' ⟨rfl,hp⟩
   exact ⟨_,rfl,.still (hW.done (by decide) 1 (by decide) hL (.inr (hd 6 (by decide))) hd (show FW w a r n n' k k' m M Ks 2 w' from hp)) rfl⟩
  ·have e80:ev (.tmp 80)=wrapE γ z:=he 6 (by decide) _ 80 rfl rfl
   have e87:ev (.tmp 87)=.int .i64 z:=he 13 (by decide) _ 87 rfl rfl
   clear he h0 hc hg
   refine .inl ⟨rfl,.inr (.inr ⟨10,#[wrapE γ z,.int .i64 z],W,(by have hff:=hf 10;clear hf;go_simp <;> rfl),?_⟩)⟩
   have hF:=hW.at 2 (by decide) hL (.inr (hd 13 (by decide)))
   have hF2:PlayB w a r W n' M k' M Ks:=hF
   refine (plain_ref γ z HZC.out z W (HG.out.below hF2.toB HG.out.2)).mono ?_
   rintro e w' ⟨rfl,hb⟩
   exact ⟨_,rfl,.still (hW.done (by decide) 2 (by decide) hL (.inr (hd 13 (by decide))) hd (show FW w a r n n' k k' m M Ks 3 w' from hF2.bel hb)) (by rw [beq_self_eq_true];rfl)⟩
  ·have e88:ev (.tmp 88)=.bool true:=he 14 (by decide) _ 88 rfl rfl
   clear he h0 hc hf hg
   exact flS rfl (by go_simp <;> rfl) (hW.upd 15 (by decide) hd) rfl
 intro γ L w5 hL hW
 have HP5:Hid (PlayB w a r w5 n' M k' M Ks):=hZ (hW.fin (fun c hc=>hL c (by
  have h9:c=6∨c=13∨c=14:=by simpa using hc
  show c < 16
  omega)))
 clear hL hW hI0
 simp only [putAll,Act.put,List.setIfInBounds_toArray,List.set_cons_succ,List.set_cons_zero]
 go_wp2_with fail
 go_ret
 exact ⟨rfl,rb,xb,by rw [HPM.out];exact (HP5.out.more HN9.out.1 HN9.out.2).sub HSUB.out⟩
end Go.Proofs.YtdkedmngeahjiaaGreatDoor
/- (*world).plays of stratalaw24 (Open). Printed by wip/g57.py. -/
namespace Go.Proofs.YtdkedmngeahjiaaGreatDoor
open Go Go.RowKit
theorem plays_open {w W:World} {a r n k wb rb xb N:Nat} {m:DM} (h:PlayB w a r W n m k m (KS a r wb rb xb)) (hwb:w.heap.size≤wb) (hG:ErrT w) (hT:TabP m N) (hn:n+N+9≤1000000000) (hk:k+N+9≤1000000000)
  (o:OpR) (kv:Value) (hF:o.Fits) (hkv:IntsIn w kv o.keep) (hK:o.kind=5) :
  Calls Tryz.prog 20 #[.pointer (some ⟨wb,0,none⟩),.agg (o.cells kv).toArray] W (PlaysP w a r wb (n+N+9) (k+N+9) (playM m o.kind o.name o.dig o.text o.num o.keep)):=by
 have HOF:=hZ hF
 have HKV:=hZ hkv
 obtain ⟨h32,f1,f2,f3,f4,f5⟩:=hF
 obtain ⟨ob,hob⟩:∃ b,W.heap.size=b:=⟨_,rfl⟩
 obtain ⟨W0,hW0⟩:∃ W0,W.alloc (opO o kv)=W0:=⟨_,rfl⟩
 have hp0:=h.keep (c:=ob) (o:=opO o kv) (W':=W0) (by rw [← hW0];exact (Below.refl _ _).alloc (Nat.le_refl _) _) (by rw [hob];exact Nat.le_refl _) (by rw [← hW0,← hob];exact heap_new _ _)
 have hW0':W.alloc (.cells (o.cells kv).toArray 53)=W0:=hW0
 obtain ⟨Ks,hKs⟩:∃ Ks,(ob,opO o kv) :: KS a r wb rb xb=Ks:=⟨_,rfl⟩
 have HSUB:Hid (∀ q∈KS a r wb rb xb,q∈Ks):=hZ (fun q hq=>by rw [← hKs];exact List.mem_cons_of_mem _ hq)
 have HMO:Hid ((ob,opO o kv)∈Ks):=hZ (by rw [← hKs];exact List.mem_cons_self ..)
 have HMW:Hid ((wb,worldO a r (some ⟨rb,0,none⟩) (some ⟨xb,0,none⟩))∈Ks):=hZ (by rw [← hKs];simp [KS])
 have HMR:Hid ((rb,refsO a)∈Ks):=hZ (by rw [← hKs];simp [KS])
 have HMX:Hid ((xb,refsR r)∈Ks):=hZ (by rw [← hKs];simp [KS])
 rw [hKs] at hp0
 have HP0:=hZ hp0
 have HWZ:=hZ hwb
 have HG:=hZ hG
 have HT:=hZ hT
 have HNK:=hZ (show n+N+9≤1000000000∧k+N+9≤1000000000 from ⟨hn,hk⟩)
 have HD32:=hZ h32
 have HFN:=hZ f3
 have HKD:=hZ hK
 obtain ⟨C,hC⟩:∃ C,(o.cells kv).toArray=C:=⟨_,rfl⟩
 rw [hC] at hW0' ⊢
 have e0:=HP0.out.ocel ob HMO.out HD32.out
 obtain ⟨a0,a1,-,-,-⟩:=e0
 obtain ⟨nm,hnm⟩:∃ nm,o.name=nm:=⟨_,rfl⟩
 obtain ⟨D,hD⟩:∃ D,o.dig=D:=⟨_,rfl⟩
 rw [hnm] at a1 HFN ⊢
 rw [hD] at HD32 ⊢
 have HNM:=hZ hnm
 have HDD:=hZ hD
 obtain ⟨⟨M,z⟩,hMz⟩:∃ p,openR m=p:=⟨_,rfl⟩
 have hcz:Code z:=by have:=openR_code m;rw [hMz] at this;exact this
 obtain ⟨B,hB⟩:∃ B,(badR m).length=B:=⟨_,rfl⟩
 have hbl:B≤N+1:=by rw [← hB];exact HT.out.bad
 have hpm:playM m o.kind nm D o.text o.num o.keep=M:=by
  have h9:playM m o.kind nm D o.text o.num o.keep=(openR m).1:=by rw [hK];rfl
  rw [h9,hMz]
 have HPM:=hZ hpm
 have HZC:=hZ hcz
 have HMZ:=hZ hMz
 have HB:=hZ hB
 have HBL:=hZ hbl
 rw [hK] at a0
 obtain ⟨b0,b1,-,-⟩:=HP0.out.wcel wb HMW.out
 have hp1:=HP0.out.popen (by have:=HNK.out;omega) HT.out.short
 rw [hMz,hB] at hp1
 clear h hp0 hwb hG hT hn hk hW0 hKs h32 f1 f2 f3 f4 f5 hkv hC hnm hD hMz hcz hB hbl hpm hK
 go_enter Tryz.func20,Tryz.ntmps20
 go_wp2_with (rw [hW0'])
 refine hp1.mono ?_
 by_cases h0:z=0
 ·subst h0
  rintro e w6 ⟨v,rfl,hv⟩
  obtain ⟨rb',rfl,hp6⟩:∃ rb',v=.tuple #[.pointer (some ⟨rb',0,none⟩),.nilIface]∧PlayB w a r w6 (n+B+1) M k m ((rb',refsO a) :: Ks):=by
   rcases hv with ⟨-,x⟩ | ⟨h9,-⟩
   ·exact x
   ·exact absurd rfl h9
  have HP6:=hZ hp6
  clear hv hp6 hp1 b0 b1
  obtain ⟨b0,b1,-,-⟩:=HP6.out.wcel wb (List.mem_cons_of_mem _ HMW.out)
  have hp2:=HP6.out.ropen (by have:=HNK.out;omega) HT.out.short
  rw [HMZ.out,HB.out] at hp2
  go_wp2_with fail
  refine hp2.mono ?_
  rintro e w7 ⟨v,rfl,hv⟩
  obtain ⟨xb',rfl,hp7⟩:∃ xb',v=.tuple #[.pointer (some ⟨xb',0,none⟩),.int .i64 0]∧PlayB w a r w7 (n+B+1) M (k+B+1) M ((xb',refsR r) :: (rb',refsO a) :: Ks):=by
   rcases hv with ⟨-,x⟩ | ⟨h9,-⟩
   ·exact x
   ·exact absurd rfl h9
  have HP7:=hZ hp7
  clear hv hp7 hp2 b0 b1
  have hpl:=plain_ref ⟨#[]⟩ 0 (.inl rfl) 0 w7 (HG.out.below HP7.out.toB HG.out.2)
  rw [show wrapE ⟨#[]⟩ 0=.nilIface from rfl,beq_self_eq_true] at hpl
  go_wp2_with fail
  refine hpl.mono ?_
  rintro e w8 ⟨rfl,hb8⟩
  have HP8:=hZ (HP7.out.bel hb8)
  clear hb8 hpl
  have hm8:(wb,worldO a r (some ⟨rb,0,none⟩) (some ⟨xb,0,none⟩))∈(xb',refsR r) :: (rb',refsO a) :: Ks:=List.mem_cons_of_mem _ (List.mem_cons_of_mem _ HMW.out)
  have hk8:=HP8.out.kept _ hm8
  have hne1:rb'≠wb:=fun e=>by
   have h1:=HP8.out.kept (rb',refsO a) (by simp)
   rw [e] at h1
   have h2:=h1.symm.trans hk8
   unfold worldO refsO at h2
   simp at h2
  have hne2:xb'≠wb:=fun e=>by
   have h1:=HP8.out.kept (xb',refsR r) (by simp)
   rw [e] at h1
   have h2:=h1.symm.trans hk8
   unfold worldO refsR at h2
   simp at h2
  have hps:=HP8.out.set (b:=wb) (o:=worldO a r (some ⟨rb,0,none⟩) (some ⟨xb,0,none⟩)) (o':=worldO a r (some ⟨rb',0,none⟩) (some ⟨xb',0,none⟩)) hm8 HWZ.out (KS a r wb rb' xb') (fun q hq=>by
   simp only [KS,List.mem_cons,List.not_mem_nil,or_false] at hq
   rcases hq with rfl | rfl | rfl
   ·exact .inl rfl
   ·exact .inr ⟨by simp,hne1⟩
   ·exact .inr ⟨by simp,hne2⟩)
  have hst:(w8.setCell ⟨wb,2,none⟩ (.pointer (some ⟨rb',0,none⟩))).setCell ⟨wb,3,none⟩ (.pointer (some ⟨xb',0,none⟩))=setBlk w8 wb (worldO a r (some ⟨rb',0,none⟩) (some ⟨xb',0,none⟩)):=setRow_two hk8
  have HPS:=hZ hps
  have HST:=hZ hst
  have c2:w8.cell? ⟨wb,2,none⟩=some (.pointer (some ⟨rb,0,none⟩)):=by unfold worldO at hk8;rw [cell_of_heapN hk8];rfl
  have c3:w8.cell? ⟨wb,3,none⟩=some (.pointer (some ⟨xb,0,none⟩)):=by unfold worldO at hk8;rw [cell_of_heapN hk8];rfl
  have f2:w8.frozen? ⟨wb,2,none⟩=false:=by unfold worldO at hk8;exact frozen_blk hk8
  have f3:w8.frozen? ⟨wb,3,none⟩=false:=by unfold worldO at hk8;exact frozen_blk hk8
  clear hm8 hk8 hne1 hne2 hps hst
  go_wp2_with fail
  rw [HST.out]
  go_ret
  exact ⟨rfl,rb',xb',by rw [HPM.out];exact HPS.out.more (by have:=HBL.out;omega) (by have:=HBL.out;omega)⟩
 ·rintro e w6 ⟨v,rfl,hv⟩
  obtain ⟨t,rfl,hp6⟩:∃ t,v=.tuple #[.pointer none,wrapE t z]∧PlayB w a r w6 (n+B+1) M k m Ks:=by
   rcases hv with ⟨h9,-⟩ | ⟨-,x⟩
   ·exact absurd h9 h0
   ·exact x
  have HP6:=hZ hp6
  clear hv hp6 hp1 b0 b1
  obtain ⟨b0,b1,-,-⟩:=HP6.out.wcel wb HMW.out
  have hp2:=HP6.out.ropen (by have:=HNK.out;omega) HT.out.short
  rw [HMZ.out,HB.out] at hp2
  go_wp2_with fail
  refine hp2.mono ?_
  rintro e w7 ⟨v,rfl,hv⟩
  obtain ⟨rfl,hp7⟩:v=.tuple #[.pointer none,.int .i64 z]∧PlayB w a r w7 (n+B+1) M (k+B+1) M Ks:=by
   rcases hv with ⟨h9,-⟩ | ⟨-,x⟩
   ·exact absurd h9 h0
   ·exact x
  have HP7:=hZ hp7
  clear hv hp7 hp2 b0 b1
  have hpl:=plain_ref t z HZC.out z w7 (HG.out.below HP7.out.toB HG.out.2)
  rw [beq_self_eq_true] at hpl
  have hz1:((z:Int) != 0)=true:=by simpa using h0
  have hz2:((z:Int) == 0)=false:=by simpa using h0
  go_wp2_with fail
  refine hpl.mono ?_
  rintro e w8 ⟨rfl,hb8⟩
  have HP8:=hZ (HP7.out.bel hb8)
  clear hb8 hpl
  go_wp2_with fail
  go_ret
  exact ⟨rfl,rb,xb,by rw [HPM.out];exact (HP8.out.more (by have:=HBL.out;omega) (by have:=HBL.out;omega)).sub HSUB.out⟩
end Go.Proofs.YtdkedmngeahjiaaGreatDoor
/- (*world).plays of stratalaw24 (else). Printed by wip/g57.py. -/
namespace Go.Proofs.YtdkedmngeahjiaaGreatDoor
open Go Go.RowKit
theorem plays_else {w W:World} {a r n k wb rb xb N:Nat} {m:DM} (h:PlayB w a r W n m k m (KS a r wb rb xb)) (hwb:w.heap.size≤wb) (hG:ErrT w) (hT:TabP m N) (hn:n+N+9≤1000000000) (hk:k+N+9≤1000000000)
  (o:OpR) (kv:Value) (hF:o.Fits) (hkv:IntsIn w kv o.keep) (hK:o.kind≠1∧o.kind≠2∧o.kind≠3∧o.kind≠4∧o.kind≠5) :
  Calls Tryz.prog 20 #[.pointer (some ⟨wb,0,none⟩),.agg (o.cells kv).toArray] W (PlaysP w a r wb (n+N+9) (k+N+9) (playM m o.kind o.name o.dig o.text o.num o.keep)):=by
 have HOF:=hZ hF
 have HKV:=hZ hkv
 obtain ⟨h32,f1,f2,f3,f4,f5⟩:=hF
 obtain ⟨ob,hob⟩:∃ b,W.heap.size=b:=⟨_,rfl⟩
 obtain ⟨W0,hW0⟩:∃ W0,W.alloc (opO o kv)=W0:=⟨_,rfl⟩
 have hp0:=h.keep (c:=ob) (o:=opO o kv) (W':=W0) (by rw [← hW0];exact (Below.refl _ _).alloc (Nat.le_refl _) _) (by rw [hob];exact Nat.le_refl _) (by rw [← hW0,← hob];exact heap_new _ _)
 have hW0':W.alloc (.cells (o.cells kv).toArray 53)=W0:=hW0
 obtain ⟨Ks,hKs⟩:∃ Ks,(ob,opO o kv) :: KS a r wb rb xb=Ks:=⟨_,rfl⟩
 have HSUB:Hid (∀ q∈KS a r wb rb xb,q∈Ks):=hZ (fun q hq=>by rw [← hKs];exact List.mem_cons_of_mem _ hq)
 have HMO:Hid ((ob,opO o kv)∈Ks):=hZ (by rw [← hKs];exact List.mem_cons_self ..)
 have HMW:Hid ((wb,worldO a r (some ⟨rb,0,none⟩) (some ⟨xb,0,none⟩))∈Ks):=hZ (by rw [← hKs];simp [KS])
 have HMR:Hid ((rb,refsO a)∈Ks):=hZ (by rw [← hKs];simp [KS])
 have HMX:Hid ((xb,refsR r)∈Ks):=hZ (by rw [← hKs];simp [KS])
 rw [hKs] at hp0
 have HP0:=hZ hp0
 have HWZ:=hZ hwb
 have HG:=hZ hG
 have HT:=hZ hT
 have HNK:=hZ (show n+N+9≤1000000000∧k+N+9≤1000000000 from ⟨hn,hk⟩)
 have HD32:=hZ h32
 have HFN:=hZ f3
 have HKD:=hZ hK
 have hpm:playM m o.kind o.name o.dig o.text o.num o.keep=diskM m o.kind o.name o.text o.num o.keep:=by
  unfold playM
  rw [if_neg hK.1,if_neg hK.2.2.1,if_neg hK.2.2.2.2]
 rw [hpm]
 have hdk:=disk_any HP0.out HMW.out (by have:=HNK.out;omega) (by have:=HNK.out;omega) o kv HOF.out HKV.out
 have hrg:W0.rangeAt ob 0 (o.cells kv):=fun j u hj=>by
  rw [Nat.zero_add,HP0.out.cel HMO.out j,List.getElem?_toArray]
  exact hj
 have HRG:=hZ hrg
 have hoi:=op_info (kv:=kv) HD32.out
 have hou:Tryz.prog.underlying 53=some _:=Tryz.underlying53
 have e0:=HP0.out.ocel ob HMO.out HD32.out
 obtain ⟨a0,-,-,-,-⟩:=e0
 obtain ⟨C,hC⟩:∃ C,(o.cells kv)=C:=⟨_,rfl⟩
 rw [hC] at hW0' HRG hoi hdk ⊢
 obtain ⟨kd,hkd⟩:∃ z,o.kind=z:=⟨_,rfl⟩
 obtain ⟨M,hM⟩:∃ M,diskM m o.kind o.name o.text o.num o.keep=M:=⟨_,rfl⟩
 rw [hM] at hdk ⊢
 obtain ⟨k1,k2,k3,k4,k5⟩:=hK
 rw [hkd] at a0 k1 k2 k3 k4 k5
 rw [hkd] at f1
 obtain ⟨f1a,f1b⟩:=f1
 clear h hp0 hwb hG hT hn hk hW0 hKs h32 f2 f3 f4 f5 hkv hC hpm hrg hkd hM HKD
 go_enter Tryz.func20,Tryz.ntmps20
 go_wp2_with (first | rw [hW0'] | refine wpList_load_mid rfl _ _ rfl ob 0 rfl C _ HRG.out hou rfl hoi ?_)
 refine hdk.mono ?_
 rintro e w5 ⟨rfl,hp5⟩
 have HP5:=hZ hp5
 clear hp5 hdk a0
 go_wp2_with fail
 go_ret
 exact ⟨rfl,rb,xb,(HP5.out.more (by omega) (by omega)).sub HSUB.out⟩
end Go.Proofs.YtdkedmngeahjiaaGreatDoor
/- (*world).alike of stratalaw24: both disks have the same files, and the same are safe. -/
namespace Go.Proofs.YtdkedmngeahjiaaGreatDoor
open Go Go.RowKit Go.Maps Go.Shelf
theorem alike_any {w W:World} {a r n k wb:Nat} {rp xp:Option Addr} {m:DM} {Ks:List (Nat × Obj)} (h:PlayB w a r W n m k m Ks) (hwb:(wb,worldO a r rp xp)∈Ks) (hs:m.Short) (hG:ErrT w) (hn:n≤1000000000) (hk:k≤1000000000) :
  Calls Tryz.prog 21 #[.pointer (some ⟨wb,0,none⟩)] W fun e W'=>e=.returned (.bool true)∧Below w.heap.size w W':=by
 have HP0:=hZ h
 have HMW:=hZ hwb
 have HS0:=hZ hs
 have HG:=hZ hG
 have HNK:=hZ (show n≤1000000000∧k≤1000000000 from ⟨hn,hk⟩)
 clear h hwb hs hG hn hk
 go_enter Tryz.func21,Tryz.ntmps21
 go_wp2_with fail
 go_loopw [3] (fun iv wr=>∃ i:Nat,i≤2∧iv=.int .i64 i∧∃ m:DM,Hid (PlayB w a r wr n m k m Ks)∧Hid m.Short) (fun iv _=>2 - (intOf iv).toNat)
 case atStart=>exact ⟨0,by decide,rfl,m,HP0,HS0⟩
 case round =>
  clear HP0 HS0
  obtain ⟨i,hi,rfl,m,HP,HS⟩:=hrel
  by_cases hlt:(i:Int) < 2
  ·obtain ⟨b0,b1,-,-⟩:=HP.out.wcel wb HMW.out
   have hc1:=HP.out.previve
   go_wp2_with fail
   refine hc1.mono ?_
   rintro e w1 ⟨rfl,hp⟩
   have HP1:=hZ hp
   clear hp hc1 b0 b1
   obtain ⟨b0,b1,-,-⟩:=HP1.out.wcel wb HMW.out
   have hc1:=HP1.out.rrevive
   go_wp2_with fail
   refine hc1.mono ?_
   rintro e w2 ⟨rfl,hp⟩
   have HS2:Hid (m.revive.Short):=hZ HS.out
   obtain ⟨M,hM⟩:∃ M,m.revive=M:=⟨_,rfl⟩
   have hoff:M.off=false:=by rw [← hM];rfl
   rw [hM] at hp HS2
   have HP2:=hZ hp
   have HOFF:=hZ hoff
   clear hp hc1 b0 b1 hM hoff HP1
   obtain ⟨b0,b1,-,-⟩:=HP2.out.wcel wb HMW.out
   have hls:=lists_readB HP2.out.ok HS2.out ⟨#[]⟩
   have hnl:=lists_leB HP2.out.ok ⟨#[]⟩
   have hc1:=HP2.out.pls ⟨#[]⟩ (by have:=HNK.out;omega)
   rw [HOFF.out,if_neg (by decide)] at hc1
   obtain ⟨L0,hL0⟩:∃ l,M.lists ⟨#[]⟩=l:=⟨_,rfl⟩
   rw [hL0] at hc1 hls hnl
   obtain ⟨N,hN⟩:∃ N,L0.length=N:=⟨_,rfl⟩
   have HL0:=hZ hL0
   have HN:=hZ hN
   have HLR:=hZ hls
   have HL8:=hZ (show L0.length≤8000000000000 by have:=HNK.out;omega)
   have hNi:(N:Int)≤1000000000:=by have:=HNK.out;omega
   clear hL0 hls hnl hN
   go_wp2_with fail
   refine hc1.mono ?_
   rintro e w3 ⟨v,rfl,hv,hb3⟩
   obtain ⟨vp,vc,rfl⟩:=hv.rd.len
   have hvr:=hv.rd
   rw [HN.out] at hvr ⊢
   have HV3:=hZ hvr
   have HP3:=hZ (HP2.out.bel hb3)
   clear hvr hv hb3 hc1 b0 b1
   obtain ⟨b0,b1,-,-⟩:=HP3.out.wcel wb HMW.out
   have hc1:=HP3.out.rls HS2.out ⟨#[]⟩ (by show 0≤_;omega) (by have:=HNK.out;omega)
   rw [HOFF.out,if_neg (by decide),HL0.out] at hc1
   go_wp2_with fail
   refine hc1.mono ?_
   rintro e w4 ⟨u,rfl,hg⟩
   obtain ⟨up,uc,rfl⟩:=hg.row.rd.len
   have hgr:=hg.row.rd
   have hb4:=hg.bel
   rw [HN.out] at hgr ⊢
   have HU4:=hZ hgr
   have HV4:=hZ (HV3.out.below hb4)
   have HP4:=hZ (HP3.out.bel hb4)
   clear hgr hg hb4 hc1 b0 b1
   have hpl:=plain_E 0 (.inl rfl) 0 w4 (HG.out.below HP4.out.toB HG.out.2)
   rw [beq_self_eq_true,show errE 0=.nilIface from rfl] at hpl
   go_wp2_with fail
   refine hpl.mono ?_
   rintro e w5 ⟨rfl,hb5⟩
   have HV5:=hZ (HV4.out.below hb5)
   have HU5:=hZ (HU4.out.below hb5)
   have HP5:=hZ (HP4.out.bel hb5)
   clear hb5 hpl
   have hst:=same_texts w5 (.slice vp N vc) (.slice up N uc) L0 L0 HV5.out HU5.out HL8.out
   rw [show sameT L0 L0=true from by unfold sameT;exact decide_eq_true rfl] at hst
   go_wp2_with fail
   refine hst.mono ?_
   rintro e w6 ⟨rfl,hb6⟩
   have HV6:=hZ (HV5.out.below hb6)
   have HP6:=hZ (HP5.out.bel hb6)
   have HE6:=hZ (HG.out.below HP6.out.toB HG.out.2)
   clear hb6 hst
   go_wp2_with fail
   go_loopw [8] (fun jv wr=>∃ j:Nat,j≤N∧jv=.int .i64 j∧Hid (Below w6.heap.size w6 wr)) (fun jv _=>N - (intOf jv).toNat)
   case atStart=>exact ⟨0,Nat.zero_le _,rfl,hZ (Below.refl _ _)⟩
   case round =>
    obtain ⟨j,hj,rfl,hb⟩:=hrel
    by_cases hlt2:(j:Int) < (N:Int)
    ·obtain ⟨t,ht⟩:∃ t,L0[j]?=some t:=⟨_,List.getElem?_eq_getElem (i:=j) (by have:=HN.out;omega)⟩
     obtain ⟨vp',vc',ev,hv⟩:=HV6.out
     cases ev
     obtain ⟨vb,vo,rfl,hvl,hvc⟩:=hv j t ht
     have d0:wr.cell? ⟨vb,vo+j,none⟩=some (.string t):=(hb.out.cell (p:=⟨vb,vo+j,none⟩) hvl).trans hvc
     have hr:=HLR.out t (List.mem_of_getElem? ht)
     have HPr:=hZ (HP6.out.bel hb.out)
     obtain ⟨b0,b1,-,-⟩:=HPr.out.wcel wb HMW.out
     have hrd:∀ q:Nat,Calls Tryz.prog 40 #[.pointer (some ⟨a,0,none⟩),.string t] (wr.drewN q) fun e w'=>e=.returned (.tuple #[.string (M.reads t).1,.nilIface])∧w'=wr.drewN q:=fun q=>by
      have h1:=(HPr.out.dr q).prd t (by unfold maxLen;omega)
      rw [hr.1] at h1
      exact h1.mono fun e w' hp=>⟨hp.1,hp.2.symm⟩
     have hrr:∀ q:Nat,Calls Tryz.prog 67 #[.pointer (some ⟨r,0,none⟩),.string t] (wr.drewN q) fun e w'=>e=.returned (.tuple #[.string (M.reads t).1,.int .i64 0])∧∃ n,w'=(wr.drewN q).drewN n:=fun q=>by
      have h1:=(HPr.out.dr q).rrd (by have:=HNK.out;omega) t
      rw [hr.1] at h1
      exact h1
     have HRD:=hZ hrd
     have HRR:=hZ hrr
     have hpl:=fun q:Nat=>plain_E 0 (.inl rfl) 0 (wr.drewN q) (HG.out.below (HPr.out.dr q).toB HG.out.2)
     rw [beq_self_eq_true,show errE 0=.nilIface from rfl] at hpl
     have HPL:=hZ hpl
     generalize (M.reads t).1=d at HRD HRR
     have hdd:(d.toList == d.toList)=true:=beq_self_eq_true _
     clear ht hv hvl hvc hr hrd hrr hpl
     go_wp2_with fail
     go_quiet ((go_at_call 40;exact Calls.quiet_of_same (HRD.out _)))
     rename_i nq
     go_wp2_with fail
     go_quiet ((go_at_call 67;exact quietU (HRR.out (nq+_))))
     rename_i nr
     go_wp2_with fail
     refine (HPL.out _).mono ?_
     rintro e w7 ⟨rfl,hb7⟩
     have hb7':Below wr.heap.size wr w7:=⟨hb7.os,hb7.tape,hb7.output,hb7.size,hb7.block⟩
     have HB7:=hZ (hb.out.trans (hb7'.mono hb.out.size))
     clear hb7 hb7' b0 b1 d0 hdd
     go_wp2_with fail
     go_roundw
     case rel=>exact ⟨j+1,by omega,by rw [Int.natCast_add];rfl,HB7⟩
     case measure=>simp [intOf];omega
    ·have HPr:=hZ (HP6.out.bel hb.out)
     obtain ⟨b0,b1,-,-⟩:=HPr.out.wcel wb HMW.out
     have hc1:=HPr.out.pcrash (gathI_nil wr) (fun k hk=>by cases hk) (by decide) (by have:=HNK.out;omega)
     go_wp2_with fail
     refine hc1.mono ?_
     rintro e w8 ⟨rfl,hp⟩
     have HP8:=hZ hp
     clear hp hc1 b0 b1
     obtain ⟨b0,b1,-,-⟩:=HP8.out.wcel wb HMW.out
     have hc1:=HP8.out.rcrash (intsIn_nil w) (by have:=HNK.out;omega)
     go_wp2_with fail
     refine hc1.mono ?_
     rintro e w9 ⟨rfl,hp⟩
     have HP9:=hZ hp
     have HS9:Hid ((M.crash []).Short):=hZ (crash_short HS2.out [])
     clear hp hc1 b0 b1
     go_wp2_with fail
     exact ⟨⟨i+1,by omega,by rw [Int.natCast_add];rfl,M.crash [],HP9,HS9⟩,by simp [intOf];omega⟩
  ·go_wp2_with fail
   go_ret
   exact ⟨rfl,HP.out.toB⟩
end Go.Proofs.YtdkedmngeahjiaaGreatDoor
