import Derived.Test.YtdkedmngeahjiaaGreatDoorM40
import Derived.Test.YtdkedmngeahjiaaGreatDoorM43
import Derived.Test.YtdkedmngeahjiaaGreatDoorM42
import Derived.Test.YtdkedmngeahjiaaGreatDoorM44
import Derived.Test.YtdkedmngeahjiaaGreatDoorM14
import Derived.Test.YtdkedmngeahjiaaGreatDoorM30
import Derived.Deep.RegionWith
set_option maxRecDepth 100000
set_option maxHeartbeats 25600000
namespace Go.Proofs.YtdkedmngeahjiaaGreatDoor
theorem aS{p:Prop}(h:p:=by rw[HDD.out];exact HD32.out):p:=h
theorem eM{p:Prop}(h:p:=by have:=HFN.out;omega):p:=h
theorem fH{p:Prop}(h:p:=by have:=HFN.out;unfold maxLen;omega):p:=h
theorem gU{p:Prop}(h:p:=by exact flS rfl aD (hW.upd 9 aA hd) rfl):p:=h
theorem gY{p:Prop}(h:p:=by exact⟨rfl,rb,xb,by rw[HPM.out];exact(HP5.out.more HN9.out.1 HN9.out.2).sub HSUB.out⟩):p:=h
theorem iS{p:Prop}(h:p:=by simp[hq]):p:=h
theorem jI{p:Prop}(h:p:=by exact⟨hp.1,q1,q2⟩):p:=h
open Go Go.RowKit Go.Maps Go.Shelf
theorem DiskAt.frameS{w w':World}{a n:Nat}{m:DM}{S:Nat→Prop}(h:DiskAt w a n m S)(hb:∀b,S b→w'.heap[b]?=w.heap[b]?):DiskAt w' a n m S:=by
 obtain⟨bn,bs,pv,fv,loc,h⟩:=h
 exact⟨bn,bs,pv,fv,loc,{h with
  head:=(hb _ h.sa).trans h.head
  now:=h.now.keep (hb _ h.sn)
  safe:=h.safe.keep (hb _ h.ss)
  file:=fun i f hf=>⟨(h.file i f hf).1,(hb _ (h.file i f hf).1).trans (h.file i f hf).2⟩
  pend:=by
   obtain⟨vs,h1,h2,h3⟩:=h.pend;exact eP
  fate:=⟨uK h.fate.1 h.fate.2 (fun b _ hS _=>hb b hS),h.fate.2⟩
  lt:=fun b hS=>by
   have h1:=hb b hS;rw[Array.getElem?_eq_getElem (h.lt b hS)]at h1;exact lH h1}⟩
theorem RefAt.frameS{w w':World}{r n:Nat}{m:DM}{S:Nat→Prop}(h:RefAt w r n m S)(hb:∀b,S b→w'.heap[b]?=w.heap[b]?):RefAt w' r n m S:=by
 obtain⟨⟨fv,nv,sv,pv,kv,ro,hr⟩,k2,k3⟩:=h
 refine⟨⟨fv,nv,sv,pv,kv,ro,{hr with
  head:=(hb _ hr.sr).trans hr.head
  files:=hr.files.keep (fun b _ hS _=>hb b hS)
  now:=hr.now.keep (fun b _ hS _=>hb b hS)
  safe:=hr.safe.keep (fun b _ hS _=>hb b hS)
  pend:=hr.pend.keep (fun b _ hS _=>hb b hS)
  keep:=hr.keep.keep (fun b cs hS _=>hb b hS) (fun _ h=>h)
  lt:=fun b hS=>by
   have h1:=hb b hS;rw[Array.getElem?_eq_getElem (hr.lt b hS)]at h1;exact lH h1}⟩,k2,k3⟩
def Pair(w w1:World)(P:Nat→Prop)(a n:Nat)(m:DM)(r k:Nat)(mr:DM):Prop:=
 ∃SA SR:Nat→Prop,DiskAt w1 a n m SA∧RefAt w1 r k mr SR∧(∀x,SA x→w.heap.size≤x∧¬P x∧¬SR x)∧(∀x,SR x→w.heap.size≤x∧¬P x)∧Below w.heap.size w w1∧∀b,P b→b<w1.heap.size
section
variable {w w1 w':World} {P Q:Nat→Prop} {a n r k:Nat} {m mr:DM}
theorem Pair.bel(h:Pair w w1 P a n m r k mr):Below w.heap.size w w1:=by obtain⟨SA,SR,h1,h2,h3,h4,h5,h6⟩:=h;exact h5
theorem Pair.lt(h:Pair w w1 P a n m r k mr):∀b,P b→b<w1.heap.size:=by obtain⟨SA,SR,h1,h2,h3,h4,h5,h6⟩:=h;exact h6
theorem Pair.ok(h:Pair w w1 P a n m r k mr):m.Ok n:=by obtain⟨SA,SR,h1,h2,h3,h4,h5,h6⟩:=h;exact h1.ok
theorem Pair.below(h:Pair w w1 P a n m r k mr)(hb:Below w1.heap.size w1 w'):Pair w w' P a n m r k mr:=by
 obtain⟨SA,SR,h1,h2,h3,h4,h5,h6⟩:=h;exact⟨SA,SR,h1.below hb,h2.below hb,h3,h4,h5.trans (hb.mono h5.size),fun b hP=>Nat.lt_of_lt_of_le (h6 b hP) hb.size⟩
theorem Pair.same(h:Pair w w1 P a n m r k mr)(hb:Below w1.heap.size w1 w'):SameP P w1 w':=fun b hP=>hb.block b (h.lt b hP)
theorem Pair.drews{q:Nat}(h:Pair w w1 P a n m r k mr):Pair w (w1.drewN q) P a n m r k mr:=h.below ⟨rfl,rfl,rfl,Nat.le_refl _,fun _ _=>rfl⟩
theorem Pair.keeps(h:Pair w w1 P a n m r k mr)(hb:Below w1.heap.size w1 w'):Pair w w' (fun b=>P b∨(w1.heap.size≤b∧b<w'.heap.size)) a n m r k mr:=by
 obtain⟨SA,SR,h1,h2,h3,h4,h5,h6⟩:=h;refine⟨SA,SR,h1.below hb,h2.below hb,fun x hx=>⟨(h3 x hx).1,?_,(h3 x hx).2.2⟩,fun x hx=>⟨(h4 x hx).1,?_⟩,h5.trans (hb.mono h5.size),?_⟩
 ·rintro(hP|⟨hP,-⟩)
  ·exact(h3 x hx).2.1 hP
  ·exact absurd (h1.lt x hx) aC
 ·rintro(hP|⟨hP,-⟩)
  ·exact(h4 x hx).2 hP
  ·exact absurd (h2.lt x hx) aC
 ·rintro b (hP|⟨-,hP⟩)
  ·exact Nat.lt_of_lt_of_le (h6 b hP) hb.size
  ·exact hP
theorem Pair.sub(h:Pair w w1 P a n m r k mr)(hs:∀b,Q b→P b):Pair w w1 Q a n m r k mr:=by
 obtain⟨SA,SR,h1,h2,h3,h4,h5,h6⟩:=h;exact⟨SA,SR,h1,h2,fun x hx=>⟨(h3 x hx).1,fun hQ=>(h3 x hx).2.1 (hs x hQ),(h3 x hx).2.2⟩,fun x hx=>⟨(h4 x hx).1,fun hQ=>(h4 x hx).2 (hs x hQ)⟩,h5,fun b hQ=>h6 b (hs b hQ)⟩
theorem Pair.more{n' k':Nat}(h:Pair w w1 P a n m r k mr)(hn:n≤n')(hk:k≤k'):Pair w w1 P a n' m r k' mr:=by
 obtain⟨SA,SR,h1,h2,h3⟩:=h;exact⟨SA,SR,h1.more hn,h2.more hk,h3⟩
theorem Pair.st(h:Pair w w1 P a n m r k mr):∃SR,St w (fun _=>False) (fun b=>P b∨SR b) a w1 n m∧RefAt w1 r k mr SR∧(∀x,SR x→w.heap.size≤x∧¬P x):=by
 obtain⟨SA,SR,h1,h2,h3,h4,h5,h6⟩:=h;exact⟨SR,⟨⟨SA,h1,fun b hb=>⟨.inr (h3 b hb).1,fun hp=>hp.elim (h3 b hb).2.1 (h3 b hb).2.2⟩⟩,fun b hb=>hb.elim (h6 b) (h2.lt b),⟨h5.os,h5.tape,h5.output,h5.size,fun i hi _=>h5.block i hi⟩,fun _ hb=>hb.elim⟩,h2,h4⟩
theorem Pair.rst(h:Pair w w1 P a n m r k mr):∃SA,RSt w (fun _=>False) (fun b=>P b∨SA b) r w1 k mr∧DiskAt w1 a n m SA∧(∀x,SA x→w.heap.size≤x∧¬P x):=by
 obtain⟨SA,SR,h1,h2,h3,h4,h5,h6⟩:=h;exact⟨SA,⟨⟨SR,h2,fun b hb=>⟨.inr (h4 b hb).1,fun hp=>hp.elim (h4 b hb).2 (fun ha=>(h3 b ha).2.2 hb)⟩⟩,fun b hb=>hb.elim (h6 b) (h1.lt b),⟨h5.os,h5.tape,h5.output,h5.size,fun i hi _=>h5.block i hi⟩,fun _ hb=>hb.elim⟩,h1,fun x hx=>⟨(h3 x hx).1,(h3 x hx).2.1⟩⟩
theorem yS{w w1:World}(h:Off (fun _=>False) w w1):Below w.heap.size w w1:=⟨h.os,h.tape,h.output,h.size,fun i hi=>h.block i hi (fun e=>e)⟩
theorem Pair.did{SR:Nat→Prop}{n':Nat}{m':DM}(hl:∀b,P b→b<w1.heap.size)(hs:St w (fun _=>False) (fun b=>P b∨SR b) a w' n' m')(h2:RefAt w1 r k mr SR)(h4:∀x,SR x→w.heap.size≤x∧¬P x)(hk:SameP (fun b=>P b∨SR b) w1 w'):Pair w w' P a n' m' r k mr:=by
 obtain⟨⟨SA,g1,g2⟩,g3,g4,-⟩:=hs;exact⟨SA,SR,g1,h2.frameS (fun b hb=>hk b (.inr hb)),fun x hx=>⟨(g2 x hx).1.elim (fun e=>e.elim) id,fun hp=>(g2 x hx).2 (.inl hp),fun hp=>(g2 x hx).2 (.inr hp)⟩,h4,yS g4,fun b hb=>g3 b (.inl hb)⟩
theorem Pair.rdid{SA:Nat→Prop}{k':Nat}{mr':DM}(hs:RSt w (fun _=>False) (fun b=>P b∨SA b) r w' k' mr')(h1:DiskAt w1 a n m SA)(h3:∀x,SA x→w.heap.size≤x∧¬P x)(hk:SameP (fun b=>P b∨SA b) w1 w'):Pair w w' P a n m r k' mr':=by
 obtain⟨⟨SR,g1,g2⟩,g3,g4,-⟩:=hs;exact⟨SA,SR,h1.frameS (fun b hb=>hk b (.inr hb)),g1,fun x hx=>⟨(h3 x hx).1,(h3 x hx).2,fun hr=>(g2 x hr).2 (.inr hx)⟩,fun x hx=>⟨(g2 x hx).1.elim (fun e=>e.elim) id,fun hp=>(g2 x hx).2 (.inl hp)⟩,yS g4,fun b hb=>g3 b (.inl hb)⟩
end
structure PlayB (w:World) (a r:Nat) (W:World) (n:Nat) (m:DM) (k:Nat) (mr:DM) (Ks:List (Nat×Obj)):Prop where
 pair:∃P,Pair w W P a n m r k mr∧∀q∈Ks,P q.1
 kept:∀q∈Ks,W.heap[q.1]?=some q.2
section
variable {w W W':World} {a r n k:Nat} {m mr:DM} {Ks Js:List (Nat×Obj)}
theorem PlayB.toB(h:PlayB w a r W n m k mr Ks):Below w.heap.size w W:=by
 obtain⟨P,h1,-⟩:=h.pair;exact h1.bel
theorem PlayB.ok(h:PlayB w a r W n m k mr Ks):m.Ok n:=by
 obtain⟨P,h1,-⟩:=h.pair;exact h1.ok
theorem PlayB.more{n' k':Nat}(h:PlayB w a r W n m k mr Ks)(hn:n≤n')(hk:k≤k'):PlayB w a r W n' m k' mr Ks:=by
 obtain⟨P,h1,h2⟩:=h.pair;exact⟨⟨P,h1.more hn hk,h2⟩,h.kept⟩
theorem PlayB.sub(h:PlayB w a r W n m k mr Ks)(hs:∀q∈Js,q∈Ks):PlayB w a r W n m k mr Js:=by
 obtain⟨P,h1,h5⟩:=h.pair;exact⟨⟨P,h1,fun q hq=>h5 q (hs q hq)⟩,fun q hq=>h.kept q (hs q hq)⟩
theorem PlayB.bel(h:PlayB w a r W n m k mr Ks)(hb:Below W.heap.size W W'):PlayB w a r W' n m k mr Ks:=by
 obtain⟨P,h1,h2⟩:=h.pair;exact⟨⟨P,h1.below hb,h2⟩,fun q hq=>(hb.block _ (lH (h.kept q hq))).trans (h.kept q hq)⟩
theorem PlayB.keep(h:PlayB w a r W n m k mr Ks)(hb:Below W.heap.size W W'){c:Nat}{o:Obj}(h1:W.heap.size≤c)(h2:W'.heap[c]?=some o):PlayB w a r W' n m k mr ((c,o)::Ks):=by
 obtain⟨P,g1,g5⟩:=h.pair;have hlt:=lH h2
 refine⟨⟨_,g1.keeps hb,fun q hq=>?_⟩,fun q hq=>?_⟩
 ·rcases List.mem_cons.1 hq with rfl|hq
  ·exact .inr ⟨h1,hlt⟩
  ·exact .inl (g5 q hq)
 ·rcases List.mem_cons.1 hq with rfl|hq
  ·exact h2
  ·exact(hb.block _ (lH (h.kept q hq))).trans (h.kept q hq)
theorem PlayB.lift{f:FuncId}{args:Array Value}(R:Ending→Prop){n':Nat}{m':DM}(h:PlayB w a r W n m k mr Ks)
  (hc:∀P,St w (fun _=>False) P a W n m→(∀q∈Ks,P q.1)→Calls Tryz.prog f args W fun e w'=>R e∧St w (fun _=>False) P a w' n' m'∧SameP P W w'):
  Calls Tryz.prog f args W fun e w'=>R e∧PlayB w a r w' n' m' k mr Ks:=by
 obtain⟨P,g1,g5⟩:=h.pair;obtain⟨SR,s1,s2,s3⟩:=g1.st;refine(hc _ s1 (fun q hq=>.inl (g5 q hq))).mono fun e w' hp=>?_
 obtain⟨hR,t1,t2⟩:=hp;exact⟨hR,⟨P,Pair.did g1.lt t1 s2 s3 t2,g5⟩,fun q hq=>(t2 _ (.inl (g5 q hq))).trans (h.kept q hq)⟩
theorem PlayB.liftR{f:FuncId}{args:Array Value}(R:Ending→Prop){k':Nat}{mr':DM}(h:PlayB w a r W n m k mr Ks)
  (hc:∀P,RSt w (fun _=>False) P r W k mr→(∀q∈Ks,P q.1)→Calls Tryz.prog f args W fun e w'=>R e∧RSt w (fun _=>False) P r w' k' mr'∧SameP P W w'):
  Calls Tryz.prog f args W fun e w'=>R e∧PlayB w a r w' n m k' mr' Ks:=by
 obtain⟨P,g1,g5⟩:=h.pair;obtain⟨SA,s1,s2,s3⟩:=g1.rst;refine(hc _ s1 (fun q hq=>.inl (g5 q hq))).mono fun e w' hp=>?_
 obtain⟨hR,t1,t2⟩:=hp;exact⟨hR,⟨P,Pair.rdid t1 s2 s3 t2,g5⟩,fun q hq=>(t2 _ (.inl (g5 q hq))).trans (h.kept q hq)⟩
end
theorem MX{w w1:World}{S P:Nat→Prop}{r n:Nat}{m:DM}(h:RSt w S P r w1 n m)(o:ROp)(s:ByteArray)(hk1:1≤o.kind)(hk2:o.kind≤6)(hf:o.file=0)(hn:n≤4000000000)(hs:s.size≤140737488355328):
  Calls Tryz.prog 123 #[.pointer (some ⟨r,0,none⟩),.agg #[.int .i64 o.kind,.string o.old,.string o.name,.int .i64 0],.string s] w1 (RPost w S P r w1 n m (mV o s)):=by
 obtain⟨⟨S1,h1,h2⟩,h3,h4,h5⟩:=h;have hd:=Dp h1 o s hk1 hk2 (Ae h1.ok hn) aC hs (by rw[hf];decide)
 unfold oE at hd;rw[hf]at hd;refine hd.mono fun e w' hp=>?_
 obtain⟨q1,q2⟩:=RSt.post h2 h3 h4 h5 hp.2;exact jI
theorem Hr{w w1:World}{S P:Nat→Prop}{r n:Nat}{m:DM}(h:RSt w S P r w1 n m):
  Calls Tryz.prog 64 #[.pointer (some ⟨r,0,none⟩)] w1 fun e w'=>e=.returned (.tuple #[])∧RSt w S P r w' n m.revive∧SameP P w1 w':=by
 obtain⟨⟨S1,h1,h2⟩,h3,h4,h5⟩:=h;refine(CG h1).mono fun e w' hp=>?_
 obtain⟨q1,q2⟩:=RSt.post h2 h3 h4 h5 hp.2;exact jI
section
variable {w W W':World} {a r n k:Nat} {m mr:DM} {Ks:List (Nat×Obj)}
theorem PlayB.pcreate(h:PlayB w a r W n m k mr Ks)(s:ByteArray)(hs:s.size≤maxLen)(hn:n≤4000000000):
  Calls Tryz.prog 47 #[.pointer (some ⟨a,0,none⟩),.string s] W fun e W'=>e=.returned (nG (m.op (.create s)).2)∧PlayB w a r W' (n+1) (m.op (.create s)).1 k mr Ks:=
 h.lift (fun e=>e=.returned (nG (m.op (.create s)).2)) fun P hst _=>(AG hst s hs hn).mono fun _ _ hp=>hp
theorem PlayB.pwrite(h:PlayB w a r W n m k mr Ks)(s d:ByteArray)(hs:s.size≤maxLen)(hd:d.size≤140737488355328)(hn:n≤4000000000):
  Calls Tryz.prog 48 #[.pointer (some ⟨a,0,none⟩),.string s,.string d] W fun e W'=>e=.returned (nG (m.op (.write s d)).2)∧PlayB w a r W' (n+1) (m.op (.write s d)).1 k mr Ks:=
 h.lift (fun e=>e=.returned (nG (m.op (.write s d)).2)) fun P hst _=>(uM hst s d hs hd hn).mono fun _ _ hp=>hp
theorem PlayB.psync(h:PlayB w a r W n m k mr Ks)(s:ByteArray)(hs:s.size≤maxLen)(hn:n≤4000000000):
  Calls Tryz.prog 50 #[.pointer (some ⟨a,0,none⟩),.string s] W fun e W'=>e=.returned (nG (m.op (.sync s)).2)∧PlayB w a r W' (n+1) (m.op (.sync s)).1 k mr Ks:=
 h.lift (fun e=>e=.returned (nG (m.op (.sync s)).2)) fun P hst _=>(Em hst s hs hn).mono fun _ _ hp=>hp
theorem PlayB.premove(h:PlayB w a r W n m k mr Ks)(s:ByteArray)(hs:s.size≤maxLen)(hn:n≤4000000000):
  Calls Tryz.prog 44 #[.pointer (some ⟨a,0,none⟩),.string s] W fun e W'=>e=.returned (nG (m.op (.remove s)).2)∧PlayB w a r W' (n+1) (m.op (.remove s)).1 k mr Ks:=
 h.lift (fun e=>e=.returned (nG (m.op (.remove s)).2)) fun P hst _=>(sI hst s hs hn).mono fun _ _ hp=>hp
theorem PlayB.rdo(h:PlayB w a r W n m k mr Ks)(o:ROp)(s:ByteArray)(hk1:1≤o.kind)(hk2:o.kind≤6)(hf:o.file=0)(hk:k≤4000000000)(hs:s.size≤140737488355328):
  Calls Tryz.prog 123 #[.pointer (some ⟨r,0,none⟩),.agg #[.int .i64 o.kind,.string o.old,.string o.name,.int .i64 0],.string s] W fun e W'=>e=.returned (.int .i64 (mr.op (mV o s)).2)∧PlayB w a r W' n m (k+1) (mr.op (mV o s)).1 Ks:=
 h.liftR (fun e=>e=.returned (.int .i64 (mr.op (mV o s)).2)) fun P hst _=>(MX hst o s hk1 hk2 hf hk hs).mono fun _ _ hp=>hp
theorem PlayB.previve(h:PlayB w a r W n m k mr Ks):
  Calls Tryz.prog 25 #[.pointer (some ⟨a,0,none⟩)] W fun e W'=>e=.returned (.tuple #[])∧PlayB w a r W' n m.revive k mr Ks:=
 h.lift (fun e=>e=.returned (.tuple #[])) fun P hst _=>(DB hst).mono fun _ _ hp=>hp
theorem PlayB.rrevive(h:PlayB w a r W n m k mr Ks):
  Calls Tryz.prog 64 #[.pointer (some ⟨r,0,none⟩)] W fun e W'=>e=.returned (.tuple #[])∧PlayB w a r W' n m k mr.revive Ks:=
 h.liftR (fun e=>e=.returned (.tuple #[])) fun P hst _=>(Hr hst).mono fun _ _ hp=>hp
end
theorem GathI.rdP{W1 W2:World}{kv:Value}{ks:List Int}(h:GathI W1 W2 kv ks)(hk:∀k∈ks,-9223372036854775808≤k∧k≤9223372036854775807)(hl:ks.length≤17592186044416){S:Nat→Prop}(hS:∀b,S b→kv.ownBlock≠some b):IntsRd S W2 kv ks:=by
 have hr:=h.row;obtain⟨p,c,rfl⟩:=oV hr;rcases hr.2 with⟨h1,h0⟩|⟨g,cap,cur,h1,h2,h3,h4,h5,h6,h7⟩
 ·injection h1 with e1 e2 e3
  subst e1 e3;refine⟨none,0,rfl,⟨aC,Nat.zero_le _⟩,fun j k hj=>?_⟩;have:=(List.getElem?_eq_some_iff.1 hj).1
  omega
 ·injection h1 with e1 e2 e3
  subst e1 e3;refine⟨_,_,rfl,⟨h4,h5⟩,fun j k hj=>⟨hk k (List.mem_of_getElem? hj),g,0,rfl,?_,lH h3,.inl (fun hs=>hS g hs rfl)⟩⟩;have hjl:=(List.getElem?_eq_some_iff.1 hj).1
  rw[Nat.zero_add,lF h3,←Array.getElem?_toList];have h8:(ks.map (Value.int .i64))[j]?=some (.int .i64 k):=bW
  rw[←h7,List.getElem?_take,if_pos aC]at h8;exact h8
section
variable {w W W' W2:World} {a r n k:Nat} {m mr:DM} {Ks:List (Nat×Obj)} {kv:Value} {ks:List Int}
theorem PlayB.gath(h:PlayB w a r W n m k mr Ks)(hg:GathI W W2 kv ks):∃Js:List (Nat×Obj),PlayB w a r W2 n m k mr Js∧(∀q∈Ks,q∈Js)∧∀b,kv.ownBlock=some b→∃q∈Js,q.1=b:=by
 have hr:=hg.row;obtain⟨p,c,rfl⟩:=oV hr;rcases hr.2 with⟨h1,h0⟩|⟨g,cap,cur,h1,h2,h3,h4,h5,h6,h7⟩
 ·refine⟨Ks,h.bel hg.bel,fun _ hq=>hq,fun b hb=>?_⟩;rw[h1]at hb;cases hb
 ·refine⟨_,h.keep hg.bel h2 h3,fun q hq=>List.mem_cons_of_mem _ hq,fun b hb=>?_⟩;rw[h1]at hb;cases hb;exact⟨_,List.mem_cons_self ..,rfl⟩
theorem PlayB.parm(h:PlayB w a r W n m k mr Ks)(hg:GathI W W2 kv ks)(hk:∀k∈ks,-9223372036854775808≤k∧k≤9223372036854775807)(hl:ks.length*8≤140737488355328)(z:Int)(hz:z≤9223372036854775807):
  Calls Tryz.prog 23 #[.pointer (some ⟨a,0,none⟩),.int .i64 z,.agg #[kv]] W2 fun e W'=>e=.returned (.tuple #[])∧PlayB w a r W' n (m.arm z ks) k mr Ks:=by
 obtain⟨Js,h1,h2,h3⟩:=h.gath hg;refine(h1.lift (fun e=>e=.returned (.tuple #[])) (n':=n) (m':=m.arm z ks) fun P hst hP=>?_).mono fun e W' hp=>⟨hp.1,hp.2.sub h2⟩
 obtain⟨⟨S1,g1,g2⟩,g3,g4,g5⟩:=hst;refine(Ir g1 z kv ks (hg.rdP hk aC (fun b hb e=>?_)) hl hz).mono fun e w' hp=>?_
 ·obtain⟨q,hq,he⟩:=h3 b e;exact(g2 b hb).2 (he▸hP q hq)
 ·obtain⟨q1,q2⟩:=St.post g2 g3 g4 g5 hp.2;exact jI
theorem PlayB.pcrash(h:PlayB w a r W n m k mr Ks)(hg:GathI W W2 kv ks)(hk:∀k∈ks,-9223372036854775808≤k∧k≤9223372036854775807)(hl:ks.length*8≤140737488355328)(hn:n≤4000000000):
  Calls Tryz.prog 26 #[.pointer (some ⟨a,0,none⟩),.agg #[kv]] W2 fun e W'=>e=.returned (.tuple #[])∧PlayB w a r W' n (m.crash ks) k mr Ks:=by
 obtain⟨Js,h1,h2,h3⟩:=h.gath hg;refine(h1.lift (fun e=>e=.returned (.tuple #[])) (n':=n) (m':=m.crash ks) fun P hst hP=>?_).mono fun e W' hp=>⟨hp.1,hp.2.sub h2⟩
 obtain⟨⟨S1,g1,g2⟩,g3,g4,g5⟩:=hst;refine(CX g1 kv ks (hg.rdP hk aC (fun b hb e=>?_)) aC).mono fun e w' hp=>?_
 ·obtain⟨q,hq,he⟩:=h3 b e;exact(g2 b hb).2 (he▸hP q hq)
 ·obtain⟨q1,q2⟩:=St.post g2 g3 g4 g5 hp.2;exact jI
theorem PlayB.rarm(h:PlayB w a r W n m k mr Ks)(hi:IntsIn w kv ks)(hl:ks.length*8≤140737488355328)(z:Int)(hz:z≤9223372036854775807):
  Calls Tryz.prog 122 #[.pointer (some ⟨r,0,none⟩),.int .i64 z,kv] W fun e W'=>e=.returned (.tuple #[])∧PlayB w a r W' n m k (mr.arm z ks) Ks:=by
 have hb:=h.toB;refine h.liftR (fun e=>e=.returned (.tuple #[])) fun P hst _=>?_
 obtain⟨⟨S1,g1,g2⟩,g3,g4,g5⟩:=hst;refine(G6 g1 z kv ks (hi.rd hb (fun b hs=>(g2 b hs).1.resolve_left id)) hl hz).mono fun e w' hp=>?_
 obtain⟨q1,q2⟩:=RSt.post g2 g3 g4 g5 hp.2;exact jI
theorem PlayB.rcrash(h:PlayB w a r W n m k mr Ks)(hi:IntsIn w kv ks)(hk:k≤4000000000):
  Calls Tryz.prog 68 #[.pointer (some ⟨r,0,none⟩),kv] W fun e W'=>e=.returned (.tuple #[])∧PlayB w a r W' n m k (mr.crash ks) Ks:=by
 have hb:=h.toB;refine h.liftR (fun e=>e=.returned (.tuple #[])) fun P hst _=>?_
 obtain⟨⟨S1,g1,g2⟩,g3,g4,g5⟩:=hst;refine(Ev g1 kv ks (hi.rd hb (fun b hs=>(g2 b hs).1.resolve_left id)) aC).mono fun e w' hp=>?_
 obtain⟨q1,q2⟩:=RSt.post g2 g3 g4 g5 hp.2;exact jI
end
theorem PlayB.pflush{w W:World}{a r n k:Nat}{m mr:DM}{Ks:List (Nat×Obj)}(h:PlayB w a r W n m k mr Ks)(hn:n≤4000000000):
  Calls Tryz.prog 45 #[.pointer (some ⟨a,0,none⟩)] W fun e W'=>e=.returned (nG (m.op .flush).2)∧PlayB w a r W' (n+1) (m.op .flush).1 k mr Ks:=
 h.lift (fun e=>e=.returned (nG (m.op .flush).2)) fun P hst _=>(uN hst hn).mono fun _ _ hp=>hp
section
variable {w W W1 W2:World} {a r n k:Nat} {m mr:DM} {Ks:List (Nat×Obj)}
theorem PlayB.set(h:PlayB w a r W n m k mr Ks){b:Nat}{o o':Obj}(hm:(b,o)∈Ks)(hw:w.heap.size≤b)(Js:List (Nat×Obj))(hJ:∀q∈Js,q=(b,o')∨(q∈Ks∧q.1≠b)):PlayB w a r (setBlk W b o') n m k mr Js:=by
 obtain⟨P,⟨SA,SR,h1,h2,h3,h4,h5,h6⟩,p4⟩:=h.pair;have hP:P b:=p4 _ hm
 have hlt:=lH (h.kept _ hm);refine⟨⟨P,⟨SA,SR,h1.frameS (fun c hc=>mS (fun e=>(h3 c hc).2.1 (e▸hP))),h2.frameS (fun c hc=>mS (fun e=>(h4 c hc).2 (e▸hP))),h3,h4,h5.setBlk hw,fun c hc=>by rw[pA];exact h6 c hc⟩,fun q hq=>?_⟩,fun q hq=>?_⟩
 ·rcases hJ q hq with rfl|⟨hq,-⟩
  ·exact hP
  ·exact p4 q hq
 ·rcases hJ q hq with rfl|⟨hq,hne⟩
  ·exact lM hlt
  ·exact(mS hne).trans (h.kept q hq)
theorem PlayB.start{rm:Int}(hd:DiskAt W1 a 0 (DM.new rm) (fun b=>w.heap.size≤b∧b<W1.heap.size))(hb1:Below w.heap.size w W1)(hr:RefAt W2 r 0 (DM.new rm) (fun b=>W1.heap.size≤b∧b<W2.heap.size))(hb2:Below W1.heap.size W1 W2):PlayB w a r W2 0 (DM.new rm) 0 (DM.new rm) []:=by
 have hz:=hb1.size;have hb:=hb1.trans (hb2.mono hz)
 exact⟨⟨fun b=>b<w.heap.size,⟨_,_,hd.below hb2,hr,fun x hx=>⟨hx.1,Nat.not_lt.2 hx.1,fun hp=>Nat.not_lt.2 hp.1 hx.2⟩,fun x hx=>⟨Nat.le_trans hz hx.1,Nat.not_lt.2 (Nat.le_trans hz hx.1)⟩,hb,fun b hb3=>Nat.lt_of_lt_of_le hb3 hb.size⟩,fun q hq=>by cases hq⟩,fun q hq=>by cases hq⟩
end
theorem Pair.didK{w w1 w':World}{P Q SR:Nat→Prop}{a n' r k:Nat}{m' mr:DM}(hQ:∀b,Q b→w1.heap.size≤b)(hs:St w (fun _=>False) (fun b=>(P b∨SR b)∨Q b) a w' n' m')(h2:RefAt w1 r k mr SR)(h4:∀x,SR x→w.heap.size≤x∧¬P x)(hk:SameP (fun b=>P b∨SR b) w1 w'):Pair w w' (fun b=>P b∨Q b) a n' m' r k mr:=by
 obtain⟨⟨SA,g1,g2⟩,g3,g4,-⟩:=hs
 exact⟨SA,SR,g1,h2.frameS (fun b hb=>hk b (.inr hb)),fun x hx=>⟨(g2 x hx).1.elim (fun e=>e.elim) id,fun hp=>hp.elim (fun hp=>(g2 x hx).2 (.inl (.inl hp))) (fun hq=>(g2 x hx).2 (.inr hq)),fun hp=>(g2 x hx).2 (.inl (.inr hp))⟩,fun x hx=>⟨(h4 x hx).1,fun hp=>hp.elim (h4 x hx).2 (fun hq=>by
  have:=hQ x hq;have:=h2.lt x hx
  omega)⟩,yS g4,fun b hb=>hb.elim (fun hp=>g3 b (.inl (.inl hp))) (fun hq=>g3 b (.inr hq))⟩
theorem Pair.rdidK{w w1 w':World}{P Q SA:Nat→Prop}{a n r k':Nat}{m mr':DM}(hQ:∀b,Q b→w1.heap.size≤b)(hs:RSt w (fun _=>False) (fun b=>(P b∨SA b)∨Q b) r w' k' mr')(h1:DiskAt w1 a n m SA)(h3:∀x,SA x→w.heap.size≤x∧¬P x)(hk:SameP (fun b=>P b∨SA b) w1 w'):Pair w w' (fun b=>P b∨Q b) a n m r k' mr':=by
 obtain⟨⟨SR,g1,g2⟩,g3,g4,-⟩:=hs
 exact⟨SA,SR,h1.frameS (fun b hb=>hk b (.inr hb)),g1,fun x hx=>⟨(h3 x hx).1,fun hp=>hp.elim (h3 x hx).2 (fun hq=>by
  have:=hQ x hq;have:=h1.lt x hx
  omega),fun hr=>(g2 x hr).2 (.inl (.inr hx))⟩,fun x hx=>⟨(g2 x hx).1.elim (fun e=>e.elim) id,fun hp=>hp.elim (fun hp=>(g2 x hx).2 (.inl (.inl hp))) (fun hq=>(g2 x hx).2 (.inr hq))⟩,yS g4,fun b hb=>hb.elim (fun hp=>g3 b (.inl (.inl hp))) (fun hq=>g3 b (.inr hq))⟩
section
variable {w W W':World} {a r n k rb xb:Nat} {m mr:DM} {Ks:List (Nat×Obj)}
theorem PlayB.rf(h:PlayB w a r W n m k mr Ks)(hm:(rb,qI a)∈Ks):∃P,Rf w (fun _=>False) P rb a W n m:=by
 obtain⟨P,g1,g5⟩:=h.pair;obtain⟨SR,s1,s2,s3⟩:=g1.st;exact⟨_,s1,h.kept _ hm,.inl (g5 _ hm)⟩
theorem PlayB.rrf(h:PlayB w a r W n m k mr Ks)(hm:(xb,pR r)∈Ks):∃P,RRf w (fun _=>False) P xb r W k mr:=by
 obtain⟨P,g1,g5⟩:=h.pair;obtain⟨SR,s1,s2,s3⟩:=g1.rst;exact⟨_,s1,h.kept _ hm,.inl (g5 _ hm)⟩
theorem PlayB.pset(h:PlayB w a r W n m k mr Ks)(hm:(rb,qI a)∈Ks)(hn:n+7≤4000000000)(s:ByteArray)(hs:(s.size:Int)≤140737488355328)(D:List UInt8)(hD:D.length=32):
  Calls Tryz.prog 15 #[.pointer (some ⟨rb,0,none⟩),.string s,nH D] W fun e W'=>(∃t,e=.returned (nT t (tX m s.data.toList D).2))∧PlayB w a r W' (n+7) (tX m s.data.toList D).1 k mr Ks:=
 h.lift (fun e=>∃t,e=.returned (nT t (tX m s.data.toList D).2)) fun _ hst hP=>(Ag ⟨hst,h.kept _ hm,hP _ hm⟩ hn s hs D hD).mono fun _ _ hp=>hp
theorem PlayB.pdel(h:PlayB w a r W n m k mr Ks)(hm:(rb,qI a)∈Ks)(hn:n+2≤4000000000)(s:ByteArray)(hs:(s.size:Int)≤140737488355328):
  Calls Tryz.prog 24 #[.pointer (some ⟨rb,0,none⟩),.string s] W fun e W'=>(∃t,e=.returned (nT t (uU m s.data.toList).2))∧PlayB w a r W' (n+2) (uU m s.data.toList).1 k mr Ks:=
 h.lift (fun e=>∃t,e=.returned (nT t (uU m s.data.toList).2)) fun _ hst hP=>(EI ⟨hst,h.kept _ hm,hP _ hm⟩ hn s hs).mono fun _ _ hp=>hp
theorem PlayB.pget(h:PlayB w a r W n m k mr Ks)(hm:(rb,qI a)∈Ks)(s:ByteArray)(hs:(s.size:Int)≤140737488355328):
  Calls Tryz.prog 38 #[.pointer (some ⟨rb,0,none⟩),.string s] W (B7 W (wY m s.data.toList)):=by
 obtain⟨P,hf⟩:=h.rf hm;exact Ai hf s hs
theorem PlayB.plist(h:PlayB w a r W n m k mr Ks)(hm:(rb,qI a)∈Ks)(hn:n≤1000000000)(hsh:m.Short):
  Calls Tryz.prog 39 #[.pointer (some ⟨rb,0,none⟩)] W (Du W (sB m)):=by
 obtain⟨P,hf⟩:=h.rf hm;exact AN hf hn (tA hsh _)
theorem PlayB.rset(h:PlayB w a r W n m k mr Ks)(hm:(xb,pR r)∈Ks)(hk:k+7≤4000000000)(s:ByteArray)(hs:(s.size:Int)≤140737488355328)(D:List UInt8)(hD:D.length=32):
  Calls Tryz.prog 57 #[.pointer (some ⟨xb,0,none⟩),.string s,nH D] W fun e W'=>e=.returned (.int .i64 (tX mr s.data.toList D).2)∧PlayB w a r W' n m (k+7) (tX mr s.data.toList D).1 Ks:=
 h.liftR (fun e=>e=.returned (.int .i64 (tX mr s.data.toList D).2)) fun _ hst hP=>(Hj ⟨hst,h.kept _ hm,hP _ hm⟩ hk s hs D hD).mono fun _ _ hp=>hp
theorem PlayB.rdel(h:PlayB w a r W n m k mr Ks)(hm:(xb,pR r)∈Ks)(hk:k+2≤4000000000)(s:ByteArray)(hs:(s.size:Int)≤140737488355328):
  Calls Tryz.prog 59 #[.pointer (some ⟨xb,0,none⟩),.string s] W fun e W'=>e=.returned (.int .i64 (uU mr s.data.toList).2)∧PlayB w a r W' n m (k+2) (uU mr s.data.toList).1 Ks:=
 h.liftR (fun e=>e=.returned (.int .i64 (uU mr s.data.toList).2)) fun _ hst hP=>(Hm ⟨hst,h.kept _ hm,hP _ hm⟩ hk s hs).mono fun _ _ hp=>hp
theorem PlayB.rget(h:PlayB w a r W n m k mr Ks)(hm:(xb,pR r)∈Ks)(hk:k≤4000000000)(s:ByteArray)(hs:(s.size:Int)≤140737488355328):
  Calls Tryz.prog 58 #[.pointer (some ⟨xb,0,none⟩),.string s] W (Hk W (wY mr s.data.toList)):=by
 obtain⟨P,hf⟩:=h.rrf hm;exact Hl hf hk s hs
theorem PlayB.rlist(h:PlayB w a r W n m k mr Ks)(hm:(xb,pR r)∈Ks)(hk:k≤1000000000)(hsh:mr.Short):
  Calls Tryz.prog 60 #[.pointer (some ⟨xb,0,none⟩)] W (IF W (sB mr)):=by
 obtain⟨P,hf⟩:=h.rrf hm;exact F3 hf (zL hsh.1) hk (tA hsh _)
end
def Nk(w:World)(a r n N k:Nat)(mr:DM)(Ks:List (Nat×Obj))(p:DM×Int)(e:Ending)(W':World):Prop:=
 ∃v,e=.returned v∧((p.2=0∧∃rb,v=.tuple #[.pointer (some ⟨rb,0,none⟩),.nilIface]∧PlayB w a r W' (n+N+1) p.1 k mr ((rb,qI a)::Ks))∨
  (p.2≠0∧∃t,v=.tuple #[.pointer none,nT t p.2]∧PlayB w a r W' (n+N+1) p.1 k mr Ks))
def MY(w:World)(a r n k N:Nat)(m:DM)(Ks:List (Nat×Obj))(p:DM×Int)(e:Ending)(W':World):Prop:=
 ∃v,e=.returned v∧((p.2=0∧∃xb,v=.tuple #[.pointer (some ⟨xb,0,none⟩),.int .i64 0]∧PlayB w a r W' n m (k+N+1) p.1 ((xb,pR r)::Ks))∨
  (p.2≠0∧v=.tuple #[.pointer none,.int .i64 p.2]∧PlayB w a r W' n m (k+N+1) p.1 Ks))
section
variable {w W W':World} {a r n k:Nat} {m mr:DM} {Ks:List (Nat×Obj)}
theorem PlayB.popen(h:PlayB w a r W n m k mr Ks)(hn:n≤1000000000)(hsh:m.Short):
  Calls Tryz.prog 13 #[.pointer (some ⟨a,0,none⟩)] W (Nk w a r n (qG m).length k mr Ks (mX m)):=by
 obtain⟨P,g1,g5⟩:=h.pair;obtain⟨SR,s1,s2,s3⟩:=g1.st;refine(wF s1 hn (tA hsh _)).mono ?_;rintro e W' ⟨v,rfl,hr,hk⟩;refine⟨v,rfl,?_⟩;rcases hr with⟨h0,rb,rfl,hge,hrf⟩|⟨h0,u,t,rfl,rfl,hst⟩
 ·refine .inl ⟨h0,rb,rfl,⟨_,Pair.didK (Q:=fun b=>b=rb) (fun b hb=>by rw[hb];exact hge) hrf.st s2 s3 hk,fun q hq=>?_⟩,fun q hq=>?_⟩
  ·rcases List.mem_cons.1 hq with rfl|hq
   ·exact .inr rfl
   ·exact .inl (g5 q hq)
  ·rcases List.mem_cons.1 hq with rfl|hq
   ·exact hrf.box
   ·exact(hk _ (.inl (g5 q hq))).trans (h.kept q hq)
 ·exact .inr ⟨h0,t,rfl,⟨P,Pair.did g1.lt hst s2 s3 hk,g5⟩,fun q hq=>(hk _ (.inl (g5 q hq))).trans (h.kept q hq)⟩
theorem PlayB.ropen(h:PlayB w a r W n m k mr Ks)(hk:k≤1000000000)(hsh:mr.Short):
  Calls Tryz.prog 56 #[.pointer (some ⟨r,0,none⟩)] W (MY w a r n k (qG mr).length m Ks (mX mr)):=by
 obtain⟨P,g1,g5⟩:=h.pair;obtain⟨SA,s1,s2,s3⟩:=g1.rst;refine(F2 s1 (zL hsh.1) hk (tA hsh _)).mono ?_;rintro e W' ⟨v,rfl,hr,hk⟩;refine⟨v,rfl,?_⟩;rcases hr with⟨h0,xb,rfl,hge,hrf⟩|⟨h0,rfl,hst⟩
 ·refine .inl ⟨h0,xb,rfl,⟨_,Pair.rdidK (Q:=fun b=>b=xb) (fun b hb=>by rw[hb];exact hge) hrf.st s2 s3 hk,fun q hq=>?_⟩,fun q hq=>?_⟩
  ·rcases List.mem_cons.1 hq with rfl|hq
   ·exact .inr rfl
   ·exact .inl (g5 q hq)
  ·rcases List.mem_cons.1 hq with rfl|hq
   ·exact hrf.box
   ·exact(hk _ (.inl (g5 q hq))).trans (h.kept q hq)
 ·exact .inr ⟨h0,rfl,⟨P,Pair.rdid hst s2 s3 hk,g5⟩,fun q hq=>(hk _ (.inl (g5 q hq))).trans (h.kept q hq)⟩
end
def oD(a r:Nat)(rp xp:Option Addr):Obj:=.cells #[.pointer (some ⟨a,0,none⟩),.pointer (some ⟨r,0,none⟩),.pointer rp,.pointer xp] 106 (0,0)
theorem JD(W:World):GathI W W (.slice none 0 0) []:=⟨World.ownsRow_nil _ _ _ _,Below.refl _ _⟩
theorem qD(w:World):IntsIn w (.slice none 0 0) []:=⟨none,0,rfl,⟨Nat.le_refl _,Nat.zero_le _⟩,fun j k hj=>by simp at hj⟩
section
variable {w W W':World} {a r n k:Nat} {m mr:DM} {Ks:List (Nat×Obj)}
theorem PlayB.cel(h:PlayB w a r W n m k mr Ks){b:Nat}{c:Array Value}{t:TypeId}(hm:(b,.cells c t (0,0))∈Ks)(i:Nat):W.cell? ⟨b,i,none⟩=c[i]?:=lF (h.kept _ hm)
theorem PlayB.wcel{rp xp:Option Addr}(h:PlayB w a r W n m k mr Ks)(wb:Nat)(hm:(wb,oD a r rp xp)∈Ks):W.cell? ⟨wb,0,none⟩=some (.pointer (some ⟨a,0,none⟩))∧W.cell? ⟨wb,1,none⟩=some (.pointer (some ⟨r,0,none⟩))∧W.cell? ⟨wb,2,none⟩=some (.pointer rp)∧W.cell? ⟨wb,3,none⟩=some (.pointer xp):=
 ⟨h.cel hm 0,h.cel hm 1,h.cel hm 2,h.cel hm 3⟩
theorem PlayB.pls(h:PlayB w a r W n m k mr Ks)(hd:ByteArray)(hn:n≤4000000000):
  Calls Tryz.prog 17 #[.pointer (some ⟨a,0,none⟩),.string hd] W fun e w'=>∃v,e=.returned (.tuple #[v,nG (if m.off then 27 else 0)])∧OwnTexts W.heap.size w' v (m.lists hd)∧Below W.heap.size W w':=by
 obtain⟨P,g1,-⟩:=h.pair;obtain⟨SR,s1,-⟩:=g1.st;exact Af s1 hd hn
theorem PlayB.prd(h:PlayB w a r W n m k mr Ks)(s:ByteArray)(hs:s.size≤maxLen):
  Calls Tryz.prog 40 #[.pointer (some ⟨a,0,none⟩),.string s] W fun e w'=>e=.returned (.tuple #[.string (m.reads s).1,nG (m.reads s).2])∧W=w':=by
 obtain⟨P,g1,-⟩:=h.pair;obtain⟨SR,s1,-⟩:=g1.st;exact wV s1 s hs
theorem PlayB.rls(h:PlayB w a r W n m k mr Ks)(hsh:mr.Short)(hd:ByteArray)(hhd:hd.size≤140737488355328)(hk:k≤4000000000):
  Calls Tryz.prog 65 #[.pointer (some ⟨r,0,none⟩),.string hd] W fun e w'=>∃u,e=.returned (.tuple #[u,.int .i64 (if mr.off then 27 else 0)])∧GathT W w' u (mr.lists hd):=by
 obtain⟨P,g1,-⟩:=h.pair;obtain⟨SA,s1,-⟩:=g1.rst;exact Cg s1 hk (zL hsh.1) hd hhd
theorem PlayB.rrd(h:PlayB w a r W n m k mr Ks)(hk:k≤4000000000)(s:ByteArray):
  Calls Tryz.prog 67 #[.pointer (some ⟨r,0,none⟩),.string s] W fun e w'=>e=.returned (.tuple #[.string (mr.reads s).1,.int .i64 (mr.reads s).2])∧∃q,w'=W.drewN q:=by
 obtain⟨P,g1,-⟩:=h.pair;obtain⟨SA,s1,-⟩:=g1.rst;exact Cf s1 hk s
theorem PlayB.dr(h:PlayB w a r W n m k mr Ks)(q:Nat):PlayB w a r (W.drewN q) n m k mr Ks:=h.bel ⟨rfl,rfl,rfl,Nat.le_refl _,fun _ _=>rfl⟩
end
theorem JE{m:DM}{n:Nat}(h:m.Ok n)(s:ByteArray):(m.lists s).length≤n:=by
 unfold DM.lists;split
 ·exact gH
 ·rw[List.length_map];exact Nat.le_trans (List.length_filter_le _ _) h.nowN
theorem F4{m:DM}{n:Nat}(h:m.Ok n)(hs:m.Short)(t:ByteArray):∀s∈m.lists t,(m.reads s).2=0∧s.size≤200:=fun s hm=>by
 refine⟨?_,tA hs t s hm⟩
 cases ho:m.off with
 |true=>
  unfold DM.lists at hm;rw[ho]at hm;cases hm
 |false=>exact tV h.now ho hm
def opO(o:OpR)(kv:Value):Obj:=.cells (o.cells kv).toArray 53 (0,0)
theorem GathI.keepB{W1 W2 W3:World}{kv:Value}{ks:List Int}(h:GathI W1 W2 kv ks)(hb:Below W2.heap.size W2 W3):GathI W1 W3 kv ks:=⟨B6 h.row (fun b hv=>hb.block b (BG h.row hv).2.1),h.bel.trans (hb.mono h.bel.size)⟩
section
variable {w W W':World} {a r n k:Nat} {m mr:DM} {Ks:List (Nat×Obj)}
theorem PlayB.ocel{o:OpR}{kv:Value}(h:PlayB w a r W n m k mr Ks)(ob:Nat)(hm:(ob,opO o kv)∈Ks)(h32:o.dig.length=32):W.cell? ⟨ob,0,none⟩=some (.int .i64 o.kind)∧W.cell? ⟨ob,1,none⟩=some (.string o.name)∧W.cell? ⟨ob,34,none⟩=some (.string o.text)∧W.cell? ⟨ob,35,none⟩=some (.int .i64 o.num)∧W.cell? ⟨ob,36,none⟩=some kv:=by
 have hc:∀i,W.cell? ⟨ob,i,none⟩=(o.cells kv)[i]?:=fun i=>by rw[h.cel hm i,List.getElem?_toArray]
 exact⟨hc 0,hc 1,(hc 34).trans (OpR.c34 h32),(hc 35).trans (OpR.c35 h32),(hc 36).trans (OpR.c36 h32)⟩
theorem PlayB.odig{o:OpR}{kv:Value}(h:PlayB w a r W n m k mr Ks)(ob:Nat)(hm:(ob,opO o kv)∈Ks)(h32:o.dig.length=32):W.rangeAt ob 2 (o.dig.map lG):=fun j u hj=>by
 have hj32:j<32:=by have:=(List.getElem?_eq_some_iff.1 hj).1;rw[List.length_map,h32]at this;exact this
 rw[h.cel hm (2+j),List.getElem?_toArray,OpR.cd h32 hj32];exact hj
end
theorem Lb{w W:World}{a r n k wb:Nat}{rp xp:Option Addr}{m:DM}{Ks:List (Nat×Obj)}(h:PlayB w a r W n m k m Ks)(hwb:(wb,oD a r rp xp)∈Ks)(hn:n+2≤1000000000)(hk:k+2≤1000000000)
  (o:OpR) (kv:Value) (hF:o.Fits) (hkv:IntsIn w kv o.keep):
  Calls Tryz.prog 63 #[.pointer (some ⟨wb,0,none⟩),.agg (o.cells kv).toArray] W fun e W'=>e=.returned (.tuple #[])∧PlayB w a r W' (n+2) (tH m o.kind o.name o.text o.num o.keep) (k+2) (tH m o.kind o.name o.text o.num o.keep) Ks:=by
 obtain⟨h32,f1,f2,f3,f4,f5⟩:=hF
 obtain⟨KL,hKL⟩:∃KL,o.keep.length=KL:=⟨_,rfl⟩
 have hkv2:=hkv;obtain⟨kp,kc,rfl,-,-⟩:=hkv2;rw[hKL]at hkv⊢
 obtain⟨ob,hob⟩:∃b,W.heap.size=b:=⟨_,rfl⟩
 obtain⟨W0,hW0⟩:∃W0,W.alloc (opO o (.slice kp KL kc))=W0:=⟨_,rfl⟩
 have hp0:=h.keep (c:=ob) (o:=opO o (.slice kp KL kc)) (W':=W0) aN bN bF;have HP0:=hZ hp0
 have HMW:Hid ((wb,oD a r rp xp)∈(ob,opO o (.slice kp KL kc))::Ks):=hZ (List.mem_cons_of_mem _ hwb);have HMO:Hid ((ob,opO o (.slice kp KL kc))∈(ob,opO o (.slice kp KL kc))::Ks):=hZ (List.mem_cons_self ..)
 have HD32:=hZ h32;have hW0':W.alloc (.cells (o.cells (.slice kp KL kc)).toArray 53)=W0:=hW0
 obtain⟨C,hC⟩:∃C,(o.cells (.slice kp KL kc)).toArray=C:=⟨_,rfl⟩
 rw[hC]at hW0'⊢;obtain⟨kd,nm,dg,tx,z,ks⟩:=o;simp only at f1 f2 f3 f4 f5 hKL h32 hkv;have HNK:=hZ (show n+2≤1000000000∧k+2≤1000000000 from⟨hn,hk⟩)
 have HFN:=hZ f3;have HFT:=hZ f4
 have HFK:=hZ f5;have HFZ:=hZ f2
 obtain⟨f1a,f1b⟩:=f1;obtain⟨f2a,f2b⟩:=f2;have HKI:=hZ hkv
 have HKB:=hZ hkv.bounds;have HKL:=hZ hKL
 have hci:=Aj (hkv.rd (w1:=W0) HP0.out.toB (S:=fun _=>False) (fun _ e=>e.elim)) aC;clear h hp0 hwb hn hk hW0 hC h32 f3 f4 f5 hkv hKL;obtain⟨b0,b1,-,-⟩:=HP0.out.wcel wb HMW.out;obtain⟨a0,a1,a34,a35,a36⟩:=HP0.out.ocel ob HMO.out HD32.out;go_enter Tryz.func63,Tryz.ntmps63;go_wp2_with (rw[hW0']);refine hci.mono ?_;rintro e w1 ⟨u,rfl,hg⟩;obtain⟨up,uc,rfl⟩:=oV hg.row;rw[HKL.out];have hg2:GathI W0 w1 (.slice up KL uc) ks:=by have h9:=hg;rw[HKL.out]at h9;exact h9
 obtain⟨w4,hw4⟩:∃V,V=w1.alloc (.cells #[.slice up KL uc] 62):=⟨_,rfl⟩
 have hb4:Below w1.heap.size w1 w4:=by rw[hw4];exact(Below.refl _ _).alloc (Nat.le_refl _) _
 have hcf:w4.cell? ⟨w1.heap.size,0,none⟩=some (.slice up KL uc):=by rw[hw4,lF (lP _ _)];rfl
 have HGI:Hid (GathI W0 (w4.drewN 1) (.slice up KL uc) ks):=hZ ((hg2.keepB hb4).keepB ⟨rfl,rfl,rfl,Nat.le_refl _,fun _ _=>rfl⟩);have HP4:=hZ (HP0.out.bel (hg2.bel.trans (hb4.mono hg2.bel.size)))
 have HCF:=hZ hcf;clear hci hg hg2 hb4 hcf b0 b1 a0 a1 a34 a35 a36 hW0';subst hw4;by_cases h6:kd=6
 ·subst h6;obtain⟨b0,b1,-,-⟩:=HP4.out.wcel wb HMW.out;obtain⟨a0,a1,a34,a35,a36⟩:=HP4.out.ocel ob HMO.out HD32.out;have hc1:=HP0.out.parm HGI.out HKB.out (by have:=HFK.out;omega) z (by have:=HFZ.out.2;omega)
  have cf:=HCF.out;go_wp2_with fail;refine lT 7 mC aE ?_;simp only[List.take_succ_cons,List.take_zero,List.drop_succ_cons,List.drop_zero]
  repeat still_step
  refine wpStill_nil ?_;go_wp2_with fail;refine hc1.mono ?_;rintro e w5 ⟨rfl,hp⟩;have HP5:=hZ hp
  clear hp hc1 cf;clear b0 b1 a0 a1 a34 a35 a36;obtain⟨b0,b1,-,-⟩:=HP5.out.wcel wb HMW.out;obtain⟨a0,a1,a34,a35,a36⟩:=HP5.out.ocel ob HMO.out HD32.out;have hc1:=(HP5.out.dr 1).rarm HKI.out (by have:=HFK.out;omega) z (by have:=HFZ.out.2;omega)
  go_wp2_with fail;refine lT 8 mC aE ?_;simp only[List.take_succ_cons,List.take_zero,List.drop_succ_cons,List.drop_zero]
  repeat still_step
  refine wpStill_nil ?_;go_wp2_with fail;refine hc1.mono ?_;rintro e w6 ⟨rfl,hp⟩;have HP6:=hZ hp
  clear hp hc1;clear b0 b1 a0 a1 a34 a35 a36;go_wp2_with fail
  first
   |refine bodyPost_ret (results_none rfl _ _ _) rfl ?_
   |refine bodyPost_end (fn:=Tryz.f63) (results_none rfl _ _ _) rfl ?_
  exact⟨rfl,by rw[show tH m 6 nm tx z ks=m.arm z ks from rfl];exact(HP6.out.more aC aC).sub (fun q hq=>iS)⟩
 ·by_cases h7:kd=7
  ·subst h7;obtain⟨b0,b1,-,-⟩:=HP4.out.wcel wb HMW.out;obtain⟨a0,a1,a34,a35,a36⟩:=HP4.out.ocel ob HMO.out HD32.out;have hc1:=HP0.out.pcrash HGI.out HKB.out (by have:=HFK.out;omega) cR
   have cf:=HCF.out;go_wp2_with fail;refine lT 5 mC aE ?_;simp only[List.take_succ_cons,List.take_zero,List.drop_succ_cons,List.drop_zero]
   repeat still_step
   refine wpStill_nil ?_;go_wp2_with fail;refine hc1.mono ?_;rintro e w5 ⟨rfl,hp⟩;have HP5:=hZ hp
   clear hp hc1 cf;clear b0 b1 a0 a1 a34 a35 a36;obtain⟨b0,b1,-,-⟩:=HP5.out.wcel wb HMW.out;obtain⟨a0,a1,a34,a35,a36⟩:=HP5.out.ocel ob HMO.out HD32.out;have hc1:=(HP5.out.dr 1).rcrash HKI.out cR
   go_wp2_with fail;refine lT 6 mC aE ?_;simp only[List.take_succ_cons,List.take_zero,List.drop_succ_cons,List.drop_zero]
   repeat still_step
   refine wpStill_nil ?_;go_wp2_with fail;refine hc1.mono ?_;rintro e w6 ⟨rfl,hp⟩;have HP6:=hZ hp
   clear hp hc1;clear b0 b1 a0 a1 a34 a35 a36;go_wp2_with fail
   first
    |refine bodyPost_ret (results_none rfl _ _ _) rfl ?_
    |refine bodyPost_end (fn:=Tryz.f63) (results_none rfl _ _ _) rfl ?_
   exact⟨rfl,by rw[show tH m 7 nm tx z ks=m.crash ks from rfl];exact(HP6.out.more aC aC).sub (fun q hq=>iS)⟩
  ·by_cases h8:kd=8
   ·subst h8;obtain⟨b0,b1,-,-⟩:=HP4.out.wcel wb HMW.out;obtain⟨a0,a1,a34,a35,a36⟩:=HP4.out.ocel ob HMO.out HD32.out;have hc1:=HP4.out.previve
    go_wp2_with fail;refine hc1.mono ?_;rintro e w5 ⟨rfl,hp⟩;have HP5:=hZ hp
    clear hp hc1;clear b0 b1 a0 a1 a34 a35 a36;obtain⟨b0,b1,-,-⟩:=HP5.out.wcel wb HMW.out;obtain⟨a0,a1,a34,a35,a36⟩:=HP5.out.ocel ob HMO.out HD32.out;have hc1:=HP5.out.rrevive
    go_wp2_with fail;refine hc1.mono ?_;rintro e w6 ⟨rfl,hp⟩;have HP6:=hZ hp
    clear hp hc1;clear b0 b1 a0 a1 a34 a35 a36;go_wp2_with fail
    first
     |refine bodyPost_ret (results_none rfl _ _ _) rfl ?_
     |refine bodyPost_end (fn:=Tryz.f63) (results_none rfl _ _ _) rfl ?_
    exact⟨rfl,by rw[show tH m 8 nm tx z ks=m.revive from rfl];exact(HP6.out.more aC aC).sub (fun q hq=>iS)⟩
   ·by_cases h9:kd=9
    ·subst h9;obtain⟨b0,b1,-,-⟩:=HP4.out.wcel wb HMW.out;obtain⟨a0,a1,a34,a35,a36⟩:=HP4.out.ocel ob HMO.out HD32.out;have hc1:=(HP4.out.dr 1).pcreate nm fH cR
     go_wp2_with fail;refine lT 6 mC aE ?_;simp only[List.take_succ_cons,List.take_zero,List.drop_succ_cons,List.drop_zero]
     repeat still_step
     refine wpStill_nil ?_;go_wp2_with fail;refine hc1.mono ?_;rintro e w5 ⟨rfl,hp⟩;have HP5:=hZ hp
     clear hp hc1;clear b0 b1 a0 a1 a34 a35 a36;obtain⟨b0,b1,-,-⟩:=HP5.out.wcel wb HMW.out;obtain⟨a0,a1,a34,a35,a36⟩:=HP5.out.ocel ob HMO.out HD32.out;have hc1:=(HP5.out.dr 1).rdo ⟨1,⟨#[]⟩,nm,0⟩ ⟨#[]⟩ (by show(1:Int)≤_;exact(by decide:(1:Int)≤1)) (by show _≤(6:Int);exact(by decide:(1:Int)≤6)) rfl cR aA
     rw[show mV ⟨1,⟨#[]⟩,nm,0⟩ ⟨#[]⟩=.create nm from rfl]at hc1;go_wp2_with fail;refine lT 7 mC aE ?_;simp only[List.take_succ_cons,List.take_zero,List.drop_succ_cons,List.drop_zero]
     repeat still_step
     refine wpStill_nil ?_;go_wp2_with fail;refine hc1.mono ?_;rintro e w6 ⟨rfl,hp⟩;have HP6:=hZ hp
     clear hp hc1;clear b0 b1 a0 a1 a34 a35 a36;obtain⟨b0,b1,-,-⟩:=HP6.out.wcel wb HMW.out;obtain⟨a0,a1,a34,a35,a36⟩:=HP6.out.ocel ob HMO.out HD32.out;have hc1:=(HP6.out.dr 1).pwrite nm tx fH (by have:=HFT.out;omega) cR
     go_wp2_with fail;refine lT 8 mC aE ?_;simp only[List.take_succ_cons,List.take_zero,List.drop_succ_cons,List.drop_zero]
     repeat still_step
     refine wpStill_nil ?_;go_wp2_with fail;refine hc1.mono ?_;rintro e w7 ⟨rfl,hp⟩;have HP7:=hZ hp
     clear hp hc1;clear b0 b1 a0 a1 a34 a35 a36;obtain⟨b0,b1,-,-⟩:=HP7.out.wcel wb HMW.out;obtain⟨a0,a1,a34,a35,a36⟩:=HP7.out.ocel ob HMO.out HD32.out;have hc1:=(HP7.out.dr 1).rdo ⟨2,⟨#[]⟩,nm,0⟩ tx (by show(1:Int)≤_;exact(by decide:(1:Int)≤2)) (by show _≤(6:Int);exact(by decide:(2:Int)≤6)) rfl cR (by have:=HFT.out;omega)
     rw[show mV ⟨2,⟨#[]⟩,nm,0⟩ tx=.write nm tx from rfl]at hc1;go_wp2_with fail;refine lT 9 mC aE ?_;simp only[List.take_succ_cons,List.take_zero,List.drop_succ_cons,List.drop_zero]
     repeat still_step
     refine wpStill_nil ?_;go_wp2_with fail;refine hc1.mono ?_;rintro e w8 ⟨rfl,hp⟩;have HP8:=hZ hp
     clear hp hc1;clear b0 b1 a0 a1 a34 a35 a36;go_wp2_with fail
     first
      |refine bodyPost_ret (results_none rfl _ _ _) rfl ?_
      |refine bodyPost_end (fn:=Tryz.f63) (results_none rfl _ _ _) rfl ?_
     exact⟨rfl,by rw[show tH m 9 nm tx z ks=((m.op (.create nm)).1.op (.write nm tx)).1 from rfl];exact(HP8.out.more aC aC).sub (fun q hq=>iS)⟩
    ·by_cases h10:kd=10
     ·subst h10;obtain⟨b0,b1,-,-⟩:=HP4.out.wcel wb HMW.out;obtain⟨a0,a1,a34,a35,a36⟩:=HP4.out.ocel ob HMO.out HD32.out;have hc1:=(HP4.out.dr 1).psync nm fH cR
      go_wp2_with fail;refine lT 6 mC aE ?_;simp only[List.take_succ_cons,List.take_zero,List.drop_succ_cons,List.drop_zero]
      repeat still_step
      refine wpStill_nil ?_;go_wp2_with fail;refine hc1.mono ?_;rintro e w5 ⟨rfl,hp⟩;have HP5:=hZ hp
      clear hp hc1;clear b0 b1 a0 a1 a34 a35 a36;obtain⟨b0,b1,-,-⟩:=HP5.out.wcel wb HMW.out;obtain⟨a0,a1,a34,a35,a36⟩:=HP5.out.ocel ob HMO.out HD32.out;have hc1:=(HP5.out.dr 1).rdo ⟨3,⟨#[]⟩,nm,0⟩ ⟨#[]⟩ (by show(1:Int)≤_;exact(by decide:(1:Int)≤3)) (by show _≤(6:Int);exact(by decide:(3:Int)≤6)) rfl cR aA
      rw[show mV ⟨3,⟨#[]⟩,nm,0⟩ ⟨#[]⟩=.sync nm from rfl]at hc1;go_wp2_with fail;refine lT 7 mC aE ?_;simp only[List.take_succ_cons,List.take_zero,List.drop_succ_cons,List.drop_zero]
      repeat still_step
      refine wpStill_nil ?_;go_wp2_with fail;refine hc1.mono ?_;rintro e w6 ⟨rfl,hp⟩;have HP6:=hZ hp
      clear hp hc1;clear b0 b1 a0 a1 a34 a35 a36;go_wp2_with fail
      first
       |refine bodyPost_ret (results_none rfl _ _ _) rfl ?_
       |refine bodyPost_end (fn:=Tryz.f63) (results_none rfl _ _ _) rfl ?_
      exact⟨rfl,by rw[show tH m 10 nm tx z ks=(m.op (.sync nm)).1 from rfl];exact(HP6.out.more aC aC).sub (fun q hq=>iS)⟩
     ·by_cases h11:kd=11
      ·subst h11;obtain⟨b0,b1,-,-⟩:=HP4.out.wcel wb HMW.out;obtain⟨a0,a1,a34,a35,a36⟩:=HP4.out.ocel ob HMO.out HD32.out;have hc1:=HP4.out.pflush cR
       go_wp2_with fail;refine hc1.mono ?_;rintro e w5 ⟨rfl,hp⟩;have HP5:=hZ hp
       clear hp hc1;clear b0 b1 a0 a1 a34 a35 a36;obtain⟨b0,b1,-,-⟩:=HP5.out.wcel wb HMW.out;obtain⟨a0,a1,a34,a35,a36⟩:=HP5.out.ocel ob HMO.out HD32.out;have hc1:=HP5.out.rdo ⟨6,⟨#[]⟩,⟨#[]⟩,0⟩ ⟨#[]⟩ (by show(1:Int)≤_;exact(by decide:(1:Int)≤6)) (by show _≤(6:Int);exact(by decide:(6:Int)≤6)) rfl cR aA
       rw[show mV ⟨6,⟨#[]⟩,⟨#[]⟩,0⟩ ⟨#[]⟩=.flush from rfl]at hc1;go_wp2_with fail;refine hc1.mono ?_;rintro e w6 ⟨rfl,hp⟩;have HP6:=hZ hp
       clear hp hc1;clear b0 b1 a0 a1 a34 a35 a36;go_wp2_with fail
       first
        |refine bodyPost_ret (results_none rfl _ _ _) rfl ?_
        |refine bodyPost_end (fn:=Tryz.f63) (results_none rfl _ _ _) rfl ?_
       exact⟨rfl,by rw[show tH m 11 nm tx z ks=(m.op .flush).1 from rfl];exact(HP6.out.more aC aC).sub (fun q hq=>iS)⟩
      ·by_cases h12:kd=12
       ·subst h12;obtain⟨b0,b1,-,-⟩:=HP4.out.wcel wb HMW.out;obtain⟨a0,a1,a34,a35,a36⟩:=HP4.out.ocel ob HMO.out HD32.out;have hc1:=(HP4.out.dr 1).premove nm fH cR
        go_wp2_with fail;refine lT 6 mC aE ?_;simp only[List.take_succ_cons,List.take_zero,List.drop_succ_cons,List.drop_zero]
        repeat still_step
        refine wpStill_nil ?_;go_wp2_with fail;refine hc1.mono ?_;rintro e w5 ⟨rfl,hp⟩;have HP5:=hZ hp
        clear hp hc1;clear b0 b1 a0 a1 a34 a35 a36;obtain⟨b0,b1,-,-⟩:=HP5.out.wcel wb HMW.out;obtain⟨a0,a1,a34,a35,a36⟩:=HP5.out.ocel ob HMO.out HD32.out;have hc1:=(HP5.out.dr 1).rdo ⟨5,⟨#[]⟩,nm,0⟩ ⟨#[]⟩ (by show(1:Int)≤_;exact(by decide:(1:Int)≤5)) (by show _≤(6:Int);exact(by decide:(5:Int)≤6)) rfl cR aA
        rw[show mV ⟨5,⟨#[]⟩,nm,0⟩ ⟨#[]⟩=.remove nm from rfl]at hc1;go_wp2_with fail;refine lT 7 mC aE ?_;simp only[List.take_succ_cons,List.take_zero,List.drop_succ_cons,List.drop_zero]
        repeat still_step
        refine wpStill_nil ?_;go_wp2_with fail;refine hc1.mono ?_;rintro e w6 ⟨rfl,hp⟩;have HP6:=hZ hp
        clear hp hc1;clear b0 b1 a0 a1 a34 a35 a36;go_wp2_with fail
        first
         |refine bodyPost_ret (results_none rfl _ _ _) rfl ?_
         |refine bodyPost_end (fn:=Tryz.f63) (results_none rfl _ _ _) rfl ?_
        exact⟨rfl,by rw[show tH m 12 nm tx z ks=(m.op (.remove nm)).1 from rfl];exact(HP6.out.more aC aC).sub (fun q hq=>iS)⟩
       ·obtain⟨b0,b1,-,-⟩:=HP4.out.wcel wb HMW.out;obtain⟨a0,a1,a34,a35,a36⟩:=HP4.out.ocel ob HMO.out HD32.out;have hno:tH m kd nm tx z ks=m:=by unfold tH;rw[if_neg h6,if_neg h7,if_neg h8,if_neg h9,if_neg h10,if_neg h11,if_neg h12]
        have HNO:=hZ hno;clear hno;go_wp2_with fail
        first
         |refine bodyPost_ret (results_none rfl _ _ _) rfl ?_
         |refine bodyPost_end (fn:=Tryz.f63) (results_none rfl _ _ _) rfl ?_
        exact⟨rfl,by rw[HNO.out];exact(HP4.out.more aC aC).sub (fun q hq=>iS)⟩
def KS(a r wb rb xb:Nat):List (Nat×Obj):=[(wb,oD a r (some ⟨rb,0,none⟩) (some ⟨xb,0,none⟩)),(rb,qI a),(xb,pR r)]
def zP(w:World)(a r wb n k:Nat)(M:DM)(e:Ending)(W':World):Prop:=e=.returned (.bool true)∧∃rb xb,PlayB w a r W' n M k M (KS a r wb rb xb)
def FW(w:World)(a r n n' k k':Nat)(m M:DM)(Ks:List (Nat×Obj))(j:Nat)(W:World):Prop:=PlayB w a r W (if j=0 then n else n') (if j=0 then m else M) (if j≤1 then k else k') (if j≤1 then m else M) Ks
def GW(W3:World)(q:Nat)(E:List UInt8)(j:Nat)(W:World):Prop:=Below W3.heap.size W3 W∧(1≤j→W3.heap.size≤q)∧(j=1→W.heap[q]?=some (.cells z32 33 (0,0)))∧(2≤j→W.heap[q]?=some (.cells (E.map lG).toArray 33 (0,0)))
section
variable {w W W' W3:World} {a r n n' k k' wb ob q:Nat} {rp xp:Option Addr} {m M:DM} {Ks:List (Nat×Obj)} {ds:List (List Nat)} {cs:List Nat} {L:Nat→Bool}
theorem Chn.rds{o:OpR}{kv:Value}(h:Chn ds cs (FW w a r n n' k k' m M Ks) L W)(hm:(wb,oD a r rp xp)∈Ks)(ho:(ob,opO o kv)∈Ks)(h32:o.dig.length=32):
  W.cell? ⟨wb,2,none⟩=some (.pointer rp)∧W.cell? ⟨wb,3,none⟩=some (.pointer xp)∧W.cell? ⟨ob,1,none⟩=some (.string o.name)∧W.rangeAt ob 2 (o.dig.map lG):=by
 obtain⟨j,hj,-⟩:=h.st;unfold FW at hj;obtain⟨-,-,c2,c3⟩:=hj.wcel wb hm;obtain⟨-,d1,-,-,-⟩:=hj.ocel ob ho h32;exact⟨c2,c3,d1,hj.odig ob ho h32⟩
theorem GW.below{E:List UInt8}{j:Nat}(h:GW W3 q E j W)(hb:Below W.heap.size W W'):GW W3 q E j W':=by
 obtain⟨h1,h2,h3,h4⟩:=h;exact⟨h1.trans (hb.mono h1.size),h2,fun e=>(hb.block q (lH (h3 e))).trans (h3 e),fun e=>(hb.block q (lH (h4 e))).trans (h4 e)⟩
theorem AT{E:List UInt8}(h:Chn ds cs (GW W3 q E) L W):Below W3.heap.size W3 W:=by
 obtain⟨j,hj,-⟩:=h.st;exact hj.1
end
theorem Cm{w:World}{b:Nat}{c0 c1 c2 c3 v2 v3:Value}{t:TypeId}(h:w.heap[b]?=some (.cells #[c0,c1,c2,c3] t (0,0))):(w.setCell ⟨b,2,none⟩ v2).setCell ⟨b,3,none⟩ v3=setBlk w b (.cells #[c0,c1,v2,v3] t (0,0)):=by
 have hb:=lH h;simp only[lY h,mM hb]
 rfl
theorem JF{w:World}{g o n:Nat}{cur:Array Value}{t:TypeId}(h:w.heap[g]?=some (.cells cur t (0,0)))(hs:o+n≤cur.size):w.there g o n:=fun j hj=>by
 refine⟨?_,lI h⟩;rw[lF h,Array.getElem?_eq_getElem (show o+j<cur.size by omega)]
 rfl
theorem Aq{g:Nat}{t:TypeId}:∀(vs:List Value) (o:Nat) (cur:Array Value) (w:World),w.heap[g]?=some (.cells cur t (0,0))→w.setCells g o vs=setBlk w g (.cells (uL cur o vs) t (0,0))
 |[],_,_,_,h=>(EM h).symm
 |v::r,o,cur,w,h=>by
  rw[World.setCells,lY h,Aq r (o+1) _ _ (lM (lH h)),yW]
  rfl
theorem Ml{E:List UInt8}(hE:E.length=32):uL z32 0 (E.map lG)=(E.map lG).toArray:=by
 have hl:(E.map lG).length=32:=by rw[List.length_map,hE]
 refine Array.ext_getElem? fun j=>?_
 rw[Di z32 0 (E.map lG) (by rw[hl];exact Nat.le_refl _),hl];have e:(E.map lG).toArray[j]?=(E.map lG)[j]?:=by rw[List.getElem?_toArray]
 rw[e];by_cases hj:j<32
 ·rw[if_pos ⟨Nat.zero_le _,aC⟩,Nat.sub_zero]
 ·rw[if_neg aC,List.getElem?_eq_none iV];exact Array.getElem?_eq_none (show z32.size≤j from Nat.not_lt.1 hj)
theorem zE{W:World}{q:Nat}{E:List UInt8}(hE:E.length=32)(h:W.heap[q]?=some (.cells z32 33 (0,0))):
  (Instr.storeAt 33 (.pointer (some ⟨q,0,none⟩)) (.agg (E.map lG).toArray)).run Tryz.prog W=.ok () (setBlk W q (.cells (E.map lG).toArray 33 (0,0))):=by
 have hl:(E.map lG).length=32:=by rw[List.length_map,hE]
 rw[run_storeAt_mid (P:=Tryz.prog) W q 0 33 (E.map lG).toArray (by rw[List.size_toArray,hl];exact JF h (Nat.le_refl _)) (lX hE) (nW E)];rw[Aq _ 0 z32 W h,List.toList_toArray,Ml hE]
theorem JG{w W:World}{a r n k wb rb xb N:Nat}{m:DM}(h:PlayB w a r W n m k m (KS a r wb rb xb))(hwb:w.heap.size≤wb)(hG:ErrT w)(hT:TabP m N)(hn:n+N+9≤1000000000)(hk:k+N+9≤1000000000)
  (o:OpR) (kv:Value) (hF:o.Fits) (hkv:IntsIn w kv o.keep) (hK:o.kind=1):
  Calls Tryz.prog 20 #[.pointer (some ⟨wb,0,none⟩),.agg (o.cells kv).toArray] W (zP w a r wb (n+N+9) (k+N+9) (sD m o.kind o.name o.dig o.text o.num o.keep)):=by
 have HOF:=hZ hF;have HKV:=hZ hkv
 obtain⟨h32,f1,f2,f3,f4,f5⟩:=hF
 obtain⟨ob,hob⟩:∃b,W.heap.size=b:=⟨_,rfl⟩
 obtain⟨W0,hW0⟩:∃W0,W.alloc (opO o kv)=W0:=⟨_,rfl⟩
 have hp0:=h.keep (c:=ob) (o:=opO o kv) (W':=W0) aN bN bF;have hW0':W.alloc (.cells (o.cells kv).toArray 53)=W0:=hW0
 obtain⟨Ks,hKs⟩:∃Ks,(ob,opO o kv)::KS a r wb rb xb=Ks:=⟨_,rfl⟩
 have HSUB:Hid (∀q∈KS a r wb rb xb,q∈Ks):=hZ (fun q hq=>bG);have HMO:Hid ((ob,opO o kv)∈Ks):=hZ bJ
 have HMW:Hid ((wb,oD a r (some ⟨rb,0,none⟩) (some ⟨xb,0,none⟩))∈Ks):=hZ aP;have HMR:Hid ((rb,qI a)∈Ks):=hZ aP
 have HMX:Hid ((xb,pR r)∈Ks):=hZ aP;rw[hKs]at hp0;have HP0:=hZ hp0
 have HWZ:=hZ hwb;have HG:=hZ hG
 have HT:=hZ hT;have HNK:=hZ (show n+N+9≤1000000000∧k+N+9≤1000000000 from⟨hn,hk⟩)
 have HD32:=hZ h32;have HFN:=hZ f3
 have HKD:=hZ hK
 obtain⟨C,hC⟩:∃C,(o.cells kv).toArray=C:=⟨_,rfl⟩
 rw[hC]at hW0'⊢;have e0:=HP0.out.ocel ob HMO.out HD32.out
 obtain⟨a0,a1,-,-,-⟩:=e0
 obtain⟨nm,hnm⟩:∃nm,o.name=nm:=⟨_,rfl⟩
 obtain⟨D,hD⟩:∃D,o.dig=D:=⟨_,rfl⟩
 rw[hnm]at a1 HFN⊢;rw[hD]at HD32⊢;have HNM:=hZ hnm
 have HDD:=hZ hD
 obtain⟨M,hM⟩:∃M,(tX m nm.data.toList D).1=M:=⟨_,rfl⟩
 obtain⟨z,hz⟩:∃z,(tX m nm.data.toList D).2=z:=⟨_,rfl⟩
 have hcz:Code z:=by rw[←hz];exact Jl _ _ _
 have hpm:sD m o.kind nm D o.text o.num o.keep=M:=by rw[←hM,hK];rfl
 have HPM:=hZ hpm;have HZC:=hZ hcz
 have HM:=hZ hM;have HZ:=hZ hz
 obtain⟨n',hn'⟩:∃x,n+7=x:=⟨_,rfl⟩
 obtain⟨k',hk'⟩:∃x,k+7=x:=⟨_,rfl⟩
 have HN9:Hid (n'≤n+N+9∧k'≤k+N+9):=hZ ⟨aC,aC⟩;have HN':=hZ hn'
 have HK':=hZ hk';have hI:=oM HD32.out
 have hU:=nD;rw[hK]at a0;clear h hp0 hwb hG hT hn hk hW0 hKs h32 f1 f2 f3 f4 f5 hkv hC hnm hD hM hz hcz hpm hn' hk' hK;go_enter Tryz.func20,Tryz.ntmps20;go_wp2_with (rw[hW0']);clear a0 a1;have hI0:Chn [[],[0],[1],[2],[],[4],[],[6],[3,5,7],[],[9],[10],[11],[],[13],[],[15],[12,14,16,8],[8,17,17],[18,18,0,1,2,3,4,5,6,7,8,9,10,11,12,13,14,15,16,17,18]] [8,17,18] (FW w a r n n' k k' m M Ks) (fun _=>false) W0.drew:=Chn.start (show PlayB w a r W0.drew n m k m Ks from HP0.out.dr 1)
 refine lQ (fun γ:ByteArray=>[.pointer (some ⟨wb,0,none⟩),.pointer (some ⟨wb,0,none⟩),.pointer (some ⟨wb,2,none⟩),.pointer (some ⟨rb,0,none⟩),.pointer (some ⟨ob,1,none⟩),.string nm,.pointer (some ⟨ob,2,none⟩),.agg (D.map lG).toArray,nT γ z,.pointer (some ⟨wb,0,none⟩),.pointer (some ⟨wb,0,none⟩),.pointer (some ⟨wb,3,none⟩),.pointer (some ⟨xb,0,none⟩),.pointer (some ⟨ob,1,none⟩),.string nm,.pointer (some ⟨ob,2,none⟩),.agg (D.map lG).toArray,.int .i64 z,.bool true,.bool true]) (fun L _ W=>Chn [[],[0],[1],[2],[],[4],[],[6],[3,5,7],[],[9],[10],[11],[],[13],[],[15],[12,14,16,8],[8,17,17],[18,18,0,1,2,3,4,5,6,7,8,9,10,11,12,13,14,15,16,17,18]] [8,17,18] (FW w a r n n' k k' m M Ks) L W)
  [[],[0],[1],[2],[],[4],[],[6],[3,5,7],[],[9],[10],[11],[],[13],[],[15],[12,14,16,8],[8,17,17],[18,18,0,1,2,3,4,5,6,7,8,9,10,11,12,13,14,15,16,17,18]] 181 ⟨#[]⟩ mC rfl aE (fun _=>rfl) hI0 ?_ ?_
 ·refine⟨?_,?_,?_,?_,?_,?_,?_,?_,?_,?_,?_,?_,?_,?_,?_,?_,?_,?_,?_,?_,rfl⟩
  all_goals intro L γ W ev hL hd hW hc hf hg he h0
  ·have e0:ev (.tmp 0)=.pointer (some ⟨wb,0,none⟩):=h0 0 rfl;clear he h0 hc hf hg;exact fK
  ·have e23:ev (.tmp 23)=.pointer (some ⟨wb,0,none⟩):=he 0 aA _ 23 rfl rfl;clear he h0 hc hf hg;exact fJ
  ·have e24:ev (.tmp 24)=.pointer (some ⟨wb,0,none⟩):=he 1 aA _ 24 rfl rfl;clear he h0 hc hf hg;exact eW
  ·have e25:ev (.tmp 25)=.pointer (some ⟨wb,2,none⟩):=he 2 aA _ 25 rfl rfl;obtain⟨r2,r3,r1,rD⟩:=hW.rds HMW.out HMO.out aS;rw[HNM.out]at r1;rw[HDD.out]at rD;clear he h0 hc hf hg;exact eV
  ·have e3:ev (.tmp 3)=.pointer (some ⟨ob,0,none⟩):=h0 3 rfl;clear he h0 hc hf hg;exact eU
  ·have e27:ev (.tmp 27)=.pointer (some ⟨ob,1,none⟩):=he 4 aA _ 27 rfl rfl;obtain⟨r2,r3,r1,rD⟩:=hW.rds HMW.out HMO.out aS;rw[HNM.out]at r1;rw[HDD.out]at rD;clear he h0 hc hf hg;exact eS
  ·have e3:ev (.tmp 3)=.pointer (some ⟨ob,0,none⟩):=h0 3 rfl;clear he h0 hc hf hg;exact flS rfl aD (hW.upd 6 aA hd) rfl
  ·have e29:ev (.tmp 29)=.pointer (some ⟨ob,2,none⟩):=he 6 aA _ 29 rfl rfl;clear he h0 hc hg;obtain⟨r2,r3,r1,rD⟩:=hW.rds HMW.out HMO.out aS;rw[HNM.out]at r1;rw[HDD.out]at rD;have hlv:=run_loadVar_mid (P:=Tryz.prog) W ob 2 33 (D.map lG) _ rD hU rfl hI
   refine .inl ⟨rfl,.inl ⟨_,W,?_,.still (hW.upd 7 aA hd) rfl⟩⟩;unfold execOp;simp only[e29,Instr.loadAt,Instr.sureAddr,Sem.run_bind,Sem.run_pure,Result.andThen_ok,hlv]
   try rfl
  ·have e26:ev (.tmp 26)=.pointer (some ⟨rb,0,none⟩):=he 3 aA _ 26 rfl rfl;have e28:ev (.tmp 28)=.string nm:=he 5 aA _ 28 rfl rfl
   have e30:ev (.tmp 30)=.agg (D.map lG).toArray:=he 7 aA _ 30 rfl rfl;clear he h0 hc hg;refine .inl ⟨rfl,.inr (.inr ⟨15,#[.pointer (some ⟨rb,0,none⟩),.string nm,nH D],W,iD,?_⟩)⟩;have hF:=hW.at 0 aA hL (.inl rfl)
   refine((show Calls _ _ _ W _ from(by
    have hp1:=(show PlayB w a r W n m k m Ks from hF).pset HMR.out cR nm eM D HD32.out;rw[HM.out,HZ.out,HN'.out]at hp1;exact hp1))).mono ?_
   rintro e w' ⟨⟨t,rfl⟩,hp⟩;refine⟨_,rfl,t,hW.done aA 0 aA hL (.inl rfl) hd (show FW w a r n n' k k' m M Ks 1 w' from hp),rfl,fun j hj=>?_⟩;have hj2:j≠8:=fun e=>cS
   match j,hj2 with
   |0,_=>rfl
   |1,_=>rfl
   |2,_=>rfl
   |3,_=>rfl
   |4,_=>rfl
   |5,_=>rfl
   |6,_=>rfl
   |7,_=>rfl
   |9,_=>rfl
   |10,_=>rfl
   |11,_=>rfl
   |12,_=>rfl
   |13,_=>rfl
   |14,_=>rfl
   |15,_=>rfl
   |16,_=>rfl
   |17,_=>rfl
   |18,_=>rfl
   |19,_=>rfl
   |8,h=>exact absurd rfl h
   |n+20,_=>rfl
  ·have e0:ev (.tmp 0)=.pointer (some ⟨wb,0,none⟩):=h0 0 rfl;clear he h0 hc hf hg;exact gU
  ·have e32:ev (.tmp 32)=.pointer (some ⟨wb,0,none⟩):=he 9 aA _ 32 rfl rfl;clear he h0 hc hf hg;exact gN
  ·have e33:ev (.tmp 33)=.pointer (some ⟨wb,0,none⟩):=he 10 aA _ 33 rfl rfl;clear he h0 hc hf hg;exact gM
  ·have e34:ev (.tmp 34)=.pointer (some ⟨wb,3,none⟩):=he 11 aA _ 34 rfl rfl;obtain⟨r2,r3,r1,rD⟩:=hW.rds HMW.out HMO.out aS;rw[HNM.out]at r1;rw[HDD.out]at rD;clear he h0 hc hf hg;exact eN
  ·have e3:ev (.tmp 3)=.pointer (some ⟨ob,0,none⟩):=h0 3 rfl;clear he h0 hc hf hg;exact flS rfl aD (hW.upd 13 aA hd) rfl
  ·have e36:ev (.tmp 36)=.pointer (some ⟨ob,1,none⟩):=he 13 aA _ 36 rfl rfl;obtain⟨r2,r3,r1,rD⟩:=hW.rds HMW.out HMO.out aS;rw[HNM.out]at r1;rw[HDD.out]at rD;clear he h0 hc hf hg;exact flS rfl aD (hW.upd 14 aA hd) rfl
  ·have e3:ev (.tmp 3)=.pointer (some ⟨ob,0,none⟩):=h0 3 rfl;clear he h0 hc hf hg;exact flS rfl aD (hW.upd 15 aA hd) rfl
  ·have e38:ev (.tmp 38)=.pointer (some ⟨ob,2,none⟩):=he 15 aA _ 38 rfl rfl;clear he h0 hc hg;obtain⟨r2,r3,r1,rD⟩:=hW.rds HMW.out HMO.out aS;rw[HNM.out]at r1;rw[HDD.out]at rD;have hlv:=run_loadVar_mid (P:=Tryz.prog) W ob 2 33 (D.map lG) _ rD hU rfl hI
   refine .inl ⟨rfl,.inl ⟨_,W,?_,.still (hW.upd 16 aA hd) rfl⟩⟩;unfold execOp;simp only[e38,Instr.loadAt,Instr.sureAddr,Sem.run_bind,Sem.run_pure,Result.andThen_ok,hlv]
   try rfl
  ·have e35:ev (.tmp 35)=.pointer (some ⟨xb,0,none⟩):=he 12 aA _ 35 rfl rfl;have e37:ev (.tmp 37)=.string nm:=he 14 aA _ 37 rfl rfl
   have e39:ev (.tmp 39)=.agg (D.map lG).toArray:=he 16 aA _ 39 rfl rfl;clear he h0 hc hg;refine .inl ⟨rfl,.inr (.inr ⟨57,#[.pointer (some ⟨xb,0,none⟩),.string nm,nH D],W,(by have hff:=hf 57;clear hf;go_simp<;>rfl),?_⟩)⟩;have hF:=hW.at 1 aA hL (.inr (hd 8 aA))
   refine((show Calls _ _ _ W _ from(by
    have hp1:=(show PlayB w a r W n' M k m Ks from hF).rset HMX.out cR nm eM D HD32.out;rw[HM.out,HZ.out,HK'.out]at hp1;exact hp1))).mono ?_
   rintro e w' ⟨rfl,hp⟩;exact⟨_,rfl,.still (hW.done aA 1 aA hL (.inr (hd 8 aA)) hd (show FW w a r n n' k k' m M Ks 2 w' from hp)) rfl⟩
  ·have e31:ev (.tmp 31)=nT γ z:=he 8 aA _ 31 rfl rfl;have e40:ev (.tmp 40)=.int .i64 z:=he 17 aA _ 40 rfl rfl
   clear he h0 hc hg;refine .inl ⟨rfl,.inr (.inr ⟨10,#[nT γ z,.int .i64 z],W,(by have hff:=hf 10;clear hf;go_simp<;>rfl),?_⟩)⟩;have hF:=hW.at 2 aA hL (.inr (hd 17 aA))
   have hF2:PlayB w a r W n' M k' M Ks:=hF;refine(oQ γ z HZC.out z W (HG.out.below hF2.toB HG.out.2)).mono ?_;rintro e w' ⟨rfl,hb⟩;exact⟨_,rfl,.still (hW.done aA 2 aA hL (.inr (hd 17 aA)) hd (show FW w a r n n' k k' m M Ks 3 w' from hF2.bel hb)) (by rw[beq_self_eq_true];rfl)⟩
  ·have e41:ev (.tmp 41)=.bool true:=he 18 aA _ 41 rfl rfl;clear he h0 hc hf hg;exact flS rfl aD (hW.upd 19 aA hd) rfl
 intro γ L w5 hL hW
 have HP5:Hid (PlayB w a r w5 n' M k' M Ks):=hZ (hW.fin (fun c hc=>hL c (by
  have h9:c=8∨c=17∨c=18:=bM;show c<20
  omega)))
 clear hL hW hI0;simp only[nX,Act.put,List.setIfInBounds_toArray,List.set_cons_succ,List.set_cons_zero];go_wp2_with fail;go_ret;exact gY
theorem JH{w W:World}{a r n k wb rb xb N:Nat}{m:DM}(h:PlayB w a r W n m k m (KS a r wb rb xb))(hwb:w.heap.size≤wb)(hG:ErrT w)(hT:TabP m N)(hn:n+N+9≤1000000000)(hk:k+N+9≤1000000000)
  (o:OpR) (kv:Value) (hF:o.Fits) (hkv:IntsIn w kv o.keep) (hK:o.kind=2):
  Calls Tryz.prog 20 #[.pointer (some ⟨wb,0,none⟩),.agg (o.cells kv).toArray] W (zP w a r wb (n+N+9) (k+N+9) (sD m o.kind o.name o.dig o.text o.num o.keep)):=by
 have HOF:=hZ hF;have HKV:=hZ hkv
 obtain⟨h32,f1,f2,f3,f4,f5⟩:=hF
 obtain⟨ob,hob⟩:∃b,W.heap.size=b:=⟨_,rfl⟩
 obtain⟨W0,hW0⟩:∃W0,W.alloc (opO o kv)=W0:=⟨_,rfl⟩
 have hp0:=h.keep (c:=ob) (o:=opO o kv) (W':=W0) aN bN bF;have hW0':W.alloc (.cells (o.cells kv).toArray 53)=W0:=hW0
 obtain⟨Ks,hKs⟩:∃Ks,(ob,opO o kv)::KS a r wb rb xb=Ks:=⟨_,rfl⟩
 have HSUB:Hid (∀q∈KS a r wb rb xb,q∈Ks):=hZ (fun q hq=>bG);have HMO:Hid ((ob,opO o kv)∈Ks):=hZ bJ
 have HMW:Hid ((wb,oD a r (some ⟨rb,0,none⟩) (some ⟨xb,0,none⟩))∈Ks):=hZ aP;have HMR:Hid ((rb,qI a)∈Ks):=hZ aP
 have HMX:Hid ((xb,pR r)∈Ks):=hZ aP;rw[hKs]at hp0;have HP0:=hZ hp0
 have HWZ:=hZ hwb;have HG:=hZ hG
 have HT:=hZ hT;have HNK:=hZ (show n+N+9≤1000000000∧k+N+9≤1000000000 from⟨hn,hk⟩)
 have HD32:=hZ h32;have HFN:=hZ f3
 have HKD:=hZ hK
 obtain⟨C,hC⟩:∃C,(o.cells kv).toArray=C:=⟨_,rfl⟩
 rw[hC]at hW0'⊢;have e0:=HP0.out.ocel ob HMO.out HD32.out
 obtain⟨a0,a1,-,-,-⟩:=e0
 obtain⟨nm,hnm⟩:∃nm,o.name=nm:=⟨_,rfl⟩
 obtain⟨D,hD⟩:∃D,o.dig=D:=⟨_,rfl⟩
 rw[hnm]at a1 HFN⊢;rw[hD]at HD32⊢;have HNM:=hZ hnm
 have HDD:=hZ hD
 obtain⟨E,hE⟩:∃E,(wY m nm.data.toList).1=E:=⟨_,rfl⟩
 obtain⟨z,hz⟩:∃z,(wY m nm.data.toList).2=z:=⟨_,rfl⟩
 have hcz:Code z:=by rw[←hz];exact Jn _ _
 have hel:E.length=32:=by rw[←hE];exact KU _ _
 have hpm:sD m o.kind nm D o.text o.num o.keep=m:=by rw[hK];rfl
 have HPM:=hZ hpm;have HZC:=hZ hcz
 have HEL:=hZ hel;have HZ:Hid (wY m nm.data.toList=(E,z)):=hZ (by rw[←hE,←hz])
 have hIE:=oM HEL.out;have hU:=nD
 have hee:(E==E)=true:=beq_self_eq_true _;rw[hK]at a0;clear h hp0 hwb hG hT hn hk hW0 hKs h32 f1 f2 f3 f4 f5 hkv hC hnm hD hE hz hcz hel hpm hK;go_enter Tryz.func20,Tryz.ntmps20;go_wp2_with (rw[hW0']);clear a0 a1;have hI0:Chn [[],[0],[1],[2],[],[4],[3,5],[6],[7],[7],[],[10,8,6,0,1,2,3,4,5,6,7,8,10],[9,11,0,1,2,3,4,5,6,7,8,9,10,11]] [10,11] (GW W0 0 E) (fun _=>false) W0.drew:=Chn.start ⟨⟨rfl,rfl,rfl,Nat.le_refl _,fun _ _=>rfl⟩,fun h=>absurd h aA,fun h=>absurd h aA,fun h=>absurd h aA⟩
 refine lQ (fun γ:ByteArray×Nat=>[.pointer (some ⟨wb,0,none⟩),.pointer (some ⟨wb,0,none⟩),.pointer (some ⟨wb,2,none⟩),.pointer (some ⟨rb,0,none⟩),.pointer (some ⟨ob,1,none⟩),.string nm,.tuple #[nH E,nT γ.1 z],.tuple #[nH E,nT γ.1 z],nH E,nT γ.1 z,.pointer (some ⟨γ.2,0,none⟩),undef,nT γ.1 z]) (fun L γ W=>Chn [[],[0],[1],[2],[],[4],[3,5],[6],[7],[7],[],[10,8,6,0,1,2,3,4,5,6,7,8,10],[9,11,0,1,2,3,4,5,6,7,8,9,10,11]] [10,11] (GW W0 γ.2 E) L W)
  [[],[0],[1],[2],[],[4],[3,5],[6],[7],[7],[],[10,8,6,0,1,2,3,4,5,6,7,8,10],[9,11,0,1,2,3,4,5,6,7,8,9,10,11]] 181 (⟨#[]⟩,0) mC rfl aE (fun _=>rfl) hI0 ?_ ?_
 ·refine⟨?_,?_,?_,?_,?_,?_,?_,?_,?_,?_,?_,?_,?_,rfl⟩
  all_goals intro L γ W ev hL hd hW hc hf hg he h0
  ·have e0:ev (.tmp 0)=.pointer (some ⟨wb,0,none⟩):=h0 0 rfl;clear he h0 hc hf hg;exact fK
  ·have e45:ev (.tmp 45)=.pointer (some ⟨wb,0,none⟩):=he 0 aA _ 45 rfl rfl;clear he h0 hc hf hg;exact fJ
  ·have e46:ev (.tmp 46)=.pointer (some ⟨wb,0,none⟩):=he 1 aA _ 46 rfl rfl;clear he h0 hc hf hg;exact eW
  ·have e47:ev (.tmp 47)=.pointer (some ⟨wb,2,none⟩):=he 2 aA _ 47 rfl rfl;have hpb:=HP0.out.bel (AT hW)
   obtain⟨-,-,r2,r3⟩:=hpb.wcel wb HMW.out;clear he h0 hc hf hg;exact eV
  ·have e3:ev (.tmp 3)=.pointer (some ⟨ob,0,none⟩):=h0 3 rfl;clear he h0 hc hf hg;exact eU
  ·have e49:ev (.tmp 49)=.pointer (some ⟨ob,1,none⟩):=he 4 aA _ 49 rfl rfl;have hpb:=HP0.out.bel (AT hW)
   obtain⟨-,r1,-,-,-⟩:=hpb.ocel ob HMO.out aS;rw[HNM.out]at r1;clear he h0 hc hf hg;exact eS
  ·have e48:ev (.tmp 48)=.pointer (some ⟨rb,0,none⟩):=he 3 aA _ 48 rfl rfl;have e50:ev (.tmp 50)=.string nm:=he 5 aA _ 50 rfl rfl
   clear he h0 hc hg;have hpb:=HP0.out.bel (AT hW)
   have hcc:Calls Tryz.prog 38 #[.pointer (some ⟨rb,0,none⟩),.string nm] W _:=hpb.pget HMR.out nm eM;rw[HZ.out]at hcc;refine .inl ⟨rfl,.inr (.inr ⟨38,#[.pointer (some ⟨rb,0,none⟩),.string nm],W,(by have hff:=hf 38;clear hf;go_simp<;>rfl),?_⟩)⟩;refine hcc.mono ?_;rintro e w' ⟨⟨t,rfl⟩,hb2⟩;refine⟨_,rfl,(t,γ.2),hW.updW 6 aA hd (fun _ h=>h.below hb2),rfl,fun j hj=>?_⟩;have hj2:j≠6∧j≠7∧j≠9∧j≠12:=⟨fun e=>cS,fun e=>(by subst e;have h9:=hW.cl 7 hj 6 aA;rw[hL]at h9;cases h9),fun e=>(by subst e;have h9:=hW.cl 9 hj 7 aA;have h8:=hW.cl 7 h9 6 aA;rw[hL]at h8;cases h8),fun e=>(by subst e;have h9:=hW.cl 12 hj 6 aA;rw[hL]at h9;cases h9)⟩
   match j,hj2 with
   |0,_=>rfl
   |1,_=>rfl
   |2,_=>rfl
   |3,_=>rfl
   |4,_=>rfl
   |5,_=>rfl
   |8,_=>rfl
   |10,_=>rfl
   |11,_=>rfl
   |6,h=>exact absurd rfl h.1
   |7,h=>exact absurd rfl h.2.1
   |9,h=>exact absurd rfl h.2.2.1
   |12,h=>exact absurd rfl h.2.2.2
   |n+13,_=>rfl
  ·have e51:ev (.tmp 51)=.tuple #[nH E,nT γ.1 z]:=he 6 aA _ 51 rfl rfl;clear he h0 hc hf hg;exact eQ
  ·have e44:ev (.tmp 44)=.tuple #[nH E,nT γ.1 z]:=he 7 aA _ 44 rfl rfl;clear he h0 hc hf hg;exact gV
  ·have e44:ev (.tmp 44)=.tuple #[nH E,nT γ.1 z]:=he 7 aA _ 44 rfl rfl;clear he h0 hc hf hg;exact gU
  ·clear he h0 hc hg;have hF:=hW.at 0 aA hL (.inl rfl)
   refine .inl ⟨rfl,.inl ⟨_,W.alloc (.cells #[.int .u8 0,.int .u8 0,.int .u8 0,.int .u8 0,.int .u8 0,.int .u8 0,.int .u8 0,.int .u8 0,.int .u8 0,.int .u8 0,.int .u8 0,.int .u8 0,.int .u8 0,.int .u8 0,.int .u8 0,.int .u8 0,.int .u8 0,.int .u8 0,.int .u8 0,.int .u8 0,.int .u8 0,.int .u8 0,.int .u8 0,.int .u8 0,.int .u8 0,.int .u8 0,.int .u8 0,.int .u8 0,.int .u8 0,.int .u8 0,.int .u8 0,.int .u8 0] 33),aD,(γ.1,W.heap.size),hW.done (F':=GW W0 W.heap.size E) aA 0 aA hL (.inl rfl) hd ⟨hF.1.alloc hF.1.size _,fun _=>hF.1.size,fun _=>lP _ _,fun h=>absurd h aA⟩,rfl,fun j hj=>?_⟩⟩;have hj2:j≠10:=fun e=>cS
   match j,hj2 with
   |0,_=>rfl
   |1,_=>rfl
   |2,_=>rfl
   |3,_=>rfl
   |4,_=>rfl
   |5,_=>rfl
   |6,_=>rfl
   |7,_=>rfl
   |8,_=>rfl
   |9,_=>rfl
   |11,_=>rfl
   |12,_=>rfl
   |10,h=>exact absurd rfl h
   |n+13,_=>rfl
  ·have e5:ev (.tmp 5)=.pointer (some ⟨γ.2,0,none⟩):=he 10 aA _ 5 rfl rfl;have e52:ev (.tmp 52)=nH E:=he 8 aA _ 52 rfl rfl
   clear he h0 hc hg;have hF:=hW.at 1 aA hL (.inr (hd 10 aA))
   have hrs:=zE HEL.out (hF.2.2.1 rfl);refine .inl ⟨rfl,.inr (.inl ⟨setBlk W γ.2 (.cells (E.map lG).toArray 33 (0,0)),?_,.still (hW.done (F':=GW W0 γ.2 E) aA 1 aA hL (.inr (hd 10 aA)) hd ⟨hF.1.setBlk (hF.2.1 (Nat.le_refl _)),fun _=>hF.2.1 (Nat.le_refl _),fun h=>absurd h aA,fun _=>lM (lH (hF.2.2.1 rfl))⟩) rfl⟩)⟩;unfold execOp;unfold nH at e52;simp only[e5,e52,Sem.run_bind,Sem.run_pure,Result.andThen_ok,hrs]
   try rfl
  ·have e53:ev (.tmp 53)=nT γ.1 z:=he 9 aA _ 53 rfl rfl;clear he h0 hc hf hg;exact eN
 intro γ L W5 hL hW
 have hF:=hW.fin (fun c hc=>hL c (by
  have h9:c=10∨c=11:=bM;show c<13
  omega))
 have hF2:GW W0 γ.2 E 2 W5:=hF
 obtain⟨q1,hq1⟩:∃q,γ.2=q:=⟨_,rfl⟩
 obtain⟨tx,htx⟩:∃t,γ.1=t:=⟨_,rfl⟩
 rw[hq1]at hF2;have HP5:=hZ (HP0.out.keep hF2.1 (hF2.2.1 aA) (hF2.2.2.2 (Nat.le_refl _)))
 clear hL hI0 hF hF2;simp only[nX,Act.put,List.setIfInBounds_toArray,List.set_cons_succ,List.set_cons_zero];rw[hq1];rw[htx];clear hW;go_wp2_with fail;have hI0:Chn [[],[0],[1],[2],[],[4],[3,5],[6],[7],[7],[],[10,8,6,0,1,2,3,4,5,6,7,8,10],[9,11,0,1,2,3,4,5,6,7,8,9,10,11]] [10,11] (GW W5 0 E) (fun _=>false) W5.drew:=Chn.start ⟨⟨rfl,rfl,rfl,Nat.le_refl _,fun _ _=>rfl⟩,fun h=>absurd h aA,fun h=>absurd h aA,fun h=>absurd h aA⟩
 refine lQ (fun γ:Nat=>[.pointer (some ⟨wb,0,none⟩),.pointer (some ⟨wb,0,none⟩),.pointer (some ⟨wb,3,none⟩),.pointer (some ⟨xb,0,none⟩),.pointer (some ⟨ob,1,none⟩),.string nm,.tuple #[nH E,.int .i64 z],.tuple #[nH E,.int .i64 z],nH E,.int .i64 z,.pointer (some ⟨γ,0,none⟩),undef,.int .i64 z]) (fun L γ W=>Chn [[],[0],[1],[2],[],[4],[3,5],[6],[7],[7],[],[10,8,6,0,1,2,3,4,5,6,7,8,10],[9,11,0,1,2,3,4,5,6,7,8,9,10,11]] [10,11] (GW W5 γ E) L W)
  [[],[0],[1],[2],[],[4],[3,5],[6],[7],[7],[],[10,8,6,0,1,2,3,4,5,6,7,8,10],[9,11,0,1,2,3,4,5,6,7,8,9,10,11]] 181 0 mC rfl aE (fun _=>rfl) hI0 ?_ ?_
 ·refine⟨?_,?_,?_,?_,?_,?_,?_,?_,?_,?_,?_,?_,?_,rfl⟩
  all_goals intro L γ W ev hL hd hW hc hf hg he h0
  ·have e0:ev (.tmp 0)=.pointer (some ⟨wb,0,none⟩):=h0 0 rfl;clear he h0 hc hf hg;exact fK
  ·have e55:ev (.tmp 55)=.pointer (some ⟨wb,0,none⟩):=he 0 aA _ 55 rfl rfl;clear he h0 hc hf hg;exact fJ
  ·have e56:ev (.tmp 56)=.pointer (some ⟨wb,0,none⟩):=he 1 aA _ 56 rfl rfl;clear he h0 hc hf hg;exact eW
  ·have e57:ev (.tmp 57)=.pointer (some ⟨wb,3,none⟩):=he 2 aA _ 57 rfl rfl;have hpb:=HP5.out.bel (AT hW)
   obtain⟨-,-,r2,r3⟩:=hpb.wcel wb (List.mem_cons_of_mem _ HMW.out);clear he h0 hc hf hg;exact eV
  ·have e3:ev (.tmp 3)=.pointer (some ⟨ob,0,none⟩):=h0 3 rfl;clear he h0 hc hf hg;exact eU
  ·have e59:ev (.tmp 59)=.pointer (some ⟨ob,1,none⟩):=he 4 aA _ 59 rfl rfl;have hpb:=HP5.out.bel (AT hW)
   obtain⟨-,r1,-,-,-⟩:=hpb.ocel ob (List.mem_cons_of_mem _ HMO.out) aS;rw[HNM.out]at r1;clear he h0 hc hf hg;exact eS
  ·have e58:ev (.tmp 58)=.pointer (some ⟨xb,0,none⟩):=he 3 aA _ 58 rfl rfl;have e60:ev (.tmp 60)=.string nm:=he 5 aA _ 60 rfl rfl
   clear he h0 hc hg;have hpb:=HP5.out.bel (AT hW)
   have hcc:Calls Tryz.prog 58 #[.pointer (some ⟨xb,0,none⟩),.string nm] W _:=hpb.rget (List.mem_cons_of_mem _ HMX.out) cR nm eM;rw[HZ.out]at hcc;refine .inl ⟨rfl,.inr (.inr ⟨58,#[.pointer (some ⟨xb,0,none⟩),.string nm],W,(by have hff:=hf 58;clear hf;go_simp<;>rfl),?_⟩)⟩;refine hcc.mono ?_;rintro e w' ⟨rfl,hb2⟩;exact⟨_,rfl,.still (hW.updW 6 aA hd (fun _ h=>h.below hb2)) rfl⟩
  ·have e61:ev (.tmp 61)=.tuple #[nH E,.int .i64 z]:=he 6 aA _ 61 rfl rfl;clear he h0 hc hf hg;exact eQ
  ·have e54:ev (.tmp 54)=.tuple #[nH E,.int .i64 z]:=he 7 aA _ 54 rfl rfl;clear he h0 hc hf hg;exact gV
  ·have e54:ev (.tmp 54)=.tuple #[nH E,.int .i64 z]:=he 7 aA _ 54 rfl rfl;clear he h0 hc hf hg;exact gU
  ·clear he h0 hc hg;have hF:=hW.at 0 aA hL (.inl rfl)
   refine .inl ⟨rfl,.inl ⟨_,W.alloc (.cells #[.int .u8 0,.int .u8 0,.int .u8 0,.int .u8 0,.int .u8 0,.int .u8 0,.int .u8 0,.int .u8 0,.int .u8 0,.int .u8 0,.int .u8 0,.int .u8 0,.int .u8 0,.int .u8 0,.int .u8 0,.int .u8 0,.int .u8 0,.int .u8 0,.int .u8 0,.int .u8 0,.int .u8 0,.int .u8 0,.int .u8 0,.int .u8 0,.int .u8 0,.int .u8 0,.int .u8 0,.int .u8 0,.int .u8 0,.int .u8 0,.int .u8 0,.int .u8 0] 33),aD,W.heap.size,hW.done (F':=GW W5 W.heap.size E) aA 0 aA hL (.inl rfl) hd ⟨hF.1.alloc hF.1.size _,fun _=>hF.1.size,fun _=>lP _ _,fun h=>absurd h aA⟩,rfl,fun j hj=>?_⟩⟩;have hj2:j≠10:=fun e=>cS
   match j,hj2 with
   |0,_=>rfl
   |1,_=>rfl
   |2,_=>rfl
   |3,_=>rfl
   |4,_=>rfl
   |5,_=>rfl
   |6,_=>rfl
   |7,_=>rfl
   |8,_=>rfl
   |9,_=>rfl
   |11,_=>rfl
   |12,_=>rfl
   |10,h=>exact absurd rfl h
   |n+13,_=>rfl
  ·have e7:ev (.tmp 7)=.pointer (some ⟨γ,0,none⟩):=he 10 aA _ 7 rfl rfl;have e62:ev (.tmp 62)=nH E:=he 8 aA _ 62 rfl rfl
   clear he h0 hc hg;have hF:=hW.at 1 aA hL (.inr (hd 10 aA))
   have hrs:=zE HEL.out (hF.2.2.1 rfl);refine .inl ⟨rfl,.inr (.inl ⟨setBlk W γ (.cells (E.map lG).toArray 33 (0,0)),?_,.still (hW.done (F':=GW W5 γ E) aA 1 aA hL (.inr (hd 10 aA)) hd ⟨hF.1.setBlk (hF.2.1 (Nat.le_refl _)),fun _=>hF.2.1 (Nat.le_refl _),fun h=>absurd h aA,fun _=>lM (lH (hF.2.2.1 rfl))⟩) rfl⟩)⟩;unfold execOp;unfold nH at e62;simp only[e7,e62,Sem.run_bind,Sem.run_pure,Result.andThen_ok,hrs]
   try rfl
  ·have e63:ev (.tmp 63)=.int .i64 z:=he 9 aA _ 63 rfl rfl;clear he h0 hc hf hg;exact eN
 intro γ L W6 hL hW
 have hF:=hW.fin (fun c hc=>hL c (by
  have h9:c=10∨c=11:=bM;show c<13
  omega))
 have hF2:GW W5 γ E 2 W6:=hF
 obtain⟨q2,hq2⟩:∃q,γ=q:=⟨_,rfl⟩
 skip
 rw[hq2]at hF2;have HP6:=hZ (HP5.out.keep hF2.1 (hF2.2.1 aA) (hF2.2.2.2 (Nat.le_refl _)))
 clear hL hI0 hF hF2;simp only[nX,Act.put,List.setIfInBounds_toArray,List.set_cons_succ,List.set_cons_zero];rw[hq2]
 skip
 clear hW;have HR1:=hZ (oF (HP6.out.kept (q1,.cells (E.map lG).toArray 33 (0,0)) eZ))
 have HR2:=hZ (oF (HP6.out.kept (q2,.cells (E.map lG).toArray 33 (0,0)) eZ));have hpl:=oQ tx z HZC.out z W6 (HG.out.below HP6.out.toB HG.out.2)
 rw[beq_self_eq_true]at hpl;unfold nH;clear hq1 hq2 htx;go_wp2_with (first|refine wpList_load_mid rfl _ _ rfl q1 0 rfl (E.map lG) _ HR1.out hU rfl hIE ?_|(refine wpList_load_mid rfl _ _ rfl q2 0 rfl (E.map lG) _ HR2.out hU rfl hIE ?_;simp only[Act.put,List.setIfInBounds_toArray,List.set_cons_succ,List.set_cons_zero];refine Fc rfl _ _ _ rfl HEL.out HEL.out rfl rfl ?_;simp only[Act.put,List.setIfInBounds_toArray,List.set_cons_succ,List.set_cons_zero];rw[hee];clear hee hU hIE));refine hpl.mono ?_;rintro e w10 ⟨rfl,hb10⟩;have HPX:=hZ (HP6.out.bel hb10)
 clear hb10 hpl;go_wp2_with fail;go_ret;exact⟨rfl,rb,xb,by rw[HPM.out];exact(HPX.out.more cR cR).sub (fun q hq=>List.mem_cons_of_mem _ (List.mem_cons_of_mem _ (HSUB.out q hq)))⟩
theorem JI{w W:World}{a r n k wb rb xb N:Nat}{m:DM}(h:PlayB w a r W n m k m (KS a r wb rb xb))(hwb:w.heap.size≤wb)(hG:ErrT w)(hT:TabP m N)(hn:n+N+9≤1000000000)(hk:k+N+9≤1000000000)
  (o:OpR) (kv:Value) (hF:o.Fits) (hkv:IntsIn w kv o.keep) (hK:o.kind=3):
  Calls Tryz.prog 20 #[.pointer (some ⟨wb,0,none⟩),.agg (o.cells kv).toArray] W (zP w a r wb (n+N+9) (k+N+9) (sD m o.kind o.name o.dig o.text o.num o.keep)):=by
 have HOF:=hZ hF;have HKV:=hZ hkv
 obtain⟨h32,f1,f2,f3,f4,f5⟩:=hF
 obtain⟨ob,hob⟩:∃b,W.heap.size=b:=⟨_,rfl⟩
 obtain⟨W0,hW0⟩:∃W0,W.alloc (opO o kv)=W0:=⟨_,rfl⟩
 have hp0:=h.keep (c:=ob) (o:=opO o kv) (W':=W0) aN bN bF;have hW0':W.alloc (.cells (o.cells kv).toArray 53)=W0:=hW0
 obtain⟨Ks,hKs⟩:∃Ks,(ob,opO o kv)::KS a r wb rb xb=Ks:=⟨_,rfl⟩
 have HSUB:Hid (∀q∈KS a r wb rb xb,q∈Ks):=hZ (fun q hq=>bG);have HMO:Hid ((ob,opO o kv)∈Ks):=hZ bJ
 have HMW:Hid ((wb,oD a r (some ⟨rb,0,none⟩) (some ⟨xb,0,none⟩))∈Ks):=hZ aP;have HMR:Hid ((rb,qI a)∈Ks):=hZ aP
 have HMX:Hid ((xb,pR r)∈Ks):=hZ aP;rw[hKs]at hp0;have HP0:=hZ hp0
 have HWZ:=hZ hwb;have HG:=hZ hG
 have HT:=hZ hT;have HNK:=hZ (show n+N+9≤1000000000∧k+N+9≤1000000000 from⟨hn,hk⟩)
 have HD32:=hZ h32;have HFN:=hZ f3
 have HKD:=hZ hK
 obtain⟨C,hC⟩:∃C,(o.cells kv).toArray=C:=⟨_,rfl⟩
 rw[hC]at hW0'⊢;have e0:=HP0.out.ocel ob HMO.out HD32.out
 obtain⟨a0,a1,-,-,-⟩:=e0
 obtain⟨nm,hnm⟩:∃nm,o.name=nm:=⟨_,rfl⟩
 obtain⟨D,hD⟩:∃D,o.dig=D:=⟨_,rfl⟩
 rw[hnm]at a1 HFN⊢;rw[hD]at HD32⊢;have HNM:=hZ hnm
 have HDD:=hZ hD
 obtain⟨M,hM⟩:∃M,(uU m nm.data.toList).1=M:=⟨_,rfl⟩
 obtain⟨z,hz⟩:∃z,(uU m nm.data.toList).2=z:=⟨_,rfl⟩
 have hcz:Code z:=by rw[←hz];exact Jm _ _
 have hpm:sD m o.kind nm D o.text o.num o.keep=M:=by rw[←hM,hK];rfl
 have HPM:=hZ hpm;have HZC:=hZ hcz
 have HM:=hZ hM;have HZ:=hZ hz
 obtain⟨n',hn'⟩:∃x,n+2=x:=⟨_,rfl⟩
 obtain⟨k',hk'⟩:∃x,k+2=x:=⟨_,rfl⟩
 have HN9:Hid (n'≤n+N+9∧k'≤k+N+9):=hZ ⟨aC,aC⟩;have HN':=hZ hn'
 have HK':=hZ hk';have hI:=oM HD32.out
 have hU:=nD;rw[hK]at a0;clear h hp0 hwb hG hT hn hk hW0 hKs h32 f1 f2 f3 f4 f5 hkv hC hnm hD hM hz hcz hpm hn' hk' hK;go_enter Tryz.func20,Tryz.ntmps20;go_wp2_with (rw[hW0']);clear a0 a1;have hI0:Chn [[],[0],[1],[2],[],[4],[3,5],[],[7],[8],[9],[],[11],[10,12,6],[6,13,13],[14,14,0,1,2,3,4,5,6,7,8,9,10,11,12,13,14]] [6,13,14] (FW w a r n n' k k' m M Ks) (fun _=>false) W0.drew:=Chn.start (show PlayB w a r W0.drew n m k m Ks from HP0.out.dr 1)
 refine lQ (fun γ:ByteArray=>[.pointer (some ⟨wb,0,none⟩),.pointer (some ⟨wb,0,none⟩),.pointer (some ⟨wb,2,none⟩),.pointer (some ⟨rb,0,none⟩),.pointer (some ⟨ob,1,none⟩),.string nm,nT γ z,.pointer (some ⟨wb,0,none⟩),.pointer (some ⟨wb,0,none⟩),.pointer (some ⟨wb,3,none⟩),.pointer (some ⟨xb,0,none⟩),.pointer (some ⟨ob,1,none⟩),.string nm,.int .i64 z,.bool true,.bool true]) (fun L _ W=>Chn [[],[0],[1],[2],[],[4],[3,5],[],[7],[8],[9],[],[11],[10,12,6],[6,13,13],[14,14,0,1,2,3,4,5,6,7,8,9,10,11,12,13,14]] [6,13,14] (FW w a r n n' k k' m M Ks) L W)
  [[],[0],[1],[2],[],[4],[3,5],[],[7],[8],[9],[],[11],[10,12,6],[6,13,13],[14,14,0,1,2,3,4,5,6,7,8,9,10,11,12,13,14]] 181 ⟨#[]⟩ mC rfl aE (fun _=>rfl) hI0 ?_ ?_
 ·refine⟨?_,?_,?_,?_,?_,?_,?_,?_,?_,?_,?_,?_,?_,?_,?_,?_,rfl⟩
  all_goals intro L γ W ev hL hd hW hc hf hg he h0
  ·have e0:ev (.tmp 0)=.pointer (some ⟨wb,0,none⟩):=h0 0 rfl;clear he h0 hc hf hg;exact fK
  ·have e74:ev (.tmp 74)=.pointer (some ⟨wb,0,none⟩):=he 0 aA _ 74 rfl rfl;clear he h0 hc hf hg;exact fJ
  ·have e75:ev (.tmp 75)=.pointer (some ⟨wb,0,none⟩):=he 1 aA _ 75 rfl rfl;clear he h0 hc hf hg;exact eW
  ·have e76:ev (.tmp 76)=.pointer (some ⟨wb,2,none⟩):=he 2 aA _ 76 rfl rfl;obtain⟨r2,r3,r1,rD⟩:=hW.rds HMW.out HMO.out aS;rw[HNM.out]at r1;rw[HDD.out]at rD;clear he h0 hc hf hg;exact eV
  ·have e3:ev (.tmp 3)=.pointer (some ⟨ob,0,none⟩):=h0 3 rfl;clear he h0 hc hf hg;exact eU
  ·have e78:ev (.tmp 78)=.pointer (some ⟨ob,1,none⟩):=he 4 aA _ 78 rfl rfl;obtain⟨r2,r3,r1,rD⟩:=hW.rds HMW.out HMO.out aS;rw[HNM.out]at r1;rw[HDD.out]at rD;clear he h0 hc hf hg;exact eS
  ·have e77:ev (.tmp 77)=.pointer (some ⟨rb,0,none⟩):=he 3 aA _ 77 rfl rfl;have e79:ev (.tmp 79)=.string nm:=he 5 aA _ 79 rfl rfl
   clear he h0 hc hg;refine .inl ⟨rfl,.inr (.inr ⟨24,#[.pointer (some ⟨rb,0,none⟩),.string nm],W,(by have hff:=hf 24;clear hf;go_simp<;>rfl),?_⟩)⟩;have hF:=hW.at 0 aA hL (.inl rfl)
   refine((show Calls _ _ _ W _ from(by
    have hp1:=(show PlayB w a r W n m k m Ks from hF).pdel HMR.out cR nm eM;rw[HM.out,HZ.out,HN'.out]at hp1;exact hp1))).mono ?_
   rintro e w' ⟨⟨t,rfl⟩,hp⟩;refine⟨_,rfl,t,hW.done aA 0 aA hL (.inl rfl) hd (show FW w a r n n' k k' m M Ks 1 w' from hp),rfl,fun j hj=>?_⟩;have hj2:j≠6:=fun e=>cS
   match j,hj2 with
   |0,_=>rfl
   |1,_=>rfl
   |2,_=>rfl
   |3,_=>rfl
   |4,_=>rfl
   |5,_=>rfl
   |7,_=>rfl
   |8,_=>rfl
   |9,_=>rfl
   |10,_=>rfl
   |11,_=>rfl
   |12,_=>rfl
   |13,_=>rfl
   |14,_=>rfl
   |15,_=>rfl
   |6,h=>exact absurd rfl h
   |n+16,_=>rfl
  ·have e0:ev (.tmp 0)=.pointer (some ⟨wb,0,none⟩):=h0 0 rfl;clear he h0 hc hf hg;exact eQ
  ·have e81:ev (.tmp 81)=.pointer (some ⟨wb,0,none⟩):=he 7 aA _ 81 rfl rfl;clear he h0 hc hf hg;exact gV
  ·have e82:ev (.tmp 82)=.pointer (some ⟨wb,0,none⟩):=he 8 aA _ 82 rfl rfl;clear he h0 hc hf hg;exact gU
  ·have e83:ev (.tmp 83)=.pointer (some ⟨wb,3,none⟩):=he 9 aA _ 83 rfl rfl;obtain⟨r2,r3,r1,rD⟩:=hW.rds HMW.out HMO.out aS;rw[HNM.out]at r1;rw[HDD.out]at rD;clear he h0 hc hf hg;exact gN
  ·have e3:ev (.tmp 3)=.pointer (some ⟨ob,0,none⟩):=h0 3 rfl;clear he h0 hc hf hg;exact gM
  ·have e85:ev (.tmp 85)=.pointer (some ⟨ob,1,none⟩):=he 11 aA _ 85 rfl rfl;obtain⟨r2,r3,r1,rD⟩:=hW.rds HMW.out HMO.out aS;rw[HNM.out]at r1;rw[HDD.out]at rD;clear he h0 hc hf hg;exact eN
  ·have e84:ev (.tmp 84)=.pointer (some ⟨xb,0,none⟩):=he 10 aA _ 84 rfl rfl;have e86:ev (.tmp 86)=.string nm:=he 12 aA _ 86 rfl rfl
   clear he h0 hc hg;refine .inl ⟨rfl,.inr (.inr ⟨59,#[.pointer (some ⟨xb,0,none⟩),.string nm],W,(by have hff:=hf 59;clear hf;go_simp<;>rfl),?_⟩)⟩;have hF:=hW.at 1 aA hL (.inr (hd 6 aA))
   refine((show Calls _ _ _ W _ from(by
    have hp1:=(show PlayB w a r W n' M k m Ks from hF).rdel HMX.out cR nm eM;rw[HM.out,HZ.out,HK'.out]at hp1;exact hp1))).mono ?_
   rintro e w' ⟨rfl,hp⟩;exact⟨_,rfl,.still (hW.done aA 1 aA hL (.inr (hd 6 aA)) hd (show FW w a r n n' k k' m M Ks 2 w' from hp)) rfl⟩
  ·have e80:ev (.tmp 80)=nT γ z:=he 6 aA _ 80 rfl rfl;have e87:ev (.tmp 87)=.int .i64 z:=he 13 aA _ 87 rfl rfl
   clear he h0 hc hg;refine .inl ⟨rfl,.inr (.inr ⟨10,#[nT γ z,.int .i64 z],W,(by have hff:=hf 10;clear hf;go_simp<;>rfl),?_⟩)⟩;have hF:=hW.at 2 aA hL (.inr (hd 13 aA))
   have hF2:PlayB w a r W n' M k' M Ks:=hF;refine(oQ γ z HZC.out z W (HG.out.below hF2.toB HG.out.2)).mono ?_;rintro e w' ⟨rfl,hb⟩;exact⟨_,rfl,.still (hW.done aA 2 aA hL (.inr (hd 13 aA)) hd (show FW w a r n n' k k' m M Ks 3 w' from hF2.bel hb)) (by rw[beq_self_eq_true];rfl)⟩
  ·have e88:ev (.tmp 88)=.bool true:=he 14 aA _ 88 rfl rfl;clear he h0 hc hf hg;exact flS rfl aD (hW.upd 15 aA hd) rfl
 intro γ L w5 hL hW
 have HP5:Hid (PlayB w a r w5 n' M k' M Ks):=hZ (hW.fin (fun c hc=>hL c (by
  have h9:c=6∨c=13∨c=14:=bM;show c<16
  omega)))
 clear hL hW hI0;simp only[nX,Act.put,List.setIfInBounds_toArray,List.set_cons_succ,List.set_cons_zero];go_wp2_with fail;go_ret;exact gY
theorem Hs{w W:World}{a r n k wb rb xb N:Nat}{m:DM}(h:PlayB w a r W n m k m (KS a r wb rb xb))(hwb:w.heap.size≤wb)(hG:ErrT w)(hT:TabP m N)(hn:n+N+9≤1000000000)(hk:k+N+9≤1000000000)
  (o:OpR) (kv:Value) (hF:o.Fits) (hkv:IntsIn w kv o.keep) (hK:o.kind=5):
  Calls Tryz.prog 20 #[.pointer (some ⟨wb,0,none⟩),.agg (o.cells kv).toArray] W (zP w a r wb (n+N+9) (k+N+9) (sD m o.kind o.name o.dig o.text o.num o.keep)):=by
 have HOF:=hZ hF;have HKV:=hZ hkv
 obtain⟨h32,f1,f2,f3,f4,f5⟩:=hF
 obtain⟨ob,hob⟩:∃b,W.heap.size=b:=⟨_,rfl⟩
 obtain⟨W0,hW0⟩:∃W0,W.alloc (opO o kv)=W0:=⟨_,rfl⟩
 have hp0:=h.keep (c:=ob) (o:=opO o kv) (W':=W0) aN bN bF;have hW0':W.alloc (.cells (o.cells kv).toArray 53)=W0:=hW0
 obtain⟨Ks,hKs⟩:∃Ks,(ob,opO o kv)::KS a r wb rb xb=Ks:=⟨_,rfl⟩
 have HSUB:Hid (∀q∈KS a r wb rb xb,q∈Ks):=hZ (fun q hq=>bG);have HMO:Hid ((ob,opO o kv)∈Ks):=hZ bJ
 have HMW:Hid ((wb,oD a r (some ⟨rb,0,none⟩) (some ⟨xb,0,none⟩))∈Ks):=hZ aP;have HMR:Hid ((rb,qI a)∈Ks):=hZ aP
 have HMX:Hid ((xb,pR r)∈Ks):=hZ aP;rw[hKs]at hp0;have HP0:=hZ hp0
 have HWZ:=hZ hwb;have HG:=hZ hG
 have HT:=hZ hT;have HNK:=hZ (show n+N+9≤1000000000∧k+N+9≤1000000000 from⟨hn,hk⟩)
 have HD32:=hZ h32;have HFN:=hZ f3
 have HKD:=hZ hK
 obtain⟨C,hC⟩:∃C,(o.cells kv).toArray=C:=⟨_,rfl⟩
 rw[hC]at hW0'⊢;have e0:=HP0.out.ocel ob HMO.out HD32.out
 obtain⟨a0,a1,-,-,-⟩:=e0
 obtain⟨nm,hnm⟩:∃nm,o.name=nm:=⟨_,rfl⟩
 obtain⟨D,hD⟩:∃D,o.dig=D:=⟨_,rfl⟩
 rw[hnm]at a1 HFN⊢;rw[hD]at HD32⊢;have HNM:=hZ hnm
 have HDD:=hZ hD
 obtain⟨⟨M,z⟩,hMz⟩:∃p,mX m=p:=⟨_,rfl⟩
 have hcz:Code z:=by have:=Hh m;rw[hMz]at this;exact this
 obtain⟨B,hB⟩:∃B,(qG m).length=B:=⟨_,rfl⟩
 have hbl:B≤N+1:=by rw[←hB];exact HT.out.bad
 have hpm:sD m o.kind nm D o.text o.num o.keep=M:=by
  have h9:sD m o.kind nm D o.text o.num o.keep=(mX m).1:=by rw[hK];rfl
  rw[h9,hMz]
 have HPM:=hZ hpm;have HZC:=hZ hcz
 have HMZ:=hZ hMz;have HB:=hZ hB
 have HBL:=hZ hbl;rw[hK]at a0;obtain⟨b0,b1,-,-⟩:=HP0.out.wcel wb HMW.out;have hp1:=HP0.out.popen cR HT.out.short
 rw[hMz,hB]at hp1;clear h hp0 hwb hG hT hn hk hW0 hKs h32 f1 f2 f3 f4 f5 hkv hC hnm hD hMz hcz hB hbl hpm hK;go_enter Tryz.func20,Tryz.ntmps20;go_wp2_with (rw[hW0']);refine hp1.mono ?_;by_cases h0:z=0
 ·subst h0;rintro e w6 ⟨v,rfl,hv⟩
  obtain⟨rb',rfl,hp6⟩:∃rb',v=.tuple #[.pointer (some ⟨rb',0,none⟩),.nilIface]∧PlayB w a r w6 (n+B+1) M k m ((rb',qI a)::Ks):=by
   rcases hv with⟨-,x⟩|⟨h9,-⟩
   ·exact x
   ·exact absurd rfl h9
  have HP6:=hZ hp6;clear hv hp6 hp1 b0 b1;obtain⟨b0,b1,-,-⟩:=HP6.out.wcel wb (List.mem_cons_of_mem _ HMW.out);have hp2:=HP6.out.ropen cR HT.out.short
  rw[HMZ.out,HB.out]at hp2;go_wp2_with fail;refine hp2.mono ?_;rintro e w7 ⟨v,rfl,hv⟩
  obtain⟨xb',rfl,hp7⟩:∃xb',v=.tuple #[.pointer (some ⟨xb',0,none⟩),.int .i64 0]∧PlayB w a r w7 (n+B+1) M (k+B+1) M ((xb',pR r)::(rb',qI a)::Ks):=by
   rcases hv with⟨-,x⟩|⟨h9,-⟩
   ·exact x
   ·exact absurd rfl h9
  have HP7:=hZ hp7;clear hv hp7 hp2 b0 b1;have hpl:=oQ ⟨#[]⟩ 0 (.inl rfl) 0 w7 (HG.out.below HP7.out.toB HG.out.2)
  rw[show nT ⟨#[]⟩ 0=.nilIface from rfl,beq_self_eq_true]at hpl;go_wp2_with fail;refine hpl.mono ?_;rintro e w8 ⟨rfl,hb8⟩;have HP8:=hZ (HP7.out.bel hb8)
  clear hb8 hpl;have hm8:(wb,oD a r (some ⟨rb,0,none⟩) (some ⟨xb,0,none⟩))∈(xb',pR r)::(rb',qI a)::Ks:=List.mem_cons_of_mem _ (List.mem_cons_of_mem _ HMW.out)
  have hk8:=HP8.out.kept _ hm8
  have hne1:rb'≠wb:=fun e=>by
   have h1:=HP8.out.kept (rb',qI a) eZ;rw[e]at h1;have h2:=h1.symm.trans hk8
   unfold oD qI at h2;simp at h2
  have hne2:xb'≠wb:=fun e=>by
   have h1:=HP8.out.kept (xb',pR r) eZ;rw[e]at h1;have h2:=h1.symm.trans hk8
   unfold oD pR at h2;simp at h2
  have hps:=HP8.out.set (b:=wb) (o:=oD a r (some ⟨rb,0,none⟩) (some ⟨xb,0,none⟩)) (o':=oD a r (some ⟨rb',0,none⟩) (some ⟨xb',0,none⟩)) hm8 HWZ.out (KS a r wb rb' xb') (fun q hq=>by
   simp only[KS,List.mem_cons,List.not_mem_nil,or_false]at hq;rcases hq with rfl|rfl|rfl
   ·exact .inl rfl
   ·exact .inr ⟨eZ,hne1⟩
   ·exact .inr ⟨eZ,hne2⟩)
  have hst:(w8.setCell ⟨wb,2,none⟩ (.pointer (some ⟨rb',0,none⟩))).setCell ⟨wb,3,none⟩ (.pointer (some ⟨xb',0,none⟩))=setBlk w8 wb (oD a r (some ⟨rb',0,none⟩) (some ⟨xb',0,none⟩)):=Cm hk8;have HPS:=hZ hps
  have HST:=hZ hst;have c2:w8.cell? ⟨wb,2,none⟩=some (.pointer (some ⟨rb,0,none⟩)):=cD
  have c3:w8.cell? ⟨wb,3,none⟩=some (.pointer (some ⟨xb,0,none⟩)):=cD;have f2:w8.frozen? ⟨wb,2,none⟩=false:=cI
  have f3:w8.frozen? ⟨wb,3,none⟩=false:=cI;clear hm8 hk8 hne1 hne2 hps hst;go_wp2_with fail;rw[HST.out];go_ret;exact⟨rfl,rb',xb',by rw[HPM.out];exact HPS.out.more dG dG⟩
 ·rintro e w6 ⟨v,rfl,hv⟩
  obtain⟨t,rfl,hp6⟩:∃t,v=.tuple #[.pointer none,nT t z]∧PlayB w a r w6 (n+B+1) M k m Ks:=by
   rcases hv with⟨h9,-⟩|⟨-,x⟩
   ·exact absurd h9 h0
   ·exact x
  have HP6:=hZ hp6;clear hv hp6 hp1 b0 b1;obtain⟨b0,b1,-,-⟩:=HP6.out.wcel wb HMW.out;have hp2:=HP6.out.ropen cR HT.out.short
  rw[HMZ.out,HB.out]at hp2;go_wp2_with fail;refine hp2.mono ?_;rintro e w7 ⟨v,rfl,hv⟩
  obtain⟨rfl,hp7⟩:v=.tuple #[.pointer none,.int .i64 z]∧PlayB w a r w7 (n+B+1) M (k+B+1) M Ks:=by
   rcases hv with⟨h9,-⟩|⟨-,x⟩
   ·exact absurd h9 h0
   ·exact x
  have HP7:=hZ hp7;clear hv hp7 hp2 b0 b1;have hpl:=oQ t z HZC.out z w7 (HG.out.below HP7.out.toB HG.out.2)
  rw[beq_self_eq_true]at hpl;have hz1:((z:Int) !=0)=true:=by simpa using h0
  have hz2:((z:Int)==0)=false:=by simpa using h0
  go_wp2_with fail;refine hpl.mono ?_;rintro e w8 ⟨rfl,hb8⟩;have HP8:=hZ (HP7.out.bel hb8)
  clear hb8 hpl;go_wp2_with fail;go_ret;exact⟨rfl,rb,xb,by rw[HPM.out];exact(HP8.out.more dG dG).sub HSUB.out⟩
theorem Hu{w W:World}{a r n k wb rb xb N:Nat}{m:DM}(h:PlayB w a r W n m k m (KS a r wb rb xb))(hwb:w.heap.size≤wb)(hG:ErrT w)(hT:TabP m N)(hn:n+N+9≤1000000000)(hk:k+N+9≤1000000000)
  (o:OpR) (kv:Value) (hF:o.Fits) (hkv:IntsIn w kv o.keep) (hK:o.kind≠1∧o.kind≠2∧o.kind≠3∧o.kind≠4∧o.kind≠5):
  Calls Tryz.prog 20 #[.pointer (some ⟨wb,0,none⟩),.agg (o.cells kv).toArray] W (zP w a r wb (n+N+9) (k+N+9) (sD m o.kind o.name o.dig o.text o.num o.keep)):=by
 have HOF:=hZ hF;have HKV:=hZ hkv
 obtain⟨h32,f1,f2,f3,f4,f5⟩:=hF
 obtain⟨ob,hob⟩:∃b,W.heap.size=b:=⟨_,rfl⟩
 obtain⟨W0,hW0⟩:∃W0,W.alloc (opO o kv)=W0:=⟨_,rfl⟩
 have hp0:=h.keep (c:=ob) (o:=opO o kv) (W':=W0) aN bN bF;have hW0':W.alloc (.cells (o.cells kv).toArray 53)=W0:=hW0
 obtain⟨Ks,hKs⟩:∃Ks,(ob,opO o kv)::KS a r wb rb xb=Ks:=⟨_,rfl⟩
 have HSUB:Hid (∀q∈KS a r wb rb xb,q∈Ks):=hZ (fun q hq=>bG);have HMO:Hid ((ob,opO o kv)∈Ks):=hZ bJ
 have HMW:Hid ((wb,oD a r (some ⟨rb,0,none⟩) (some ⟨xb,0,none⟩))∈Ks):=hZ aP;have HMR:Hid ((rb,qI a)∈Ks):=hZ aP
 have HMX:Hid ((xb,pR r)∈Ks):=hZ aP;rw[hKs]at hp0;have HP0:=hZ hp0
 have HWZ:=hZ hwb;have HG:=hZ hG
 have HT:=hZ hT;have HNK:=hZ (show n+N+9≤1000000000∧k+N+9≤1000000000 from⟨hn,hk⟩)
 have HD32:=hZ h32;have HFN:=hZ f3
 have HKD:=hZ hK
 have hpm:sD m o.kind o.name o.dig o.text o.num o.keep=tH m o.kind o.name o.text o.num o.keep:=by
  unfold sD;rw[if_neg hK.1,if_neg hK.2.2.1,if_neg hK.2.2.2.2]
 rw[hpm];have hdk:=Lb HP0.out HMW.out cR cR o kv HOF.out HKV.out
 have hrg:W0.rangeAt ob 0 (o.cells kv):=fun j u hj=>by
  rw[Nat.zero_add,HP0.out.cel HMO.out j,List.getElem?_toArray];exact hj
 have HRG:=hZ hrg;have hoi:=Ak (kv:=kv) HD32.out
 have hou:Tryz.prog.underlying 53=some _:=Tryz.underlying53;have e0:=HP0.out.ocel ob HMO.out HD32.out
 obtain⟨a0,-,-,-,-⟩:=e0
 obtain⟨C,hC⟩:∃C,(o.cells kv)=C:=⟨_,rfl⟩
 rw[hC]at hW0' HRG hoi hdk⊢
 obtain⟨kd,hkd⟩:∃z,o.kind=z:=⟨_,rfl⟩
 obtain⟨M,hM⟩:∃M,tH m o.kind o.name o.text o.num o.keep=M:=⟨_,rfl⟩
 rw[hM]at hdk⊢;obtain⟨k1,k2,k3,k4,k5⟩:=hK;rw[hkd]at a0 k1 k2 k3 k4 k5;rw[hkd]at f1;obtain⟨f1a,f1b⟩:=f1;clear h hp0 hwb hG hT hn hk hW0 hKs h32 f2 f3 f4 f5 hkv hC hpm hrg hkd hM HKD;go_enter Tryz.func20,Tryz.ntmps20;go_wp2_with (first|rw[hW0']|refine wpList_load_mid rfl _ _ rfl ob 0 rfl C _ HRG.out hou rfl hoi ?_);refine hdk.mono ?_;rintro e w5 ⟨rfl,hp5⟩;have HP5:=hZ hp5
 clear hp5 hdk a0;go_wp2_with fail;go_ret;exact⟨rfl,rb,xb,(HP5.out.more aC aC).sub HSUB.out⟩
theorem JJ{w W:World}{a r n k wb:Nat}{rp xp:Option Addr}{m:DM}{Ks:List (Nat×Obj)}(h:PlayB w a r W n m k m Ks)(hwb:(wb,oD a r rp xp)∈Ks)(hs:m.Short)(hG:ErrT w)(hn:n≤1000000000)(hk:k≤1000000000):
  Calls Tryz.prog 21 #[.pointer (some ⟨wb,0,none⟩)] W fun e W'=>e=.returned (.bool true)∧Below w.heap.size w W':=by
 have HP0:=hZ h;have HMW:=hZ hwb
 have HS0:=hZ hs;have HG:=hZ hG
 have HNK:=hZ (show n≤1000000000∧k≤1000000000 from⟨hn,hk⟩);clear h hwb hs hG hn hk;go_enter Tryz.func21,Tryz.ntmps21;go_wp2_with fail;go_loopw [3] (fun iv wr=>∃i:Nat,i≤2∧iv=.int .i64 i∧∃m:DM,Hid (PlayB w a r wr n m k m Ks)∧Hid m.Short) (fun iv _=>2-(intOf iv).toNat)
 case atStart=>exact⟨0,aA,rfl,m,HP0,HS0⟩
 case round=>
  clear HP0 HS0;obtain⟨i,hi,rfl,m,HP,HS⟩:=hrel;by_cases hlt:(i:Int)<2
  ·obtain⟨b0,b1,-,-⟩:=HP.out.wcel wb HMW.out;have hc1:=HP.out.previve
   go_wp2_with fail;refine hc1.mono ?_;rintro e w1 ⟨rfl,hp⟩;have HP1:=hZ hp
   clear hp hc1 b0 b1;obtain⟨b0,b1,-,-⟩:=HP1.out.wcel wb HMW.out;have hc1:=HP1.out.rrevive
   go_wp2_with fail;refine hc1.mono ?_;rintro e w2 ⟨rfl,hp⟩;have HS2:Hid (m.revive.Short):=hZ HS.out
   obtain⟨M,hM⟩:∃M,m.revive=M:=⟨_,rfl⟩
   have hoff:M.off=false:=by rw[←hM];rfl
   rw[hM]at hp HS2;have HP2:=hZ hp
   have HOFF:=hZ hoff;clear hp hc1 b0 b1 hM hoff HP1;obtain⟨b0,b1,-,-⟩:=HP2.out.wcel wb HMW.out;have hls:=F4 HP2.out.ok HS2.out ⟨#[]⟩
   have hnl:=JE HP2.out.ok ⟨#[]⟩;have hc1:=HP2.out.pls ⟨#[]⟩ cR
   rw[HOFF.out,if_neg aA]at hc1
   obtain⟨L0,hL0⟩:∃l,M.lists ⟨#[]⟩=l:=⟨_,rfl⟩
   rw[hL0]at hc1 hls hnl
   obtain⟨N,hN⟩:∃N,L0.length=N:=⟨_,rfl⟩
   have HL0:=hZ hL0;have HN:=hZ hN
   have HLR:=hZ hls;have HL8:=hZ (show L0.length≤8000000000000 by have:=HNK.out;omega)
   have hNi:(N:Int)≤1000000000:=cR;clear hL0 hls hnl hN;go_wp2_with fail;refine hc1.mono ?_;rintro e w3 ⟨v,rfl,hv,hb3⟩;obtain⟨vp,vc,rfl⟩:=hv.rd.len;have hvr:=hv.rd
   rw[HN.out]at hvr⊢;have HV3:=hZ hvr
   have HP3:=hZ (HP2.out.bel hb3);clear hvr hv hb3 hc1 b0 b1;obtain⟨b0,b1,-,-⟩:=HP3.out.wcel wb HMW.out;have hc1:=HP3.out.rls HS2.out ⟨#[]⟩ (by show 0≤_;omega) cR
   rw[HOFF.out,if_neg aA,HL0.out]at hc1;go_wp2_with fail;refine hc1.mono ?_;rintro e w4 ⟨u,rfl,hg⟩;obtain⟨up,uc,rfl⟩:=hg.row.rd.len;have hgr:=hg.row.rd
   have hb4:=hg.bel;rw[HN.out]at hgr⊢;have HU4:=hZ hgr
   have HV4:=hZ (HV3.out.below hb4);have HP4:=hZ (HP3.out.bel hb4)
   clear hgr hg hb4 hc1 b0 b1;have hpl:=Ix 0 (.inl rfl) 0 w4 (HG.out.below HP4.out.toB HG.out.2)
   rw[beq_self_eq_true,show nG 0=.nilIface from rfl]at hpl;go_wp2_with fail;refine hpl.mono ?_;rintro e w5 ⟨rfl,hb5⟩;have HV5:=hZ (HV4.out.below hb5)
   have HU5:=hZ (HU4.out.below hb5);have HP5:=hZ (HP4.out.bel hb5)
   clear hb5 hpl;have hst:=G0 w5 (.slice vp N vc) (.slice up N uc) L0 L0 HV5.out HU5.out HL8.out
   rw[show Ac L0 L0=true from by unfold Ac;exact decide_eq_true rfl]at hst;go_wp2_with fail;refine hst.mono ?_;rintro e w6 ⟨rfl,hb6⟩;have HV6:=hZ (HV5.out.below hb6)
   have HP6:=hZ (HP5.out.bel hb6);have HE6:=hZ (HG.out.below HP6.out.toB HG.out.2)
   clear hb6 hst;go_wp2_with fail;go_loopw [8] (fun jv wr=>∃j:Nat,j≤N∧jv=.int .i64 j∧Hid (Below w6.heap.size w6 wr)) (fun jv _=>N-(intOf jv).toNat)
   case atStart=>exact⟨0,Nat.zero_le _,rfl,hZ (Below.refl _ _)⟩
   case round=>
    obtain⟨j,hj,rfl,hb⟩:=hrel;by_cases hlt2:(j:Int)<(N:Int)
    ·obtain⟨t,ht⟩:∃t,L0[j]?=some t:=⟨_,List.getElem?_eq_getElem (i:=j) eB⟩
     obtain⟨vp',vc',ev,hv⟩:=HV6.out;cases ev;obtain⟨vb,vo,rfl,hvl,hvc⟩:=hv j t ht;have d0:wr.cell? ⟨vb,vo+j,none⟩=some (.string t):=(hb.out.cell (p:=⟨vb,vo+j,none⟩) hvl).trans hvc
     have hr:=HLR.out t (List.mem_of_getElem? ht);have HPr:=hZ (HP6.out.bel hb.out)
     obtain⟨b0,b1,-,-⟩:=HPr.out.wcel wb HMW.out
     have hrd:∀q:Nat,Calls Tryz.prog 40 #[.pointer (some ⟨a,0,none⟩),.string t] (wr.drewN q) fun e w'=>e=.returned (.tuple #[.string (M.reads t).1,.nilIface])∧w'=wr.drewN q:=fun q=>by
      have h1:=(HPr.out.dr q).prd t cT;rw[hr.1]at h1;exact h1.mono fun e w' hp=>⟨hp.1,hp.2.symm⟩
     have hrr:∀q:Nat,Calls Tryz.prog 67 #[.pointer (some ⟨r,0,none⟩),.string t] (wr.drewN q) fun e w'=>e=.returned (.tuple #[.string (M.reads t).1,.int .i64 0])∧∃n,w'=(wr.drewN q).drewN n:=fun q=>by
      have h1:=(HPr.out.dr q).rrd cR t;rw[hr.1]at h1;exact h1
     have HRD:=hZ hrd;have HRR:=hZ hrr
     have hpl:=fun q:Nat=>Ix 0 (.inl rfl) 0 (wr.drewN q) (HG.out.below (HPr.out.dr q).toB HG.out.2)
     rw[beq_self_eq_true,show nG 0=.nilIface from rfl]at hpl;have HPL:=hZ hpl
     generalize (M.reads t).1=d at HRD HRR;have hdd:(d.toList==d.toList)=true:=beq_self_eq_true _
     clear ht hv hvl hvc hr hrd hrr hpl;go_wp2_with fail;go_quiet ((go_at_call 40;exact Calls.quiet_of_same (HRD.out _)));rename_i nq;go_wp2_with fail;go_quiet ((go_at_call 67;exact G7 (HRR.out (nq+_))));rename_i nr;go_wp2_with fail;refine(HPL.out _).mono ?_;rintro e w7 ⟨rfl,hb7⟩;have hb7':Below wr.heap.size wr w7:=⟨hb7.os,hb7.tape,hb7.output,hb7.size,hb7.block⟩
     have HB7:=hZ (hb.out.trans (hb7'.mono hb.out.size));clear hb7 hb7' b0 b1 d0 hdd;go_wp2_with fail;go_roundw
     case rel=>exact⟨j+1,aC,aG,HB7⟩
     case measure=>simp[intOf];omega
    ·have HPr:=hZ (HP6.out.bel hb.out);obtain⟨b0,b1,-,-⟩:=HPr.out.wcel wb HMW.out;have hc1:=HPr.out.pcrash (JD wr) (fun k hk=>iN) aA cR
     go_wp2_with fail;refine hc1.mono ?_;rintro e w8 ⟨rfl,hp⟩;have HP8:=hZ hp
     clear hp hc1 b0 b1;obtain⟨b0,b1,-,-⟩:=HP8.out.wcel wb HMW.out;have hc1:=HP8.out.rcrash (qD w) cR
     go_wp2_with fail;refine hc1.mono ?_;rintro e w9 ⟨rfl,hp⟩;have HP9:=hZ hp
     have HS9:Hid ((M.crash []).Short):=hZ (Bh HS2.out []);clear hp hc1 b0 b1;go_wp2_with fail;exact⟨⟨i+1,aC,aG,M.crash [],HP9,HS9⟩,cN⟩
  ·go_wp2_with fail;go_ret;exact⟨rfl,HP.out.toB⟩
end Go.Proofs.YtdkedmngeahjiaaGreatDoor
