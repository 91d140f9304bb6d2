import Derived.Test.YtdkedmngeahjiaaGreatDoorM20
import Derived.Test.YtdkedmngeahjiaaGreatDoorM11
import Derived.Test.YtdkedmngeahjiaaGreatDoorM30
import Derived.Deep.RegionWith
import Derived.Test.YtdkedmngeahjiaaGreatDoorM23
import Derived.Test.YtdkedmngeahjiaaGreatDoorM32
import Derived.Great.FillDense
set_option maxRecDepth 100000
set_option maxHeartbeats 25600000
namespace Go.Proofs.YtdkedmngeahjiaaGreatDoor
open Go Go.RowKit Go.Maps Go.Shelf
structure St (w:World) (S P:Nat→Prop) (a:Nat) (w1:World) (n:Nat) (m:DM):Prop where
 ex:∃S1:Nat→Prop,DiskAt w1 a n m S1∧∀b,S1 b→(S b∨w.heap.size≤b)∧¬P b
 pl:∀b,P b→b<w1.heap.size
 off:Off S w w1
 sl:∀b,S b→b<w.heap.size
def SameP(P:Nat→Prop)(w w':World):Prop:=∀b,P b→w'.heap[b]?=w.heap[b]?
section
variable {w w1 w2 w':World} {S P:Nat→Prop} {a n n':Nat} {m m':DM}
theorem St.start(h:DiskAt w a n m S)(hP:∀b,P b→b<w.heap.size∧¬S b):St w S P a w n m:=
 ⟨⟨S,h,fun b hb=>⟨.inl hb,fun hp=>(hP b hp).2 hb⟩⟩,fun b hb=>(hP b hb).1,Off.refl S w,h.lt⟩
theorem St.fin(h:St w S P a w1 n m):DiskPost a n m S w w1:=by
 obtain⟨⟨S1,h1,h2⟩,h3,h4,h5⟩:=h;have hz:=h4.size
 refine⟨h1.sup (fun b hb=>?_) (fun b hb=>?_),h4⟩
 ·rcases (h2 b hb).1 with hb2|hb2
  ·exact .inl hb2
  ·exact .inr ⟨hb2,h1.lt b hb⟩
 ·rcases hb with hb|hb
  ·exact Nat.lt_of_lt_of_le (h5 b hb) hz
  ·exact hb.2
theorem St.ok(h:St w S P a w1 n m):m.Ok n:=by
 obtain⟨⟨S1,h1,h2⟩,-⟩:=h;exact h1.ok
theorem St.more(h:St w S P a w1 n m)(hn:n≤n'):St w S P a w1 n' m:=by
 obtain⟨⟨S1,h1,h2⟩,h3,h4,h5⟩:=h;exact⟨⟨S1,h1.more hn,h2⟩,h3,h4,h5⟩
theorem St.size(h:St w S P a w1 n m):w.heap.size≤w1.heap.size:=h.off.size
theorem St.bel(h:St w S P a w1 n m)(hb:Below w1.heap.size w1 w2)(Q:Nat→Prop)(hQ:∀b,Q b→P b∨(w1.heap.size≤b∧b<w2.heap.size)):St w S Q a w2 n m:=by
 obtain⟨⟨S1,h1,h2⟩,h3,h4,h5⟩:=h;refine⟨⟨S1,h1.below hb,fun b hb1=>⟨(h2 b hb1).1,fun hq=>?_⟩⟩,fun b hb1=>?_,h4.below hb h4.size,h5⟩
 ·rcases hQ b hq with hp|⟨hp,_⟩
  ·exact(h2 b hb1).2 hp
  ·have:=h1.lt b hb1;omega
 ·rcases hQ b hb1 with hp|⟨_,hp⟩
  ·exact Nat.lt_of_lt_of_le (h3 b hp) hb.size
  ·exact hp
theorem St.same(h:St w S P a w1 n m)(hb:Below w1.heap.size w1 w2):SameP P w1 w2:=fun b hp=>hb.block b (h.pl b hp)
theorem St.drews(h:St w S P a w1 n m)(q:Nat):St w S P a (w1.drewN q) n m:=
 h.bel (w2:=w1.drewN q) ⟨rfl,rfl,rfl,Nat.le_refl _,fun _ _=>rfl⟩ P (fun _ hb=>.inl hb)
theorem St.sub(h:St w S P a w1 n m)(Q:Nat→Prop)(hQ:∀b,Q b→P b):St w S Q a w1 n m:=h.bel (Below.refl _ _) Q (fun b hb=>.inl (hQ b hb))
theorem St.setBox{k:Nat}(h:St w S P a w1 n m)(hk:w.heap.size≤k)(hp:P k)(v:Value):St w S P a (w1.setCell ⟨k,0,none⟩ v) n m:=by
 obtain⟨⟨S1,h1,h2⟩,h3,h4,h5⟩:=h;exact⟨⟨S1,h1.setBox (fun hs=>(h2 k hs).2 hp) v,h2⟩,fun b hb=>by rw[World.size_setCell];exact h3 b hb,h4.setCell _ _ (fun hlt=>by have:k<w.heap.size:=hlt;omega),h5⟩
theorem St.setBlk{k:Nat}(h:St w S P a w1 n m)(hk:w.heap.size≤k)(hp:P k)(o:Obj):St w S P a (Go.Proofs.YtdkedmngeahjiaaGreatDoor.setBlk w1 k o) n m:=by
 obtain⟨⟨S1,h1,h2⟩,h3,h4,h5⟩:=h;refine⟨⟨S1,h1.frame (fun b hb=>?_) gQ,h2⟩,fun b hb=>by rw[pA];exact h3 b hb,h4.setBlk (fun hlt=>aC),h5⟩;exact mS (fun e=>(h2 b hb).2 (by rw[e];exact hp))
theorem St.post{S1:Nat→Prop}(h2:∀b,S1 b→(S b∨w.heap.size≤b)∧¬P b)(h3:∀b,P b→b<w1.heap.size)(h4:Off S w w1)(h5:∀b,S b→b<w.heap.size)(hp:DiskPost a n' m' S1 w1 w'):St w S P a w' n' m'∧SameP P w1 w':=by
 have hz:=h4.size;have hz2:=hp.2.size
 refine⟨⟨⟨_,hp.1,?_⟩,fun b hb=>Nat.lt_of_lt_of_le (h3 b hb) hz2,h4.trans hp.2 (fun i hi hs=>?_),h5⟩,fun b hb=>hp.2.block b (h3 b hb) (fun hs=>(h2 b hs).2 hb)⟩
 ·rintro b (hb|⟨hb,_⟩)
  ·exact h2 b hb
  ·exact⟨.inr aC,fun hpb=>by have:=h3 b hpb;omega⟩
 ·rcases (h2 i hs).1 with h|h
  ·exact h
  ·omega
def StPost(w:World)(S P:Nat→Prop)(a:Nat)(w1:World)(n:Nat)(m:DM)(c:DCall)(e:Ending)(w':World):Prop:=e=.returned (nG (m.op c).2)∧St w S P a w' (n+1) (m.op c).1∧SameP P w1 w'
theorem Dk{f:FuncId}{args:Array Value}{c:DCall}(h:St w S P a w1 n m)(hc:∀S1,DiskAt w1 a n m S1→Calls Tryz.prog f args w1 fun e w'=>OpPost a n m c S1 w1 w' e):Calls Tryz.prog f args w1 (StPost w S P a w1 n m c):=by
 obtain⟨⟨S1,h1,h2⟩,h3,h4,h5⟩:=h;refine(hc S1 h1).mono fun e w' hp=>?_
 obtain⟨h6,h7⟩:=St.post h2 h3 h4 h5 hp.2;exact⟨hp.1,h6,h7⟩
theorem Ae(h:m.Ok n)(hn:n≤4000000000):n*m.room≤4611686018427387904:=Nat.le_trans (Nat.mul_le_mul hn h.room) aA
theorem AG(h:St w S P a w1 n m)(s:ByteArray)(hs:s.size≤maxLen)(hn:n≤4000000000):Calls Tryz.prog 47 #[.pointer (some ⟨a,0,none⟩),.string s] w1 (StPost w S P a w1 n m (.create s)):=
 Dk h fun _ hd=>GI hd s hs aC
theorem uM(h:St w S P a w1 n m)(s d:ByteArray)(hs:s.size≤maxLen)(hd:d.size≤140737488355328)(hn:n≤4000000000):Calls Tryz.prog 48 #[.pointer (some ⟨a,0,none⟩),.string s,.string d] w1 (StPost w S P a w1 n m (.write s d)):=
 Dk h fun _ hk=>I0 hk s d hs hd (Ae hk.ok hn) aC
theorem Em(h:St w S P a w1 n m)(s:ByteArray)(hs:s.size≤maxLen)(hn:n≤4000000000):Calls Tryz.prog 50 #[.pointer (some ⟨a,0,none⟩),.string s] w1 (StPost w S P a w1 n m (.sync s)):=
 Dk h fun _ hd=>Kv hd s hs aC
theorem sI(h:St w S P a w1 n m)(s:ByteArray)(hs:s.size≤maxLen)(hn:n≤4000000000):Calls Tryz.prog 44 #[.pointer (some ⟨a,0,none⟩),.string s] w1 (StPost w S P a w1 n m (.remove s)):=
 Dk h fun _ hd=>GJ hd s hs aC
theorem Dl(h:St w S P a w1 n m)(o s:ByteArray)(ho:o.size≤maxLen)(hs:s.size≤maxLen)(hn:n≤4000000000):Calls Tryz.prog 51 #[.pointer (some ⟨a,0,none⟩),.string o,.string s] w1 (StPost w S P a w1 n m (.rename o s)):=
 Dk h fun _ hd=>GK hd o s ho hs aC
theorem uN(h:St w S P a w1 n m)(hn:n≤4000000000):Calls Tryz.prog 45 #[.pointer (some ⟨a,0,none⟩)] w1 (StPost w S P a w1 n m .flush):=
 Dk h fun _ hd=>I1 hd aC
theorem wV(h:St w S P a w1 n m)(s:ByteArray)(hs:s.size≤maxLen):Calls Tryz.prog 40 #[.pointer (some ⟨a,0,none⟩),.string s] w1 fun e w'=>e=.returned (.tuple #[.string (m.reads s).1,nG (m.reads s).2])∧w1=w':=by
 obtain⟨⟨S1,h1,h2⟩,-⟩:=h;exact Kc h1 s hs
theorem Af(h:St w S P a w1 n m)(hd:ByteArray)(hn:n≤4000000000):Calls Tryz.prog 17 #[.pointer (some ⟨a,0,none⟩),.string hd] w1 fun e w'=>∃v,e=.returned (.tuple #[v,nG (if m.off then 27 else 0)])∧OwnTexts w1.heap.size w' v (m.lists hd)∧Below w1.heap.size w1 w':=by
 obtain⟨⟨S1,h1,h2⟩,-⟩:=h;exact Kg h1 hd aC
end
theorem Je(v:Value)(w:World):(binOp .eql 25 .nilIface (.iface 71 v)).run Tryz.prog w=.ok (.bool false) w:=by
 have h:∀d:Nat,(Op.equalIn (d+1) 25 .nilIface (.iface 71 v)).run Tryz.prog w=.ok false w:=fun d=>by
  simp[Op.equalIn,run_underlying Tryz.underlying25]
 simp only[binOp];simp[Op.equal,Op.maxDepth,h 9999]
theorem L9(k:Int)(w:World):
  Calls Tryz.prog 41 #[.nilIface,nJ k] w fun e w'=>e=.returned (.bool false)∧w=w':=by
 unfold nJ;have hq:=Je (.int .i64 k) w
 go_enter Tryz.func41,Tryz.ntmps41;go_wp2_with fail;go_ret;exact cF
theorem Ma(n k:Int)(hk:k≠0)(w:World):
  Calls Tryz.prog 41 #[nG n,nJ k] w fun e w'=>e=.returned (.bool (n==k))∧w=w':=by
 unfold nG;split
 ·rename_i h;refine(L9 k w).mono ?_;rintro e w' ⟨rfl,hw⟩;refine⟨?_,hw⟩
  have:(n==k)=false:=by
   rw[h];exact beq_eq_false_iff_ne.2 (fun e=>hk e.symm)
  rw[this]
 ·exact Fq n k w
theorem B6{W W':World}{base:Nat}{e:TypeId}{size n:Nat}{v:Value}{xs:List Value}(h:W.ownsRow base e size v n xs)(hk:∀b,v.ownBlock=some b→W'.heap[b]?=W.heap[b]?):W'.ownsRow base e size v n xs:=by
 refine⟨h.1,?_⟩;rcases h.2 with h|⟨g,cap,cur,h1,h2,h3,h4⟩
 ·exact .inl h
 ·exact .inr ⟨g,cap,cur,h1,h2,(hk g (by rw[h1];rfl)).trans h3,h4⟩
theorem BG{W:World}{base:Nat}{e:TypeId}{size n:Nat}{v:Value}{xs:List Value}(h:W.ownsRow base e size v n xs){b:Nat}(hb:v.ownBlock=some b):base≤b∧b<W.heap.size∧∃cur,W.heap[b]?=some (.cells cur e (0,0)):=by
 rcases h.2 with⟨rfl,-⟩|⟨g,cap,cur,h1,h2,h3,h4⟩
 ·cases hb
 ·rw[h1]at hb;cases hb;exact⟨h2,lH h3,cur,h3⟩
theorem oV{W:World}{base:Nat}{e:TypeId}{size n:Nat}{v:Value}{xs:List Value}(h:W.ownsRow base e size v n xs):∃p c,v=.slice p n c:=by
 rcases h.2 with⟨rfl,h0⟩|⟨g,cap,cur,h1,-⟩
 ·exact⟨none,0,by rw[h0]⟩
 ·exact⟨_,cap,h1⟩
theorem Dm{W W':World}{base:Nat}{e:TypeId}{size n:Nat}{v v':Value}{xs:List Value}(h:W.ownsRow base e size v n xs)(hl:(v'.ownBlock=v.ownBlock∧W.grownBy W' v.ownBlock)∨(v'.ownBlock=some W.heap.size∧W.grownBy W' none))(hz:base≤W.heap.size):Below base W W':=by
 rcases hl with⟨-,hg⟩|⟨-,hg⟩
 ·exact⟨hg.os,hg.tape,hg.output,hg.size,fun k hk=>hg.block k aC (fun e=>by have:=(BG h e.symm).1;omega)⟩
 ·exact⟨hg.os,hg.tape,hg.output,hg.size,fun k hk=>hg.block k aC (fun e=>aO)⟩
end Go.Proofs.YtdkedmngeahjiaaGreatDoor
