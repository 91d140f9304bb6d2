/- Texts of the seat, one behind the other: BlobS, BlobK. -/
import Derived.Test.YtecgikanophonaaGreatDoorM23
import Derived.Test.YtecgikanophonaaGreatDoorBlobM
set_option maxRecDepth 100000
set_option maxHeartbeats 25600000
/- A disk that came in, or one of the call's own, beside blocks that it leaves alone. -/
namespace Go.Proofs.YtecgikanophonaaGreatDoor
open Go Go.RowKit Go.Maps Go.Shelf
structure St (w:World) (S P:Nat→Prop) (a:Nat) (w1:World) (n:Nat) (m:DM):Prop where
 ex:∃ S1:Nat→Prop,DiskAt w1 a n m S1∧∀ b,S1 b→(S b∨w.heap.size≤b)∧¬ P b
 pl:∀ b,P b→b < w1.heap.size
 off:Off S w w1
 sl:∀ b,S b→b < w.heap.size
def SameP (P:Nat→Prop) (w w':World):Prop:=∀ b,P b→w'.heap[b]?=w.heap[b]?
section
variable {w w1 w2 w':World} {S P:Nat→Prop} {a n n':Nat} {m m':DM}
theorem St.ok (h:St w S P a w1 n m):m.Ok n:=by
 obtain ⟨⟨S1,h1,h2⟩,-⟩:=h
 exact h1.ok
theorem St.more (h:St w S P a w1 n m) (hn:n≤n'):St w S P a w1 n' m:=by
 obtain ⟨⟨S1,h1,h2⟩,h3,h4,h5⟩:=h
 exact ⟨⟨S1,h1.more hn,h2⟩,h3,h4,h5⟩
theorem St.size (h:St w S P a w1 n m):w.heap.size≤w1.heap.size:=h.off.size
theorem St.bel (h:St w S P a w1 n m) (hb:Below w1.heap.size w1 w2) (Q:Nat→Prop) (hQ:∀ b,Q b→P b∨(w1.heap.size≤b∧b < w2.heap.size)):St w S Q a w2 n m:=by
 obtain ⟨⟨S1,h1,h2⟩,h3,h4,h5⟩:=h
 refine ⟨⟨S1,h1.below hb,fun b hb1=>⟨(h2 b hb1).1,fun hq=>?_⟩⟩,fun b hb1=>?_,h4.below hb h4.size,h5⟩
 ·rcases hQ b hq with hp | ⟨hp,_⟩
  ·exact (h2 b hb1).2 hp
  ·have:=h1.lt b hb1
   omega
 ·rcases hQ b hb1 with hp | ⟨_,hp⟩
  ·exact Nat.lt_of_lt_of_le (h3 b hp) hb.size
  ·exact hp
theorem St.same (h:St w S P a w1 n m) (hb:Below w1.heap.size w1 w2):SameP P w1 w2:=fun b hp=>hb.block b (h.pl b hp)
theorem St.sub (h:St w S P a w1 n m) (Q:Nat→Prop) (hQ:∀ b,Q b→P b):St w S Q a w1 n m:=h.bel (Below.refl _ _) Q (fun b hb=>.inl (hQ b hb))
theorem St.setBox {k:Nat} (h:St w S P a w1 n m) (hk:w.heap.size≤k) (hp:P k) (v:Value):St w S P a (w1.setCell ⟨k,0,none⟩ v) n m:=by
 obtain ⟨⟨S1,h1,h2⟩,h3,h4,h5⟩:=h
 exact ⟨⟨S1,h1.setBox (fun hs=>(h2 k hs).2 hp) v,h2⟩,fun b hb=>by rw [World.size_setCell];exact h3 b hb,h4.setCell _ _ (fun hlt=>by have:k < w.heap.size:=hlt;omega),h5⟩
theorem St.setBlk {k:Nat} (h:St w S P a w1 n m) (hk:w.heap.size≤k) (hp:P k) (o:Obj):St w S P a (Go.Proofs.YtecgikanophonaaGreatDoor.setBlk w1 k o) n m:=by
 obtain ⟨⟨S1,h1,h2⟩,h3,h4,h5⟩:=h
 refine ⟨⟨S1,h1.frame (fun b hb=>?_) (by rw [setBlk_size];exact Nat.le_refl _),h2⟩,fun b hb=>by rw [setBlk_size];exact h3 b hb,h4.setBlk (fun hlt=>by omega),h5⟩
 exact setBlk_other (fun e=>(h2 b hb).2 (by rw [e];exact hp))
theorem St.post {S1:Nat→Prop} (h2:∀ b,S1 b→(S b∨w.heap.size≤b)∧¬ P b) (h3:∀ b,P b→b < w1.heap.size) (h4:Off S w w1) (h5:∀ b,S b→b < w.heap.size) (hp:DiskPost a n' m' S1 w1 w'):St w S P a w' n' m'∧SameP P w1 w':=by
 have hz:=h4.size
 have hz2:=hp.2.size
 refine ⟨⟨⟨_,hp.1,?_⟩,fun b hb=>Nat.lt_of_lt_of_le (h3 b hb) hz2,h4.trans hp.2 (fun i hi hs=>?_),h5⟩,fun b hb=>hp.2.block b (h3 b hb) (fun hs=>(h2 b hs).2 hb)⟩
 ·rintro b (hb | ⟨hb,_⟩)
  ·exact h2 b hb
  ·exact ⟨.inr (by omega),fun hpb=>by have:=h3 b hpb;omega⟩
 ·rcases (h2 i hs).1 with h | h
  ·exact h
  ·omega
def StPost (w:World) (S P:Nat→Prop) (a:Nat) (w1:World) (n:Nat) (m:DM) (c:DCall) (e:Ending) (w':World):Prop:=e=.returned (errE (m.op c).2)∧St w S P a w' (n+1) (m.op c).1∧SameP P w1 w'
theorem st_op {f:FuncId} {args:Array Value} {c:DCall} (h:St w S P a w1 n m) (hc:∀ S1,DiskAt w1 a n m S1→Calls Tryz.prog f args w1 fun e w'=>OpPost a n m c S1 w1 w' e):Calls Tryz.prog f args w1 (StPost w S P a w1 n m c):=by
 obtain ⟨⟨S1,h1,h2⟩,h3,h4,h5⟩:=h
 refine (hc S1 h1).mono fun e w' hp=>?_
 obtain ⟨h6,h7⟩:=St.post h2 h3 h4 h5 hp.2
 exact ⟨hp.1,h6,h7⟩
theorem room_fit (h:m.Ok n) (hn:n≤4000000000):n * m.room≤4611686018427387904:=Nat.le_trans (Nat.mul_le_mul hn h.room) (by decide)
theorem st_create (h:St w S P a w1 n m) (s:ByteArray) (hs:s.size≤maxLen) (hn:n≤4000000000):Calls Tryz.prog 59 #[.pointer (some ⟨a,0,none⟩),.string s] w1 (StPost w S P a w1 n m (.create s)) :=
 st_op h fun _ hd=>create_any hd s hs (by omega)
theorem st_write (h:St w S P a w1 n m) (s d:ByteArray) (hs:s.size≤maxLen) (hd:d.size≤140737488355328) (hn:n≤4000000000):Calls Tryz.prog 60 #[.pointer (some ⟨a,0,none⟩),.string s,.string d] w1 (StPost w S P a w1 n m (.write s d)) :=
 st_op h fun _ hk=>write_any hk s d hs hd (room_fit hk.ok hn) (by omega)
theorem st_sync (h:St w S P a w1 n m) (s:ByteArray) (hs:s.size≤maxLen) (hn:n≤4000000000):Calls Tryz.prog 61 #[.pointer (some ⟨a,0,none⟩),.string s] w1 (StPost w S P a w1 n m (.sync s)) :=
 st_op h fun _ hd=>sync_any hd s hs (by omega)
theorem st_remove (h:St w S P a w1 n m) (s:ByteArray) (hs:s.size≤maxLen) (hn:n≤4000000000):Calls Tryz.prog 36 #[.pointer (some ⟨a,0,none⟩),.string s] w1 (StPost w S P a w1 n m (.remove s)) :=
 st_op h fun _ hd=>remove_any hd s hs (by omega)
theorem st_rename (h:St w S P a w1 n m) (o s:ByteArray) (ho:o.size≤maxLen) (hs:s.size≤maxLen) (hn:n≤4000000000):Calls Tryz.prog 91 #[.pointer (some ⟨a,0,none⟩),.string o,.string s] w1 (StPost w S P a w1 n m (.rename o s)) :=
 st_op h fun _ hd=>rename_any hd o s ho hs (by omega)
theorem st_flush (h:St w S P a w1 n m) (hn:n≤4000000000):Calls Tryz.prog 37 #[.pointer (some ⟨a,0,none⟩)] w1 (StPost w S P a w1 n m .flush) :=
 st_op h fun _ hd=>flush_any hd (by omega)
theorem st_read (h:St w S P a w1 n m) (s:ByteArray) (hs:s.size≤maxLen):Calls Tryz.prog 34 #[.pointer (some ⟨a,0,none⟩),.string s] w1 fun e w'=>e=.returned (.tuple #[.string (m.reads s).1,errE (m.reads s).2])∧w1=w':=by
 obtain ⟨⟨S1,h1,h2⟩,-⟩:=h
 exact read_any h1 s hs
theorem st_list (h:St w S P a w1 n m) (hd:ByteArray) (hn:n≤4000000000):Calls Tryz.prog 25 #[.pointer (some ⟨a,0,none⟩),.string hd] w1 fun e w'=>∃ v,e=.returned (.tuple #[v,errE (if m.off then 27 else 0)])∧OwnTexts w1.heap.size w' v (m.lists hd)∧Below w1.heap.size w1 w':=by
 obtain ⟨⟨S1,h1,h2⟩,-⟩:=h
 exact list_any h1 hd (by omega)
theorem reads_size (h:m.Ok n) (s:ByteArray):(m.reads s).1.size≤268435456:=by
 unfold DM.reads
 split
 ·exact Nat.zero_le _
 ·split
  ·rename_i i hi
   have:=(h.file _ (get!_mem (tget_lt h.nowI hi))).2
   have:=h.room
   show (m.files[i]!.data).size≤_
   omega
  ·exact Nat.zero_le _
end
def storeO (a:Nat) (x:Int):Obj:=.cells #[.pointer (some ⟨a,0,none⟩),.int .i64 x] 78 (0,0)
end Go.Proofs.YtecgikanophonaaGreatDoor
/- Plain: what BlobsKnown asks of the store over its model. -/
namespace Go.Proofs.YtecgikanophonaaGreatDoor
open Go Go.RowKit
abbrev Dg:={d:List UInt8 // d.length=32}
instance:Inhabited Dg:=⟨⟨zeroD,rfl⟩⟩
theorem named_len (n:ByteArray):((namedM n).getD zeroD).length=32:=by
 cases h:namedM n with
 |none=>rfl
 |some d=>exact (parseD_inv h).2
def digOf (n:ByteArray):Dg:=⟨(namedM n).getD zeroD,named_len n⟩
def listM (m:DM) (x:Int):List Dg:=((m.lists ⟨blobHead.toArray⟩).filter fun n=>(rightM m x n).isSome).map digOf
section
variable (sh:Int→ByteArray→List UInt8)
def rightS (m:DM) (x:Int) (n:ByteArray):Option ByteArray :=
 match namedM n with
 |none=>none
 |some d=>if (m.reads n).2=0∧sh x (m.reads n).1=d then some (m.reads n).1 else none
def putS (m:DM) (x:Int) (t:ByteArray):DM × (List UInt8 × Int) :=
 if m.off then (m,zeroD,27) else
 match rightS sh m x (fileN (sh x t)) with
 |some u=>if u=t then (m,sh x t,0) else (m,zeroD,29)
 |none=>if (layM m (fileN (sh x t)) t).2=0 then ((layM m (fileN (sh x t)) t).1,sh x t,0) else ((layM m (fileN (sh x t)) t).1,zeroD,(layM m (fileN (sh x t)) t).2)
end
def xN:ByteArray:=⟨#[120]⟩
def abcN:ByteArray:=⟨#[97,98,99]⟩
def qsN:ByteArray:=⟨Array.replicate 198 113⟩
def dX:List UInt8:=[45,113,22,66,183,38,176,68,1,98,124,169,251,172,50,245,200,83,15,177,144,60,196,219,2,37,135,23,146,26,72,129]
def d0:List UInt8:=[227,176,196,66,152,252,28,20,154,251,244,200,153,111,185,36,39,174,65,228,100,155,147,76,164,149,153,27,120,82,184,85]
def dN:List UInt8:=[110,52,11,156,255,179,122,152,156,165,68,230,187,120,10,44,120,144,29,63,179,55,56,118,133,17,163,6,23,175,160,29]
def dAbc:List UInt8:=[186,120,22,191,143,1,207,234,65,65,64,222,93,174,34,35,176,3,97,163,150,23,122,156,180,16,255,97,242,0,21,173]
def dA:List UInt8:=[202,151,129,18,202,27,189,202,250,194,49,179,154,35,220,77,167,134,239,248,20,124,78,114,185,128,119,133,175,238,72,187]
def dQs:List UInt8:=[229,204,180,194,88,132,44,138,111,165,36,78,244,6,7,27,10,213,152,203,192,48,27,52,156,123,18,39,219,201,96,174]
def tabS (x:Int) (t:ByteArray):List UInt8 :=
 if x=32∧t=xN then dX else if x=32∧t=⟨#[]⟩ then d0 else if x=32∧t=⟨#[0]⟩ then dN else if x=32∧t=abcN then dAbc else if x=32∧t=qsN then dQs else shaU x t
def k1:DM:=(putM (DM.new 200) 32 ⟨#[]⟩).1
def k2:DM:=(takeM k1 dA).1
def k3:DM:=(putM k2 32 abcN).1
def k4:DM:=(putM k3 32 abcN).1
def k5:DM:=(putM k4 32 qsN).1
def e1:DM:=(putS tabS (DM.new 200) 32 ⟨#[]⟩).1
def e2:DM:=(takeM e1 dA).1
def e3:DM:=(putS tabS e2 32 abcN).1
def e4:DM:=(putS tabS e3 32 abcN).1
def e5:DM:=(putS tabS e4 32 qsN).1
end Go.Proofs.YtecgikanophonaaGreatDoor
