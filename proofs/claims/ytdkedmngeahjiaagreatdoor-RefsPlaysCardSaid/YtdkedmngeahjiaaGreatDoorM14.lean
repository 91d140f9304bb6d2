/- Texts of the seat, one behind the other: OwnB, MarkK. -/
import Derived.Test.YtdkedmngeahjiaaGreatDoorProg
import Derived.Test.YtdkedmngeahjiaaGreatDoorWorld
import Derived.Lib.Hide
import Derived.Lib.ConvBytes
import Derived.Maps.AppendAt
set_option maxRecDepth 100000
set_option maxHeartbeats 25600000
/- Slices of bytes that a call makes by append; the contract of many: so many bytes. -/
namespace Go.Proofs.YtdkedmngeahjiaaGreatDoor
open Go.RowKit
def OwnB (base:Nat) (l:Bs) (v:Value) (w:World):Prop:=w.ownsRow base 5 1 v l.length (l.map byteV)
theorem OwnB.nil (base:Nat) (w:World):OwnB base [] (.slice none 0 0) w:=World.ownsRow_nil _ _ _ _
theorem OwnB.keep {base:Nat} {l:Bs} {v:Value} {w w':World} (h:OwnB base l v w) (hb:Below w.heap.size w w'):OwnB base l v w':=by
 refine ⟨h.1,?_⟩
 rcases h.2 with h2 | ⟨g,cap,cur,h1,h2,h3,h4⟩
 ·exact .inl h2
 ·exact .inr ⟨g,cap,cur,h1,h2,(hb.block g (blk_lt h3)).trans h3,h4⟩
theorem OwnB.slice {base:Nat} {l:Bs} {v:Value} {w:World} (h:OwnB base l v w):∃ p cap,v=.slice p l.length cap:=by
 rcases h.2 with ⟨h1,h2⟩ | ⟨g,cap,cur,h1,_⟩
 ·exact ⟨none,0,by rw [h1,h2]⟩
 ·exact ⟨_,cap,h1⟩
theorem OwnB.app {base:Nat} {l:Bs} {x:UInt8} {v v':Value} {w0 w w1:World} {tmp:Obj} (h:OwnB base l v w) (hw:Below base w0 w) (hb:base≤w.heap.size) (hown':w1.ownsRow base 5 1 v' (l.length+1) (l.map byteV ++ [byteV x])) (hg:(w.alloc tmp).grownBy w1 v.ownBlock) :
  OwnB base (l ++ [x]) v' w1∧Below base w0 w1:=by
 refine ⟨by unfold OwnB;rw [List.length_append,List.map_append];exact hown',?_⟩
 refine hw.trans (((Below.refl base w).alloc hb tmp).grown hg (by simp;omega) fun j ej=>?_)
 rcases h.2 with ⟨rfl,_⟩ | ⟨g,cap,cur,rfl,hb',_,_⟩
 ·simp [Value.ownBlock] at ej
 ·obtain rfl:g=j:=by simpa [Value.ownBlock] using ej
  exact hb'
theorem OwnB.conv {base:Nat} {l:Bs} {v:Value} {w:World} (h:OwnB base l v w):(convert 155 9 v).run Tryz.prog w=.ok (.string ⟨l.toArray⟩) w:=by
 rcases h.2 with ⟨h1,h2⟩ | ⟨g,cap,cur,h1,h2,h3,h4,h5,h6,h7⟩
 ·have:l=[]:=List.eq_nil_of_length_eq_zero h2
  subst this
  subst h1
  have:=run_convert_bytes_string (P:=Tryz.prog) w 155 9 5 none 0 0 Tryz.underlying155 Tryz.underlying5 Tryz.underlying9
  rw [this]
  rfl
 ·subst h1
  exact run_convert_bytes_back (P:=Tryz.prog) w 155 9 5 ⟨g,0,none⟩ cap l Tryz.underlying155 Tryz.underlying5 Tryz.underlying9 (fun j hj=>by
   rw [show (⟨g,0,none⟩:Addr).add j=⟨g,j,none⟩ by simp [Addr.add];intro e;exact e.symm]
   rw [cell_of_heapN h3]
   have e1:(l.map byteV)[j]?=some (byteV l[j]):=by simp [hj]
   rw [← h7,List.getElem?_take] at e1
   split at e1
   ·rw [← Array.getElem?_toList];exact e1
   ·cases e1)
theorem infoB:(Tryz.prog.info? 5).map (fun i=>(i.zero,i.size,i.bytes))=some (some (.int .u8 0),1,1):=by kernel_rfl
theorem new1 (w:World) (x:UInt8) (t:TypeId):∀ (j:Nat) (u:Value),([byteV x]:List Value)[j]?=some u→(w.alloc (.cells #[byteV x] t)).cell? ((⟨w.heap.size,0,none⟩:Addr).add j)=some u:=by
 intro j u h
 rw [show ((⟨w.heap.size,0,none⟩:Addr).add j)=⟨w.heap.size,j,none⟩ by simp [Addr.add];intro e;exact e.symm,cell_new,← h]
 rw [← Array.getElem?_toList]
theorem one1 (x:UInt8):∀ u∈([byteV x]:List Value),u.oneCell'=true:=by
 intro u hu
 rw [List.mem_singleton] at hu
 subst hu
 rfl
end Go.Proofs.YtdkedmngeahjiaaGreatDoor
/- The text of a mark. -/
namespace Go.Proofs.YtdkedmngeahjiaaGreatDoor
open Go Go.RowKit
def byteI (x:Int):UInt8:=(x % 256).toNat.toUInt8
def markT (k:Nat) (i:Int):ByteArray:=⟨#[35,byteI k,byteI ((k:Int) / 256),byteI i,byteI (i / 256)]⟩
theorem conv_new (w:World) (l:Bs):(convert 155 9 (.slice (some ⟨w.heap.size,0,none⟩) l.length l.length)).run Tryz.prog (w.alloc (.cells (l.map byteV).toArray 5))=.ok (.string ⟨l.toArray⟩) (w.alloc (.cells (l.map byteV).toArray 5)):=by
 exact run_convert_bytes_back (P:=Tryz.prog) (w.alloc (.cells (l.map byteV).toArray 5)) 155 9 5 ⟨w.heap.size,0,none⟩ l.length l Tryz.underlying155 Tryz.underlying5 Tryz.underlying9 (fun j hj=>by
  rw [show ((⟨w.heap.size,0,none⟩:Addr).add j)=⟨w.heap.size,j,none⟩ by simp [Addr.add];intro e;exact e.symm,cell_new]
  simp [hj]
  rfl)
theorem byteV_int (x:Int):byteV (byteI x)=.int .u8 (x % 256):=by
 unfold byteV byteI
 rw [Nat.toUInt8,UInt8.toNat_ofNat']
 congr 1
 omega
theorem mark_conv (k:Nat) (i:Int) (w:World) (hk:k≤1000):(convert 155 9 (.slice (some ⟨w.heap.size,0,none⟩) 5 5)).run Tryz.prog (w.alloc (.cells #[.int .u8 35,.int .u8 ((k:Int) % 256),.int .u8 ((k:Int) / 256),.int .u8 (i % 256),.int .u8 (i / 256 % 256)] 5))=.ok (.string (markT k i)) (w.alloc (.cells #[.int .u8 35,.int .u8 ((k:Int) % 256),.int .u8 ((k:Int) / 256),.int .u8 (i % 256),.int .u8 (i / 256 % 256)] 5)):=by
 have h:=conv_new w [35,byteI k,byteI ((k:Int) / 256),byteI i,byteI (i / 256)]
 have e:(([35,byteI k,byteI ((k:Int) / 256),byteI i,byteI (i / 256)]:Bs).map byteV).toArray=#[.int .u8 35,.int .u8 ((k:Int) % 256),.int .u8 ((k:Int) / 256),.int .u8 (i % 256),.int .u8 (i / 256 % 256)]:=by
  simp only [List.map_cons,List.map_nil,byteV_int]
  rw [show (k:Int) / 256 % 256=(k:Int) / 256 by omega]
  rfl
 rw [e] at h
 exact h
theorem markText_any (k:Nat) (i:Int) (w:World) (hk:k≤1000) (hi:i≤33554432) (hi2:-33554432≤i) :
  Calls Tryz.prog 155 #[.int .i64 k,.int .i64 i] w fun e w'=>e=.returned (.string (markT k i))∧Below w.heap.size w w':=by
 have hc:=mark_conv k i w hk
 go_enter Tryz.func155,Tryz.ntmps155
 go_wp2_with fail
 go_ret
 exact ⟨rfl,(Below.refl _ _).alloc (Nat.le_refl _) _⟩
end Go.Proofs.YtdkedmngeahjiaaGreatDoor
