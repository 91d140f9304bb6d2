/- Slices of bytes that a call makes by append; the contract of many: so many bytes. -/
import Derived.Test.YtecgikanophonaaGreatDoorProg
import Derived.Test.YtecgikanophonaaGreatDoorWorld
import Derived.Lib.Hide
import Derived.Lib.ConvBytes
import Derived.Maps.AppendAt
set_option maxRecDepth 100000
set_option maxHeartbeats 25600000
namespace Go.Proofs.YtecgikanophonaaGreatDoor
open Go.RowKit
def OwnB (base:Nat) (l:Bs) (v:Value) (w:World):Prop:=w.ownsRow base 5 1 v l.length (l.map byteV)
theorem OwnB.conv {base:Nat} {l:Bs} {v:Value} {w:World} (h:OwnB base l v w):(convert 98 9 v).run Tryz.prog w=.ok (.string ⟨l.toArray⟩) w:=by
 rcases h.2 with ⟨h1,h2⟩ | ⟨g,cap,cur,h1,h2,h3,h4,h5,h6,h7⟩
 ·have:l=[]:=List.eq_nil_of_length_eq_zero h2
  subst this
  subst h1
  have:=run_convert_bytes_string (P:=Tryz.prog) w 98 9 5 none 0 0 Tryz.underlying98 Tryz.underlying5 Tryz.underlying9
  rw [this]
  rfl
 ·subst h1
  exact run_convert_bytes_back (P:=Tryz.prog) w 98 9 5 ⟨g,0,none⟩ cap l Tryz.underlying98 Tryz.underlying5 Tryz.underlying9 (fun j hj=>by
   rw [show (⟨g,0,none⟩:Addr).add j=⟨g,j,none⟩ by simp [Addr.add];intro e;exact e.symm]
   rw [cell_of_heapN h3]
   have e1:(l.map byteV)[j]?=some (byteV l[j]):=by simp [hj]
   rw [← h7,List.getElem?_take] at e1
   split at e1
   ·rw [← Array.getElem?_toList];exact e1
   ·cases e1)
theorem infoB:(Tryz.prog.info? 5).map (fun i=>(i.zero,i.size,i.bytes))=some (some (.int .u8 0),1,1):=by kernel_rfl
theorem new1 (w:World) (x:UInt8) (t:TypeId):∀ (j:Nat) (u:Value),([byteV x]:List Value)[j]?=some u→(w.alloc (.cells #[byteV x] t)).cell? ((⟨w.heap.size,0,none⟩:Addr).add j)=some u:=by
 intro j u h
 rw [show ((⟨w.heap.size,0,none⟩:Addr).add j)=⟨w.heap.size,j,none⟩ by simp [Addr.add];intro e;exact e.symm,cell_new,← h]
 rw [← Array.getElem?_toList]
end Go.Proofs.YtecgikanophonaaGreatDoor
