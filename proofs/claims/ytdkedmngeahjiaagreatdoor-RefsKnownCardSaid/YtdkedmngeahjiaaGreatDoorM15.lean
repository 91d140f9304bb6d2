import Derived.Test.YtdkedmngeahjiaaGreatDoorProg
import Derived.Test.YtdkedmngeahjiaaGreatDoorM1
import Derived.Laws.CopyRow
import Derived.Test.YtdkedmngeahjiaaGreatDoorM2
import Derived.Lib.Hide
import Derived.Lib.ConvBytes
import Derived.Maps.AppendAt
set_option maxRecDepth 100000
set_option maxHeartbeats 25600000
namespace Go.Proofs.YtdkedmngeahjiaaGreatDoor
open Go.RowKit
theorem lZ{w:World}{b:Nat}{c d:Array Value}{t:TypeId}(h:w.heap[b]?=some (.cells c t (0,0))):w.setRow b d=setBlk w b (.cells d t (0,0)):=by
 refine vM (fun k=>?_) rfl rfl rfl rfl;rw[qJ];by_cases e:b=k
 ·subst e;rw[if_pos rfl,if_pos (lH h)];exact setRow_heap w b c d t (0,0) h
 ·rw[if_neg e];simp only[World.setRow,Array.getElem?_modify,if_neg e]
def OwnB(base:Nat)(l:Bs)(v:Value)(w:World):Prop:=w.ownsRow base 5 1 v l.length (l.map lG)
theorem OwnB.nil(base:Nat)(w:World):OwnB base [] (.slice none 0 0) w:=World.ownsRow_nil _ _ _ _
theorem OwnB.keep{base:Nat}{l:Bs}{v:Value}{w w':World}(h:OwnB base l v w)(hb:Below w.heap.size w w'):OwnB base l v w':=by
 refine⟨h.1,?_⟩;rcases h.2 with h2|⟨g,cap,cur,h1,h2,h3,h4⟩
 ·exact .inl h2
 ·exact kU
theorem OwnB.slice{base:Nat}{l:Bs}{v:Value}{w:World}(h:OwnB base l v w):∃p cap,v=.slice p l.length cap:=by
 rcases h.2 with⟨h1,h2⟩|⟨g,cap,cur,h1,_⟩
 ·exact⟨none,0,by rw[h1,h2]⟩
 ·exact⟨_,cap,h1⟩
theorem OwnB.app{base:Nat}{l:Bs}{x:UInt8}{v v':Value}{w0 w w1:World}{tmp:Obj}(h:OwnB base l v w)(hw:Below base w0 w)(hb:base≤w.heap.size)(hown':w1.ownsRow base 5 1 v' (l.length+1) (l.map lG++[lG x]))(hg:(w.alloc tmp).grownBy w1 v.ownBlock):
  OwnB base (l++[x]) v' w1∧Below base w0 w1:=by
 refine⟨by unfold OwnB;rw[List.length_append,List.map_append];exact hown',?_⟩;refine hw.trans (((Below.refl base w).alloc hb tmp).grown hg iE fun j ej=>?_);rcases h.2 with⟨rfl,_⟩|⟨g,cap,cur,rfl,hb',_,_⟩
 ·simp[Value.ownBlock]at ej
 ·obtain rfl:g=j:=by simpa[Value.ownBlock]using ej
  exact hb'
theorem OwnB.conv{base:Nat}{l:Bs}{v:Value}{w:World}(h:OwnB base l v w):(convert 155 9 v).run Tryz.prog w=.ok (.string ⟨l.toArray⟩) w:=by
 rcases h.2 with⟨h1,h2⟩|⟨g,cap,cur,h1,h2,h3,h4,h5,h6,h7⟩
 ·have:l=[]:=List.eq_nil_of_length_eq_zero h2;subst this;subst h1;have:=run_convert_bytes_string (P:=Tryz.prog) w 155 9 5 none 0 0 Tryz.underlying155 Tryz.underlying5 Tryz.underlying9
  rw[this]
  rfl
 ·subst h1
  exact run_convert_bytes_back (P:=Tryz.prog) w 155 9 5 ⟨g,0,none⟩ cap l Tryz.underlying155 Tryz.underlying5 Tryz.underlying9 (fun j hj=>by
   rw[show(⟨g,0,none⟩:Addr).add j=⟨g,j,none⟩ by simp[Addr.add];intro e;exact e.symm];rw[lF h3];have e1:(l.map lG)[j]?=some (lG l[j]):=by simp[hj]
   rw[←h7,List.getElem?_take]at e1;split at e1
   ·rw[←Array.getElem?_toList];exact e1
   ·cases e1)
theorem Ip:(Tryz.prog.info? 5).map (fun i=>(i.zero,i.size,i.bytes))=some (some (.int .u8 0),1,1):=aE
theorem Nu(w:World)(x:UInt8)(t:TypeId):∀(j:Nat) (u:Value),([lG x]:List Value)[j]?=some u→(w.alloc (.cells #[lG x] t)).cell? ((⟨w.heap.size,0,none⟩:Addr).add j)=some u:=by
 intro j u h;rw[show((⟨w.heap.size,0,none⟩:Addr).add j)=⟨w.heap.size,j,none⟩ by simp[Addr.add];intro e;exact e.symm,vO,←h];rw[←Array.getElem?_toList]
open Go
def uW(x:Int):UInt8:=(x%256).toNat.toUInt8
def Iq(k:Nat)(i:Int):ByteArray:=⟨#[35,uW k,uW ((k:Int)/256),uW i,uW (i/256)]⟩
theorem Kr(w:World)(l:Bs):(convert 155 9 (.slice (some ⟨w.heap.size,0,none⟩) l.length l.length)).run Tryz.prog (w.alloc (.cells (l.map lG).toArray 5))=.ok (.string ⟨l.toArray⟩) (w.alloc (.cells (l.map lG).toArray 5)):=by
 exact run_convert_bytes_back (P:=Tryz.prog) (w.alloc (.cells (l.map lG).toArray 5)) 155 9 5 ⟨w.heap.size,0,none⟩ l.length l Tryz.underlying155 Tryz.underlying5 Tryz.underlying9 (fun j hj=>by
  rw[show((⟨w.heap.size,0,none⟩:Addr).add j)=⟨w.heap.size,j,none⟩ by simp[Addr.add];intro e;exact e.symm,vO];simp[hj]
  rfl)
theorem IV(x:Int):lG (uW x)=.int .u8 (x%256):=by
 unfold lG uW;rw[Nat.toUInt8,UInt8.toNat_ofNat']
 congr 1
 omega
theorem IW(k:Nat)(i:Int)(w:World)(hk:k≤1000):(convert 155 9 (.slice (some ⟨w.heap.size,0,none⟩) 5 5)).run Tryz.prog (w.alloc (.cells #[.int .u8 35,.int .u8 ((k:Int) %256),.int .u8 ((k:Int)/256),.int .u8 (i%256),.int .u8 (i/256%256)] 5))=.ok (.string (Iq k i)) (w.alloc (.cells #[.int .u8 35,.int .u8 ((k:Int) %256),.int .u8 ((k:Int)/256),.int .u8 (i%256),.int .u8 (i/256%256)] 5)):=by
 have h:=Kr w [35,uW k,uW ((k:Int)/256),uW i,uW (i/256)]
 have e:(([35,uW k,uW ((k:Int)/256),uW i,uW (i/256)]:Bs).map lG).toArray=#[.int .u8 35,.int .u8 ((k:Int) %256),.int .u8 ((k:Int)/256),.int .u8 (i%256),.int .u8 (i/256%256)]:=by
  simp only[List.map_cons,List.map_nil,IV];rw[show(k:Int)/256%256=(k:Int)/256 by omega]
  rfl
 rw[e]at h;exact h
theorem Ea(k:Nat)(i:Int)(w:World)(hk:k≤1000)(hi:i≤33554432)(hi2:-33554432≤i):
  Calls Tryz.prog 155 #[.int .i64 k,.int .i64 i] w fun e w'=>e=.returned (.string (Iq k i))∧Below w.heap.size w w':=by
 have hc:=IW k i w hk;go_enter Tryz.func155,Tryz.ntmps155;go_wp2_with fail;go_ret;exact bP
end Go.Proofs.YtdkedmngeahjiaaGreatDoor
