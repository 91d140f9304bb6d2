/- strataref0.SamePairs at two rows of the same pairs. -/
import Derived.Test.YtdkedmngeahjiaaGreatDoorM42
import Derived.Test.YtdkedmngeahjiaaGreatDoorM46
import Derived.Test.YtdkedmngeahjiaaGreatDoorM32
import Derived.Deep.QuietTactic
set_option maxRecDepth 100000
set_option maxHeartbeats 25600000
namespace Go.Proofs.YtdkedmngeahjiaaGreatDoor
open Go Go.RowKit
attribute [local go_sem] F5 Cn
theorem NL:∀m:PT,m.cells.size=2:=fun _=>rfl
def Nb(p:List UInt8×ByteArray):PT:=⟨⟨p.1.toArray⟩,p.2⟩
theorem OwnP.pr{base:Nat}{l:List (List UInt8×ByteArray)}{v:Value}{w:World}(h:OwnP base l v w):OwnG 83 2 PT.cells base (l.map Nb) v w:=by
 have e:sZ PT.cells (l.map Nb)=sZ clP l:=by
  unfold sZ;rw[List.flatMap_map]
  rfl
 unfold OwnG;rw[List.length_map,e];exact h
theorem Gp{W:World}{base i n:Nat}{v:Value}{l:List PT}{x:PT}(h:OwnG 83 2 PT.cells base l v W)(hn:l.length=n)(hx:l[i]?=some x):∃g cap,v=.slice (some ⟨g,0,none⟩) n cap∧g<W.heap.size∧W.cell? ⟨g,i*2,none⟩=some (.string x.key)∧W.cell? ⟨g,i*2+1,none⟩=some (.string x.val):=by
 rcases h.reads NL with⟨rfl,rfl⟩|⟨g,cap,cur,h1,-,-,h4,h5⟩
 ·simp at hx
 ·refine⟨g,cap,by rw[h1,hn],lH h4,?_,?_⟩
  ·have:=h5 i x hx 0 aA;rw[Nat.add_zero]at this;rw[lF h4,this]
   rfl
  ·rw[lF h4,h5 i x hx 1 aA]
   rfl
theorem DP{w:World}{b1 b2:Nat}{v1 v2:Value}{l:List PT}(h1:OwnG 83 2 PT.cells b1 l v1 w)(h2:OwnG 83 2 PT.cells b2 l v2 w)(hl:l.length≤1000000000):
  Calls Tryz.prog 61 #[v1,v2] w fun e w'=>e=.returned (.bool true)∧Below w.heap.size w w':=by
 have r1:=h1;have r2:=h2
 unfold OwnG at r1 r2;obtain⟨p,lc,rfl⟩:=oV r1;obtain⟨p2,lc2,rfl⟩:=oV r2
 obtain⟨N,hN⟩:∃N,l.length=N:=⟨_,rfl⟩
 have R1:=hZ h1;have R2:=hZ h2
 rw[hN]at R1 R2⊢;have HN:=hZ hN
 have hNi:(N:Int)≤1000000000:=aC;clear h1 h2 r1 r2 hN hl;go_enter Tryz.func61,Tryz.ntmps61;go_wp2_with fail;go_loopw [5] (fun iv wr=>∃k:Nat,(k:Int)≤N∧iv=.int .i64 k∧Hid (Below w.heap.size w wr)) (fun iv _=>N-(intOf iv).toNat)
 case atStart=>exact⟨0,aC,rfl,hZ (Below.refl _ _)⟩
 case round=>
  obtain⟨k,hk,rfl,HB⟩:=hrel;by_cases hlt:(k:Int)<N
  ·have hkl:k<l.length:=by rw[HN.out];omega
   obtain⟨x,hx⟩:∃x,l[k]?=some x:=⟨_,List.getElem?_eq_getElem hkl⟩
   obtain⟨g,lc',e1,hg1,ha1,hb1⟩:=Gp R1.out HN.out hx;obtain⟨g2,lc2',e2,hg2,ha2,hb2⟩:=Gp R2.out HN.out hx;cases e1;cases e2;obtain⟨K,V⟩:=x;have c0:∀n:Nat,(wr.drewN n).cell? ⟨g,k*2,none⟩=some (.string K):=fun n=>((oS HB.out n).cell (p:=⟨g,k*2,none⟩) hg1).trans ha1
   have c1:∀n:Nat,(wr.drewN n).cell? ⟨g,k*2+1,none⟩=some (.string V):=fun n=>((oS HB.out n).cell (p:=⟨g,k*2+1,none⟩) hg1).trans hb1
   have d0:∀n:Nat,(wr.drewN n).cell? ⟨g2,k*2,none⟩=some (.string K):=fun n=>((oS HB.out n).cell (p:=⟨g2,k*2,none⟩) hg2).trans ha2
   have d1:∀n:Nat,(wr.drewN n).cell? ⟨g2,k*2+1,none⟩=some (.string V):=fun n=>((oS HB.out n).cell (p:=⟨g2,k*2+1,none⟩) hg2).trans hb2
   have hkN:k<N:=aC;clear hx hkl ha1 hb1 ha2 hb2 hg1 hg2;go_wp2_with fail;go_quiet (fail);rename_i nq
   obtain⟨W,hW⟩:∃W,wr.drewN nq=W:=⟨_,rfl⟩
   rw[hW];have HB4:=hZ (show Below w.heap.size w W by rw[←hW];exact oS HB.out nq)
   clear hW c0 c1 d0 d1;go_wp2_with fail;exact⟨⟨k+1,aC,aG,HB4⟩,cN⟩
  ·go_wp2_with fail;go_ret;exact⟨rfl,HB.out⟩
end Go.Proofs.YtdkedmngeahjiaaGreatDoor
