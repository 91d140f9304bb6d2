/- Contracts of the operations on names, as function values. -/
import Derived.Test.YtdkedmngeahjiaaGreatDoorDiskA
import Derived.Shelf.Abstract
import Derived.Handy
import Derived.Maps.OwnSet
set_option maxRecDepth 100000
set_option maxHeartbeats 25600000
namespace Go.Proofs.YtdkedmngeahjiaaGreatDoor
open Go Go.RowKit Go.Maps Go.Shelf
theorem EK{w:World}{b i:Nat}{v:Value}(h:w.cell? ⟨b,i,none⟩=some v):b<w.heap.size:=by
 unfold World.cell? at h;split at h
 ·exact lH ‹_›
 ·cases h
attribute [local go_sem] sR sS qN qO
theorem Gs(w:World)(loc:Nat→Nat)(bf bn b i:Nat)(s:ByteArray)(t:Tab)(hf:w.cell? ⟨bf,0,none⟩=some (.pointer (some ⟨loc i,0,none⟩)))(hn:w.cell? ⟨bn,0,none⟩=some (.string s))(hs:s.size≤maxLen)(hT:rB w b (oX loc t))(hl:t.length<maxLen):
  Calls Tryz.prog 101 #[.map (some b),.pointer (some ⟨bf,0,none⟩),.pointer (some ⟨bn,0,none⟩)] w fun e w'=>e=.returned (.tuple #[])∧rB w' b (oX loc ((DOp.create s i).act t))∧w.mapTurned w' b:=by
 have hk:=B5 hs;have HL:=hZ (FC loc t s.data.toList i)
 have hll:(oX loc t).length<maxLen:=by rw[vZ];exact hl
 go_enter Tryz.func101,Tryz.ntmps101;go_wp2_with (at_mapUpdate;refine vY rfl _ _ _ _ rfl 93 mH Tryz.underlying85 b _ rfl hT hll _ _ (loc i) rfl rfl hk ?_;intro w1 h1 h2);go_end0;exact⟨rfl,HL.out▸h1,h2⟩
theorem Gt(w:World)(loc:Nat→Nat)(bn b:Nat)(s:ByteArray)(t:Tab)(hn:w.cell? ⟨bn,0,none⟩=some (.string s))(hs:s.size≤maxLen)(hT:rB w b (oX loc t)):
  Calls Tryz.prog 94 #[.map (some b),.pointer (some ⟨bn,0,none⟩)] w fun e w'=>e=.returned (.tuple #[])∧rB w' b (oX loc ((DOp.remove s).act t))∧w.mapTurned w' b:=by
 have hk:=B5 hs;have HL:=hZ (B3 loc t s.data.toList)
 go_enter Tryz.func94,Tryz.ntmps94;go_wp2_with (at_delete;refine xE rfl _ _ _ rfl 93 mH Tryz.underlying85 b _ rfl hT _ _ rfl hk ?_;intro w1 h1 h2);go_end0;exact⟨rfl,HL.out▸h1,h2⟩
theorem Gu(w:World)(loc:Nat→Nat)(bo bn b:Nat)(o s:ByteArray)(t:Tab)(ho:w.cell? ⟨bo,0,none⟩=some (.string o))(hn:w.cell? ⟨bn,0,none⟩=some (.string s))(hos:o.size≤maxLen)(hs:s.size≤maxLen)(hT:rB w b (oX loc t))(hl:t.length<maxLen):
  Calls Tryz.prog 111 #[.map (some b),.pointer (some ⟨bo,0,none⟩),.pointer (some ⟨bn,0,none⟩)] w fun e w'=>e=.returned (.tuple #[])∧rB w' b (oX loc ((DOp.rename o s).act t))∧w.mapTurned w' b:=by
 have hk:=B5 hs;have hk2:=B5 hos
 have hbo:w.heap[b]?≠w.heap[bo]?:=by
  obtain⟨es,clock,h1,_⟩:=hT;rw[h1];intro e;unfold World.cell? at ho;rw[←e]at ho;cases ho
 have hbn:w.heap[b]?≠w.heap[bn]?:=by
  obtain⟨es,clock,h1,_⟩:=hT;rw[h1];intro e;unfold World.cell? at hn;rw[←e]at hn;cases hn
 have hbn':bn≠b:=fun e=>hbn (by rw[e])
 clear hbo hbn
 cases hg:lS t o.data.toList with
 |none=>
  have HG:=Ay (loc:=loc) hg;have HA:(DOp.rename o s).act t=t:=by simp only[DOp.act];rw[hg]
  have HA:=hZ HA;go_enter Tryz.func111,Tryz.ntmps111;go_wp2_with (at_lookup;refine oG rfl _ _ _ rfl 93 mH Tryz.underlying85 yZ b _ rfl hT _ _ rfl hk2 ?_;rw[HG]);go_end0;exact⟨rfl,by rw[HA.out];exact hT,World.ownsMap.turned_refl hT⟩
 |some i=>
  have HG:=sE (loc:=loc) hg;have HA:oX loc ((DOp.rename o s).act t)=oJ (nF (oX loc t) o.data.toList) s.data.toList (loc i):=by simp only[DOp.act];rw[hg,←FC,←B3]
  have HA:=hZ HA;have hll:(nF (oX loc t) o.data.toList).length<maxLen:=Nat.lt_of_le_of_lt (uI _ _) (by rw[vZ];exact hl)
  go_enter Tryz.func111,Tryz.ntmps111
  go_wp2_with (first
   |(at_lookup;refine oG rfl _ _ _ rfl 93 mH Tryz.underlying85 yZ b _ rfl hT _ _ rfl hk2 ?_;rw[HG])
   |(at_delete;refine xE rfl _ _ _ rfl 93 mH Tryz.underlying85 b _ rfl hT _ _ rfl hk2 ?_;intro w1 h1 h2;have hn1:w1.cell? ⟨bn,0,none⟩=some (.string s):=(lK (h2.grown.block bn (EK hn) (by simpa using hbn'))).trans hn)
   |(at_mapUpdate;refine vY rfl _ _ _ _ rfl 93 mH Tryz.underlying85 b _ rfl h1 hll _ _ (loc i) rfl rfl hk ?_;intro w2 h3 h4))
  go_end0;exact⟨rfl,by first|exact h3|(rw[HA.out];exact h3),h2.trans h4⟩
theorem MD{S:Nat→Prop}{w:World}{loc:Nat→Nat}{v:Value}{o:DOp}(h:OpAt S w loc v o):
  ∃(k:Nat) (lb:Array Value),v=.func (.func k) #[] lb∧Enters Tryz.prog k∧∀(S':Nat→Prop) (w1:World) (b:Nat) (t:Tab),OpAt S' w1 loc v o→rB w1 b (oX loc t)→t.length<maxLen→
   Calls Tryz.prog k (#[.map (some b)]++lb) w1 fun e w'=>e=.returned (.tuple #[])∧rB w' b (oX loc (o.act t))∧w1.mapTurned w' b:=by
 cases o with
 |create n i=>
  obtain⟨bf,bn,rfl,-⟩:=h;refine⟨_,_,rfl,enters_of Tryz.func101 aE rfl,fun S' w1 b t hO hT hl=>?_⟩;obtain⟨bf',bn',hv,-,-,h3,h4,h5⟩:=hO;cases hv;exact Gs w1 loc bf bn b i n t (lF h3) (lF h4) h5 hT hl
 |rename p n=>
  obtain⟨bf,bn,rfl,-⟩:=h;refine⟨_,_,rfl,enters_of Tryz.func111 aE rfl,fun S' w1 b t hO hT hl=>?_⟩;obtain⟨bf',bn',hv,-,-,h3,h4,h5,h6⟩:=hO;cases hv;exact Gu w1 loc bf bn b p n t (lF h3) (lF h4) h5 h6 hT hl
 |remove n=>
  obtain⟨bn,rfl,-⟩:=h;refine⟨_,_,rfl,enters_of Tryz.func94 aE rfl,fun S' w1 b t hO hT hl=>?_⟩;obtain⟨bn',hv,-,h4,h5⟩:=hO;cases hv;exact Gt w1 loc bn b n t (lF h4) h5 hT
end Go.Proofs.YtdkedmngeahjiaaGreatDoor
