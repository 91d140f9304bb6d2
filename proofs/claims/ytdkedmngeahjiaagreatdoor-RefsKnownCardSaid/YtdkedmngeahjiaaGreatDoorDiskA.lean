/- Contracts of disk: there, right, Revive, Read. -/
import Derived.Test.YtdkedmngeahjiaaGreatDoorM3
import Derived.Test.YtdkedmngeahjiaaGreatDoorM2
import Derived.Lib.Hide
set_option maxRecDepth 100000
set_option maxHeartbeats 25600000
namespace Go.Proofs.YtdkedmngeahjiaaGreatDoor
theorem gS{p:Prop}(h:p:=by unfold DM.get;rw[hg];rfl):p:=h
open Go Go.RowKit Go.Maps
theorem DiskIn.cells{w:World}{a n:Nat}{m:DM}{S:Nat→Prop}{bn bs:Nat}{pv fv:Value}{loc:Nat→Nat}(h:DiskIn w a n m S bn bs pv fv loc):
  w.cell? ⟨a,0,none⟩=some (.bool m.off)∧w.cell? ⟨a,1,none⟩=some (.int .i64 m.room)∧w.cell? ⟨a,2,none⟩=some (.map (some bn))∧w.cell? ⟨a,3,none⟩=some (.map (some bs))∧
   w.cell? ⟨a,4,none⟩=some pv∧w.cell? ⟨a,5,none⟩=some (.int .i64 m.armed)∧w.cell? ⟨a,6,none⟩=some fv:=
 ⟨rI h 0,rI h 1,rI h 2,rI h 3,rI h 4,rI h 5,rI h 6⟩
theorem sR(p:Option Addr)(w:World):(binOp .eql 93 (.pointer p) (.pointer none)).run Tryz.prog w=.ok (.bool p.isNone) w:=run_eql_pointer_nil w _ p aE
theorem sS(p:Option Addr)(w:World):(binOp .neq 93 (.pointer p) (.pointer none)).run Tryz.prog w=.ok (.bool p.isSome) w:=(run_neq_pointer_nil w _ p aE).trans (by cases p<;>rfl)
theorem qN(x y:Operand)(p q:Option Addr)(w:World):(eqGuard .eql 93 x y (.pointer p) (.pointer q)).run Tryz.prog w=.ok () w:=aE
theorem qO(x y:Operand)(p q:Option Addr)(w:World):(eqGuard .neq 93 x y (.pointer p) (.pointer q)).run Tryz.prog w=.ok () w:=aE
attribute [local go_sem] sR sS qN qO
def xO(b:Bool)(n:Int):Value:=if b then nJ n else .nilIface
theorem Ay{loc:Nat→Nat}{t:Tab}{k:Bs}(h:lS t k=none):Ei (lS (oX loc t) k)=.pointer none:=by rw[B2,h];rfl
theorem sE{loc:Nat→Nat}{t:Tab}{k:Bs}{i:Nat}(h:lS t k=some i):Ei (lS (oX loc t) k)=.pointer (some ⟨loc i,0,none⟩):=by rw[B2,h];rfl
theorem yK{w:World}{a n:Nat}{m:DM}{S:Nat→Prop}(h:DiskAt w a n m S)(s:ByteArray)(hs:s.size≤maxLen):
  Calls Tryz.prog 85 #[.pointer (some ⟨a,0,none⟩),.string s] w fun e w'=>e=.returned (xO (m.get s).isNone 10)∧w=w':=by
 obtain⟨bn,bs,pv,fv,loc,h⟩:=h;obtain⟨-,-,c2,-⟩:=h.cells;have hT:=h.now
 have hk:=B5 hs;clear h hs;go_enter Tryz.func85,Tryz.ntmps85
 cases hg:lS m.now s.data.toList with
 |none=>
  have e:(m.get s).isNone=true:=gS;have HG:=Ay (loc:=loc) hg
  go_wp2_with (at_lookup;refine oG rfl _ _ _ rfl 93 mH Tryz.underlying85 yZ bn _ rfl hT _ _ rfl hk ?_;rw[HG]);go_ret;exact⟨eD,rfl⟩
 |some i=>
  have e:(m.get s).isNone=false:=gS;have HG:=sE (loc:=loc) hg
  go_wp2_with (at_lookup;refine oG rfl _ _ _ rfl 93 mH Tryz.underlying85 yZ bn _ rfl hT _ _ rfl hk ?_;rw[HG]);go_ret;exact⟨eD,rfl⟩
theorem CN(s:ByteArray)(w:World):
  Calls Tryz.prog 99 #[.string s] w fun e w'=>e=.returned (xO (!oA s) 8)∧w=w':=by
 by_cases h0:1≤s.size
 ·have hne:¬s.toList=[]:=by
   rw[ByteArray.toList_eq];intro h;have:s.data.toList.length=0:=by rw[h];rfl
   have h2:s.data.toList.length=s.size:=Array.length_toList;omega
  have hE:s.toList.isEmpty=false:=by
   cases hl:s.toList with
   |nil=>exact absurd hl hne
   |cons x r=>rfl
  by_cases h1:s.size≤200
  ·have e:xO (!oA s) 8=.nilIface:=by unfold oA;rw[decide_eq_true h0,decide_eq_true h1];rfl
   have g1:¬(200:Int)<(s.size:Int):=aC;go_enter Tryz.func99,Tryz.ntmps99;go_wp2_with fail
   all_goals
    go_ret;exact⟨e▸rfl,rfl⟩
  ·have e:xO (!oA s) 8=nJ 8:=by unfold oA;rw[decide_eq_true h0,decide_eq_false h1];rfl
   have g1:(200:Int)<(s.size:Int):=aC;go_enter Tryz.func99,Tryz.ntmps99;go_wp2_with fail
   all_goals
    go_ret;exact⟨e▸rfl,rfl⟩
 ·have:s=⟨#[]⟩:=by
   apply ByteArray.ext;apply Array.eq_empty_of_size_eq_zero;show s.size=0
   omega
  subst this;go_enter Tryz.func99,Tryz.ntmps99;go_wp2_with fail
  all_goals
   go_ret;exact cF
theorem Gw{w:World}{a n:Nat}{m:DM}{S:Nat→Prop}(h:DiskAt w a n m S):
  Calls Tryz.prog 25 #[.pointer (some ⟨a,0,none⟩)] w fun e w'=>e=.returned (.tuple #[])∧DiskPost a n m.revive S w w':=by
 obtain⟨bn,bs,pv,fv,loc,h⟩:=h;obtain⟨c0,-⟩:=h.cells;have f0:w.frozen? ⟨a,0,none⟩=false:=lI h.head
 have H:=hZ h;clear h;go_enter Tryz.func25,Tryz.ntmps25;go_wp2_with fail;go_end0;have h:=H.out
 refine⟨rfl,?_,(Off.refl S w).setCell _ _ (fun _=>h.sa)⟩;have hb:∀b,b≠a→S b→(w.setCell ⟨a,0,none⟩ (.bool false)).heap[b]?=w.heap[b]?:=fun b hn _=>Below.heap_setCell _ _ _ _ hn
 refine⟨bn,bs,pv,fv,loc,(h.other (m':=m.revive) hb ?_ dC rfl rfl rfl (h.pendO hb) (h.fateO hb) {h.ok with}).bigger pJ ?_⟩
 ·rw[lY h.head,lM (lH h.head)]
  rfl
 ·rintro b (hS|⟨_,h2⟩)
  ·rw[World.size_setCell];exact h.lt b hS
  ·exact h2
def DM.reads(m:DM)(s:ByteArray):ByteArray×Int:=
 if m.off then(⟨#[]⟩,27)else match m.get s with
  |some i=>(m.files[i]!.data,0)
  |none=>(⟨#[]⟩,10)
def nG(n:Int):Value:=if n=0 then .nilIface else nJ n
theorem DiskIn.fileAt{w:World}{a n:Nat}{m:DM}{S:Nat→Prop}{bn bs:Nat}{pv fv:Value}{loc:Nat→Nat}(h:DiskIn w a n m S bn bs pv fv loc){i:Nat}(hi:i<m.files.length):S (loc i)∧w.heap[loc i]?=some (.cells #[.string m.files[i]!.data,.int .i64 m.files[i]!.safe] 95 (0,0)):=by
 refine h.file i _ ?_;rw[getElem!_pos m.files i hi];exact List.getElem?_eq_getElem hi
theorem Kc{w:World}{a n:Nat}{m:DM}{S:Nat→Prop}(h:DiskAt w a n m S)(s:ByteArray)(hs:s.size≤maxLen):
  Calls Tryz.prog 40 #[.pointer (some ⟨a,0,none⟩),.string s] w fun e w'=>e=.returned (.tuple #[.string (m.reads s).1,nG (m.reads s).2])∧w=w':=by
 have hth:=yK h s hs;obtain⟨bn,bs,pv,fv,loc,h⟩:=h;obtain⟨c0,-,c2,-⟩:=h.cells;have hT:=h.now
 have hk:=B5 hs;have H:=hZ h
 clear h hs
 cases ho:m.off with
 |true=>
  have e:m.reads s=(⟨#[]⟩,27):=by unfold DM.reads;rw[ho];rfl
  rw[ho]at c0;go_enter Tryz.func40,Tryz.ntmps40;go_wp2_with fail;go_ret2;exact⟨eD,rfl⟩
 |false=>
  rw[ho]at c0
  cases hg:lS m.now s.data.toList with
  |none=>
   have e:m.reads s=(⟨#[]⟩,10):=cL;have e2:xO (m.get s).isNone 10=nJ 10:=gS
   rw[e2]at hth;unfold nJ at hth;go_enter Tryz.func40,Tryz.ntmps40;go_wp2_with fail;refine hth.mono ?_;rintro e w1 ⟨rfl,rfl⟩;go_wp2_with fail;go_ret2;exact⟨eD,rfl⟩
  |some i=>
   have e:m.reads s=(m.files[i]!.data,0):=cL;have e2:xO (m.get s).isNone 10=.nilIface:=gS
   have HG:=sE (loc:=loc) hg;have hf:=(H.out.fileAt (wR H.out.ok.nowI hg)).2
   have d0:w.cell? ⟨loc i,0,none⟩=some (.string m.files[i]!.data):=lF hf;rw[e2]at hth;clear hf;generalize m.files[i]! =F at e d0;go_enter Tryz.func40,Tryz.ntmps40;go_wp2_with fail;refine hth.mono ?_;rintro e w1 ⟨rfl,rfl⟩;go_wp2_with (at_lookup;refine oG rfl _ _ _ rfl 93 mH Tryz.underlying85 yZ bn _ rfl hT _ _ rfl hk ?_;rw[HG]);go_ret2;exact⟨eD,rfl⟩
end Go.Proofs.YtdkedmngeahjiaaGreatDoor
