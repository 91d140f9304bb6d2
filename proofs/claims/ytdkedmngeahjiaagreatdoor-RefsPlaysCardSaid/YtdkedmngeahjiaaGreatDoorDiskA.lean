/- Contracts of disk: there, right, Revive, Read. -/
import Derived.Test.YtdkedmngeahjiaaGreatDoorM3
import Derived.Test.YtdkedmngeahjiaaGreatDoorM4
import Derived.Lib.Hide
set_option maxRecDepth 100000
set_option maxHeartbeats 25600000
namespace Go.Proofs.YtdkedmngeahjiaaGreatDoor
open Go Go.RowKit Go.Maps
theorem DiskIn.cells {w:World} {a n:Nat} {m:DM} {S:Nat→Prop} {bn bs:Nat} {pv fv:Value} {loc:Nat→Nat} (h:DiskIn w a n m S bn bs pv fv loc) :
  w.cell? ⟨a,0,none⟩=some (.bool m.off)∧w.cell? ⟨a,1,none⟩=some (.int .i64 m.room)∧w.cell? ⟨a,2,none⟩=some (.map (some bn))∧w.cell? ⟨a,3,none⟩=some (.map (some bs)) ∧
   w.cell? ⟨a,4,none⟩=some pv∧w.cell? ⟨a,5,none⟩=some (.int .i64 m.armed)∧w.cell? ⟨a,6,none⟩=some fv :=
 ⟨diskV_cell h 0,diskV_cell h 1,diskV_cell h 2,diskV_cell h 3,diskV_cell h 4,diskV_cell h 5,diskV_cell h 6⟩
theorem eql_file (p:Option Addr) (w:World):(binOp .eql 93 (.pointer p) (.pointer none)).run Tryz.prog w=.ok (.bool p.isNone) w:=run_eql_pointer_nil w _ p (by kernel_rfl)
theorem neq_file (p:Option Addr) (w:World):(binOp .neq 93 (.pointer p) (.pointer none)).run Tryz.prog w=.ok (.bool p.isSome) w:=(run_neq_pointer_nil w _ p (by kernel_rfl)).trans (by cases p <;> rfl)
theorem guard_eqlF (x y:Operand) (p q:Option Addr) (w:World):(eqGuard .eql 93 x y (.pointer p) (.pointer q)).run Tryz.prog w=.ok () w:=by kernel_rfl
theorem guard_neqF (x y:Operand) (p q:Option Addr) (w:World):(eqGuard .neq 93 x y (.pointer p) (.pointer q)).run Tryz.prog w=.ok () w:=by kernel_rfl
attribute [local go_sem] eql_file neq_file guard_eqlF guard_neqF
def errB (b:Bool) (n:Int):Value:=if b then errV n else .nilIface
theorem look_none {loc:Nat→Nat} {t:Tab} {k:Bs} (h:tget t k=none):ptrV (tget (locT loc t) k)=.pointer none:=by rw [locT_get,h];rfl
theorem look_some {loc:Nat→Nat} {t:Tab} {k:Bs} {i:Nat} (h:tget t k=some i):ptrV (tget (locT loc t) k)=.pointer (some ⟨loc i,0,none⟩):=by rw [locT_get,h];rfl
theorem there_any {w:World} {a n:Nat} {m:DM} {S:Nat→Prop} (h:DiskAt w a n m S) (s:ByteArray) (hs:s.size≤maxLen) :
  Calls Tryz.prog 85 #[.pointer (some ⟨a,0,none⟩),.string s] w fun e w'=>e=.returned (errB (m.get s).isNone 10)∧w=w':=by
 obtain ⟨bn,bs,pv,fv,loc,h⟩:=h
 obtain ⟨-,-,c2,-⟩:=h.cells
 have hT:=h.now
 have hk:=keyB hs
 clear h hs
 go_enter Tryz.func85,Tryz.ntmps85
 cases hg:tget m.now s.data.toList with
 |none =>
  have e:(m.get s).isNone=true:=by unfold DM.get;rw [hg];rfl
  have HG:=look_none (loc:=loc) hg
  go_wp2_with (at_lookup;refine wpList_look_tab rfl _ _ _ rfl 93 key_string Tryz.underlying85 zeroP bn _ rfl hT _ _ rfl hk ?_;rw [HG])
  go_ret
  exact ⟨by rw [e];rfl,rfl⟩
 |some i =>
  have e:(m.get s).isNone=false:=by unfold DM.get;rw [hg];rfl
  have HG:=look_some (loc:=loc) hg
  go_wp2_with (at_lookup;refine wpList_look_tab rfl _ _ _ rfl 93 key_string Tryz.underlying85 zeroP bn _ rfl hT _ _ rfl hk ?_;rw [HG])
  go_ret
  exact ⟨by rw [e];rfl,rfl⟩
theorem right_any (s:ByteArray) (w:World) :
  Calls Tryz.prog 99 #[.string s] w fun e w'=>e=.returned (errB (!rightB s) 8)∧w=w':=by
 by_cases h0:1≤s.size
 ·have hne:¬ s.toList=[]:=by
   rw [ByteArray.toList_eq]
   intro h
   have:s.data.toList.length=0:=by rw [h];rfl
   have h2:s.data.toList.length=s.size:=Array.length_toList
   omega
  have hE:s.toList.isEmpty=false:=by
   cases hl:s.toList with
   |nil=>exact absurd hl hne
   |cons x r=>rfl
  by_cases h1:s.size≤200
  ·have e:errB (!rightB s) 8=.nilIface:=by unfold rightB;rw [decide_eq_true h0,decide_eq_true h1];rfl
   have g1:¬ (200:Int) < (s.size:Int):=by omega
   go_enter Tryz.func99,Tryz.ntmps99
   go_wp2_with fail
   all_goals
    go_ret
    exact ⟨e ▸ rfl,rfl⟩
  ·have e:errB (!rightB s) 8=errV 8:=by unfold rightB;rw [decide_eq_true h0,decide_eq_false h1];rfl
   have g1:(200:Int) < (s.size:Int):=by omega
   go_enter Tryz.func99,Tryz.ntmps99
   go_wp2_with fail
   all_goals
    go_ret
    exact ⟨e ▸ rfl,rfl⟩
 ·have:s=⟨#[]⟩:=by
   apply ByteArray.ext
   apply Array.eq_empty_of_size_eq_zero
   show s.size=0
   omega
  subst this
  go_enter Tryz.func99,Tryz.ntmps99
  go_wp2_with fail
  all_goals
   go_ret
   exact ⟨rfl,rfl⟩
theorem revive_any {w:World} {a n:Nat} {m:DM} {S:Nat→Prop} (h:DiskAt w a n m S) :
  Calls Tryz.prog 25 #[.pointer (some ⟨a,0,none⟩)] w fun e w'=>e=.returned (.tuple #[])∧DiskPost a n m.revive S w w':=by
 obtain ⟨bn,bs,pv,fv,loc,h⟩:=h
 obtain ⟨c0,-⟩:=h.cells
 have f0:w.frozen? ⟨a,0,none⟩=false:=frozen_blk h.head
 have H:=hZ h
 clear h
 go_enter Tryz.func25,Tryz.ntmps25
 go_wp2_with fail
 go_end0
 have h:=H.out
 refine ⟨rfl,?_,(Off.refl S w).setCell _ _ (fun _=>h.sa)⟩
 have hb:∀ b,b≠a→S b→(w.setCell ⟨a,0,none⟩ (.bool false)).heap[b]?=w.heap[b]?:=fun b hn _=>Below.heap_setCell _ _ _ _ hn
 refine ⟨bn,bs,pv,fv,loc,(h.other (m':=m.revive) hb ?_ (by rw [World.size_setCell];omega) rfl rfl rfl (h.pendO hb) (h.fateO hb) { h.ok with }).bigger grow_sub ?_⟩
 ·rw [setCell_blk h.head,setBlk_heap (blk_lt h.head)]
  rfl
 ·rintro b (hS | ⟨_,h2⟩)
  ·rw [World.size_setCell];exact h.lt b hS
  ·exact h2
def DM.reads (m:DM) (s:ByteArray):ByteArray × Int :=
 if m.off then (⟨#[]⟩,27) else match m.get s with
  |some i=>(m.files[i]!.data,0)
  |none=>(⟨#[]⟩,10)
def errE (n:Int):Value:=if n=0 then .nilIface else errV n
theorem DiskIn.fileAt {w:World} {a n:Nat} {m:DM} {S:Nat→Prop} {bn bs:Nat} {pv fv:Value} {loc:Nat→Nat} (h:DiskIn w a n m S bn bs pv fv loc) {i:Nat} (hi:i < m.files.length):S (loc i)∧w.heap[loc i]?=some (.cells #[.string m.files[i]!.data,.int .i64 m.files[i]!.safe] 95 (0,0)):=by
 refine h.file i _ ?_
 rw [getElem!_pos m.files i hi]
 exact List.getElem?_eq_getElem hi
theorem read_any {w:World} {a n:Nat} {m:DM} {S:Nat→Prop} (h:DiskAt w a n m S) (s:ByteArray) (hs:s.size≤maxLen) :
  Calls Tryz.prog 40 #[.pointer (some ⟨a,0,none⟩),.string s] w fun e w'=>e=.returned (.tuple #[.string (m.reads s).1,errE (m.reads s).2])∧w=w':=by
 have hth:=there_any h s hs
 obtain ⟨bn,bs,pv,fv,loc,h⟩:=h
 obtain ⟨c0,-,c2,-⟩:=h.cells
 have hT:=h.now
 have hk:=keyB hs
 have H:=hZ h
 clear h hs
 cases ho:m.off with
 |true =>
  have e:m.reads s=(⟨#[]⟩,27):=by unfold DM.reads;rw [ho];rfl
  rw [ho] at c0
  go_enter Tryz.func40,Tryz.ntmps40
  go_wp2_with fail
  go_ret2
  exact ⟨by rw [e];rfl,rfl⟩
 |false =>
  rw [ho] at c0
  cases hg:tget m.now s.data.toList with
  |none =>
   have e:m.reads s=(⟨#[]⟩,10):=by unfold DM.reads DM.get;rw [ho,hg];rfl
   have e2:errB (m.get s).isNone 10=errV 10:=by unfold DM.get;rw [hg];rfl
   rw [e2] at hth
   unfold errV at hth
   go_enter Tryz.func40,Tryz.ntmps40
   go_wp2_with fail
   refine hth.mono ?_
   rintro e w1 ⟨rfl,rfl⟩
   go_wp2_with fail
   go_ret2
   exact ⟨by rw [e];rfl,rfl⟩
  |some i =>
   have e:m.reads s=(m.files[i]!.data,0):=by unfold DM.reads DM.get;rw [ho,hg];rfl
   have e2:errB (m.get s).isNone 10=.nilIface:=by unfold DM.get;rw [hg];rfl
   have HG:=look_some (loc:=loc) hg
   have hf:=(H.out.fileAt (tget_lt H.out.ok.nowI hg)).2
   have d0:w.cell? ⟨loc i,0,none⟩=some (.string m.files[i]!.data):=cell_of_heapN hf
   rw [e2] at hth
   clear hf
   generalize m.files[i]! = F at e d0
   go_enter Tryz.func40,Tryz.ntmps40
   go_wp2_with fail
   refine hth.mono ?_
   rintro e w1 ⟨rfl,rfl⟩
   go_wp2_with (at_lookup;refine wpList_look_tab rfl _ _ _ rfl 93 key_string Tryz.underlying85 zeroP bn _ rfl hT _ _ rfl hk ?_;rw [HG])
   go_ret2
   exact ⟨by rw [e];rfl,rfl⟩
end Go.Proofs.YtdkedmngeahjiaaGreatDoor
