/- Texts of the seat, one behind the other: Operate, OperateB. -/
import Derived.Test.YtdkedmngeahjiaaGreatDoorDiskA
import Derived.Shelf.Abstract
import Derived.Handy
import Derived.StillTailTactics
set_option maxRecDepth 100000
set_option maxHeartbeats 25600000
/- The contract of operate, for any closures. -/
namespace Go.Proofs.YtdkedmngeahjiaaGreatDoor
open Go Go.RowKit Go.Maps Go.Shelf
def IntsRd (S:Nat→Prop) (w:World) (kv:Value) (ks:List Int):Prop :=
 ∃ p cap,kv=.slice p ks.length cap∧(ks.length≤cap∧cap≤maxLen)∧∀ j k,ks[j]?=some k→(-9223372036854775808≤k∧k≤9223372036854775807)∧∃ b off,p=some ⟨b,off,none⟩∧w.cell? ⟨b,off+j,none⟩=some (.int .i64 k)∧b < w.heap.size∧(¬ S b∨∃ cs fz,w.heap[b]?=some (.cells cs 3 fz))
theorem heap_new2 (w:World) (o o':Obj):((w.alloc o).alloc o').heap[w.heap.size+1]?=some o':=by
 have:=heap_new (w.alloc o) o'
 rwa [World.size_alloc] at this
theorem below2 (w:World) (o o':Obj):Below w.heap.size w ((w.alloc o).alloc o'):=((Below.refl _ w).alloc (Nat.le_refl _) _).alloc (by rw [World.size_alloc];omega) _
theorem size2 (w:World) (o o':Obj):((w.alloc o).alloc o').heap.size=w.heap.size+2:=by rw [World.size_alloc,World.size_alloc]
theorem wp_region_tailD {P:Program} {id:Nat} {Q:Exit→Act→World→Prop} {a:Act} {w:World} {l:List Oper} (n:Nat) (hm:P.follows .mixedOrders=true) (hB:Region.lexTailB .any l.toArray n=true)
  (h:wpStill P l.toArray (w.drewN 1) (fun a'=>wpList P l.toArray Q (l.drop n) a' (w.drewN 1)) (l.take n) a):(Code.region id l.toArray true).wp P Q a w:=wp_region_still_tail n hm hB h
theorem wrapD {x:Int} (h0:0≤x) (h1:x < 9223372036854775808):IntKind.i64.wrap x=x:=by
 simp only [IntKind.wrap,IntKind.bits,IntKind.signed]
 simp
 omega
theorem mixedD:Tryz.prog.follows .mixedOrders=true:=by kernel_rfl
theorem DiskPost.drew {a n q:Nat} {m:DM} {S:Nat→Prop} {w w':World} (h:DiskPost a n m S (w.drewN q) w'):DiskPost a n m S w w':=⟨h.1,h.2.os,h.2.tape,h.2.output,h.2.size,h.2.block⟩
def FailOk:Prop:=∀ (w:World) (a n:Nat) (m:DM) (S:Nat→Prop) (kv:Value) (ks:List Int),DiskAt w a n m S→IntsRd S w kv ks→n≤8000000000000 →
 Calls Tryz.prog 70 #[.pointer (some ⟨a,0,none⟩),kv] w fun e w'=>e=.returned (.tuple #[])∧DiskPost a n (m.fail ks) S w w'
theorem operate_off {w:World} {a n:Nat} {m:DM} {S:Nat→Prop} (h:DiskAt w a n m S) (kR kA:Nat) (lR lA:Array Value) (late:Bool) (ho:m.off=true) :
  Calls Tryz.prog 90 #[.pointer (some ⟨a,0,none⟩),.func (.func kR) #[] lR,.bool late,.func (.func kA) #[] lA] w fun e w'=>e=.returned (errV 27)∧Below w.heap.size w w':=by
 obtain ⟨bn,bs,pv,fv,loc,h⟩:=h
 obtain ⟨c0,-⟩:=h.cells
 have hb0:=blk_lt h.head
 rw [ho] at c0
 clear h
 go_enter_defers Tryz.func90,Tryz.ntmps90
 go_wp2_with fail
 refine ⟨errV 27,?_,rfl,((Below.refl _ w).alloc (Nat.le_refl _) _).alloc (by simp) _⟩
 have hc:((w.alloc (.cells #[.pointer (some ⟨a,0,none⟩)] 34)).alloc (.cells #[.iface 71 (.int .i64 27)] 25)).cell? ⟨w.heap.size+1,0,none⟩=some (.iface 71 (.int .i64 27)):=by simp
 simp [results,Tryz.f90,go_sem,hc]
 rfl
theorem operate_no {w:World} {a n:Nat} {m:DM} {S:Nat→Prop} (h:DiskAt w a n m S) (kR kA:Nat) (lR lA:Array Value) (late:Bool) (ho:m.off=false) (x:Int) (hx:x≠0) (eg:Enters Tryz.prog kR)
  (hR:∀ W,Below w.heap.size w W→Calls Tryz.prog kR lR W fun e w'=>e=.returned (errV x)∧Below W.heap.size W w') :
  Calls Tryz.prog 90 #[.pointer (some ⟨a,0,none⟩),.func (.func kR) #[] lR,.bool late,.func (.func kA) #[] lA] w fun e w'=>e=.returned (errV x)∧Below w.heap.size w w':=by
 obtain ⟨bn,bs,pv,fv,loc,h⟩:=h
 obtain ⟨c0,-⟩:=h.cells
 have hb0:=blk_lt h.head
 rw [ho] at c0
 clear h
 unfold errV at hR
 have eg':∀ (args:Array Value) (w:World),(callFunc kR args).run Tryz.prog w=.ok (.enter kR args) w:=eg
 go_enter_defers Tryz.func90,Tryz.ntmps90
 go_wp2_with (go_at_fn kR;refine (hR _ (below2 w _ _)).mono ?_;rintro e w1 ⟨rfl,hb1⟩;rw [size2] at hb1;have hE:=(hb1.block (w.heap.size+1) (by omega)).trans (heap_new2 w _ _);have HB:=hZ ((below2 w _ _).trans (hb1.mono (by omega)));have ce:w1.cell? ⟨w.heap.size+1,0,none⟩=some .nilIface:=cell_of_heapN hE;have fe:w1.frozen? ⟨w.heap.size+1,0,none⟩=false:=frozen_blk hE;clear hb1;have HE:=hZ hE;clear hE)
 have hc:(w1.setCell ⟨w.heap.size+1,0,none⟩ (.iface 71 (.int .i64 x))).cell? ⟨w.heap.size+1,0,none⟩=some (.iface 71 (.int .i64 x)):=by
  rw [setCell_blk HE.out,cell_of_heapN (setBlk_heap (blk_lt HE.out))]
  rfl
 refine ⟨errV x,?_,rfl,HB.out.setCell (by simp) _⟩
 simp [results,Tryz.f90,go_sem,hc]
 rfl
theorem IntsOwn.rd {S:Nat→Prop} {w:World} {fv:Value} {ks:List Int} (h:IntsOwn S w fv ks) (hk:∀ k∈ks,-9223372036854775808≤k∧k≤9223372036854775807):IntsRd S w fv ks:=by
 rcases h.1.2 with ⟨rfl,h0⟩ | ⟨g,cap,cur,rfl,-,hg,h1,h2,h3,h4⟩
 ·have:ks=[]:=List.eq_nil_of_length_eq_zero h0
  subst this
  exact ⟨none,0,rfl,⟨Nat.le_refl _,Nat.zero_le _⟩,fun j k hj=>by cases hj⟩
 ·refine ⟨some ⟨g,0,none⟩,cap,rfl,⟨h1,h2⟩,fun j k hj=>⟨hk k (List.mem_of_getElem? hj),g,0,rfl,?_,blk_lt hg,.inr ⟨_,_,hg⟩⟩⟩
  rw [Nat.zero_add,cell_of_heapN hg,← Array.getElem?_toList]
  have hl:=(List.getElem?_eq_some_iff.1 hj).1
  have e:(cur.toList.take (ks.length * 1))[j]?=(ks.map (Value.int .i64))[j]?:=by rw [h4]
  rw [List.getElem?_take,if_pos (by omega),List.getElem?_map,hj] at e
  exact e
theorem deferred_no (w:World) (u:FrameMode) (b1 b2 b3:Nat) (h:w.cell? ⟨b3,0,none⟩=some (.bool false)) :
  CallsD Tryz.prog 148 #[.pointer (some ⟨b3,0,none⟩),.pointer (some ⟨b1,0,none⟩),.pointer (some ⟨b2,0,none⟩)] u w fun e u' w'=>u'=u∧(e=.returned (.tuple #[])∧w'=w):=by
 go_enter_d Tryz.func148,Tryz.ntmps148
 go_wp2_with fail
 go_end0
 exact ⟨rfl,rfl⟩
theorem deferred_yes (hF:FailOk) {w:World} {a n:Nat} {m:DM} {S:Nat→Prop} (hnn:n≤8000000000000) (h:DiskAt w a n m S) (u:FrameMode) (b1 b2 b3:Nat) (v:Value) (h1:w.cell? ⟨b1,0,none⟩=some (.pointer (some ⟨a,0,none⟩))) (h2:w.heap[b2]?=some (.cells #[v] 25 (0,0))) (h3:w.cell? ⟨b3,0,none⟩=some (.bool true)) (hn:¬ S b2) :
  CallsD Tryz.prog 148 #[.pointer (some ⟨b3,0,none⟩),.pointer (some ⟨b1,0,none⟩),.pointer (some ⟨b2,0,none⟩)] u w fun e u' w'=>u'=u∧(e=.returned (.tuple #[])∧∃ w2,DiskPost a n (m.fail m.keep) S w w2∧w2.heap[b2]?=some (.cells #[v] 25 (0,0))∧w'=w2.setCell ⟨b2,0,none⟩ (errV 27)):=by
 have hd:=h
 obtain ⟨bn,bs,pv,fv,loc,h⟩:=h
 obtain ⟨-,-,-,-,-,-,c6⟩:=h.cells
 have hc:=fun q=>hF (w.drewN q) a n m S fv m.keep (hd.frame (fun _ _=>rfl) (Nat.le_refl _)) (h.fate.rd h.ok.keepI) hnn
 have HE:=hZ h2
 have c2:w.cell? ⟨b2,0,none⟩=some v:=cell_of_heapN h2
 clear h hd h2
 go_enter_d Tryz.func148,Tryz.ntmps148
 go_wp2_with fail
 go_still_tail 5,mixedD
 go_wp2_with (go_at_call 70;refine (hc 1).mono ?_;rintro e w2 ⟨rfl,hp⟩;have hE:=(hp.2.block b2 (blk_lt HE.out) hn).trans HE.out;have ce:w2.cell? ⟨b2,0,none⟩=some v:=cell_of_heapN hE;have fe:w2.frozen? ⟨b2,0,none⟩=false:=frozen_blk hE;have HP:=hZ hp;have HQ:=hZ hE;clear hp hE)
 go_end0
 exact ⟨rfl,w2,HP.out.drew,HQ.out,rfl⟩
theorem DiskIn.tickAt {w w1:World} {a n:Nat} {m:DM} {S:Nat→Prop} {bn bs:Nat} {pv fv:Value} {loc:Nat→Nat} (h:DiskIn w a n m S bn bs pv fv loc) (h1:Below w.heap.size w w1):DiskAt (w1.setCell ⟨a,5,none⟩ (.int .i64 m.tick.armed)) a n m.tick S∧Off (fun b=>b=a) w (w1.setCell ⟨a,5,none⟩ (.int .i64 m.tick.armed)):=by
 have h2:DiskIn w1 a n m S bn bs pv fv loc:=h.frame (fun b hS=>h1.block b (h.lt b hS)) h1.size
 have hb:∀ b,b≠a→S b→(w1.setCell ⟨a,5,none⟩ (.int .i64 m.tick.armed)).heap[b]?=w1.heap[b]?:=fun b hn _=>Below.heap_setCell _ _ _ _ hn
 refine ⟨⟨bn,bs,pv,fv,loc,h2.other (m':=m.tick) hb ?_ (by rw [World.size_setCell];omega) rfl rfl rfl (h2.pendO hb) (h2.fateO hb) h.ok.tick⟩,((Off.refl (fun b=>b=a) w).below h1 (Nat.le_refl _)).setCell _ _ (fun _=>rfl)⟩
 rw [setCell_blk h2.head,setBlk_heap (blk_lt h2.head)]
 rfl
theorem tick_armed (m:DM) (h:0≤m.armed):m.tick.armed=max 0 (m.armed - 1):=by
 show (if 1≤m.armed then m.armed - 1 else 0)=_
 split <;> omega
theorem op_boxes {w w1:World} {a n:Nat} {m:DM} {S:Nat→Prop} {bn bs:Nat} {pv fv:Value} {loc:Nat→Nat} (h:DiskIn w a n m S bn bs pv fv loc)
  (hb1:Below ((w.alloc (.cells #[.pointer (some ⟨a,0,none⟩)] 34)).alloc (.cells #[.nilIface] 25)).heap.size ((w.alloc (.cells #[.pointer (some ⟨a,0,none⟩)] 34)).alloc (.cells #[.nilIface] 25)) w1) :
  w1.cell? ⟨w.heap.size,0,none⟩=some (.pointer (some ⟨a,0,none⟩))∧w1.cell? ⟨a,5,none⟩=some (.int .i64 m.armed)∧w1.frozen? ⟨a,5,none⟩=false∧w1.cell? ⟨w.heap.size+1,0,none⟩=some .nilIface∧w1.frozen? ⟨w.heap.size+1,0,none⟩=false ∧
   Hid (Below w.heap.size w w1)∧Hid (w1.heap[w.heap.size]?=some (.cells #[.pointer (some ⟨a,0,none⟩)] 34 (0,0)))∧Hid (w1.heap[w.heap.size+1]?=some (.cells #[.nilIface] 25 (0,0)))∧w.heap.size+2≤w1.heap.size∧w.heap.size < w1.heap.size∧w.heap.size+1 < w1.heap.size∧a < w1.heap.size:=by
 rw [size2] at hb1
 have hE:=(hb1.block (w.heap.size+1) (by omega)).trans (heap_new2 w _ _)
 have hB:=(below2 w _ _).trans (hb1.mono (show w.heap.size≤w.heap.size+2 by omega))
 have hD:w1.heap[w.heap.size]?=some (.cells #[.pointer (some ⟨a,0,none⟩)] 34 (0,0)):=(hb1.block (w.heap.size) (by omega)).trans ((Below.heap_alloc _ _ _ (by rw [World.size_alloc];omega)).trans (heap_new w _))
 have hb0:=blk_lt h.head
 have hz:=hb1.size
 rw [size2] at hz
 exact ⟨cell_of_heapN hD,(hB.cell (p:=⟨a,5,none⟩) hb0).trans h.cells.2.2.2.2.2.1,frozen_blk ((hB.block a hb0).trans h.head),cell_of_heapN hE,frozen_blk hE,hZ hB,hZ hD,hZ hE,hz,by omega,by omega,by omega⟩
theorem cell_set_other {w:World} {b c:Nat} (v:Value) (h:b≠c):(w.setCell ⟨c,0,none⟩ v).cell? ⟨b,0,none⟩=w.cell? ⟨b,0,none⟩:=cell_of_heap (Below.heap_setCell _ _ _ _ h)
theorem op_behind {w w1 w2 W:World} {a n:Nat} {m:DM} {S:Nat→Prop} {bn bs:Nat} {pv fv v:Value} {loc:Nat→Nat} {s:Bool} (h:DiskIn w a n m S bn bs pv fv loc) (hW:W=((w1.alloc (.cells #[.bool s] 4)).drewN 1).setCell ⟨a,5,none⟩ v)
  (hb:Below w.heap.size w w1) (hd:w1.heap[w.heap.size]?=some (.cells #[.pointer (some ⟨a,0,none⟩)] 34 (0,0))) (he:w1.heap[w.heap.size+1]?=some (.cells #[.nilIface] 25 (0,0))) (ho:Off S W w2) :
  w2.cell? ⟨w1.heap.size,0,none⟩=some (.bool s)∧w2.cell? ⟨w.heap.size,0,none⟩=some (.pointer (some ⟨a,0,none⟩))∧w2.cell? ⟨w.heap.size+1,0,none⟩=some .nilIface∧w2.frozen? ⟨w.heap.size+1,0,none⟩=false∧w2.heap[w.heap.size+1]?=some (.cells #[.nilIface] 25 (0,0)) ∧
   Off S w w2∧w.heap.size+1 < w1.heap.size∧w1.heap.size < w2.heap.size:=by
 have ha:=blk_lt h.head
 have hz:=blk_lt he
 have hsz:W.heap.size=w1.heap.size+1:=by rw [hW,World.size_setCell];show (w1.alloc _).heap.size=_;rw [World.size_alloc]
 have hnS:∀ b,w.heap.size≤b→¬ S b:=fun b hb hS=>by have:=h.lt b hS;omega
 have hk:∀ b,b≠a→W.heap[b]?=(w1.alloc (.cells #[.bool s] 4)).heap[b]?:=fun b hn=>by rw [hW,Below.heap_setCell _ _ _ _ hn];rfl
 have g1:w2.heap[w.heap.size]?=_:=((ho.block _ (by omega) (hnS _ (Nat.le_refl _))).trans (hk _ (by omega))).trans ((Below.heap_alloc w1 _ _ (by omega)).trans hd)
 have g2:w2.heap[w.heap.size+1]?=_:=((ho.block _ (by omega) (hnS _ (by omega))).trans (hk _ (by omega))).trans ((Below.heap_alloc w1 _ _ (by omega)).trans he)
 have g3:w2.heap[w1.heap.size]?=_:=((ho.block _ (by omega) (hnS _ (by omega))).trans (hk _ (by omega))).trans (heap_new w1 _)
 refine ⟨cell_of_heapN g3,cell_of_heapN g1,cell_of_heapN g2,frozen_blk g2,g2,?_,hz,by have:=ho.size;omega⟩
 refine Off.tr (b:=W) ?_ ho
 rw [hW]
 exact ((((Off.refl S w).below hb (Nat.le_refl _)).alloc _).draws 1).setCell _ _ (fun _=>h.sa)
theorem DiskAt.grow2 {a n:Nat} {m:DM} {S:Nat→Prop} {w W w2 w3:World} (h:DiskAt w2 a n m (grow S W w2)) (hz1:w.heap.size≤W.heap.size) (hz2:w2.heap.size≤w3.heap.size) (hb:∀ b,grow S W w2 b→w3.heap[b]?=w2.heap[b]?) (hl:∀ b,S b→b < w2.heap.size):DiskAt w3 a n m (grow S w w3):=by
 obtain ⟨bn,bs,pv,fv,loc,h⟩:=h.frame hb hz2
 refine ⟨bn,bs,pv,fv,loc,h.bigger ?_ ?_⟩
 ·rintro b (h1 | ⟨h1,h2⟩)
  ·exact .inl h1
  ·exact .inr ⟨by omega,by omega⟩
 ·rintro b (h1 | ⟨_,h2⟩)
  ·have:=hl b h1;omega
  ·exact h2
theorem operate_do {w:World} {a n:Nat} {m:DM} {S:Nat→Prop} (h:DiskAt w a n m S) (kR kA:Nat) (lR lA:Array Value) (late:Bool) (ho:m.off=false) (ha:m.armed≠1) (eR:Enters Tryz.prog kR) (eA:Enters Tryz.prog kA) (m':DM)
  (hR:∀ W,Below w.heap.size w W→Calls Tryz.prog kR lR W fun e w'=>e=.returned .nilIface∧Below W.heap.size W w')
  (hA:∀ W,DiskAt W a n m.tick S→Off (fun b=>b=a) w W→Calls Tryz.prog kA lA W fun e w'=>e=.returned (.tuple #[])∧DiskPost a (n+1) m' S W w') :
  Calls Tryz.prog 90 #[.pointer (some ⟨a,0,none⟩),.func (.func kR) #[] lR,.bool late,.func (.func kA) #[] lA] w fun e w'=>e=.returned .nilIface∧DiskPost a (n+1) m' S w w':=by
 obtain ⟨bn,bs,pv,fv,loc,h⟩:=h
 obtain ⟨c0,-,-,-,-,c5,-⟩:=h.cells
 have hb0:=blk_lt h.head
 rw [ho] at c0
 have H:=hZ h
 have hA1:=h.ok.arm1
 have hA0:=h.ok.arm0
 clear h
 have eg':∀ (args:Array Value) (w:World),(callFunc kR args).run Tryz.prog w=.ok (.enter kR args) w:=eR
 have eg2:∀ (args:Array Value) (w:World),(callFunc kA args).run Tryz.prog w=.ok (.enter kA args) w:=eA
 have hcase:(2≤m.armed∧IntKind.i64.wrap (m.armed - 1)=m.armed - 1∧0 < m.armed - 1∧m.tick.armed=m.armed - 1)∨(m.armed=0∧m.tick.armed=0):=by
  by_cases h2:2≤m.armed
  ·exact .inl ⟨h2,wrapD (by omega) (by omega),by omega,by show (if 1≤m.armed then m.armed - 1 else 0)=_;rw [if_pos (by omega)]⟩
  ·have h0:m.armed=0:=by omega
   exact .inr ⟨h0,by show (if 1≤m.armed then m.armed - 1 else 0)=_;rw [if_neg (by omega)]⟩
 have hmf:∀ (fn:Fn) (first cap:Array Value) (w:World),(Instr.makeFunc fn first cap).run Tryz.prog w=.ok (.func fn first cap) w:=fun _ _ _ _=>rfl
 have htk:=fun w1=>H.out.tickAt (w1:=w1)
 rcases hcase with ⟨h2,hw,h1,e⟩ | ⟨h0,e⟩
 all_goals
  rw [e] at htk
  try rw [h0] at c5 ha
  try rw [h0] at hA1 hA0
  go_enter_defers Tryz.func90,Tryz.ntmps90
  go_wp2_with (go_at_fn kR;refine (hR _ (below2 w _ _)).mono ?_;rintro e w1 ⟨rfl,hb1⟩;obtain ⟨cd,c5',f5,ce,fe,HB,HD,HE,hz1,hz2,hz3,hz4⟩:=op_boxes H.out hb1;clear hb1;try rw [h0] at c5')
  refine wp_region_tailD 7 mixedD (by kernel_rfl) ?_
  simp only [List.take_succ_cons,List.take_zero,List.drop_succ_cons,List.drop_zero]
  repeat still_step
  refine wpStill_nil ?_
  go_wp2_with (go_at_fn kA;refine (hA _ (htk _ (HB.out.alloc (by omega) _ |>.drew)).1 (htk _ (HB.out.alloc (by omega) _ |>.drew)).2).mono ?_;rintro e w2 ⟨rfl,hp⟩;obtain ⟨g3,g1,g2,f2,HE2,HO,hz5,hz6⟩:=op_behind H.out rfl HB.out HD.out HE.out hp.2;have HP:=hZ hp;have HO:=hZ HO;have HE2:=hZ HE2;clear hp)
  try rw [show (m.armed == 1)=false from beq_eq_false_iff_ne.2 ha] at g3
  refine leaves_cons (f:=148) (args:=#[.pointer (some ⟨w1.heap.size,0,none⟩),.pointer (some ⟨w.heap.size,0,none⟩),.pointer (some ⟨w.heap.size+1,0,none⟩)]) (by simp) (by simp [go_sem]) ?_
  refine (deferred_no _ .returning w.heap.size (w.heap.size+1) w1.heap.size ((cell_set_other _ (by omega)).trans g3)).mono ?_
  rintro e u' w'' ⟨rfl,rfl,rfl⟩
  have hc:(w2.setCell ⟨w.heap.size+1,0,none⟩ .nilIface).cell? ⟨w.heap.size+1,0,none⟩=some .nilIface:=by
   rw [setCell_blk HE2.out,cell_of_heapN (setBlk_heap (blk_lt HE2.out))]
   rfl
  refine ⟨.nilIface,by simp [results,Tryz.f90,go_sem,hc],rfl,?_,HO.out.setCell _ _ (fun h=>absurd h (by show ¬ (w.heap.size+1 < w.heap.size);omega))⟩
  refine HP.out.1.grow2 (by simp;omega) (by rw [World.size_setCell];omega) (fun b hb=>Below.heap_setCell _ _ _ _ (fun e=>?_)) (fun b hb=>Nat.lt_of_lt_of_le (H.out.lt b hb) HO.out.size)
  have e':b=w.heap.size+1:=e
  rcases hb with hb | ⟨hb,_⟩
  ·have:=H.out.lt b hb;omega
  ·simp at hb;omega
end Go.Proofs.YtdkedmngeahjiaaGreatDoor
/- The contract of operate where the operation is struck. -/
namespace Go.Proofs.YtdkedmngeahjiaaGreatDoor
open Go Go.RowKit Go.Maps Go.Shelf
theorem DiskAt.sup {a n:Nat} {m:DM} {S S':Nat→Prop} {w:World} (h:DiskAt w a n m S) (hs:∀ b,S b→S' b) (hl:∀ b,S' b→b < w.heap.size):DiskAt w a n m S':=by
 obtain ⟨bn,bs,pv,fv,loc,h⟩:=h
 exact ⟨bn,bs,pv,fv,loc,h.bigger hs hl⟩
theorem DiskAt.setBox {w:World} {a n k:Nat} {m:DM} {S:Nat→Prop} (h:DiskAt w a n m S) (hk:¬ S k) (v:Value):DiskAt (w.setCell ⟨k,0,none⟩ v) a n m S:=by
 refine h.frame (fun b hb=>Below.heap_setCell _ _ _ _ (fun e=>hk ?_)) (by rw [World.size_setCell];omega)
 have e':b=k:=e
 rw [← e']
 exact hb
theorem post_struck {a n:Nat} {m:DM} {S T:Nat→Prop} {w w2 w3:World} {k:Nat} {v:Value} (h:DiskPost a n m T w2 w3) (ho:Off S w w2) (hT:∀ b,T b→S b∨(w.heap.size≤b∧b < w2.heap.size)) (hS:∀ b,S b→b < w.heap.size) (hk:w.heap.size≤k) (hk2:k < w2.heap.size) (hkT:¬ T k):DiskPost a n m S w (w3.setCell ⟨k,0,none⟩ v):=by
 have hz1:=ho.size
 have hz2:=h.2.size
 have hkS:¬ S k:=fun h=>by have:=hS k h;omega
 refine ⟨?_,(ho.trans h.2 ?_).setCell _ _ (fun h=>absurd h (by show ¬ (k < w.heap.size);omega))⟩
 ·refine DiskAt.sup (h.1.frame (fun b hb=>Below.heap_setCell _ _ _ _ (fun e=>?_)) (by rw [World.size_setCell];omega)) ?_ ?_
  ·have e':b=k:=e
   rcases hb with hb | ⟨hb,_⟩
   ·exact hkT (e' ▸ hb)
   ·omega
  ·rintro b (hb | ⟨hb,hb2⟩)
   ·rcases hT b hb with hb | ⟨hb,hb2⟩
    ·exact .inl hb
    ·exact .inr ⟨hb,by rw [World.size_setCell];omega⟩
   ·exact .inr ⟨by omega,by rw [World.size_setCell];exact hb2⟩
  ·rintro b (hb | ⟨_,hb2⟩)
   ·rw [World.size_setCell];have:=hS b hb;omega
   ·exact hb2
 ·intro b hb hb2
  rcases hT b hb2 with h3 | ⟨h3,_⟩
  ·exact h3
  ·omega
theorem operate_hit (hF:FailOk) {w:World} {a n:Nat} {m:DM} {S:Nat→Prop} (hnn:n+1≤8000000000000) (h:DiskAt w a n m S) (kR kA:Nat) (lR lA:Array Value) (ho:m.off=false) (ha:m.armed=1) (eR:Enters Tryz.prog kR) (eA:Enters Tryz.prog kA) (m':DM)
  (hR:∀ W,Below w.heap.size w W→Calls Tryz.prog kR lR W fun e w'=>e=.returned .nilIface∧Below W.heap.size W w')
  (hA:∀ W,DiskAt W a n m.tick S→Off (fun b=>b=a) w W→Calls Tryz.prog kA lA W fun e w'=>e=.returned (.tuple #[])∧DiskPost a (n+1) m' S W w') :
  Calls Tryz.prog 90 #[.pointer (some ⟨a,0,none⟩),.func (.func kR) #[] lR,.bool false,.func (.func kA) #[] lA] w fun e w'=>e=.returned (errV 27)∧DiskPost a (n+1) (m'.fail m'.keep) S w w':=by
 obtain ⟨bn,bs,pv,fv,loc,h⟩:=h
 obtain ⟨c0,-,-,-,-,c5,-⟩:=h.cells
 have hb0:=blk_lt h.head
 rw [ho] at c0
 have H:=hZ h
 clear h
 have eg':∀ (args:Array Value) (w:World),(callFunc kR args).run Tryz.prog w=.ok (.enter kR args) w:=eR
 have eg2:∀ (args:Array Value) (w:World),(callFunc kA args).run Tryz.prog w=.ok (.enter kA args) w:=eA
 have hmf:∀ (fn:Fn) (first cap:Array Value) (w:World),(Instr.makeFunc fn first cap).run Tryz.prog w=.ok (.func fn first cap) w:=fun _ _ _ _=>rfl
 have htk:=fun w1=>H.out.tickAt (w1:=w1)
 have e:m.tick.armed=0:=by show (if 1≤m.armed then m.armed - 1 else 0)=0;rw [ha];rfl
 rw [e] at htk
 rw [ha] at c5
 go_enter_defers Tryz.func90,Tryz.ntmps90
 go_wp2_with (go_at_fn kR;refine (hR _ (below2 w _ _)).mono ?_;rintro e w1 ⟨rfl,hb1⟩;obtain ⟨cd,c5',f5,ce,fe,HB,HD,HE,hz1,hz2,hz3,hz4⟩:=op_boxes H.out hb1;clear hb1;rw [ha] at c5')
 refine wp_region_tailD 7 mixedD (by kernel_rfl) ?_
 simp only [List.take_succ_cons,List.take_zero,List.drop_succ_cons,List.drop_zero]
 repeat still_step
 refine wpStill_nil ?_
 go_wp2_with (go_at_fn kA;refine (hA _ (htk _ (HB.out.alloc (by omega) _ |>.drew)).1 (htk _ (HB.out.alloc (by omega) _ |>.drew)).2).mono ?_;rintro e w2 ⟨rfl,hp⟩;obtain ⟨g3,g1,g2,f2,HE2,HO,hz5,hz6⟩:=op_behind H.out rfl HB.out HD.out HE.out hp.2;have HP:=hZ hp;have HO:=hZ HO;have HE2:=hZ HE2;clear hp)
 refine leaves_cons (f:=148) (args:=#[.pointer (some ⟨w1.heap.size,0,none⟩),.pointer (some ⟨w.heap.size,0,none⟩),.pointer (some ⟨w.heap.size+1,0,none⟩)]) (by simp) (by simp [go_sem]) ?_
 have hlt:=fun b hb=>H.out.lt b hb
 have hne:∀ b,grow S (((w1.alloc (.cells #[.bool true] 4)).drewN 1).setCell ⟨a,5,none⟩ (.int .i64 0)) w2 b→b≠w.heap.size+1:=fun b hb e=>by
  rcases hb with hb | ⟨hb,_⟩
  ·have:=hlt b hb;omega
  ·simp at hb;omega
 have hd2:DiskAt (w2.setCell ⟨w.heap.size+1,0,none⟩ .nilIface) a (n+1) m' _:=HP.out.1.frame (fun b hb=>Below.heap_setCell _ _ _ _ (hne b hb)) (by rw [World.size_setCell];omega)
 have hc:(w2.setCell ⟨w.heap.size+1,0,none⟩ .nilIface).heap[w.heap.size+1]?=some (.cells #[.nilIface] 25 (0,0)):=by
  rw [setCell_blk HE2.out,setBlk_heap (blk_lt HE2.out)]
  rfl
 refine (deferred_yes hF hnn hd2 .returning w.heap.size (w.heap.size+1) w1.heap.size .nilIface ((cell_set_other _ (by omega)).trans g1) hc ((cell_set_other _ (by omega)).trans g3) (fun h=>hne _ h rfl)).mono ?_
 rintro e u' w'' ⟨rfl,rfl,w3,hp3,hc3,rfl⟩
 have hc4:(w3.setCell ⟨w.heap.size+1,0,none⟩ (errV 27)).cell? ⟨w.heap.size+1,0,none⟩=some (errV 27):=by
  rw [setCell_blk hc3,cell_of_heapN (setBlk_heap (blk_lt hc3))]
  rfl
 refine ⟨errV 27,?_,rfl,?_⟩
 ·unfold errV at hc4 ⊢
  simp [results,Tryz.f90,go_sem,hc4]
 ·refine post_struck hp3 (HO.out.setCell _ _ (fun h=>absurd h (by show ¬ (w.heap.size+1 < w.heap.size);omega))) ?_ hlt (by omega) (by rw [World.size_setCell];omega) (fun h=>hne _ h rfl)
  rintro b (hb | ⟨hb,hb2⟩)
  ·exact .inl hb
  ·simp at hb
   exact .inr ⟨by omega,by rw [World.size_setCell];exact hb2⟩
theorem operate_late (hF:FailOk) {w:World} {a n:Nat} {m:DM} {S:Nat→Prop} (hnn:n≤8000000000000) (h:DiskAt w a n m S) (kR kA:Nat) (lR lA:Array Value) (ho:m.off=false) (ha:m.armed=1) (eR:Enters Tryz.prog kR)
  (hR:∀ W,Below w.heap.size w W→Calls Tryz.prog kR lR W fun e w'=>e=.returned .nilIface∧Below W.heap.size W w') :
  Calls Tryz.prog 90 #[.pointer (some ⟨a,0,none⟩),.func (.func kR) #[] lR,.bool true,.func (.func kA) #[] lA] w fun e w'=>e=.returned (errV 27)∧DiskPost a n (m.tick.fail m.keep) S w w':=by
 obtain ⟨bn,bs,pv,fv,loc,h⟩:=h
 obtain ⟨c0,-,-,-,-,c5,-⟩:=h.cells
 have hb0:=blk_lt h.head
 rw [ho] at c0
 have H:=hZ h
 clear h
 have eg':∀ (args:Array Value) (w:World),(callFunc kR args).run Tryz.prog w=.ok (.enter kR args) w:=eR
 have hmf:∀ (fn:Fn) (first cap:Array Value) (w:World),(Instr.makeFunc fn first cap).run Tryz.prog w=.ok (.func fn first cap) w:=fun _ _ _ _=>rfl
 have htk:=fun w1=>H.out.tickAt (w1:=w1)
 have e:m.tick.armed=0:=by show (if 1≤m.armed then m.armed - 1 else 0)=0;rw [ha];rfl
 rw [e] at htk
 rw [ha] at c5
 go_enter_defers Tryz.func90,Tryz.ntmps90
 go_wp2_with (go_at_fn kR;refine (hR _ (below2 w _ _)).mono ?_;rintro e w1 ⟨rfl,hb1⟩;obtain ⟨cd,c5',f5,ce,fe,HB,HD,HE,hz1,hz2,hz3,hz4⟩:=op_boxes H.out hb1;clear hb1;rw [ha] at c5')
 refine wp_region_tailD 7 mixedD (by kernel_rfl) ?_
 simp only [List.take_succ_cons,List.take_zero,List.drop_succ_cons,List.drop_zero]
 repeat still_step
 refine wpStill_nil ?_
 obtain ⟨hd1,ho1⟩:=htk _ (HB.out.alloc (by omega) (.cells #[.bool true] 4) |>.drew)
 obtain ⟨g3,g1,g2,f2,HE2,HO,hz5,hz6⟩:=op_behind H.out rfl HB.out HD.out HE.out (Off.refl S (((w1.alloc (.cells #[.bool true] 4)).drewN 1).setCell ⟨a,5,none⟩ (.int .i64 0)))
 have HE2:=hZ HE2
 have HO:=hZ HO
 have HP:=hZ (show DiskAt (((w1.alloc (.cells #[.bool true] 4)).drewN 1).setCell ⟨a,5,none⟩ (.int .i64 0)) a n m.tick S from hd1)
 clear hd1 ho1
 go_wp2_with fail
 refine leaves_cons (f:=148) (args:=#[.pointer (some ⟨w1.heap.size,0,none⟩),.pointer (some ⟨w.heap.size,0,none⟩),.pointer (some ⟨w.heap.size+1,0,none⟩)]) (by simp) (by simp [go_sem]) ?_
 have hlt:=fun b hb=>H.out.lt b hb
 have hne:¬ S (w.heap.size+1):=fun hb=>by have:=hlt _ hb;omega
 revert g3 g1 HE2 HO HP hz6
 generalize ((w1.alloc (.cells #[.bool true] 4)).drewN 1).setCell ⟨a,5,none⟩ (.int .i64 0)=W
 intro g3 g1 hz6 HE2 HO HP
 have hd2:DiskAt (W.setCell ⟨w.heap.size+1,0,none⟩ .nilIface) a n m.tick S:=HP.out.setBox hne .nilIface
 have hc:(W.setCell ⟨w.heap.size+1,0,none⟩ .nilIface).heap[w.heap.size+1]?=some (.cells #[.nilIface] 25 (0,0)):=by
  rw [setCell_blk HE2.out,setBlk_heap (blk_lt HE2.out)]
  rfl
 refine (deferred_yes hF hnn hd2 .returning w.heap.size (w.heap.size+1) w1.heap.size .nilIface ((cell_set_other _ (by omega)).trans g1) hc ((cell_set_other _ (by omega)).trans g3) hne).mono ?_
 rintro e u' w'' ⟨rfl,rfl,w3,hp3,hc3,rfl⟩
 have hc4:(w3.setCell ⟨w.heap.size+1,0,none⟩ (errV 27)).cell? ⟨w.heap.size+1,0,none⟩=some (errV 27):=by
  rw [setCell_blk hc3,cell_of_heapN (setBlk_heap (blk_lt hc3))]
  rfl
 refine ⟨errV 27,?_,rfl,?_⟩
 ·unfold errV at hc4 ⊢
  simp [results,Tryz.f90,go_sem,hc4]
 ·exact post_struck hp3 (HO.out.setCell _ _ (fun h=>absurd h (by show ¬ (w.heap.size+1 < w.heap.size);omega))) (fun b hb=>.inl hb) hlt (by omega) (by rw [World.size_setCell];omega) hne
end Go.Proofs.YtdkedmngeahjiaaGreatDoor
