/- Texts of the seat, one behind the other: SortF, SortR. -/
import Derived.Test.YtecgikanophonaaGreatDoorM41
import Derived.Test.YtecgikanophonaaGreatDoorM34
import Derived.Test.YtecgikanophonaaGreatDoorM7
import Derived.Test.YtecgikanophonaaGreatDoorSortD
import Derived.Shelf.SlSortCmp.NoneTotal
import Derived.Deep.RegionWith
import Derived.Test.YtecgikanophonaaGreatDoorM36
import Derived.Test.YtecgikanophonaaGreatDoorM42
set_option maxRecDepth 100000
set_option maxHeartbeats 25600000
/- The closure by which blobs.List sorts: its contract in whatever world, and the sort's own order (slices.SortFunc laid in the text SortD by wip/sortlay.sh). -/
namespace Go.Proofs.YtecgikanophonaaGreatDoor
open Go Go.RowKit Go.Maps Go.Shelf Go.Sort
theorem lies_heap {w:World} {b:Nat} {D:List UInt8} (h:w.heap[b]?=some (.cells (D.map byteV).toArray 33 (0,0))):LiesAt w b D:=fun i x hx=>by
 rw [cell_of_heapN h,List.getElem?_toArray,List.getElem?_map,hx]
 rfl
theorem two_grow (W:World) (o o':Obj) (q:Nat):((W.alloc o).alloc o').drewN q=Go.Sort.grow (W.drewN q) (#[o] ++ #[o']):=by
 rw [Go.Sort.alloc_eq_grow (W.alloc o) o',Go.Sort.alloc_eq_grow W o,Go.Sort.grow_grow]
 rfl
theorem cmp_any (D E:List UInt8) (hD:D.length=32) (hE:E.length=32) (W:World) :
  Calls Tryz.prog 100 #[digV D,digV E] W fun e w'=>e=.returned (.int .i64 (Lib.compareBytes D E))∧∃ q os',w'=Go.Sort.grow (W.drewN q) os':=by
 have L1:LiesAt ((W.alloc (.cells (D.map byteV).toArray 33 (0,0))).alloc (.cells (E.map byteV).toArray 33 (0,0))) W.heap.size D:=lies_heap (((Below.refl _ _).alloc (Nat.le_refl _) _).block W.heap.size (by rw [World.size_alloc];omega) |>.trans (heap_new W _))
 have L2:LiesAt ((W.alloc (.cells (D.map byteV).toArray 33 (0,0))).alloc (.cells (E.map byteV).toArray 33 (0,0))) (W.heap.size+1) E:=lies_heap (heap_new2 W _ _)
 have hcon:=fun q=>compare_any (w:=((W.alloc (.cells (D.map byteV).toArray 33 (0,0))).alloc (.cells (E.map byteV).toArray 33 (0,0))).drewN q) L1 L2 32 32 32 32 hD hE
 have hI:=dig_info hD
 have hU:=dig_und
 unfold digV
 clear L1 L2
 generalize Lib.compareBytes D E=r at hcon ⊢
 go_enter Tryz.func100,Tryz.ntmps100
 go_wp2_with fail
 go_quiet (first | (go_at_call 101;exact Calls.quiet_of_same (hcon _)))
 go_wp2_with fail
 go_ret
 exact ⟨rfl,nq,_,two_grow W _ _ nq⟩
end Go.Proofs.YtecgikanophonaaGreatDoor
/- The row of digests that blobs.List sorts: slices.SortFunc at a row of the call's own. -/
namespace Go.Proofs.YtecgikanophonaaGreatDoor
open Go Go.RowKit Go.Maps Go.Shelf Go.Sort
def encD (d:Dg):List Value:=d.1.map byteV
def clD (d:Dg):Array Value:=(encD d).toArray
theorem encD_len (d:Dg):(encD d).length=32:=by unfold encD;rw [List.length_map];exact d.2
theorem clD_size (d:Dg):(clD d).size=32:=encD_len d
theorem encD_one (d:Dg):∀ v∈encD d,v.oneCell'=true:=fun v hv=>by
 obtain ⟨x,-,rfl⟩:=List.mem_map.1 hv
 rfl
def cfD (x y:Dg):Int:=Lib.compareBytes x.1 y.1
theorem swoD:SWO (ltOf cfD) where
 irrefl x:=ltB_swo.irrefl x.1
 trans x y z:=ltB_swo.trans x.1 y.1 z.1
 ntrans x y z:=ltB_swo.ntrans x.1 y.1 z.1
theorem totD (x y:Dg) (h1:ltOf cfD x y=false) (h2:ltOf cfD y x=false):x=y:=Subtype.ext (ltB_total x.1 y.1 h1 h2)
def sortL (l:List Dg):List Dg:=l.mergeSort fun x y=>!(ltOf cfD) y x
theorem sortL_len (l:List Dg):(sortL l).length=l.length:=List.length_mergeSort l
theorem flat_same (l:List Dg):(flatK encD 32 l.toArray).toList=flatG clD l:=by
 refine List.ext_getElem? fun t=>?_
 have hs:(flatK encD 32 l.toArray).size=l.length * 32:=by rw [size_flatK,List.size_toArray]
 have hl:=flatG_len clD_size l
 by_cases ht:t < l.length * 32
 ·have h1:(flatK encD 32 l.toArray)[t]?=some ((flatK encD 32 l.toArray)[t]!):=by rw [getElem!_pos _ t (by rw [hs];exact ht)];exact Array.getElem?_eq_getElem _
  have h2:=flatG_at clD_size l (t / 32) (t % 32) (Nat.mod_lt _ (by decide))
  rw [Nat.div_add_mod' t 32] at h2
  have hq:t / 32 < l.length:=by omega
  rw [h2,Array.getElem?_toList,h1,get_flatK _ _ _ _ (by rw [List.size_toArray];exact ht),List.getElem?_eq_getElem hq]
  have h3:l.toArray[t / 32]! = l[t / 32]:=by rw [getElem!_pos l.toArray (t / 32) (by rw [List.size_toArray];exact hq)];rfl
  rw [h3]
  show some ((encD l[t / 32])[t % 32]!)=(encD l[t / 32]).toArray[t % 32]?
  rw [List.getElem?_toArray,List.getElem?_eq_getElem (by rw [encD_len];exact Nat.mod_lt _ (by decide)),getElem!_pos (encD l[t / 32]) (t % 32) (by rw [encD_len];exact Nat.mod_lt _ (by decide))]
 ·rw [List.getElem?_eq_none (by rw [Array.length_toList,hs];omega),List.getElem?_eq_none (by rw [hl];omega)]
theorem sort_heap {w:World} {g:Nat} {cur:Array Value} {T:TypeId} (hg:w.heap[g]?=some (.cells cur T (0,0))) (m:Nat) (d:Array Dg) (os:Array Obj) :
  (sortWorldK encD 32 w g 0 m d os).heap[g]?=some (.cells (putCells id 0 (flatK encD 32 d) cur) T (0,0)):=by
 have h1:(putRowK encD 32 (Sort.ahead w m) g 0 d).heap[g]?=some (.cells (putCells id 0 (flatK encD 32 d) cur) T (0,0)):=by
  show (w.heap.modify g _)[g]?=_
  rw [Array.getElem?_modify,if_pos rfl,hg]
  rfl
 show ((putRowK encD 32 (Sort.ahead w m) g 0 d).heap ++ os)[g]?=_
 rw [Array.getElem?_append_left (blk_lt h1)]
 exact h1
theorem sort_below {w:World} {g base:Nat} (hb:base≤g) (hz:base≤w.heap.size) (m:Nat) (d:Array Dg) (os:Array Obj):Below base w (sortWorldK encD 32 w g 0 m d os):=by
 have hsz:(putRowK encD 32 (Sort.ahead w m) g 0 d).heap.size=w.heap.size:=by
  show (w.heap.modify g _).size=_
  rw [Array.size_modify]
 refine ⟨rfl,rfl,rfl,?_,fun b hlt=>?_⟩
 ·show w.heap.size≤((putRowK encD 32 (Sort.ahead w m) g 0 d).heap ++ os).size
  rw [Array.size_append,hsz]
  omega
 ·show ((putRowK encD 32 (Sort.ahead w m) g 0 d).heap ++ os)[b]?=_
  rw [Array.getElem?_append_left (by rw [hsz];omega)]
  show (w.heap.modify g _)[b]?=_
  rw [Array.getElem?_modify,if_neg (by omega)]
theorem put_take (F cur:Array Value) (h:F.size≤cur.size):(putCells id 0 F cur).toList.take F.size=F.toList:=by
 refine List.ext_getElem? fun t=>?_
 rw [List.getElem?_take]
 by_cases ht:t < F.size
 ·rw [if_pos ht,Array.getElem?_toList,Array.getElem?_toList]
  unfold putCells
  rw [Array.getElem?_mapIdx,Array.getElem?_eq_getElem (show t < cur.size by omega),Option.map_some,if_pos ⟨Nat.zero_le _,by omega⟩,Nat.sub_zero,Array.getElem?_eq_getElem ht,getElem!_pos F t ht]
  rfl
 ·rw [if_neg ht,Array.getElem?_toList,Array.getElem?_eq_none (by omega)]
theorem sort_any {w:World} {base g cap n:Nat} {l:List Dg} (h:OwnG 33 32 clD base l (.slice (some ⟨g,0,none⟩) n cap) w) (hz:base≤w.heap.size) (hn:l.length=n) (h0:0 < n) (h1:n≤1000000000) :
  Calls Tryz.prog 99 #[.slice (some ⟨g,0,none⟩) n cap,.func (.func 100) #[] #[]] w fun e w' =>
   e=.returned (.tuple #[])∧OwnG 33 32 clD base (sortL l) (.slice (some ⟨g,0,none⟩) n cap) w'∧Below base w w':=by
 have ho:=h
 rcases h.2 with ⟨-,h2⟩ | ⟨g',cap',cur,e1,e2,e3,e4,e5,e6,e7⟩
 ·omega
 ·obtain ⟨rfl,rfl⟩:g=g'∧cap=cap':=by
   injection e1 with e1 _ e8
   injection e1 with e1
   injection e1 with e1
   exact ⟨e1,e8⟩
  have hfs:=flat_same l
  have hsz:(flatK encD 32 l.toArray).size=n * 32:=by rw [size_flatK,List.size_toArray,hn]
  have hH:HoldsK encD 32 w g 0 l.toArray:=fun j hj=>by
   refine ⟨?_,frozen_of_row w g _ cur _ e3⟩
   rw [hsz] at hj
   rw [Nat.zero_add,cell_of_heapN e3]
   have h3:cur[j]?=(flatG clD l)[j]?:=by rw [← e7,List.getElem?_take,if_pos (by rw [hn];exact hj),Array.getElem?_toList]
   rw [h3,← hfs,Array.getElem?_toList,Array.getElem?_eq_getElem (by rw [hsz];exact hj),getElem!_pos _ j (by rw [hsz];exact hj)]
   rfl
  have eg:∀ args w,(callFunc 100 args).run Tryz.prog w=.ok (.enter 100 args) w:=enters_of Tryz.func100 (by kernel_rfl) rfl
  have hcon:=AnyQ.slices_SortFunc_total Tryz.sortD 32 Tryz.isAgg33 Tryz.sizeOf33 encD encD_len encD_one cfD swoD 100 #[] g 0 cap l.toArray w eg (fun _ _ _ _ x y=>cmp_any x.1 y.1 x.2 y.2 _) hH (blk_lt e3) (by rw [List.size_toArray,hn];omega) totD
  change Calls Tryz.prog 99 _ _ _ at hcon
  rw [List.size_toArray,hn] at hcon
  refine hcon.mono ?_
  rintro e w' ⟨rfl,m,os,rfl⟩
  refine ⟨rfl,?_,sort_below e2 hz _ _ _⟩
  have hl:(sortL l).length=n:=by rw [sortL_len,hn]
  have hsr:(flatK encD 32 (sortL l).toArray).size=n * 32:=by rw [size_flatK,List.size_toArray,hl]
  refine ⟨by rw [flatG_len clD_size],.inr ⟨g,cap,_,by rw [hl],e2,sort_heap e3 _ _ _,by rw [hl,← hn];exact e4,e5,?_,?_⟩⟩
  ·show (putCells id 0 _ cur).size=_
   unfold putCells
   rw [Array.size_mapIdx]
   exact e6
  ·rw [hl,← hsr]
   exact (put_take (flatK encD 32 (sortL l).toArray) cur (by rw [hsr,e6,← hn];exact Nat.mul_le_mul_right _ e4)).trans (flat_same _)
theorem sort_row {w:World} {base cap n:Nat} {p:Option Addr} {l:List Dg} (h:OwnG 33 32 clD base l (.slice p n cap) w) (hz:base≤w.heap.size) (hn:l.length=n) (h1:n≤1000000000) :
  Calls Tryz.prog 99 #[.slice p n cap,.func (.func 100) #[] #[]] w fun e w' =>
   e=.returned (.tuple #[])∧OwnG 33 32 clD base (sortL l) (.slice p n cap) w'∧Below base w w':=by
 by_cases h0:n=0
 ·subst h0
  have hl:l=[]:=List.eq_nil_of_length_eq_zero hn
  subst hl
  have hcon:=AnyF.slices_SortFunc_none { Tryz.sortD with } p cap (.func (.func 100) #[] #[]) w
  change Calls Tryz.prog 99 _ _ _ at hcon
  refine hcon.mono ?_
  rintro e w' ⟨rfl,rfl⟩
  have hs:sortL []=[]:=by unfold sortL;exact List.mergeSort_nil
  rw [hs]
  exact ⟨rfl,h,Below.refl _ _⟩
 ·rcases h.2 with ⟨h2,h3⟩ | ⟨g,c,cur,e1,-⟩
  ·omega
  ·injection e1 with e1 _ e2
   subst e1 e2
   exact sort_any h hz hn (by omega) h1
theorem own_base {α:Type} {T sz:Nat} {cl:α→Array Value} {base base':Nat} {xs:List α} {v:Value} {w:World} (h:OwnG T sz cl base xs v w) (hb:base'≤base):OwnG T sz cl base' xs v w:=by
 refine ⟨h.1,?_⟩
 rcases h.2 with h | ⟨g,cap,cur,h1,h2,h3⟩
 ·exact .inl h
 ·exact .inr ⟨g,cap,cur,h1,Nat.le_trans hb h2,h3⟩
end Go.Proofs.YtecgikanophonaaGreatDoor
