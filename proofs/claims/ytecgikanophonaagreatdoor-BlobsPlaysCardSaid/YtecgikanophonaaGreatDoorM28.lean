/- Texts of the seat, one behind the other: ShaW, ShaS. -/
import Derived.Test.YtecgikanophonaaGreatDoorM26
import Derived.Test.YtecgikanophonaaGreatDoorCopy
set_option maxRecDepth 100000
set_option maxHeartbeats 25600000
/- Contracts of digest's New and (*Hash).Write. -/
namespace Go.Proofs.YtecgikanophonaaGreatDoor
open Go Go.RowKit
def szOf:Value→Nat
 |.string t=>t.size
 |_=>0
theorem extract_rest (t:ByteArray) (k:Nat):t.data.toList.take k ++ (t.extract k t.size).data.toList=t.data.toList:=by
 have:(t.extract k t.size).data.toList=t.data.toList.drop k:=by
  rw [ByteArray.data_extract,Array.toList_extract,List.extract_eq_take_drop]
  have h:t.data.toList.length=t.size:=Array.length_toList
  rw [← h]
  exact List.take_of_length_le (by rw [List.length_drop];omega)
 rw [this]
 exact List.take_append_drop ..
theorem lay_cells {A X:List Value} (hA:A.length=9) {r l:List UInt8} {a:Nat} (h:a+l.length≤r.length) :
  List.take (9+a) (A ++ (r.map byteV ++ X)) ++ l.map byteV ++ List.drop (9+a+l.length) (A ++ (r.map byteV ++ X))=A ++ ((lay r a l).map byteV ++ X):=by
 have hB:(r.map byteV).length=r.length:=List.length_map _
 rw [List.take_append,List.drop_append,hA,List.take_of_length_le (by omega),List.drop_of_length_le (by omega),show 9+a - 9=a by omega,show 9+a+l.length - 9=a+l.length by omega]
 rw [List.take_append_of_le_length (by omega),List.drop_append_of_le_length (by omega)]
 unfold lay
 simp [List.map_append,List.map_take,List.map_drop,List.append_assoc]
theorem run_copy_hash (w:World) {hb:Nat} {wd:Int} {h:R8} {r:List UInt8} {n:Nat} (hh:w.heap[hb]?=some (hashO wd h r n)) (hr:r.length=64) {a:Nat} (ha:a≤64) (s:ByteArray) {k:Nat} (hk:min s.size (64 - a)=k) (ty:TypeId) :
  (Builtin.copy_ #[98,9] ty #[.slice (some ⟨hb,9+a,none⟩) (64 - a) (64 - a),.string s]).run Tryz.prog w=.ok (.int .i64 k) (setBlk w hb (hashO wd h (lay r a (s.data.toList.take k)) n)):=by
 have hkl:(s.data.toList.take k).length=k:=by rw [List.length_take];show min k s.data.toList.length=k;rw [Array.length_toList];show min k s.size=k;omega
 have hst:=run_storeCells_at Tryz.prog hb (9+a) 190 ((s.data.toList.take k).map byteV) 0 _ w hh (by
  rw [List.length_map,hkl,List.size_toArray]
  simp only [List.length_cons,List.length_append,List.length_map,List.length_nil]
  omega) (by
   intro v hv
   obtain ⟨x,_,rfl⟩:=List.mem_map.1 hv
   exact byteV_one x)
 have hrow:w.setRow hb (List.toArray (List.take (9+a+0) (.int .i64 wd :: u32V h.a :: u32V h.b :: u32V h.c :: u32V h.d :: u32V h.e :: u32V h.f :: u32V h.g :: u32V h.k :: (r.map byteV ++ [.int .i64 n])) ++ (s.data.toList.take k).map byteV ++ List.drop (9+a+0+((s.data.toList.take k).map byteV).length) (.int .i64 wd :: u32V h.a :: u32V h.b :: u32V h.c :: u32V h.d :: u32V h.e :: u32V h.f :: u32V h.g :: u32V h.k :: (r.map byteV ++ [.int .i64 n]))))=setBlk w hb (hashO wd h (lay r a (s.data.toList.take k)) n):=by
  rw [setRow_setBlk hh,List.length_map,Nat.add_zero]
  have:=lay_cells (A:=[.int .i64 wd,u32V h.a,u32V h.b,u32V h.c,u32V h.d,u32V h.e,u32V h.f,u32V h.g,u32V h.k]) (X:=[.int .i64 n]) rfl (r:=r) (l:=s.data.toList.take k) (a:=a) (by rw [hkl,hr];omega)
  exact congrArg (fun l:List Value=>setBlk w hb (.cells l.toArray 190 (0,0))) this
 rw [hrow] at hst
 have hs:(Tryz.prog.info? 5).map (·.size)=some 1:=by kernel_rfl
 cases hq:Tryz.prog.info? 5 with
 |none=>rw [hq] at hs;cases hs
 |some i =>
  rw [hq] at hs
  have hs1:i.size=1:=by simpa using hs
  have hmin:Nat.min s.size (64 - a)=k:=hk
  have htk:List.take k (List.map (fun b=>Value.int .u8 (b.toNat:Int)) s.data.toList)=List.map byteV (s.data.toList.take k):=by
   rw [List.map_take];rfl
  simp only [Builtin.copy_]
  simp [run_underlying Tryz.underlying98,Builtin.lenOf,Builtin.firstCells,sizeOf,typeInfo,hq,hs1,hmin,htk]
  rw [← List.map_take,hst]
  rfl
theorem slice_hash (x:Int) (a:Nat) (hx:x=a) (ha:a≤63) (hb:Nat) (W:World):Sem.run Tryz.prog (Instr.sliceAt 188 (.pointer (some ⟨hb,9,none⟩)) (some (.int .i64 x)) none none) W=.ok (.slice (some ⟨hb,9+a,none⟩) (64 - a) (64 - a)) W:=by
 subst hx
 have hl:Tryz.prog.arrayLen 188=64:=by kernel_rfl
 have ht:Tryz.prog.underlying 188=some (.array (Tryz.prog.arrayLen 188) (Tryz.prog.elem 188)):=by kernel_rfl
 have hs:(sizeOf (Tryz.prog.elem 188)).run Tryz.prog W=.ok 1 W:=by
  have he:Tryz.prog.elem 188=5:=by kernel_rfl
  have hi:(Tryz.prog.info? 5).map (·.size)=some 1:=by kernel_rfl
  rw [he]
  cases hq:Tryz.prog.info? 5 with
  |none=>rw [hq] at hi;cases hi
  |some i =>
   rw [hq] at hi
   have hs1:i.size=1:=by simpa using hi
   simp [sizeOf,typeInfo,hq,hs1]
 rw [run_sliceAt_array_l W 188 ⟨hb,9,none⟩ ht .i64 a (by omega) (by rw [hl];omega),hs,hl]
 show Result.ok (slicedAt ⟨hb,9,none⟩ (a:Int).toNat 64 64 1) W=_
 unfold slicedAt
 rw [Int.toNat_natCast,if_neg (by omega),Nat.mul_one]
 simp [Addr.add]
theorem hash_n_cell {w:World} {hb:Nat} {wd:Int} {h:R8} {r:List UInt8} {n:Nat} (hh:w.heap[hb]?=some (hashO wd h r n)) (hr:r.length=64):w.cell? ⟨hb,73,none⟩=some (.int .i64 n):=by
 rw [cell_of_heapN hh,List.getElem?_toArray]
 simp only [List.getElem?_cons_succ]
 rw [List.getElem?_append_right (by rw [List.length_map];omega),List.length_map,hr]
 rfl
theorem hash_n_set {w:World} {hb:Nat} {wd:Int} {h:R8} {r:List UInt8} {n:Nat} (hh:w.heap[hb]?=some (hashO wd h r n)) (hr:r.length=64) (m:Nat):(w.setCell ⟨hb,73,none⟩ (.int .i64 m)).heap[hb]?=some (hashO wd h r m):=by
 rw [setCell_blk hh,setBlk_heap (blk_lt hh)]
 unfold hashO
 rw [List.setIfInBounds_toArray]
 simp only [List.set_cons_succ]
 rw [List.set_append_right _ _ (by rw [List.length_map];omega),List.length_map,hr]
 rfl
theorem RoundsT.off {w w':World} {hb:Nat} (h:RoundsT w) (ho:Off (fun b=>b=hb) w w') (hg:3≠hb):RoundsT w' :=
 ⟨fun i k hk=>(ho.cell (p:=⟨3,i,none⟩) h.2 hg).trans (h.1 i k hk),Nat.lt_of_lt_of_le h.2 ho.size⟩
theorem write_sha {w:World} {hb:Nat} {wd:Int} {st:HS} (hh:w.heap[hb]?=some (hashO wd st.h st.rest st.n)) (hr:st.rest.length=64) (hK:RoundsT w) (hg:3≠hb) (s:ByteArray) (hs:s.size≤140737488355328) (hn:(st.n:Int)≤200000000000000) :
  Calls Tryz.prog 87 #[.pointer (some ⟨hb,0,none⟩),.string s] w fun e w'=>e=.returned (.tuple #[])∧w'.heap[hb]?=some (hashO wd (feed compress st s.data.toList).h (feed compress st s.data.toList).rest (feed compress st s.data.toList).n)∧Off (fun b=>b=hb) w w':=by
 have HH:=hZ hh
 have HR:=hZ hr
 have HK:=hZ hK
 clear hh hr hK
 go_enter Tryz.func87,Tryz.ntmps87
 go_wp2_with fail
 go_loopw [1] (fun sv wr=>∃ (D:List UInt8) (t:ByteArray),sv=.string t∧Hid (D ++ t.data.toList=s.data.toList)∧Hid (Off (fun b=>b=hb) w wr)∧Hid (wr.heap[hb]?=some (hashO wd (feed compress st D).h (feed compress st D).rest (feed compress st D).n))) (fun sv _=>szOf sv)
 case atStart=>exact ⟨[],s,rfl,hZ rfl,hZ (Off.refl _ _),HH⟩
 case round =>
  obtain ⟨D,t,rfl,HD,HO,HC⟩:=hrel
  by_cases hlt:0 < (t.size:Int)
  ·obtain ⟨st1,hst1⟩:∃ x,feed compress st D=x:=⟨_,rfl⟩
   have HS1:=hZ hst1
   have hr1:st1.rest.length=64:=by rw [← hst1,feed_rest];exact HR.out
   rw [hst1] at HC
   clear hst1
   have c73:=hash_n_cell HC.out hr1
   have f73:wr.frozen? ⟨hb,73,none⟩=false:=frozen_blk HC.out
   obtain ⟨at1,hat⟩:∃ a,st1.n % 64=a:=⟨_,rfl⟩
   have hat2:(st1.n:Int) % 64=at1:=by omega
   have hal:at1≤63:=by omega
   have hsl:∀ W:World,Sem.run Tryz.prog (Instr.sliceAt 188 (.pointer (some ⟨hb,9,none⟩)) (some (.int .i64 ((st1.n:Int) % 64))) none none) W=.ok (.slice (some ⟨hb,9+at1,none⟩) (64 - at1) (64 - at1)) W:=slice_hash _ at1 hat2 hal hb
   obtain ⟨k,hk⟩:∃ k,min t.size (64 - at1)=k:=⟨_,rfl⟩
   have hcp:=run_copy_hash wr HC.out hr1 (a:=at1) (by omega) t hk 3
   have hz:=blk_lt HC.out
   have hb1:=setBlk_heap (o:=hashO wd st1.h (lay st1.rest at1 (t.data.toList.take k)) st1.n) hz
   have ho1:Off (fun b=>b=hb) wr (setBlk wr hb (hashO wd st1.h (lay st1.rest at1 (t.data.toList.take k)) st1.n)):=(Off.refl _ wr).setBlk (fun _=>rfl)
   obtain ⟨W1,hW1⟩:∃ W,setBlk wr hb (hashO wd st1.h (lay st1.rest at1 (t.data.toList.take k)) st1.n)=W:=⟨_,rfl⟩
   rw [hW1] at hcp hb1 ho1
   have htl:t.data.toList.length=t.size:=Array.length_toList
   have hkl:(t.data.toList.take k).length=k:=by rw [List.length_take,htl];omega
   have hll:(lay st1.rest at1 (t.data.toList.take k)).length=64:=by rw [lay_length (by rw [hkl,hr1];omega)];exact hr1
   have e73:=hash_n_cell hb1 hll
   have g73:W1.frozen? ⟨hb,73,none⟩=false:=frozen_blk hb1
   have hset:=hash_n_set hb1 hll (st1.n+k)
   have hDl:D.length≤s.size:=by
    have:=congrArg List.length HD.out
    rw [List.length_append] at this
    have h2:s.data.toList.length=s.size:=Array.length_toList
    omega
   have hn1:(st1.n:Int)≤400000000000000:=by
    have:=feed_n compress D st
    rw [HS1.out] at this
    omega
   have hk64:(k:Int)≤64:=by omega
   have hkt:(k:Int)≤(t.size:Int):=by omega
   have hfeed:=feed_piece compress (t.data.toList.take k) st1 hr1 (by rw [hat,hkl];omega) (fun e=>by rw [e] at hkl;have:k=0:=hkl.symm;omega)
   rw [hat,hkl] at hfeed
   have HF:=hZ hfeed
   have HK1:=hZ hk
   have HAT:=hZ (And.intro hat (And.intro hat2 hal))
   have HSET:=hZ hset
   have HO1:=hZ (HO.out.tr ho1)
   have HLL:=hZ hll
   have hadd:((st1.n+k:Nat):Int)=(st1.n:Int)+k:=Int.natCast_add ..
   rw [hadd] at HSET
   clear hk hat hal hset hb1 ho1 hW1 htl hkl hfeed hDl hll hadd hat2
   by_cases h64:(st1.n:Int) % 64+(k:Int)=64
   ·go_wp2_with fail
    refine (block_any HSET.out HLL.out (RoundsT.off HK.out (HO1.out.setCell _ _ (fun _=>rfl)) hg)).mono ?_
    rintro e w' ⟨rfl,hc2,ho2⟩
    have HC2:=hZ hc2
    have HO2:=hZ ((HO1.out.setCell ⟨hb,73,none⟩ (.int .i64 ((st1.n:Int)+k)) (fun _=>rfl)).tr ho2)
    clear hc2 ho2
    go_wp2_with fail
    go_roundw
    case rel =>
     refine ⟨D ++ t.data.toList.take k,t.extract k t.size,rfl,hZ ?_,HO2,hZ ?_⟩
     ·rw [List.append_assoc,extract_rest]
      exact HD.out
     ·rw [feed_append,HS1.out,HF.out]
      have h64b:at1+k=64:=by have:=HAT.out.2.1;omega
      show _=some (hashO wd (if at1+k=64 then _ else _) _ _)
      rw [if_pos h64b]
      exact HC2.out
    case measure =>
     have h1:=HK1.out
     have h2:=HAT.out.2.2
     show (t.extract k t.size).size < t.size
     rw [ByteArray.size_extract]
     omega
   ·go_wp2_with fail
    go_roundw
    case rel =>
     refine ⟨D ++ t.data.toList.take k,t.extract k t.size,rfl,hZ ?_,hZ (HO1.out.setCell _ _ (fun _=>rfl)),hZ ?_⟩
     ·rw [List.append_assoc,extract_rest]
      exact HD.out
     ·rw [feed_append,HS1.out,HF.out]
      have h64b:¬ at1+k=64:=by have:=HAT.out.2.1;omega
      show _=some (hashO wd (if at1+k=64 then _ else _) _ _)
      rw [if_neg h64b]
      exact HSET.out
    case measure =>
     have h1:=HK1.out
     have h2:=HAT.out.2.2
     show (t.extract k t.size).size < t.size
     rw [ByteArray.size_extract]
     omega
  ·go_wp2_with fail
   go_end0
   have ht:t.data.toList=[]:=by
    apply List.eq_nil_of_length_eq_zero
    rw [Array.length_toList]
    show t.size=0
    omega
   have hD:=HD.out
   rw [ht,List.append_nil] at hD
   subst hD
   exact ⟨rfl,HC.out,HO.out⟩
end Go.Proofs.YtecgikanophonaaGreatDoor
/- Contracts of digest's New, (*Hash).Sum and Sum. -/
namespace Go.Proofs.YtecgikanophonaaGreatDoor
open Go Go.RowKit
def z64:List UInt8:=List.replicate 64 0
def wide (x:Int):Int:=min (max x 1) 32
theorem zero_hash:Tryz.zeroCells190=(.int .i64 0 :: u32V 0 :: u32V 0 :: u32V 0 :: u32V 0 :: u32V 0 :: u32V 0 :: u32V 0 :: u32V 0 :: (z64.map byteV ++ [.int .i64 0])).toArray:=by kernel_rfl
noncomputable def hz (x:Int):Array Value:=((((((((Tryz.zeroCells190.setIfInBounds 0 (Value.int IntKind.i64 x)).setIfInBounds 1 (Value.int IntKind.u32 1779033703)).setIfInBounds 2 (Value.int IntKind.u32 3144134277)).setIfInBounds 3 (Value.int IntKind.u32 1013904242)).setIfInBounds 4 (Value.int IntKind.u32 2773480762)).setIfInBounds 5 (Value.int IntKind.u32 1359893119)).setIfInBounds 6 (Value.int IntKind.u32 2600822924)).setIfInBounds 7 (Value.int IntKind.u32 528734635)).setIfInBounds 8 (Value.int IntKind.u32 1541459225)
theorem hz_eq (x:Int):((((((((Tryz.zeroCells190.setIfInBounds 0 (Value.int IntKind.i64 x)).setIfInBounds 1 (Value.int IntKind.u32 1779033703)).setIfInBounds 2 (Value.int IntKind.u32 3144134277)).setIfInBounds 3 (Value.int IntKind.u32 1013904242)).setIfInBounds 4 (Value.int IntKind.u32 2773480762)).setIfInBounds 5 (Value.int IntKind.u32 1359893119)).setIfInBounds 6 (Value.int IntKind.u32 2600822924)).setIfInBounds 7 (Value.int IntKind.u32 528734635)).setIfInBounds 8 (Value.int IntKind.u32 1541459225)=hz x:=by unfold hz;rfl
theorem hash_zero (x:Int):hz x =
  (.int .i64 x :: u32V r8i.a :: u32V r8i.b :: u32V r8i.c :: u32V r8i.d :: u32V r8i.e :: u32V r8i.f :: u32V r8i.g :: u32V r8i.k :: (z64.map byteV ++ [.int .i64 (0:Nat)])).toArray:=by
 unfold hz
 rw [zero_hash]
 generalize z64.map byteV=zz
 simp only [List.setIfInBounds_toArray,List.set_cons_zero,List.set_cons_succ]
 rfl
theorem new_sha (x:Int) (w:World):Calls Tryz.prog 86 #[.int .i64 x] w fun e w'=>e=.returned (.pointer (some ⟨w.heap.size,0,none⟩))∧w'=w.alloc (hashO (wide x) r8i z64 0):=by
 go_enter Tryz.func86,Tryz.ntmps86
 go_wp2_with fail
 all_goals
  simp only [hz_eq]
  refine bodyPost_ret (v:=.pointer (some ⟨w.heap.size,0,none⟩)) (by simp [results,Tryz.f86,go_sem]) rfl ⟨rfl,?_⟩
  first
   |rw [show wide x=32 by unfold wide;omega]
   |rw [show wide x=1 by unfold wide;omega]
   |rw [show wide x=x by unfold wide;omega]
  rw [hash_zero]
  rfl
end Go.Proofs.YtecgikanophonaaGreatDoor
