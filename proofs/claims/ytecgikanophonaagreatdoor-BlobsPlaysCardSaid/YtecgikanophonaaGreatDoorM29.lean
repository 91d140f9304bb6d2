/- Texts of the seat, one behind the other: ShaU, ShaD, Dig, ShaAbc. -/
import Derived.Test.YtecgikanophonaaGreatDoorM28
import Derived.Deep.MidRow
import Derived.Deep.WholeRow
set_option maxRecDepth 100000
set_option maxHeartbeats 25600000
/- Contract of digest's (*Hash).Sum. -/
namespace Go.Proofs.YtecgikanophonaaGreatDoor
open Go Go.RowKit
theorem wpList_store_new {P:Program} {ops:Array Oper} {rest:List Oper} {op:Oper} {a:Act} {w:World} {Q:Exit→Act→World→Prop} (hgd:op.guard=none) (ty:TypeId) (x y:Operand) (ho:op.op=.store ty x y) (c c':Array Value) (b:Nat) (hb:b=w.heap.size)
  (hx:a.eval x=.pointer (some ⟨b,0,none⟩)) (hy:a.eval y=.agg c') (hi:(P.info? ty).map (·.size)=some c'.size) (hc:c.size=c'.size) (h1:c'.all (·.oneCell')=true)
  (h:wpList P ops Q rest (a.put op.dst undef) (w.alloc (.cells c' ty))):wpList P ops Q (op :: rest) a (w.alloc (.cells c ty)) :=
 wpList_plain hgd fun _ hK=>by
  subst hb
  unfold Oper.wp execOp
  simp only [ho,hx,hy,Instr.storeAt,Instr.sureAddr,Sem.run_bind,Sem.run_pure,Result.andThen_ok,run_storeVar_new w ty c c' hi hc h1]
  exact hK _ _ h
def hashL (wd:Int) (h:R8) (r:List UInt8) (n:Nat):List Value :=
 .int .i64 wd :: u32V h.a :: u32V h.b :: u32V h.c :: u32V h.d :: u32V h.e :: u32V h.f :: u32V h.g :: u32V h.k :: (r.map byteV ++ [.int .i64 n])
theorem hashL_len (wd:Int) (h:R8) {r:List UInt8} (n:Nat) (hr:r.length=64):(hashL wd h r n).length=74:=by
 unfold hashL
 simp [hr]
theorem hashL_one (wd:Int) (h:R8) (r:List UInt8) (n:Nat):(hashL wd h r n).toArray.all (·.oneCell')=true:=by
 refine all_oneCell_toArray fun v hv=>?_
 unfold hashL at hv
 simp only [List.mem_cons,List.mem_append,List.mem_map,List.not_mem_nil,or_false] at hv
 rcases hv with rfl | rfl | rfl | rfl | rfl | rfl | rfl | rfl | rfl | ⟨x,_,rfl⟩ | rfl <;> rfl
theorem hash_range {w:World} {hb:Nat} {wd:Int} {h:R8} {r:List UInt8} {n:Nat} (hh:w.heap[hb]?=some (hashO wd h r n)):w.rangeAt hb 0 (hashL wd h r n):=fun j v hv=>by
 rw [Nat.zero_add,cell_of_heapN hh,List.getElem?_toArray]
 exact hv
theorem info_hash:(Tryz.prog.info? 190).map (·.size)=some 74:=by kernel_rfl
theorem zero_hash_len:Tryz.zeroCells190.size=74:=by rw [zero_hash];rfl
def leftZ (b:Nat) (w:World):Nat :=
 match w.cell? ⟨b,73,none⟩ with
 |some (.int _ n)=>((120 - n % 64) % 64).toNat
 |_=>0
theorem leftZ_at {b:Nat} {w:World} {n:Nat} (h:w.cell? ⟨b,73,none⟩=some (.int .i64 n)):leftZ b w=((120 - (n:Int) % 64) % 64).toNat:=by
 unfold leftZ
 rw [h]
theorem hash_rest_set {w:World} {hb:Nat} {wd:Int} {h:R8} {r:List UInt8} {n:Nat} (hh:w.heap[hb]?=some (hashO wd h r n)) {j:Nat} (hj:j < r.length) (b:UInt8):(w.setCell ⟨hb,9+j,none⟩ (byteV b)).heap[hb]?=some (hashO wd h (r.set j b) n):=by
 rw [setCell_blk hh,setBlk_heap (blk_lt hh)]
 unfold hashO
 rw [List.setIfInBounds_toArray,show 9+j=j+1+1+1+1+1+1+1+1+1 by omega]
 simp only [List.set_cons_succ]
 rw [List.set_append_left _ _ (by rw [List.length_map];exact hj),List.map_set]
theorem lay_snoc {r:List UInt8} {a:Nat} {l:List UInt8} {b:UInt8} (h:a+l.length < r.length):lay r a (l ++ [b])=(lay r a l).set (a+l.length) b:=by
 unfold lay
 have h1:(r.take a ++ l).length=a+l.length:=by rw [List.length_append,List.length_take];omega
 rw [List.set_append_right _ _ (by omega),h1,Nat.sub_self,List.length_append,List.length_singleton,← List.append_assoc,List.append_assoc (r.take a ++ l)]
 congr 1
 rw [show r.drop (a+l.length)=r[a+l.length] :: r.drop (a+l.length+1) from List.drop_eq_getElem_cons h]
 rfl
def R8.at (v:R8) (i:Nat):Int:=[v.a,v.b,v.c,v.d,v.e,v.f,v.g,v.k].getD i 0
theorem hash_h_cell {w:World} {hb:Nat} {wd:Int} {h:R8} {r:List UInt8} {n:Nat} (hh:w.heap[hb]?=some (hashO wd h r n)) {j:Nat} (hj:j < 8):w.cell? ⟨hb,1+j,none⟩=some (.int .u32 (h.at j)):=by
 rw [cell_of_heapN hh]
 rcases (show j=0∨j=1∨j=2∨j=3∨j=4∨j=5∨j=6∨j=7 by omega) with rfl | rfl | rfl | rfl | rfl | rfl | rfl | rfl <;> rfl
def digB (v:R8) (m:Nat):List Value:=(List.range 32).map fun i=>.int .u8 (if i < m then v.at (i / 4) / 2 ^ (24 - 8 * (i % 4)) % 256 else 0)
theorem dig_set {w:World} {b:Nat} {V:R8} {i:Nat} (h:w.heap[b]?=some (.cells (digB V i).toArray 33 (0,0))) (hi:i < 32) :
  (w.setCell ⟨b,i,none⟩ (.int .u8 (V.at (i / 4) / 2 ^ (24 - 8 * (i % 4)) % 256))).heap[b]?=some (.cells (digB V (i+1)).toArray 33 (0,0)):=by
 rw [setCell_blk h,setBlk_heap (blk_lt h),List.setIfInBounds_toArray]
 congr 3
 unfold digB
 refine List.ext_getElem? fun k=>?_
 rw [List.getElem?_set,List.getElem?_map,List.getElem?_map,List.length_map,List.length_range]
 by_cases hk:i=k
 ·subst hk
  rw [if_pos rfl,if_pos hi,List.getElem?_range hi]
  simp only [Option.map_some]
  rw [if_pos (show i < i+1 by omega)]
 ·rw [if_neg hk]
  by_cases hk2:k < 32
  ·rw [List.getElem?_range hk2]
   simp only [Option.map_some]
   by_cases hk3:k < i
   ·rw [if_pos hk3,if_pos (show k < i+1 by omega)]
   ·rw [if_neg hk3,if_neg (show ¬ k < i+1 by omega)]
  ·rw [List.getElem?_eq_none (by rw [List.length_range];omega)]
   rfl
def z32:Array Value:=Array.replicate 32 (.int .u8 0)
theorem sum_sha {w:World} {hb:Nat} {wd:Int} {st:HS} (hh:w.heap[hb]?=some (hashO wd st.h st.rest st.n)) (hr:st.rest.length=64) (hw:1≤wd∧wd≤32) (hK:RoundsT w) (hg:3≠hb) (l:List UInt8) (hl:feed compress ⟨r8i,z64,0⟩ l=st) (hn:l.length≤140737488355328) :
  Calls Tryz.prog 88 #[.pointer (some ⟨hb,0,none⟩)] w fun e w'=>e=.returned (.agg (digB (shaH compress r8i l) wd.toNat).toArray)∧Below w.heap.size w w':=by
 have HH:=hZ hh
 have HR:=hZ hr
 have HK:=hZ hK
 have HL:=hZ hl
 have HRNG:∀ o:Obj,(w.alloc o).rangeAt hb 0 (hashL wd st.h st.rest st.n):=fun o=>World.rangeAt_alloc (hash_range hh) o
 have HIN:(Tryz.prog.info? 190).map (·.size)=some (hashL wd st.h st.rest st.n).length:=by rw [hashL_len _ _ _ hr];exact info_hash
 have HU:Tryz.prog.underlying 190=some _:=Tryz.underlying190
 have hst:st.n=l.length:=by rw [← hl,feed_n];exact Nat.zero_add _
 have c73:=hash_n_cell hh hr
 have hlb:=blk_lt hh
 have C73:∀ o o':Obj,((w.alloc o).alloc o').cell? ⟨hb,73,none⟩=some (.int .i64 st.n):=fun o o'=>(((((Below.refl w.heap.size w).alloc (Nat.le_refl _) o).alloc (by rw [World.size_alloc];omega) o').cell (p:=⟨hb,73,none⟩) hlb)).trans c73
 have HST:=hZ hst
 have hn2:(st.n:Int)≤140737488355328:=by omega
 clear hh hr hK hl hst c73
 go_enter Tryz.func88,Tryz.ntmps88
 go_wp2_with (first | refine wpList_load_mid rfl _ _ rfl hb 0 rfl (hashL wd st.h st.rest st.n) _ (HRNG _) HU rfl HIN ?_ | refine wpList_store_new rfl _ _ _ rfl _ (hashL wd st.h st.rest st.n).toArray _ (World.size_alloc _ _).symm rfl rfl (by rw [List.size_toArray];exact HIN) (by rw [zero_hash_len,List.size_toArray,hashL_len _ _ _ HR.out]) (hashL_one _ _ _ _) ?_)
 clear HRNG C73
 obtain ⟨W0,hW0⟩:∃ W,(w.alloc (Obj.cells z32 33)).alloc (.cells (hashL wd st.h st.rest st.n).toArray 190)=W:=⟨_,rfl⟩
 have HB0:Hid (Below w.heap.size w W0):=hZ (hW0 ▸ (((Below.refl w.heap.size w).alloc (Nat.le_refl _) _).alloc (by rw [World.size_alloc];omega) _))
 have HX0:Hid (W0.heap[w.heap.size+1]?=some (hashO wd st.h st.rest st.n)):=hZ (by rw [← hW0,← World.size_alloc w (Obj.cells z32 33),heap_new];rfl)
 have HR0:Hid (W0.heap[w.heap.size]?=some (.cells z32 33 (0,0))):=hZ (by rw [← hW0,Below.heap_alloc _ _ _ (by rw [World.size_alloc];omega),heap_new])
 rw [show (#[Value.int IntKind.u8 0,Value.int IntKind.u8 0,Value.int IntKind.u8 0,Value.int IntKind.u8 0,Value.int IntKind.u8 0,Value.int IntKind.u8 0,Value.int IntKind.u8 0,Value.int IntKind.u8 0,Value.int IntKind.u8 0,Value.int IntKind.u8 0,Value.int IntKind.u8 0,Value.int IntKind.u8 0,Value.int IntKind.u8 0,Value.int IntKind.u8 0,Value.int IntKind.u8 0,Value.int IntKind.u8 0,Value.int IntKind.u8 0,Value.int IntKind.u8 0,Value.int IntKind.u8 0,Value.int IntKind.u8 0,Value.int IntKind.u8 0,Value.int IntKind.u8 0,Value.int IntKind.u8 0,Value.int IntKind.u8 0,Value.int IntKind.u8 0,Value.int IntKind.u8 0,Value.int IntKind.u8 0,Value.int IntKind.u8 0,Value.int IntKind.u8 0,Value.int IntKind.u8 0,Value.int IntKind.u8 0,Value.int IntKind.u8 0]:Array Value)=z32 from rfl,hW0]
 have hgx:3≠w.heap.size+1:=by have:=HK.out.2;omega
 have HK0:Hid (RoundsT W0):=hZ ⟨fun i k hk=>(HB0.out.cell (p:=⟨3,i,none⟩) HK.out.2).trans (HK.out.1 i k hk),Nat.lt_of_lt_of_le HK.out.2 HB0.out.size⟩
 clear hW0
 refine (write_sha HX0.out HR.out HK0.out hgx ⟨#[128]⟩ (by decide) (by omega)).mono ?_
 rintro e w2 ⟨rfl,hx2,ho2⟩
 have HX2:Hid (w2.heap[w.heap.size+1]?=some (hashO wd (feed compress st ([128] ++ List.replicate 0 0)).h (feed compress st ([128] ++ List.replicate 0 0)).rest (feed compress st ([128] ++ List.replicate 0 0)).n)):=hZ hx2
 have HO2:=hZ ho2
 clear hx2 ho2
 go_wp2_with fail
 go_loopw [18] (fun _ wr=>∃ j:Nat,j≤zeros l.length∧Hid (Off (fun b=>b=w.heap.size+1) W0 wr)∧Hid (wr.heap[w.heap.size+1]?=some (hashO wd (feed compress st ([128] ++ List.replicate j 0)).h (feed compress st ([128] ++ List.replicate j 0)).rest (feed compress st ([128] ++ List.replicate j 0)).n))) (fun _ wr=>leftZ (w.heap.size+1) wr)
 case atStart=>exact ⟨0,Nat.zero_le _,HO2,HX2⟩
 case round =>
  obtain ⟨j,hj,HO,HX⟩:=hrel
  have hrj:(feed compress st ([128] ++ List.replicate j 0)).rest.length=64:=by rw [feed_rest];exact HR.out
  have hnj:(feed compress st ([128] ++ List.replicate j 0)).n=l.length+1+j:=by
   rw [feed_n,HST.out,List.length_append,List.length_replicate]
   show l.length+(1+j)=_
   omega
  have hzz:zeros l.length=(119 - l.length % 64) % 64:=rfl
  have hz63:zeros l.length≤63:=by omega
  have c73:=hash_n_cell HX.out hrj
  have hlz:=leftZ_at c73
  rw [hnj] at c73 hlz
  by_cases h56:((l.length+1+j:Nat):Int) % 64=56
  ·have hjz:j=zeros l.length:=by omega
   subst hjz
   obtain ⟨st2,hst2⟩:∃ x,feed compress st ([128] ++ List.replicate (zeros l.length) 0)=x:=⟨_,rfl⟩
   rw [hst2] at HX hrj hnj
   have HS2:=hZ hst2
   have HR2:=hZ hrj
   have HN2:=hZ hnj
   have HLN:=hZ (show st.n=l.length from HST.out)
   clear hst2 hrj hnj hzz hlz hj
   go_wp2_with fail
   go_loopw [23] (fun iv wr=>∃ i:Nat,i≤8∧iv=.int .i64 i∧Hid (Off (fun b=>b=w.heap.size+1) W0 wr)∧Hid (wr.heap[w.heap.size+1]?=some (hashO wd st2.h (lay st2.rest 56 ((len8 l.length).take i)) st2.n))) (fun iv _=>8 - (intOf iv).toNat)
   case atStart=>exact ⟨0,by omega,rfl,HO,hZ (by rw [List.take_zero,lay_nil];exact HX.out)⟩
   case round =>
    obtain ⟨i,hi,rfl,HO,HX⟩:=hrel
    have hll:(lay st2.rest 56 ((len8 l.length).take i)).length=64:=by
     rw [lay_length (by rw [List.length_take,HR2.out];show 56+min i 8≤64;omega)]
     exact HR2.out
    by_cases hlt:(i:Int) < 8
    ·rcases (show i=0∨i=1∨i=2∨i=3∨i=4∨i=5∨i=6∨i=7 by omega) with rfl | rfl | rfl | rfl | rfl | rfl | rfl | rfl
--CASES
     ·have c0:wr.cell? ⟨w.heap.size+1,65,none⟩=_:=hash_rest (j:=56) HX.out (by rw [hll];omega)
      have f0:wr.frozen? ⟨w.heap.size+1,65,none⟩=false:=frozen_blk HX.out
      have HSET:=hZ (hash_rest_set (j:=56) HX.out (by rw [hll];omega) (UInt8.ofNat (8 * l.length / 2 ^ 56)))
      have HLAY:=hZ (lay_snoc (r:=st2.rest) (a:=56) (l:=(len8 l.length).take 0) (b:=UInt8.ofNat (8 * l.length / 2 ^ 56)) (by rw [HR2.out];show 56+0 < 64;omega))
      clear hll
      go_wp2_with fail
      refine ⟨⟨1,by omega,rfl,hZ (HO.out.setCell _ _ (fun _=>rfl)),hZ ?_⟩,by simp [intOf]⟩
      refine Eq.trans ?_ (HSET.out.trans (congrArg (fun r=>some (hashO wd st2.h r st2.n)) HLAY.out.symm))
      refine congrArg (fun v=>(wr.setCell ⟨w.heap.size+1,65,none⟩ v).heap[w.heap.size+1]?) (congrArg (Value.int .u8) ?_)
      rw [UInt8.toNat_ofNat',HLN.out]
      omega
     ·have c0:wr.cell? ⟨w.heap.size+1,66,none⟩=_:=hash_rest (j:=57) HX.out (by rw [hll];omega)
      have f0:wr.frozen? ⟨w.heap.size+1,66,none⟩=false:=frozen_blk HX.out
      have HSET:=hZ (hash_rest_set (j:=57) HX.out (by rw [hll];omega) (UInt8.ofNat (8 * l.length / 2 ^ 48)))
      have HLAY:=hZ (lay_snoc (r:=st2.rest) (a:=56) (l:=(len8 l.length).take 1) (b:=UInt8.ofNat (8 * l.length / 2 ^ 48)) (by rw [HR2.out];show 56+1 < 64;omega))
      clear hll
      go_wp2_with fail
      refine ⟨⟨2,by omega,rfl,hZ (HO.out.setCell _ _ (fun _=>rfl)),hZ ?_⟩,by simp [intOf]⟩
      refine Eq.trans ?_ (HSET.out.trans (congrArg (fun r=>some (hashO wd st2.h r st2.n)) HLAY.out.symm))
      refine congrArg (fun v=>(wr.setCell ⟨w.heap.size+1,66,none⟩ v).heap[w.heap.size+1]?) (congrArg (Value.int .u8) ?_)
      rw [UInt8.toNat_ofNat',HLN.out]
      omega
     ·have c0:wr.cell? ⟨w.heap.size+1,67,none⟩=_:=hash_rest (j:=58) HX.out (by rw [hll];omega)
      have f0:wr.frozen? ⟨w.heap.size+1,67,none⟩=false:=frozen_blk HX.out
      have HSET:=hZ (hash_rest_set (j:=58) HX.out (by rw [hll];omega) (UInt8.ofNat (8 * l.length / 2 ^ 40)))
      have HLAY:=hZ (lay_snoc (r:=st2.rest) (a:=56) (l:=(len8 l.length).take 2) (b:=UInt8.ofNat (8 * l.length / 2 ^ 40)) (by rw [HR2.out];show 56+2 < 64;omega))
      clear hll
      go_wp2_with fail
      refine ⟨⟨3,by omega,rfl,hZ (HO.out.setCell _ _ (fun _=>rfl)),hZ ?_⟩,by simp [intOf]⟩
      refine Eq.trans ?_ (HSET.out.trans (congrArg (fun r=>some (hashO wd st2.h r st2.n)) HLAY.out.symm))
      refine congrArg (fun v=>(wr.setCell ⟨w.heap.size+1,67,none⟩ v).heap[w.heap.size+1]?) (congrArg (Value.int .u8) ?_)
      rw [UInt8.toNat_ofNat',HLN.out]
      omega
     ·have c0:wr.cell? ⟨w.heap.size+1,68,none⟩=_:=hash_rest (j:=59) HX.out (by rw [hll];omega)
      have f0:wr.frozen? ⟨w.heap.size+1,68,none⟩=false:=frozen_blk HX.out
      have HSET:=hZ (hash_rest_set (j:=59) HX.out (by rw [hll];omega) (UInt8.ofNat (8 * l.length / 2 ^ 32)))
      have HLAY:=hZ (lay_snoc (r:=st2.rest) (a:=56) (l:=(len8 l.length).take 3) (b:=UInt8.ofNat (8 * l.length / 2 ^ 32)) (by rw [HR2.out];show 56+3 < 64;omega))
      clear hll
      go_wp2_with fail
      refine ⟨⟨4,by omega,rfl,hZ (HO.out.setCell _ _ (fun _=>rfl)),hZ ?_⟩,by simp [intOf]⟩
      refine Eq.trans ?_ (HSET.out.trans (congrArg (fun r=>some (hashO wd st2.h r st2.n)) HLAY.out.symm))
      refine congrArg (fun v=>(wr.setCell ⟨w.heap.size+1,68,none⟩ v).heap[w.heap.size+1]?) (congrArg (Value.int .u8) ?_)
      rw [UInt8.toNat_ofNat',HLN.out]
      omega
     ·have c0:wr.cell? ⟨w.heap.size+1,69,none⟩=_:=hash_rest (j:=60) HX.out (by rw [hll];omega)
      have f0:wr.frozen? ⟨w.heap.size+1,69,none⟩=false:=frozen_blk HX.out
      have HSET:=hZ (hash_rest_set (j:=60) HX.out (by rw [hll];omega) (UInt8.ofNat (8 * l.length / 2 ^ 24)))
      have HLAY:=hZ (lay_snoc (r:=st2.rest) (a:=56) (l:=(len8 l.length).take 4) (b:=UInt8.ofNat (8 * l.length / 2 ^ 24)) (by rw [HR2.out];show 56+4 < 64;omega))
      clear hll
      go_wp2_with fail
      refine ⟨⟨5,by omega,rfl,hZ (HO.out.setCell _ _ (fun _=>rfl)),hZ ?_⟩,by simp [intOf]⟩
      refine Eq.trans ?_ (HSET.out.trans (congrArg (fun r=>some (hashO wd st2.h r st2.n)) HLAY.out.symm))
      refine congrArg (fun v=>(wr.setCell ⟨w.heap.size+1,69,none⟩ v).heap[w.heap.size+1]?) (congrArg (Value.int .u8) ?_)
      rw [UInt8.toNat_ofNat',HLN.out]
      omega
     ·have c0:wr.cell? ⟨w.heap.size+1,70,none⟩=_:=hash_rest (j:=61) HX.out (by rw [hll];omega)
      have f0:wr.frozen? ⟨w.heap.size+1,70,none⟩=false:=frozen_blk HX.out
      have HSET:=hZ (hash_rest_set (j:=61) HX.out (by rw [hll];omega) (UInt8.ofNat (8 * l.length / 2 ^ 16)))
      have HLAY:=hZ (lay_snoc (r:=st2.rest) (a:=56) (l:=(len8 l.length).take 5) (b:=UInt8.ofNat (8 * l.length / 2 ^ 16)) (by rw [HR2.out];show 56+5 < 64;omega))
      clear hll
      go_wp2_with fail
      refine ⟨⟨6,by omega,rfl,hZ (HO.out.setCell _ _ (fun _=>rfl)),hZ ?_⟩,by simp [intOf]⟩
      refine Eq.trans ?_ (HSET.out.trans (congrArg (fun r=>some (hashO wd st2.h r st2.n)) HLAY.out.symm))
      refine congrArg (fun v=>(wr.setCell ⟨w.heap.size+1,70,none⟩ v).heap[w.heap.size+1]?) (congrArg (Value.int .u8) ?_)
      rw [UInt8.toNat_ofNat',HLN.out]
      omega
     ·have c0:wr.cell? ⟨w.heap.size+1,71,none⟩=_:=hash_rest (j:=62) HX.out (by rw [hll];omega)
      have f0:wr.frozen? ⟨w.heap.size+1,71,none⟩=false:=frozen_blk HX.out
      have HSET:=hZ (hash_rest_set (j:=62) HX.out (by rw [hll];omega) (UInt8.ofNat (8 * l.length / 2 ^ 8)))
      have HLAY:=hZ (lay_snoc (r:=st2.rest) (a:=56) (l:=(len8 l.length).take 6) (b:=UInt8.ofNat (8 * l.length / 2 ^ 8)) (by rw [HR2.out];show 56+6 < 64;omega))
      clear hll
      go_wp2_with fail
      refine ⟨⟨7,by omega,rfl,hZ (HO.out.setCell _ _ (fun _=>rfl)),hZ ?_⟩,by simp [intOf]⟩
      refine Eq.trans ?_ (HSET.out.trans (congrArg (fun r=>some (hashO wd st2.h r st2.n)) HLAY.out.symm))
      refine congrArg (fun v=>(wr.setCell ⟨w.heap.size+1,71,none⟩ v).heap[w.heap.size+1]?) (congrArg (Value.int .u8) ?_)
      rw [UInt8.toNat_ofNat',HLN.out]
      omega
     ·have c0:wr.cell? ⟨w.heap.size+1,72,none⟩=_:=hash_rest (j:=63) HX.out (by rw [hll];omega)
      have f0:wr.frozen? ⟨w.heap.size+1,72,none⟩=false:=frozen_blk HX.out
      have HSET:=hZ (hash_rest_set (j:=63) HX.out (by rw [hll];omega) (UInt8.ofNat (8 * l.length / 2 ^ 0)))
      have HLAY:=hZ (lay_snoc (r:=st2.rest) (a:=56) (l:=(len8 l.length).take 7) (b:=UInt8.ofNat (8 * l.length / 2 ^ 0)) (by rw [HR2.out];show 56+7 < 64;omega))
      clear hll
      go_wp2_with fail
      refine ⟨⟨8,by omega,rfl,hZ (HO.out.setCell _ _ (fun _=>rfl)),hZ ?_⟩,by simp [intOf]⟩
      refine Eq.trans ?_ (HSET.out.trans (congrArg (fun r=>some (hashO wd st2.h r st2.n)) HLAY.out.symm))
      refine congrArg (fun v=>(wr.setCell ⟨w.heap.size+1,72,none⟩ v).heap[w.heap.size+1]?) (congrArg (Value.int .u8) ?_)
      rw [UInt8.toNat_ofNat',HLN.out]
      omega
--ENDCASES
    ·obtain rfl:i=8:=by omega
     have hv:compress st2.h (lay st2.rest 56 ((len8 l.length).take 8))=shaH compress r8i l:=by
      have h1:=sha_feed compress r8i z64 rfl l
      rw [List.append_assoc,feed_append,HL.out,HS2.out] at h1
      exact h1
     have HV:=hZ hv
     have HLL:=hZ hll
     clear hv hll
     go_wp2_with fail
     refine (block_any HX.out HLL.out (RoundsT.off HK0.out HO.out hgx)).mono ?_
     rintro e w4 ⟨rfl,hx4,ho4⟩
     rw [HV.out] at hx4
     have HO4:=hZ (HO.out.tr ho4)
     have HX4:=hZ hx4
     clear hx4 ho4
     have hz4:w.heap.size+2≤w4.heap.size:=by
      have h1:=blk_lt HX4.out
      omega
     have c0:∀ o:Obj,(w4.alloc o).cell? ⟨hb,0,none⟩=some (.int .i64 wd):=fun o=>by
      have h1:=Below.heap_alloc w4 o hb (by omega)
      have h2:w4.heap[hb]?=W0.heap[hb]?:=HO4.out.block hb (Nat.lt_of_lt_of_le hlb HB0.out.size) (by omega)
      have h3:=HB0.out.block hb hlb
      exact cell_of_heapN (h1.trans (h2.trans (h3.trans HH.out)))
     go_wp2_with fail
     obtain ⟨V,hV⟩:∃ v,shaH compress r8i l=v:=⟨_,rfl⟩
     have HVV:=hZ hV
     rw [hV] at HX4
     clear hV c0
     go_loopw [42] (fun iv wr=>∃ i:Nat,(i:Int)≤wd∧iv=.int .i64 i∧Hid (Below w4.heap.size w4 wr)∧Hid (wr.heap[w4.heap.size]?=some (.cells (digB V i).toArray 33 (0,0)))) (fun iv _=>wd.toNat - (intOf iv).toNat)
     case atStart=>exact ⟨0,by omega,rfl,hZ ((Below.refl _ _).alloc (Nat.le_refl _) _),hZ (by rw [heap_new];rfl)⟩
     case round =>
      obtain ⟨i,hi,rfl,HB,HD⟩:=hrel
      by_cases hlt:(i:Int) < wd
      ·have hq:i / 4 < 8:=by omega
       obtain ⟨y,hy⟩:∃ y,V.at (i / 4)=y:=⟨_,rfl⟩
       have c1:wr.cell? ⟨w.heap.size+1,1+i / 4,none⟩=some (.int .u32 y):=by
        rw [← hy]
        exact (HB.out.cell (p:=⟨w.heap.size+1,1+i / 4,none⟩) (by show w.heap.size+1 < w4.heap.size;omega)).trans (hash_h_cell HX4.out hq)
       have d0:wr.cell? ⟨w4.heap.size,i,none⟩=some (.int .u8 (if i < i then V.at (i / 4) / 2 ^ (24 - 8 * (i % 4)) % 256 else 0)):=by
        rw [cell_of_heapN HD.out,List.getElem?_toArray]
        unfold digB
        rw [List.getElem?_map,List.getElem?_range (by omega)]
        rfl
       have f0:wr.frozen? ⟨w4.heap.size,i,none⟩=false:=frozen_blk HD.out
       rw [if_neg (Nat.lt_irrefl i)] at d0
       have HY:=hZ hy
       clear hy
       have hm:=Nat.mod_lt i (show 0 < 4 by omega)
       rcases (show i % 4=0∨i % 4=1∨i % 4=2∨i % 4=3 by omega) with hr4 | hr4 | hr4 | hr4
       ·have hr5:(i:Int) % 4=0:=by omega
        have HSET:=hZ (dig_set HD.out (show i < 32 by omega))
        go_wp2_with fail
        refine ⟨⟨i+1,by omega,by rw [Int.natCast_add];rfl,hZ (HB.out.setCell (Nat.le_refl _) _),hZ ?_⟩,by simp [intOf];omega⟩
        have h:=HSET.out
        rw [HY.out,hr4,show (2:Int) ^ (24 - 8 * 0)=16777216 from by decide] at h
        exact h
       ·have hr5:(i:Int) % 4=1:=by omega
        have HSET:=hZ (dig_set HD.out (show i < 32 by omega))
        go_wp2_with fail
        refine ⟨⟨i+1,by omega,by rw [Int.natCast_add];rfl,hZ (HB.out.setCell (Nat.le_refl _) _),hZ ?_⟩,by simp [intOf];omega⟩
        have h:=HSET.out
        rw [HY.out,hr4,show (2:Int) ^ (24 - 8 * 1)=65536 from by decide] at h
        exact h
       ·have hr5:(i:Int) % 4=2:=by omega
        have HSET:=hZ (dig_set HD.out (show i < 32 by omega))
        go_wp2_with fail
        refine ⟨⟨i+1,by omega,by rw [Int.natCast_add];rfl,hZ (HB.out.setCell (Nat.le_refl _) _),hZ ?_⟩,by simp [intOf];omega⟩
        have h:=HSET.out
        rw [HY.out,hr4,show (2:Int) ^ (24 - 8 * 2)=256 from by decide] at h
        exact h
       ·have hr5:(i:Int) % 4=3:=by omega
        have HSET:=hZ (dig_set HD.out (show i < 32 by omega))
        go_wp2_with fail
        refine ⟨⟨i+1,by omega,by rw [Int.natCast_add];rfl,hZ (HB.out.setCell (Nat.le_refl _) _),hZ ?_⟩,by simp [intOf];omega⟩
        have h:=HSET.out
        rw [HY.out,hr4,show (2:Int) ^ (24 - 8 * 3)=1 from by decide,Int.ediv_one] at h
        exact h
      ·obtain ⟨wn,rfl⟩:∃ n:Nat,wd=n:=⟨wd.toNat,by omega⟩
       obtain rfl:i=wn:=by omega
       have hdl:(digB V i).length=32:=by unfold digB;rw [List.length_map,List.length_range]
       have HI33:(Tryz.prog.info? 33).map (·.size)=some (digB V i).length:=by rw [hdl];kernel_rfl
       have HU33:Tryz.prog.underlying 33=some _:=Tryz.underlying33
       have HRG:wr.rangeAt w4.heap.size 0 (digB V i):=fun j v hv=>by
        rw [Nat.zero_add,cell_of_heapN HD.out,List.getElem?_toArray]
        exact hv
       have hbx:wr.heap[w.heap.size]?=some (.cells z32 33 (0,0)):=(HB.out.block w.heap.size (by omega)).trans ((HO4.out.block w.heap.size (blk_lt HR0.out) (by omega)).trans HR0.out)
       have hst:=run_storeCells_at Tryz.prog w.heap.size 0 33 (digB V i) 0 z32 wr hbx (by rw [hdl];show _≤(Array.replicate 32 _).size;rw [Array.size_replicate];omega) (by
        intro v hv
        unfold digB at hv
        obtain ⟨x,_,rfl⟩:=List.mem_map.1 hv
        rfl)
       rw [setRow_setBlk hbx,Nat.add_zero,List.take_zero,List.nil_append,List.drop_of_length_le (by rw [hdl];show (List.replicate 32 _).length≤_;rw [List.length_replicate];omega),List.append_nil] at hst
       have HBX:=hZ hbx
       clear hbx
       go_wp2_with (first | refine wpList_load_mid rfl _ _ rfl w4.heap.size 0 rfl (digB V i) _ HRG HU33 rfl HI33 ?_)
       have hz5:w.heap.size < wr.heap.size:=blk_lt HBX.out
       refine bodyPost_ret (v:=.agg (digB V i).toArray) (results_cell_row (fn:=Tryz.f88) rfl _ _ w.heap.size 33 (digB V i).toArray (0,0) _ rfl (setBlk_heap hz5) HU33 rfl (by rw [List.size_toArray];exact HI33)) rfl ⟨by rw [HVV.out],?_⟩
       have e1:=HO4.out.toBelow (B:=w.heap.size) (fun k hk=>by omega) HB0.out.size
       have e2:=HB.out.mono (show w.heap.size≤w4.heap.size by omega)
       have e3:=((Off.refl (fun b=>b=w.heap.size) wr).setBlk (k:=w.heap.size) (o:=.cells (digB V i).toArray 33 (0,0)) (fun _=>rfl)).toBelow (B:=w.heap.size) (fun k hk=>by omega) (Nat.le_of_lt hz5)
       exact ((HB0.out.trans e1).trans e2).trans e3
  ·have hjz:j < zeros l.length:=by omega
   have HRJ:=hZ hrj
   have HNJ:=hZ hnj
   have HLZ:=hZ hlz
   clear hrj hnj hlz hzz
   go_wp2_with fail
   refine (write_sha HX.out HRJ.out (RoundsT.off HK0.out HO.out hgx) hgx ⟨#[0]⟩ (by decide) (by rw [HNJ.out];omega)).mono ?_
   rintro e w3 ⟨rfl,hx3,ho3⟩
   have HX3:=hZ hx3
   have HO3:=hZ (HO.out.tr ho3)
   clear hx3 ho3
   go_wp2_with fail
   go_roundw
   case rel =>
    refine ⟨j+1,by omega,HO3,hZ ?_⟩
    rw [List.replicate_succ',← List.append_assoc,feed_append]
    exact HX3.out
   case measure =>
    have c3:=hash_n_cell HX3.out (by rw [feed_rest];exact HRJ.out)
    rw [leftZ_at c3,HLZ.out,feed_n,HNJ.out]
    show ((120 - ((l.length+1+j+1:Nat):Int) % 64) % 64).toNat < _
    omega
end Go.Proofs.YtecgikanophonaaGreatDoor
/- Contract of digest.Sum. -/
namespace Go.Proofs.YtecgikanophonaaGreatDoor
open Go Go.RowKit
def shaL (x:Int) (s:ByteArray):List Value:=digB (shaH compress r8i s.data.toList) (wide x).toNat
theorem digB_len (v:R8) (m:Nat):(digB v m).length=32:=by unfold digB;rw [List.length_map,List.length_range]
theorem digB_one (v:R8) (m:Nat):∀ u∈digB v m,u.oneCell'=true:=by
 intro u hu
 unfold digB at hu
 obtain ⟨x,_,rfl⟩:=List.mem_map.1 hu
 rfl
theorem store_digest {w:World} {b:Nat} (h:w.heap[b]?=some (.cells z32 33 (0,0))) {l:List Value} (hl:l.length=32) (h1:∀ u∈l,u.oneCell'=true) :
  (storeCells ⟨b,0,none⟩ l).run Tryz.prog w=.ok () (setBlk w b (.cells l.toArray 33 (0,0))):=by
 have hst:=run_storeCells_at Tryz.prog b 0 33 l 0 z32 w h (by rw [hl];show _≤(Array.replicate 32 _).size;rw [Array.size_replicate];omega) h1
 rw [setRow_setBlk h,Nat.add_zero,List.take_zero,List.nil_append,List.drop_of_length_le (by rw [hl];show (List.replicate 32 _).length≤_;rw [List.length_replicate];omega),List.append_nil] at hst
 exact hst
theorem digest_sum (x:Int) (s:ByteArray) (w:World) (hK:RoundsT w) (hs:s.size≤140737488355328) :
  Calls Tryz.prog 38 #[.int .i64 x,.string s] w fun e w'=>e=.returned (.agg (shaL x s).toArray)∧Below w.heap.size w w':=by
 have HK:=hZ hK
 clear hK
 go_enter Tryz.func38,Tryz.ntmps38
 go_wp2_with fail
 refine (new_sha x _).mono ?_
 rintro e w2 ⟨rfl,hw2⟩
 rw [World.size_alloc]
 have hz2:w2.heap.size=w.heap.size+2:=by rw [hw2,World.size_alloc,World.size_alloc]
 have HB2:Hid (Below w.heap.size w w2):=hZ (by rw [hw2];exact ((Below.refl w.heap.size w).alloc (Nat.le_refl _) _).alloc (by rw [World.size_alloc];omega) _)
 have HX2:Hid (w2.heap[w.heap.size+1]?=some (hashO (wide x) r8i z64 0)):=hZ (by rw [hw2,← World.size_alloc w (Obj.cells z32 33)];exact heap_new _ _)
 have HR2:Hid (w2.heap[w.heap.size]?=some (.cells z32 33 (0,0))):=hZ (by rw [hw2,Below.heap_alloc _ _ _ (by rw [World.size_alloc];omega)];exact heap_new _ _)
 have hgx:3≠w.heap.size+1:=by have:=HK.out.2;omega
 have HK2:Hid (RoundsT w2):=hZ ⟨fun i k hk=>(HB2.out.cell (p:=⟨3,i,none⟩) HK.out.2).trans (HK.out.1 i k hk),Nat.lt_of_lt_of_le HK.out.2 HB2.out.size⟩
 clear hw2
 go_wp2_with fail
 refine (write_sha (st:=⟨r8i,z64,0⟩) HX2.out rfl HK2.out hgx s hs (by show ((0:Nat):Int)≤_;omega)).mono ?_
 rintro e w3 ⟨rfl,hx3,ho3⟩
 have HX3:=hZ hx3
 have HO3:=hZ ho3
 have hsl:s.data.toList.length=s.size:=Array.length_toList
 clear hx3 ho3
 go_wp2_with fail
 refine (sum_sha HX3.out (by rw [feed_rest];rfl) (by unfold wide;omega) (RoundsT.off HK2.out HO3.out hgx) hgx s.data.toList rfl (by omega)).mono ?_
 rintro e w4 ⟨rfl,hb4⟩
 have hr4:w4.heap[w.heap.size]?=some (.cells z32 33 (0,0)):=(hb4.block _ (Nat.lt_of_lt_of_le (blk_lt HR2.out) HO3.out.size)).trans ((HO3.out.block _ (blk_lt HR2.out) (by omega)).trans HR2.out)
 have hst:=store_digest hr4 (digB_len (shaH compress r8i s.data.toList) (wide x).toNat) (digB_one _ _)
 have HR4:=hZ hr4
 have HB4:=hZ hb4
 have hdl:=digB_len (shaH compress r8i s.data.toList) (wide x).toNat
 clear hr4 hb4
 go_wp2_with fail
 have hz4:w.heap.size < w4.heap.size:=blk_lt HR4.out
 have HI33:(Tryz.prog.info? 33).map (·.size)=some (digB (shaH compress r8i s.data.toList) (wide x).toNat).length:=by rw [hdl];kernel_rfl
 have HU33:Tryz.prog.underlying 33=some _:=Tryz.underlying33
 refine bodyPost_ret (v:=.agg (digB (shaH compress r8i s.data.toList) (wide x).toNat).toArray) (results_cell_row (fn:=Tryz.f38) rfl _ _ w.heap.size 33 _ (0,0) _ rfl (setBlk_heap hz4) HU33 rfl (by rw [List.size_toArray];exact HI33)) rfl ⟨rfl,?_⟩
 have e1:=HO3.out.toBelow (B:=w.heap.size) (fun k hk=>by omega) HB2.out.size
 have e2:=HB4.out.mono (show w.heap.size≤w3.heap.size from Nat.le_trans HB2.out.size HO3.out.size)
 have e3:=((Off.refl (fun b=>b=w.heap.size) w4).setBlk (k:=w.heap.size) (o:=.cells (digB (shaH compress r8i s.data.toList) (wide x).toNat).toArray 33 (0,0)) (fun _=>rfl)).toBelow (B:=w.heap.size) (fun k hk=>by omega) (Nat.le_of_lt hz4)
 exact ((HB2.out.trans e1).trans e2).trans e3
end Go.Proofs.YtecgikanophonaaGreatDoor
/- Plain: a digest as bytes, its digits, and back. -/
namespace Go.Proofs.YtecgikanophonaaGreatDoor
open Go Go.RowKit
def digU (v:R8) (m:Nat):List UInt8:=(List.range 32).map fun i=>UInt8.ofNat (if i < m then v.at (i / 4) / 2 ^ (24 - 8 * (i % 4)) % 256 else 0).toNat
theorem digU_len (v:R8) (m:Nat):(digU v m).length=32:=by unfold digU;rw [List.length_map,List.length_range]
theorem digB_digU (v:R8) (m:Nat):digB v m=(digU v m).map byteV:=by
 unfold digB digU
 rw [List.map_map]
 refine List.map_congr_left fun i _=>?_
 show Value.int .u8 _=Value.int .u8 _
 refine congrArg (Value.int .u8) ?_
 rw [UInt8.toNat_ofNat']
 split <;> omega
def shaU (x:Int) (s:ByteArray):List UInt8:=digU (shaH compress r8i s.data.toList) (wide x).toNat
theorem shaU_len (x:Int) (s:ByteArray):(shaU x s).length=32:=digU_len _ _
theorem shaL_shaU (x:Int) (s:ByteArray):shaL x s=(shaU x s).map byteV:=digB_digU _ _
def hx (n:Nat):UInt8:=if n < 10 then UInt8.ofNat (48+n) else UInt8.ofNat (87+n)
def hexB (d:List UInt8):List UInt8:=d.flatMap fun b=>[hx (b.toNat / 16),hx (b.toNat % 16)]
theorem hexB_cons (b:UInt8) (d:List UInt8):hexB (b :: d)=hx (b.toNat / 16) :: hx (b.toNat % 16) :: hexB d:=rfl
theorem hexB_append (d e:List UInt8):hexB (d ++ e)=hexB d ++ hexB e:=List.flatMap_append
theorem hexB_len:∀ d:List UInt8,(hexB d).length=2 * d.length
 |[]=>rfl
 |b :: d=>by rw [hexB_cons,List.length_cons,List.length_cons,List.length_cons,hexB_len d];omega
def hv (c:UInt8):Option Nat:=if 48≤c.toNat∧c.toNat≤57 then some (c.toNat - 48) else if 97≤c.toNat∧c.toNat≤102 then some (c.toNat - 87) else none
theorem hv_hx:∀ n,n < 16→hv (hx n)=some n:=by decide
theorem hv_inv {c:UInt8} {n:Nat} (h:hv c=some n):c=hx n∧n < 16:=by
 unfold hv at h
 have hc:c=UInt8.ofNat c.toNat:=by simp
 split at h
 ·cases h
  unfold hx
  rw [if_pos (by omega)]
  exact ⟨by rw [show 48+(c.toNat - 48)=c.toNat by omega];exact hc,by omega⟩
 split at h
 ·cases h
  unfold hx
  rw [if_neg (by omega)]
  exact ⟨by rw [show 87+(c.toNat - 87)=c.toNat by omega];exact hc,by omega⟩
 ·cases h
def unhex:List UInt8→Option (List UInt8)
 |[]=>some []
 |[_]=>none
 |x :: y :: r=>match hv x,hv y,unhex r with
  |some a,some b,some d=>some (UInt8.ofNat (16 * a+b) :: d)
  |_,_,_=>none
theorem unhex_hexB:∀ d:List UInt8,unhex (hexB d)=some d
 |[]=>rfl
 |b :: d=>by
  have hb:=b.toNat_lt
  rw [hexB_cons,unhex,hv_hx _ (by omega),hv_hx _ (by omega),unhex_hexB d]
  show some (UInt8.ofNat (16 * (b.toNat / 16)+b.toNat % 16) :: d)=_
  rw [show 16 * (b.toNat / 16)+b.toNat % 16=b.toNat by omega,UInt8.ofNat_toNat]
theorem unhex_inv:∀ {l d:List UInt8},unhex l=some d→l=hexB d
 |[],_,h=>by cases h;rfl
 |[_],_,h=>by cases h
 |x :: y :: r,d,h=>by
  rw [unhex] at h
  split at h
  ·rename_i a b e ha hb he
   cases h
   obtain ⟨rfl,h1⟩:=hv_inv ha
   obtain ⟨rfl,h2⟩:=hv_inv hb
   rw [hexB_cons,UInt8.toNat_ofNat',unhex_inv he]
   rw [show (16 * a+b) % 256 / 16=a by omega,show (16 * a+b) % 256 % 16=b by omega]
  ·cases h
theorem hexB_inj {d e:List UInt8} (h:hexB d=hexB e):d=e:=by
 have h1:=unhex_hexB d
 rw [h,unhex_hexB e] at h1
 exact (Option.some.inj h1).symm
def zeroD:List UInt8:=List.replicate 32 0
def shaHead:List UInt8:=[115,104,97,50,53,54,58]
def textD (d:List UInt8):ByteArray:=⟨(shaHead ++ hexB d).toArray⟩
def parseD (s:ByteArray):Option (List UInt8):=if s.data.toList.take 7=shaHead∧s.size=71 then unhex (s.data.toList.drop 7) else none
theorem parseD_textD (d:List UInt8) (h:d.length=32):parseD (textD d)=some d:=by
 unfold parseD textD
 have h1:(⟨(shaHead ++ hexB d).toArray⟩:ByteArray).size=71:=by
  show (shaHead ++ hexB d).length=71
  rw [List.length_append,hexB_len,h]
  rfl
 rw [if_pos ⟨by show (shaHead ++ hexB d).take 7=shaHead;rw [List.take_append_of_le_length (by decide)];rfl,h1⟩]
 show unhex ((shaHead ++ hexB d).drop 7)=some d
 rw [List.drop_append_of_le_length (by decide)]
 exact unhex_hexB d
theorem parseD_inv {s:ByteArray} {d:List UInt8} (h:parseD s=some d):s=textD d∧d.length=32:=by
 unfold parseD at h
 split at h
 ·rename_i hc
  have h1:=unhex_inv h
  have h2:s.data.toList=shaHead ++ hexB d:=by rw [← h1,← hc.1];exact (List.take_append_drop 7 _).symm
  have h3:s.data.toList.length=71:=by rw [Array.length_toList];exact hc.2
  rw [h2,List.length_append,hexB_len] at h3
  refine ⟨?_,by have:shaHead.length=7:=rfl;omega⟩
  unfold textD
  rw [← h2]
 ·cases h
end Go.Proofs.YtecgikanophonaaGreatDoor
/- The digest of "abc" begins with 0xba. -/
namespace Go.Proofs.YtecgikanophonaaGreatDoor
open Go Go.RowKit
theorem sha_abc:(shaU 32 ⟨#[97,98,99]⟩).getD 0 0=186:=by decide +kernel
end Go.Proofs.YtecgikanophonaaGreatDoor
