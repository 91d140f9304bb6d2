/- Texts of the seat, one behind the other: Foreign, Asked. -/
import Derived.Test.YtecgikanophonaaGreatDoorM38
import Derived.Test.YtecgikanophonaaGreatDoorM40
set_option maxRecDepth 100000
set_option maxHeartbeats 25600000
/- Contracts of stratalaw23's foreign and asked. -/
namespace Go.Proofs.YtecgikanophonaaGreatDoor
open Go Go.RowKit
theorem headT_any (s:ByteArray) (w:World):Calls Tryz.prog 109 #[.string s,.int .i64 100] w fun e w'=>e=.returned (.string (if s.size≤100 then s else s.extract 0 100))∧w=w':=by
 by_cases h:s.size≤100
 ·have h1:((s.size:Nat):Int)≤100:=by omega
  go_enter Tryz.func109,Tryz.ntmps109
  go_wp2_with fail
  go_ret
  exact ⟨rfl,rfl⟩
 ·have h1:¬ ((s.size:Nat):Int)≤100:=by omega
  have h2:(100:Int)≤((s.size:Nat):Int):=by omega
  go_enter Tryz.func109,Tryz.ntmps109
  go_wp2_with fail
  go_ret
  exact ⟨rfl,rfl⟩
def foreignM (x:Int) (t:ByteArray) (N:Int):ByteArray :=
 if pick N 5=0 then handN else if pick N 5=1 then fileN (shaU x t) else if pick N 5=2 then ⟨#[98,108,111,98,115,47]⟩ ++ (if t.size≤100 then t else t.extract 0 100) else if pick N 5=3 then fileN (shaU x (t ++ ⟨#[120]⟩)) else ⟨#[98,108,111,98,115]⟩
theorem foreignM_size (x:Int) (t:ByteArray) (N:Int):(foreignM x t N).size≤200:=by
 unfold foreignM
 split
 ·decide
 split
 ·rw [fileN_size,shaU_len];decide
 split
 ·rw [ByteArray.size_append]
  have h6:(⟨#[98,108,111,98,115,47]⟩:ByteArray).size=6:=rfl
  split
  ·omega
  ·rw [ByteArray.size_extract];omega
 split
 ·rw [fileN_size,shaU_len];decide
 ·decide
theorem foreign_any (x k N:Int) (t:ByteArray) (kv:Value) (w:World) (hk1:kv.oneCell'=true) (hN:-9223372036854775808≤N∧N≤9223372036854775807) (hK:RoundsR w) (hG:BeginR w) (ht:t.size+1≤140737488352256) :
  Calls Tryz.prog 54 #[.agg #[.int .i64 k,.string t,.int .i64 N,kv],.int .i64 x] w fun e w'=>e=.returned (.string (foreignM x t N))∧Below w.heap.size w w':=by
 have hb:=pick_bd N 5 (by decide)
 have hF:foreignM x t N=if pick N 5=0 then handN else if pick N 5=1 then fileN (shaU x t) else if pick N 5=2 then ⟨#[98,108,111,98,115,47]⟩ ++ (if t.size≤100 then t else t.extract 0 100) else if pick N 5=3 then fileN (shaU x (t ++ ⟨#[120]⟩)) else ⟨#[98,108,111,98,115]⟩:=rfl
 have hpk:=fun W=>pick_any N 5 W (by decide) (by decide) hN.1 hN.2
 generalize foreignM x t N=F at hF ⊢
 generalize pick N 5=p at hb hF hpk
 have HF:=hZ hF
 have HPK:=hZ hpk
 clear hF hpk
 obtain ⟨W0,hW0⟩:∃ W,w.alloc (.cells #[.int .i64 k,.string t,.int .i64 N,kv] 52)=W:=⟨_,rfl⟩
 have hx0:W0.heap[w.heap.size]?=some (.cells #[.int .i64 k,.string t,.int .i64 N,kv] 52 (0,0)):=by rw [← hW0];exact heap_new _ _
 have HB0:Hid (Below w.heap.size w W0):=hZ (by rw [← hW0];exact (Below.refl _ _).alloc (Nat.le_refl _) _)
 have c1:W0.cell? ⟨w.heap.size,1,none⟩=some (.string t):=by rw [cell_of_heapN hx0];rfl
 have c2:W0.cell? ⟨w.heap.size,2,none⟩=some (.int .i64 N):=by rw [cell_of_heapN hx0];rfl
 have HK:=hZ (hK.bel HB0.out)
 have HG:=hZ (hG.bel HB0.out)
 clear hx0 hK hG
 go_enter Tryz.func54,Tryz.ntmps54
 go_wp2_with fail
 refine (HPK.out _).mono ?_
 rintro e w1 ⟨rfl,rfl⟩
 clear HPK
 by_cases h0:p=0
 ·subst h0
  go_wp2_with fail
  go_ret
  exact ⟨by rw [HF.out];rfl,HB0.out⟩
 by_cases h1:p=1
 ·subst h1
  go_wp2_with fail
  refine (refSumB_any x t W0 HK.out HG.out (by omega)).mono ?_
  rintro e w2 ⟨rfl,hb2⟩
  have HB2:=hZ (HB0.out.trans (hb2.mono HB0.out.size))
  have hfi:=refFile_any (shaU x t) (shaU_len x t) w2
  have hdg:digV (shaU x t)=.agg (shaL x t).toArray:=congrArg (fun l:List Value=>Value.agg l.toArray) (shaL_shaU x t).symm
  rw [hdg] at hfi
  clear hb2 hdg
  go_wp2_with fail
  refine hfi.mono ?_
  rintro e w3 ⟨rfl,hb3⟩
  have HB3:=hZ (HB2.out.trans (hb3.mono HB2.out.size))
  clear hb3 hfi
  go_wp2_with fail
  go_ret
  exact ⟨by rw [HF.out];rfl,HB3.out⟩
 by_cases h2:p=2
 ·subst h2
  go_wp2_with fail
  refine (headT_any t W0).mono ?_
  rintro e w2 ⟨rfl,rfl⟩
  have hsz:(if t.size≤100 then t else t.extract 0 100).size≤100:=by
   split
   ·assumption
   ·rw [ByteArray.size_extract];omega
  have HF2:Hid (F=⟨#[98,108,111,98,115,47]⟩ ++ (if t.size≤100 then t else t.extract 0 100)):=hZ HF.out
  clear HF
  generalize (if t.size≤100 then t else t.extract 0 100)=T at hsz HF2 ⊢
  go_wp2_with fail
  go_ret
  exact ⟨by rw [HF2.out];rfl,HB0.out⟩
 by_cases h3:p=3
 ·subst h3
  go_wp2_with fail
  obtain ⟨T,hT⟩:∃ T,t ++ (⟨#[120]⟩:ByteArray)=T:=⟨_,rfl⟩
  have hTs:T.size≤140737488352256:=by rw [← hT,ByteArray.size_append];have:(⟨#[120]⟩:ByteArray).size=1:=rfl;omega
  rw [hT]
  have HF2:Hid (F=fileN (shaU x T)):=hZ (by rw [← hT];exact HF.out)
  clear HF hT
  refine (refSumB_any x T W0 HK.out HG.out hTs).mono ?_
  rintro e w2 ⟨rfl,hb2⟩
  have HB2:=hZ (HB0.out.trans (hb2.mono HB0.out.size))
  have hfi:=refFile_any (shaU x T) (shaU_len x T) w2
  have hdg:digV (shaU x T)=.agg (shaL x T).toArray:=congrArg (fun l:List Value=>Value.agg l.toArray) (shaL_shaU x T).symm
  rw [hdg] at hfi
  clear hb2 hdg
  go_wp2_with fail
  refine hfi.mono ?_
  rintro e w3 ⟨rfl,hb3⟩
  have HB3:=hZ (HB2.out.trans (hb3.mono HB2.out.size))
  clear hb3 hfi
  go_wp2_with fail
  go_ret
  exact ⟨by rw [HF2.out];rfl,HB3.out⟩
 ·obtain rfl:p=4:=by omega
  go_wp2_with fail
  go_ret
  exact ⟨by rw [HF.out];rfl,HB0.out⟩
end Go.Proofs.YtecgikanophonaaGreatDoor
/- Contract of stratalaw23's asked. -/
namespace Go.Proofs.YtecgikanophonaaGreatDoor
open Go Go.RowKit
def bumpD (d:List UInt8):List UInt8:=d.set 31 (d.getD 31 0+1)
theorem bumpD_len (d:List UInt8):(bumpD d).length=d.length:=List.length_set
def askM (x:Int) (t:ByteArray) (N:Int):List UInt8:=if pick N 4=3 then bumpD (shaU x t) else shaU x t
theorem askM_len (x:Int) (t:ByteArray) (N:Int):(askM x t N).length=32:=by
 unfold askM
 split
 ·rw [bumpD_len,shaU_len]
 ·exact shaU_len x t
theorem bump_cells {d:List UInt8} (hd:d.length=32):(d.map byteV).toArray.setIfInBounds 31 (.int .u8 (((d.getD 31 0).toNat+1) % 256:Nat))=((bumpD d).map byteV).toArray:=by
 unfold bumpD
 rw [List.map_set,List.setIfInBounds_toArray]
 refine congrArg (fun v=>((d.map byteV).set 31 v).toArray) ?_
 show Value.int .u8 _=Value.int .u8 _
 rw [UInt8.toNat_add]
 rfl
theorem asked_any (x k N:Int) (t:ByteArray) (kv:Value) (w:World) (hN:-9223372036854775808≤N∧N≤9223372036854775807) (hK:RoundsR w) (hG:BeginR w) (ht:t.size≤140737488351232) :
  Calls Tryz.prog 68 #[.agg #[.int .i64 k,.string t,.int .i64 N,kv],.int .i64 x] w fun e w'=>e=.returned (digV (askM x t N))∧Below w.heap.size w w':=by
 have hpk:=fun W=>pick_any N 4 W (by decide) (by decide) hN.1 hN.2
 have hAM:askM x t N=if pick N 4=3 then bumpD (shaU x t) else shaU x t:=rfl
 obtain ⟨R,hR⟩:∃ R,askM x t N=R:=⟨_,rfl⟩
 rw [hR] at hAM ⊢
 generalize pick N 4=p at hpk hAM
 have HPK:=hZ hpk
 have HAM:=hZ hAM
 clear hpk hAM hR
 obtain ⟨W0,hW0⟩:∃ W,(w.alloc (.cells #[.int .i64 k,.string t,.int .i64 N,kv] 52)).alloc (.cells z32 33)=W:=⟨_,rfl⟩
 obtain ⟨hb0,hz0,hx0,hg0⟩:=box2 w (.cells #[.int .i64 k,.string t,.int .i64 N,kv] 52) (.cells z32 33)
 rw [hW0] at hb0 hz0 hx0 hg0
 have c1:W0.cell? ⟨w.heap.size,1,none⟩=some (.string t):=by rw [cell_of_heapN hx0];rfl
 have HX0:=hZ hx0
 have HG0:=hZ hg0
 have HB0:=hZ hb0
 have HZ0:=hZ hz0
 have HK:=hZ (hK.bel hb0)
 have HG:=hZ (hG.bel hb0)
 have hW1:(w.alloc (.cells #[.int .i64 k,.string t,.int .i64 N,kv] 52)).alloc (.cells #[.int .u8 0,.int .u8 0,.int .u8 0,.int .u8 0,.int .u8 0,.int .u8 0,.int .u8 0,.int .u8 0,.int .u8 0,.int .u8 0,.int .u8 0,.int .u8 0,.int .u8 0,.int .u8 0,.int .u8 0,.int .u8 0,.int .u8 0,.int .u8 0,.int .u8 0,.int .u8 0,.int .u8 0,.int .u8 0,.int .u8 0,.int .u8 0,.int .u8 0,.int .u8 0,.int .u8 0,.int .u8 0,.int .u8 0,.int .u8 0,.int .u8 0,.int .u8 0] 33)=W0:=hW0
 obtain ⟨D,hD⟩:∃ D,shaU x t=D:=⟨_,rfl⟩
 have hsum:Calls Tryz.prog 13 #[.int .i64 x,.string t] W0 fun e w'=>e=.returned (.agg (D.map byteV).toArray)∧Below W0.heap.size W0 w':=by
  have h:=refSumB_any x t W0 HK.out HG.out (Nat.le_trans ht (by decide))
  rw [shaL_shaU x t,hD] at h
  exact h
 have hdl:D.length=32:=by rw [← hD];exact shaU_len x t
 have HDD:=hZ hD
 have hI2:=dig_info2 hdl
 have hdz:=dig_size hdl
 have hd1:=dig_one D
 have hU:=dig_und
 have HDL:=hZ hdl
 clear hW0 hx0 hg0 hb0 hz0 hK hG hD hdl
 go_enter Tryz.func68,Tryz.ntmps68
 go_wp2_with fail
 refine hsum.mono ?_
 rintro e w2 ⟨rfl,hb2⟩
 obtain ⟨W3,hW3⟩:∃ W,w2.alloc (.cells (D.map byteV).toArray 33)=W:=⟨_,rfl⟩
 have hb3:Below w2.heap.size w2 W3:=by rw [← hW3];exact (Below.refl _ _).alloc (Nat.le_refl _) _
 have hx3:W3.heap[w2.heap.size]?=some (.cells (D.map byteV).toArray 33 (0,0)):=by rw [← hW3];exact heap_new _ _
 have hb03:Below W0.heap.size W0 W3:=hb2.trans (hb3.mono hb2.size)
 have HX3:=hZ hx3
 have HN3:=hZ (show w.heap.size+2≤w2.heap.size from by have:=hb2.size;have:=HZ0.out;omega)
 have HR3:Hid (W3.heap[w.heap.size+1]?=some (.cells z32 33 (0,0))):=hZ ((hb03.block _ (blk_lt HG0.out)).trans HG0.out)
 have HA3:Hid (W3.heap[w.heap.size]?=some (.cells #[.int .i64 k,.string t,.int .i64 N,kv] 52 (0,0))):=hZ ((hb03.block _ (blk_lt HX0.out)).trans HX0.out)
 have HB3:=hZ (HB0.out.trans (hb03.mono HB0.out.size))
 have c2:W3.cell? ⟨w.heap.size,2,none⟩=some (.int .i64 N):=by rw [cell_of_heapN HA3.out];rfl
 have HW3:=hZ hW3
 clear hb2 hb3 hx3 hb03 hW3 hsum
 go_wp2_with (first | (refine wpList_store_new rfl _ _ _ rfl _ (D.map byteV).toArray _ rfl rfl rfl hI2 hdz hd1 ?_;rw [HW3.out]))
 refine (HPK.out _).mono ?_
 rintro e w4 ⟨rfl,rfl⟩
 clear HPK
 by_cases h3:p=3
 ·subst h3
  obtain ⟨c,hc⟩:∃ c,D.getD 31 0=c:=⟨_,rfl⟩
  have hcl:W3.cell? ⟨w2.heap.size,31,none⟩=some (.int .u8 c.toNat):=by
   rw [cell_of_heapN HX3.out,List.getElem?_toArray,List.getElem?_map,← hc,List.getD_eq_getElem?_getD,List.getElem?_eq_getElem (by rw [HDL.out];decide)]
   rfl
  have hfz:W3.frozen? ⟨w2.heap.size,31,none⟩=false:=frozen_blk HX3.out
  have hcn:=c.toNat_lt
  have hbc:=bump_cells HDL.out
  rw [hc] at hbc
  have HLE:Hid ((bumpD D).length=32):=hZ (by rw [bumpD_len];exact HDL.out)
  have HR:Hid (R=bumpD D):=hZ (by rw [HAM.out,if_pos rfl,HDD.out])
  have hsc:=setCell_blk HX3.out (i:=31) (v:=.int .u8 ((c.toNat+1) % 256:Nat))
  rw [hbc] at hsc
  have HSC:=hZ hsc
  obtain ⟨W4,hW4⟩:∃ W,setBlk W3 w2.heap.size (.cells ((bumpD D).map byteV).toArray 33 (0,0))=W:=⟨_,rfl⟩
  have HXX:Hid (W4.heap[w2.heap.size]?=some (.cells ((bumpD D).map byteV).toArray 33 (0,0))):=hZ (by rw [← hW4];exact setBlk_heap (blk_lt HX3.out))
  have HRR:Hid (W4.heap[w.heap.size+1]?=some (.cells z32 33 (0,0))):=hZ (by rw [← hW4];exact (setBlk_other (by have:=HN3.out;omega)).trans HR3.out)
  have HBB:Hid (Below w.heap.size w W4):=hZ (by rw [← hW4];exact HB3.out.setBlk (by have:=HN3.out;omega))
  have HW4:=hZ hW4
  clear hc hbc hsc hW4 hI2 hdz hd1
  by_cases h255:c.toNat=255
  ·have e255:((c.toNat:Nat):Int)=255:=by omega
   rw [e255] at hcl
   have hq:=HSC.out
   rw [HW4.out,h255] at hq
   have hq2:W3.setCell ⟨w2.heap.size,31,none⟩ (.int .u8 0)=W4:=hq
   clear hq e255
   have Q1:Hid (Below w.heap.size w (setBlk W4 (w.heap.size+1) (.cells ((bumpD D).map byteV).toArray 33 (0,0)))):=hZ (HBB.out.setBlk (by omega))
   have hI2e:=dig_info2 HLE.out
   have hze:=dig_size HLE.out
   have h1e:=dig_one (bumpD D)
   have hI3e:=dig_info HLE.out
   have RG:Hid (W4.rangeAt w2.heap.size 0 ((bumpD D).map byteV)):=hZ (dig_range HXX.out)
   have GG:Hid ((setBlk W4 (w.heap.size+1) (.cells ((bumpD D).map byteV).toArray 33 (0,0))).heap[w.heap.size+1]?=some (.cells ((bumpD D).map byteV).toArray 33 (0,0))):=hZ (setBlk_heap (blk_lt HRR.out))
   go_wp2_with (first | refine wpList_load_mid rfl _ _ rfl w2.heap.size 0 rfl ((bumpD D).map byteV) _ RG.out hU rfl hI3e ?_ | (refine wpList_store_row rfl _ _ _ rfl (w.heap.size+1) ((bumpD D).map byteV).toArray rfl rfl 33 z32 HRR.out hI2e hze h1e ?_;rw [setRow_setBlk HRR.out]))
   refine bodyPost_ret (v:=digV (bumpD D)) (results_cell_row (fn:=Tryz.f68) rfl _ _ (w.heap.size+1) 33 _ (0,0) _ rfl GG.out hU rfl hI2e) rfl ⟨by rw [HR.out],Q1.out⟩
  ·have hle:((c.toNat:Nat):Int)+1≤255:=by omega
   have hq:=HSC.out
   rw [HW4.out,Nat.mod_eq_of_lt (by omega),Int.natCast_add] at hq
   have hq2:W3.setCell ⟨w2.heap.size,31,none⟩ (.int .u8 ((c.toNat:Int)+1))=W4:=hq
   have hge:0≤((c.toNat:Nat):Int)+1:=by omega
   clear hq
   have Q1:Hid (Below w.heap.size w (setBlk W4 (w.heap.size+1) (.cells ((bumpD D).map byteV).toArray 33 (0,0)))):=hZ (HBB.out.setBlk (by omega))
   have hI2e:=dig_info2 HLE.out
   have hze:=dig_size HLE.out
   have h1e:=dig_one (bumpD D)
   have hI3e:=dig_info HLE.out
   have RG:Hid (W4.rangeAt w2.heap.size 0 ((bumpD D).map byteV)):=hZ (dig_range HXX.out)
   have GG:Hid ((setBlk W4 (w.heap.size+1) (.cells ((bumpD D).map byteV).toArray 33 (0,0))).heap[w.heap.size+1]?=some (.cells ((bumpD D).map byteV).toArray 33 (0,0))):=hZ (setBlk_heap (blk_lt HRR.out))
   go_wp2_with (first | refine wpList_load_mid rfl _ _ rfl w2.heap.size 0 rfl ((bumpD D).map byteV) _ RG.out hU rfl hI3e ?_ | (refine wpList_store_row rfl _ _ _ rfl (w.heap.size+1) ((bumpD D).map byteV).toArray rfl rfl 33 z32 HRR.out hI2e hze h1e ?_;rw [setRow_setBlk HRR.out]))
   refine bodyPost_ret (v:=digV (bumpD D)) (results_cell_row (fn:=Tryz.f68) rfl _ _ (w.heap.size+1) 33 _ (0,0) _ rfl GG.out hU rfl hI2e) rfl ⟨by rw [HR.out],Q1.out⟩
 ·have h3b:(p == 3)=false:=beq_eq_false_iff_ne.2 h3
  have HR:Hid (R=D):=hZ (by rw [HAM.out,if_neg h3,HDD.out])
  clear hI2 hdz hd1 h3
  have HXX:=HX3
  have HRR:=HR3
  have HBB:=HB3
  have HLE:=HDL
  have hdum:True:=trivial
  have Q1:Hid (Below w.heap.size w (setBlk W3 (w.heap.size+1) (.cells (D.map byteV).toArray 33 (0,0)))):=hZ (HBB.out.setBlk (by omega))
  have hI2e:=dig_info2 HLE.out
  have hze:=dig_size HLE.out
  have h1e:=dig_one D
  have hI3e:=dig_info HLE.out
  have RG:Hid (W3.rangeAt w2.heap.size 0 (D.map byteV)):=hZ (dig_range HXX.out)
  have GG:Hid ((setBlk W3 (w.heap.size+1) (.cells (D.map byteV).toArray 33 (0,0))).heap[w.heap.size+1]?=some (.cells (D.map byteV).toArray 33 (0,0))):=hZ (setBlk_heap (blk_lt HRR.out))
  go_wp2_with (first | refine wpList_load_mid rfl _ _ rfl w2.heap.size 0 rfl (D.map byteV) _ RG.out hU rfl hI3e ?_ | (refine wpList_store_row rfl _ _ _ rfl (w.heap.size+1) (D.map byteV).toArray rfl rfl 33 z32 HRR.out hI2e hze h1e ?_;rw [setRow_setBlk HRR.out]))
  refine bodyPost_ret (v:=digV D) (results_cell_row (fn:=Tryz.f68) rfl _ _ (w.heap.size+1) 33 _ (0,0) _ rfl GG.out hU rfl hI2e) rfl ⟨by rw [HR.out],Q1.out⟩
end Go.Proofs.YtecgikanophonaaGreatDoor
