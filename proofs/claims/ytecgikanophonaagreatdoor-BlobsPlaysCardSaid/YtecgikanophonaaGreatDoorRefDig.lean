/- Contracts of the reference's digests' texts: strataref03.Text, value, Parse. -/
import Derived.Test.YtecgikanophonaaGreatDoorM30
import Derived.Test.YtecgikanophonaaGreatDoorM34
set_option maxRecDepth 100000
set_option maxHeartbeats 25600000
namespace Go.Proofs.YtecgikanophonaaGreatDoor
open Go Go.RowKit
theorem hexT_ext:∀ n,n < 16→(⟨#[48,49,50,51,52,53,54,55,56,57,97,98,99,100,101,102]⟩:ByteArray).extract n (n+1)=⟨#[hx n]⟩:=by decide
theorem textD_size (d:List UInt8):(textD d).size=7+2 * d.length:=by
 show (shaHead ++ hexB d).length=_
 rw [List.length_append,hexB_len]
 rfl
theorem textD_snoc (d:List UInt8) (x:UInt8):textD (d ++ [x])=textD d ++ ⟨#[hx (x.toNat / 16)]⟩ ++ ⟨#[hx (x.toNat % 16)]⟩:=by
 refine ByteArray.ext ?_
 rw [ByteArray.data_append,ByteArray.data_append]
 unfold textD
 rw [hexB_append,← List.append_assoc]
 show ((shaHead ++ hexB d) ++ [hx (x.toNat / 16),hx (x.toNat % 16)]).toArray=_
 simp
theorem refText_any (d:List UInt8) (hd:d.length=32) (w:World) :
  Calls Tryz.prog 146 #[digV d] w fun e w'=>e=.returned (.string (textD d))∧Below w.heap.size w w':=by
 unfold digV
 go_enter Tryz.func146,Tryz.ntmps146
 obtain ⟨W0,hW0⟩:∃ W,(w.alloc (.cells (d.map byteV).toArray 33))=W:=⟨_,rfl⟩
 have hx0:W0.heap[w.heap.size]?=some (.cells (d.map byteV).toArray 33 (0,0)):=by rw [← hW0];exact Array.getElem?_push_size
 have HX0:=hZ hx0
 have hb0:Below w.heap.size w W0:=by rw [← hW0];exact (Below.refl w.heap.size w).alloc (Nat.le_refl _) _
 have HB0:=hZ hb0
 have HW0:=hZ hW0
 clear hx0 hb0 hW0
 go_wp2_with fail
 rw [HW0.out]
 go_loopw [3,4] (fun sv iv wr=>∃ i:Nat,(i:Int)≤32∧iv=.int .i64 i∧sv=.string (textD (d.take i))∧Hid (wr.heap=W0.heap)∧Hid (Below w.heap.size w wr)) (fun _ iv _=>32 - (intOf iv).toNat)
 case atStart=>exact ⟨0,by omega,rfl,rfl,hZ rfl,HB0⟩
 case round =>
  obtain ⟨i,hi,rfl,rfl,HH,HB⟩:=hrel
  by_cases hlt:(i:Int) < 32
  ·have hil:i < d.length:=by rw [hd];omega
   obtain ⟨x,hx⟩:∃ x,d[i]?=some x:=⟨_,List.getElem?_eq_getElem hil⟩
   have hxn:=x.toNat_lt
   have hc:wr.cell? ⟨w.heap.size,i,none⟩=some (.int .u8 x.toNat):=by
    rw [cell_of_heapN ((congrArg (fun h:Array Obj=>h[w.heap.size]?) HH.out).trans HX0.out),List.getElem?_toArray,List.getElem?_map,hx];rfl
   have HTK:Hid (d.take (i+1)=d.take i ++ [x]):=hZ (by rw [List.take_add_one,hx];rfl)
   have h1:=hexT_ext (x.toNat / 16) (by omega)
   have h2:=hexT_ext (x.toNat % 16) (by omega)
   have h3:=textD_size (d.take i)
   rw [List.length_take] at h3
   have h4:(textD (d.take i)).size+1≤100:=by omega
   have h5:(textD (d.take i)).size+1+1≤100:=by omega
   obtain ⟨T,hT⟩:∃ T,textD (d.take i)=T:=⟨_,rfl⟩
   rw [hT] at h4 h5
   rw [hT]
   have HT:=hZ hT
   clear hx hil h3 hT
   go_wp2_with fail
   go_region
   go_wp2_with fail
   refine ⟨⟨i+1,by omega,by rw [Int.natCast_add];rfl,?_,hZ HH.out,hZ ⟨HB.out.os,HB.out.tape,HB.out.output,HB.out.size,HB.out.block⟩⟩,by simp [intOf];omega⟩
   refine congrArg Value.string ?_
   have h6:=HT.out
   subst h6
   rw [HTK.out]
   exact (textD_snoc _ x).symm
  ·obtain rfl:i=32:=by omega
   go_wp2_with fail
   go_ret
   rw [List.take_of_length_le (by rw [hd];omega)]
   exact ⟨rfl,HB.out⟩
def hvI (c:UInt8):Int:=match hv c with
 |some n=>n
 |none=>-1
theorem hvI_at:∀ c:UInt8,∀ i,i < 16→(hx i).toNat=c.toNat→hvI c=i:=by
 intro c i hi h
 have h1:hx i=c:=UInt8.toNat_inj.1 h
 subst h1
 unfold hvI
 rw [hv_hx i hi]
theorem hvI_no (c:UInt8) (h:∀ i,i < 16→(hx i).toNat≠c.toNat):hvI c=-1:=by
 unfold hvI
 cases hc:hv c with
 |none=>rfl
 |some n =>
  obtain ⟨h1,h2⟩:=hv_inv hc
  exact absurd (by rw [h1]) (h n h2)
theorem value_any (c:UInt8) (w:World) :
  Calls Tryz.prog 151 #[.int .u8 c.toNat] w fun e w'=>e=.returned (.int .i64 (hvI c))∧w=w':=by
 have hcn:=c.toNat_lt
 go_enter Tryz.func151,Tryz.ntmps151
 go_wp2_with fail
 go_loopw [3] (fun iv wr=>∃ i:Nat,(i:Int)≤16∧iv=.int .i64 i∧Hid (∀ j,j < i→(hx j).toNat≠c.toNat)∧wr=w) (fun iv _=>16 - (intOf iv).toNat)
 case atStart=>exact ⟨0,by omega,rfl,hZ (fun j hj=>absurd hj (by omega)),rfl⟩
 case round =>
  obtain ⟨i,hi,rfl,HJ,rfl⟩:=hrel
  by_cases hlt:(i:Int) < 16
  ·have hg:(⟨#[48,49,50,51,52,53,54,55,56,57,97,98,99,100,101,102]⟩:ByteArray)[i]'(show i < 16 by omega)=hx i:=hexGet i _
   by_cases he:(hx i).toNat=c.toNat
   ·have hd:((((hx i).toNat:Nat):Int) == (c.toNat:Int))=true:=by rw [he];simp
    go_wp2_with fail
    go_ret
    exact ⟨congrArg (fun x=>Ending.returned (Value.int .i64 x)) (hvI_at c i (by omega) he).symm,rfl⟩
   ·have hd:((((hx i).toNat:Nat):Int) == (c.toNat:Int))=false:=beq_eq_false_iff_ne.2 (by omega)
    go_wp2_with fail
    refine ⟨⟨i+1,by omega,by rw [Int.natCast_add];rfl,hZ (fun j hj=>?_),trivial⟩,by simp [intOf];omega⟩
    by_cases hji:j=i
    ·rw [hji];exact he
    ·exact HJ.out j (by omega)
  ·obtain rfl:i=16:=by omega
   go_wp2_with fail
   go_ret
   exact ⟨congrArg (fun x=>Ending.returned (Value.int .i64 x)) (hvI_no c HJ.out).symm,rfl⟩
def refParseV (o:Option (List UInt8)):Value:=match o with
 |some d=>.tuple #[digV d,.int .i64 0]
 |none=>.tuple #[digV zeroD,.int .i64 4]
theorem nib_set2 {w:World} {b:Nat} {t:List UInt8} {i:Nat} (h:w.heap[b]?=some (.cells (nibC t (2 * i)).toArray 33 (0,0))) (hi:i < 32) :
  (∃ v,w.cell? ⟨b,i,none⟩=some v)∧(w.setCell ⟨b,i,none⟩ (.int .u8 ((16 * nibV t (2 * i)+nibV t (2 * i+1):Nat):Int))).heap[b]?=some (.cells (nibC t (2 * (i+1))).toArray 33 (0,0)):=by
 refine ⟨⟨_,by rw [cell_of_heapN h,List.getElem?_toArray,nibC_get _ _ hi]⟩,?_⟩
 rw [setCell_blk h,setBlk_heap (blk_lt h),List.setIfInBounds_toArray]
 refine congrArg (fun l:List Value=>some (Obj.cells l.toArray 33 (0,0))) (List.ext_getElem? fun k=>?_)
 rw [List.getElem?_set,nibC_len]
 by_cases hk:i=k
 ·subst hk
  rw [if_pos rfl,if_pos (by omega),nibC_get _ _ (by omega)]
  refine congrArg some (congrArg (Value.int .u8) (congrArg Int.ofNat ?_))
  rw [if_pos (by omega)]
 ·rw [if_neg hk]
  by_cases hk2:k < 32
  ·rw [nibC_get _ _ hk2,nibC_get _ _ hk2]
   refine congrArg some (congrArg (Value.int .u8) (congrArg Int.ofNat ?_))
   by_cases h1:2 * k+1 < 2 * i
   ·rw [if_pos h1,if_pos (by omega)]
   ·rw [if_neg h1,if_neg (show ¬ 2 * k < 2 * i by omega),if_neg (by omega),if_neg (by omega)]
  ·rw [List.getElem?_eq_none (by rw [nibC_len];omega),List.getElem?_eq_none (by rw [nibC_len];omega)]
theorem hvI_some {c:UInt8} {n:Nat} (h:hv c=some n):hvI c=n:=by unfold hvI;rw [h]
theorem hvI_none {c:UInt8} (h:hv c=none):hvI c=-1:=by unfold hvI;rw [h]
theorem refParse_any (s:ByteArray) (w:World) :
  Calls Tryz.prog 122 #[.string s] w fun e w'=>e=.returned (refParseV (parseD s))∧Below w.heap.size w w':=by
 obtain ⟨P0,hP0⟩:∃ p,parseD s=p:=⟨_,rfl⟩
 rw [hP0]
 have HP:=hZ hP0
 clear hP0
 have hI32:(Tryz.prog.info? 33).map (·.size)=some (zeroD.map byteV).toArray.size:=by kernel_rfl
 have h1z:(zeroD.map byteV).toArray.all (·.oneCell')=true:=all_oneCell_toArray fun v hv=>by obtain ⟨x,_,rfl⟩:=List.mem_map.1 hv;rfl
 have hnone:∀ W:World,Hid (Below w.heap.size w W)→Hid (W.heap[w.heap.size]?=some (.cells z32 33 (0,0))) →
   Hid ((setBlk W w.heap.size (.cells (zeroD.map byteV).toArray 33 (0,0))).heap[w.heap.size]?=some (.cells (zeroD.map byteV).toArray 33 (0,0)))∧Hid (Below w.heap.size w (setBlk W w.heap.size (.cells (zeroD.map byteV).toArray 33 (0,0)))):=fun W hB hG =>
  ⟨hZ (setBlk_heap (blk_lt hG.out)),hZ (hB.out.setBlk (Nat.le_refl _))⟩
 go_enter Tryz.func122,Tryz.ntmps122
 obtain ⟨W1,hW1⟩:∃ W,(w.alloc (.cells z32 33))=W:=⟨_,rfl⟩
 have HG1:Hid (W1.heap[w.heap.size]?=some (.cells z32 33 (0,0))):=hZ (by rw [← hW1];exact Array.getElem?_push_size)
 have HB1:Hid (Below w.heap.size w W1):=hZ (by rw [← hW1];exact (Below.refl w.heap.size w).alloc (Nat.le_refl _) _)
 have hW2:w.alloc (.cells #[.int .u8 0,.int .u8 0,.int .u8 0,.int .u8 0,.int .u8 0,.int .u8 0,.int .u8 0,.int .u8 0,.int .u8 0,.int .u8 0,.int .u8 0,.int .u8 0,.int .u8 0,.int .u8 0,.int .u8 0,.int .u8 0,.int .u8 0,.int .u8 0,.int .u8 0,.int .u8 0,.int .u8 0,.int .u8 0,.int .u8 0,.int .u8 0,.int .u8 0,.int .u8 0,.int .u8 0,.int .u8 0,.int .u8 0,.int .u8 0,.int .u8 0,.int .u8 0] 33)=W1:=hW1
 clear hW1
 by_cases hsz:s.size=71
 ·obtain ⟨t,ht⟩:∃ t:List UInt8,s.data.toList.drop 7=t:=⟨_,rfl⟩
  have hTl:t.length=64:=by
   rw [← ht,List.length_drop,Array.length_toList]
   have h0:s.data.size=71:=hsz
   rw [h0]
  have hpn:unhex t=none→P0=none:=fun h=>by
   rw [← HP.out]
   unfold parseD
   split
   ·rw [ht];exact h
   ·rfl
  have hget:∀ j (hj:7+j < s.size),s[7+j]'hj=t.getD j 0:=fun j hj=>by
   rw [← ht,List.getD_eq_getElem?_getD,List.getElem?_drop,Array.getElem?_toList,Array.getElem?_eq_getElem (show 7+j < s.data.size from hj)]
   rfl
  have HT:=hZ ht
  have HTL:=hZ hTl
  have HPN:=hZ hpn
  have HGET:=hZ hget
  have hI71:(((s.size:Nat):Int) != 71)=false:=by rw [hsz];rfl
  obtain ⟨W3,hW3⟩:∃ W,W1.alloc (.cells #[.int .u8 0,.int .u8 0,.int .u8 0,.int .u8 0,.int .u8 0,.int .u8 0,.int .u8 0,.int .u8 0,.int .u8 0,.int .u8 0,.int .u8 0,.int .u8 0,.int .u8 0,.int .u8 0,.int .u8 0,.int .u8 0,.int .u8 0,.int .u8 0,.int .u8 0,.int .u8 0,.int .u8 0,.int .u8 0,.int .u8 0,.int .u8 0,.int .u8 0,.int .u8 0,.int .u8 0,.int .u8 0,.int .u8 0,.int .u8 0,.int .u8 0,.int .u8 0] 33)=W:=⟨_,rfl⟩
  have hz1:W1.heap.size=w.heap.size+1:=by rw [← hW2];exact Array.size_push ..
  have HG2:Hid (W3.heap[w.heap.size]?=some (.cells z32 33 (0,0))):=hZ (by rw [← hW3];exact ((Below.refl W1.heap.size W1).alloc (Nat.le_refl _) _).block _ (by omega) |>.trans HG1.out)
  have HX2:Hid (W3.heap[w.heap.size+1]?=some (.cells (nibC t 0).toArray 33 (0,0))):=hZ (by rw [← hW3,← hz1];exact Array.getElem?_push_size)
  have HB2:Hid (Below w.heap.size w W3):=hZ (by rw [← hW3];exact HB1.out.alloc (by omega) _)
  clear ht hTl hpn hget
  go_wp2_with fail
  go_loopw [5] (fun iv wr=>∃ i:Nat,(i:Int)≤32∧iv=.int .i64 i∧Hid (∀ j,j < 2 * i→(hv (t.getD j 0)).isSome=true)∧Hid (Below w.heap.size w wr)∧Hid (wr.heap[w.heap.size]?=some (.cells z32 33 (0,0)))∧Hid (wr.heap[w.heap.size+1]?=some (.cells (nibC t (2 * i)).toArray 33 (0,0)))) (fun iv _=>32 - (intOf iv).toNat)
  case atStart=>exact ⟨0,by omega,rfl,hZ (fun j hj=>by omega),HB2,HG2,HX2⟩
  case round =>
   obtain ⟨i,hi,rfl,HA,HB,HR,HX⟩:=hrel
   by_cases hlt:(i:Int) < 32
   ·have hi32:i < 32:=by omega
    have h7:7+2 * i < s.size:=by omega
    have h8:7+(2 * i+1) < s.size:=by omega
    obtain ⟨c1,hc1⟩:∃ c,t.getD (2 * i) 0=c:=⟨_,rfl⟩
    obtain ⟨c2,hc2⟩:∃ c,t.getD (2 * i+1) 0=c:=⟨_,rfl⟩
    have hg1:s[7+2 * i]'h7=c1:=(HGET.out _ h7).trans hc1
    have hg2:s[8+2 * i]'(by omega)=c2:=by
     rw [← hc2,← HGET.out _ h8]
     exact getElem_congr rfl (by omega) _
    have HC1:=hZ hc1
    have HC2:=hZ hc2
    obtain ⟨v0,hv0⟩:=(nib_set2 HX.out hi32).1
    have HSET:=hZ (nib_set2 HX.out hi32).2
    have f0:wr.frozen? ⟨w.heap.size+1,i,none⟩=false:=frozen_blk HX.out
    clear hc1 hc2
    go_wp2_with fail
    refine (value_any c1 _).mono ?_
    rintro e w2 ⟨rfl,rfl⟩
    go_wp2_with fail
    refine (value_any c2 _).mono ?_
    rintro e w2 ⟨rfl,rfl⟩
    cases h1:hv c1 with
    |none =>
     have hno:P0=none:=HPN.out (unhex_no t (2 * i) (by rw [HTL.out];omega) (by rw [HC1.out];exact h1))
     have HNO:=hZ hno
     obtain ⟨HG3,HB3⟩:=hnone _ HB HR
     have e1:=hvI_none h1
     rw [e1]
     clear hno hnone
     go_wp2_with (first | (refine wpList_store_row rfl _ _ _ rfl w.heap.size (zeroD.map byteV).toArray rfl rfl 33 z32 HR.out hI32 rfl h1z ?_;rw [setRow_setBlk HR.out]))
     refine bodyPost_ret (v:=.tuple #[digV zeroD,.int .i64 4]) (results_dig (fn:=Tryz.f122) (p:=2) (u:=3) rfl _ _ w.heap.size _ _ rfl HG3.out rfl) rfl ⟨by rw [HNO.out];rfl,HB3.out⟩
    |some n1 =>
     have e1:=hvI_some h1
     have l1:=(hv_inv h1).2
     rw [e1]
     cases h2:hv c2 with
     |none =>
      have hno:P0=none:=HPN.out (unhex_no t (2 * i+1) (by rw [HTL.out];omega) (by rw [HC2.out];exact h2))
      have HNO:=hZ hno
      obtain ⟨HG3,HB3⟩:=hnone _ HB HR
      have e2:=hvI_none h2
      rw [e2]
      clear hno hnone
      go_wp2_with (first | (refine wpList_store_row rfl _ _ _ rfl w.heap.size (zeroD.map byteV).toArray rfl rfl 33 z32 HR.out hI32 rfl h1z ?_;rw [setRow_setBlk HR.out]))
      refine bodyPost_ret (v:=.tuple #[digV zeroD,.int .i64 4]) (results_dig (fn:=Tryz.f122) (p:=2) (u:=3) rfl _ _ w.heap.size _ _ rfl HG3.out rfl) rfl ⟨by rw [HNO.out];rfl,HB3.out⟩
     |some n2 =>
      have e2:=hvI_some h2
      have l2:=(hv_inv h2).2
      rw [e2]
      have q1:nibV t (2 * i)=n1:=by unfold nibV;rw [HC1.out,h1];rfl
      have q2:nibV t (2 * i+1)=n2:=by unfold nibV;rw [HC2.out,h2];rfl
      have S1:Hid ((hv (t.getD (2 * i) 0)).isSome=true):=hZ (by rw [HC1.out,h1];rfl)
      have S2:Hid ((hv (t.getD (2 * i+1) 0)).isSome=true):=hZ (by rw [HC2.out,h2];rfl)
      have Q1:=hZ q1
      have Q2:=hZ q2
      clear q1 q2 h1 h2 e1 e2
      go_wp2_with fail
      refine ⟨⟨i+1,by omega,by rw [Int.natCast_add];rfl,hZ ?_,hZ (HB.out.setCell (p:=⟨w.heap.size+1,i,none⟩) (by show w.heap.size≤w.heap.size+1;omega) _),hZ ((Below.heap_setCell _ _ _ _ (by show w.heap.size≠w.heap.size+1;omega)).trans HR.out),hZ ?_⟩,by simp [intOf];omega⟩
      ·intro j hj
       by_cases hj1:j=2 * i
       ·rw [hj1];exact S1.out
       ·by_cases hj2:j=2 * i+1
        ·rw [hj2];exact S2.out
        ·exact HA.out j (by omega)
      ·have h:=HSET.out
       rw [Q1.out,Q2.out,Int.natCast_add,Int.natCast_mul] at h
       exact h
   ·obtain rfl:i=32:=by omega
    obtain ⟨d,h1,h2,h3⟩:=nibC_all HTL.out HA.out
    have hx2:wr.heap[w.heap.size+1]?=some (.cells (d.map byteV).toArray 33 (0,0)):=by rw [← h3];exact HX.out
    have hI2:(Tryz.prog.info? 33).map (·.size)=some (d.map byteV).toArray.size:=by rw [List.size_toArray,List.length_map,h2];exact hI32
    have hI3:(Tryz.prog.info? 33).map (·.size)=some (d.map byteV).length:=by rw [List.length_map,h2];exact hI32
    have hU:Tryz.prog.underlying 33=some _:=Tryz.underlying33
    have HRG:Hid (wr.rangeAt (w.heap.size+1) 0 (d.map byteV)):=hZ (fun j v hv=>by
     rw [Nat.zero_add,cell_of_heapN hx2,List.getElem?_toArray]
     exact hv)
    have HX3:=hZ hx2
    have HU3:=hZ h1
    have HD:=hZ h2
    clear hx2 h1 h2 h3 hnone
    go_wp2_with (first | refine wpList_load_mid rfl _ _ rfl (w.heap.size+1) 0 rfl (d.map byteV) _ HRG.out hU rfl hI3 ?_)
    refine (refText_any d HD.out _).mono ?_
    rintro e w2 ⟨rfl,hb2⟩
    have HR2:Hid (w2.heap[w.heap.size]?=some (.cells z32 33 (0,0))):=hZ ((hb2.block _ (blk_lt HR.out)).trans HR.out)
    have HRG2:Hid (w2.rangeAt (w.heap.size+1) 0 (d.map byteV)):=hZ (fun j v hv=>by
     rw [Nat.zero_add,cell_of_heapN ((hb2.block _ (blk_lt HX3.out)).trans HX3.out),List.getElem?_toArray]
     exact hv)
    have HB2:=hZ (HB.out.trans (hb2.mono HB.out.size))
    clear hb2
    by_cases hq:textD d=s
    ·have hpd:P0=some d:=by
      rw [← HP.out,← hq]
      exact parseD_textD d HD.out
     have HPD:=hZ hpd
     have hs32:z32.size=(d.map byteV).toArray.size:=show (32:Nat)=(d.map byteV).length by rw [List.length_map,HD.out]
     have h1c:(d.map byteV).toArray.all (·.oneCell')=true:=all_oneCell_toArray fun v hv=>by obtain ⟨x,_,rfl⟩:=List.mem_map.1 hv;rfl
     have HG5:Hid ((setBlk w2 w.heap.size (.cells (d.map byteV).toArray 33 (0,0))).heap[w.heap.size]?=some (.cells (d.map byteV).toArray 33 (0,0))):=hZ (setBlk_heap (blk_lt HR2.out))
     have HB5:Hid (Below w.heap.size w (setBlk w2 w.heap.size (.cells (d.map byteV).toArray 33 (0,0)))):=hZ (HB2.out.setBlk (Nat.le_refl _))
     have HD32:Hid ((d.map byteV).toArray.size=32):=hZ (by rw [List.size_toArray,List.length_map,HD.out])
     have hqb:((textD d).toList == s.toList)=true:=by rw [hq];exact beq_self_eq_true _
     clear hpd hq
     go_wp2_with (first | refine wpList_load_mid rfl _ _ rfl (w.heap.size+1) 0 rfl (d.map byteV) _ HRG2.out hU rfl hI3 ?_ | (refine wpList_store_row rfl _ _ _ rfl w.heap.size (d.map byteV).toArray rfl rfl 33 z32 HR2.out hI2 hs32 h1c ?_;rw [setRow_setBlk HR2.out]))
     refine bodyPost_ret (v:=.tuple #[digV d,.int .i64 0]) (results_dig (fn:=Tryz.f122) (p:=2) (u:=3) rfl _ _ w.heap.size _ _ rfl HG5.out HD32.out) rfl ⟨by rw [HPD.out];rfl,HB5.out⟩
    ·have hno:P0=none:=by
      cases hp:P0 with
      |none=>rfl
      |some d' =>
       have hp2:=HP.out.trans hp
       obtain ⟨g1,g2⟩:=parseD_inv hp2
       have g3:hexB d'=t:=by
        rw [← HT.out,g1]
        show _=(shaHead ++ hexB d').drop 7
        rw [List.drop_append_of_le_length (by decide)]
        rfl
       have g4:unhex t=some d':=by rw [← g3];exact unhex_hexB d'
       rw [HU3.out] at g4
       injection g4 with g5
       exact absurd (by rw [g5,g1]) hq
     have HNO:=hZ hno
     have HG3:Hid ((setBlk w2 w.heap.size (.cells (zeroD.map byteV).toArray 33 (0,0))).heap[w.heap.size]?=some (.cells (zeroD.map byteV).toArray 33 (0,0))):=hZ (setBlk_heap (blk_lt HR2.out))
     have HB3:Hid (Below w.heap.size w (setBlk w2 w.heap.size (.cells (zeroD.map byteV).toArray 33 (0,0)))):=hZ (HB2.out.setBlk (Nat.le_refl _))
     have hqb:((textD d).toList == s.toList)=false:=beq_eq_false_iff_ne.2 (fun h=>hq (by
      cases hs:s
      rw [hs] at h
      rw [Lib.toList_data,Lib.toList_data] at h
      unfold textD at h ⊢
      exact congrArg ByteArray.mk (Array.toList_inj.1 h)))
     clear hno hq
     go_wp2_with (first | (refine wpList_store_row rfl _ _ _ rfl w.heap.size (zeroD.map byteV).toArray rfl rfl 33 z32 HR2.out hI32 rfl h1z ?_;rw [setRow_setBlk HR2.out]))
     refine bodyPost_ret (v:=.tuple #[digV zeroD,.int .i64 4]) (results_dig (fn:=Tryz.f122) (p:=2) (u:=3) rfl _ _ w.heap.size _ _ rfl HG3.out rfl) rfl ⟨by rw [HNO.out];rfl,HB3.out⟩
 ·have hno:P0=none:=by
   rw [← HP.out]
   unfold parseD
   exact if_neg (fun h=>hsz h.2)
  have HNO:=hZ hno
  obtain ⟨HG3,HB3⟩:=hnone W1 HB1 HG1
  have hI71:(((s.size:Nat):Int) != 71)=true:=bne_iff_ne.2 (by omega)
  clear hno hnone
  go_wp2_with (first | (refine wpList_store_row rfl _ _ _ rfl w.heap.size (zeroD.map byteV).toArray rfl rfl 33 z32 HG1.out hI32 rfl h1z ?_;rw [setRow_setBlk HG1.out]))
  refine bodyPost_ret (v:=.tuple #[digV zeroD,.int .i64 4]) (results_dig (fn:=Tryz.f122) (p:=2) (u:=3) rfl _ _ w.heap.size _ _ rfl HG3.out rfl) rfl ⟨by rw [HNO.out];rfl,HB3.out⟩
end Go.Proofs.YtecgikanophonaaGreatDoor
