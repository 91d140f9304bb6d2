import Derived.Test.YtdkedmngeahjiaaGreatDoorM1
import Derived.Test.YtdkedmngeahjiaaGreatDoorM15
import Derived.Laws.Tables
import Derived.Deep.MidRow
import Derived.Deep.WholeRow
import Derived.Test.YtdkedmngeahjiaaGreatDoorM14
import Derived.Test.YtdkedmngeahjiaaGreatDoorBldP
import Derived.Test.YtdkedmngeahjiaaGreatDoorM20
set_option maxRecDepth 100000
set_option maxHeartbeats 25600000
namespace Go.Proofs.YtdkedmngeahjiaaGreatDoor
open Go Go.RowKit
theorem zW{w:World}{b:Nat}(h:w.heap[b]?=some (.cells z32 33 (0,0))){l:List Value}(hl:l.length=32)(h1:∀u∈l,u.oneCell'=true):
  (storeCells ⟨b,0,none⟩ l).run Tryz.prog w=.ok () (setBlk w b (.cells l.toArray 33 (0,0))):=by
 have hst:=run_storeCells_at Tryz.prog b 0 33 l 0 z32 w h (by rw[hl];show _≤(Array.replicate 32 _).size;rw[Array.size_replicate];omega) h1;rw[lZ h,Nat.add_zero,List.take_zero,List.nil_append,List.drop_of_length_le (by rw[hl];show(List.replicate 32 _).length≤_;rw[List.length_replicate];omega),List.append_nil]at hst;exact hst
def nH(d:List UInt8):Value:=.agg (d.map lG).toArray
theorem Nf:∀x,x<256→bits .and .u8 ((x:Nat):Int) 15=((x%16:Nat):Int):=dX
theorem GM(n:Nat)(h:n<(⟨#[48,49,50,51,52,53,54,55,56,57,97,98,99,100,101,102]⟩:ByteArray).size):(⟨#[48,49,50,51,52,53,54,55,56,57,97,98,99,100,101,102]⟩:ByteArray)[n]'h=hx n:=by
 have h1:∀k:Fin 16,(⟨#[48,49,50,51,52,53,54,55,56,57,97,98,99,100,101,102]⟩:ByteArray)[k.1]'k.2=hx k.1:=aA;exact h1 ⟨n,h⟩
theorem LR{cs:Array Value}{i:Nat}{v:Value}(hi:(i:Int)<32)(hv:cs[i]?=some v)(w:World):(Instr.index 33 (.agg cs) (.int .i64 i)).run Tryz.prog w=.ok v w:=by
 obtain⟨i0,h1,h2⟩:=Option.map_eq_some_iff.1 (show(Tryz.prog.info? 5).map (·.size)=some 1 by kernel_rfl);have hlt:i<32:=aC
 simp[Instr.index,run_underlying Tryz.underlying33,asIntOf,Go.sizeOf,Go.typeInfo,h1,h2,hlt,hv,go_sem]
theorem E5(d:List UInt8)(hd:d.length=32)(w:World):
  Calls Tryz.prog 49 #[nH d] w fun e w'=>e=.returned (.string (nA d))∧Below w.heap.size w w':=by
 unfold nH;have hU:Tryz.prog.underlying 33=some _:=Tryz.underlying33
 have hI:(Tryz.prog.info? 33).map (·.size)=some (d.map lG).length:=by rw[List.length_map,hd];kernel_rfl
 go_enter Tryz.func49,Tryz.ntmps49;go_wp2_with fail
 obtain⟨W0,hW0⟩:∃W,(w.alloc (.cells (d.map lG).toArray 33)).alloc (.cells #[.pointer none,.slice none 0 0] 157)=W:=⟨_,rfl⟩
 have hz0:W0.heap.size=w.heap.size+2:=by rw[←hW0];exact Ct _ _ _
 have hb0:Below w.heap.size w W0:=by rw[←hW0];exact vK _ _ _
 have hx0:W0.heap[w.heap.size]?=some (.cells (d.map lG).toArray 33 (0,0)):=by rw[←hW0];exact(Ku _ _ _).2.2.1
 have hn0:Bld (w.heap.size+1) (w.heap.size+1) [] W0:=by
  rw[←hW0];have:=LE (w.alloc (.cells (d.map lG).toArray 33))
  rwa[World.size_alloc]at this
 have HX0:=hZ hx0;have HB0:=hZ hb0
 have HZ0:=hZ hz0;refine(IL (w.heap.size+1) (w.heap.size+1) [] _ _ (hW0▸hn0) aA (by rw[hW0,hz0];omega)).mono ?_;rintro e w1 ⟨rfl,hl1,hb1⟩;rw[hW0]at hb1;have HL1:Hid (Bld (w.heap.size+1) (w.heap.size+1) (shaHead++uB (d.take 0)) w1):=hZ hl1
 have hx1:=(hb1.block w.heap.size aC).trans hx0;have HB1:=hZ (hb0.trans (hb1.mono (show w.heap.size≤w.heap.size+1 by omega)))
 have HRG:Hid (w1.rangeAt w.heap.size 0 (d.map lG)):=hZ (fun j v hv=>by
  rw[Nat.zero_add,lF hx1,List.getElem?_toArray];exact hv)
 have HZ1:=hZ hb1.size;clear hW0 hz0 hb0 hx0 hn0 hl1 hb1 hx1;go_wp2_with (first|refine wpList_load_mid rfl _ _ rfl w.heap.size 0 rfl (d.map lG) _ HRG.out hU rfl hI ?_);go_loopw [8] (fun iv wr=>∃i:Nat,(i:Int)≤32∧iv=.int .i64 i∧Hid (Bld (w.heap.size+1) (w.heap.size+1) (shaHead++uB (d.take i)) wr)∧Hid (Below w.heap.size w wr)∧Hid (w.heap.size+2≤wr.heap.size)) (fun iv _=>32-(intOf iv).toNat)
 case atStart=>exact⟨0,aC,rfl,HL1,HB1,hZ (by have:=HZ0.out;have:=HZ1.out;omega)⟩
 case round=>
  obtain⟨i,hi,rfl,HL,HB,HZ⟩:=hrel;by_cases hlt:(i:Int)<32
  ·have hil:i<d.length:=by rw[hd];omega
   obtain⟨x,hx⟩:∃x,d[i]?=some x:=⟨_,List.getElem?_eq_getElem hil⟩
   have hxn:=x.toNat_lt;have hg:(d.map lG).toArray[i]?=some (.int .u8 x.toNat):=by rw[List.getElem?_toArray,List.getElem?_map,hx];rfl
   have hlen:(uB (d.take i)).length≤64:=by rw[uC,List.length_take];omega
   have HTK:Hid (d.take (i+1)=d.take i++[x]):=hZ iX;have h15:=Nf x.toNat hxn
   have e1:((x.toNat:Int)/2^4)=((x.toNat/16:Nat):Int):=aC;have HLEN:=hZ hlen
   clear hlen hil hx;have hix:=LR hlt hg wr
   go_wp2_with fail;rw[GM];refine(EL (w.heap.size+1) (w.heap.size+1) _ _ _ HL.out (by rw[List.length_append];have:=HLEN.out;have:shaHead.length=7:=rfl;omega) (by have:=HZ.out;omega)).mono ?_;rintro e w2 ⟨rfl,hl2,hb2⟩;have HL2:=hZ hl2
   have HZ2:=hZ (Nat.le_trans HZ.out hb2.size);have HB2:=hZ (HB.out.trans (hb2.mono (show w.heap.size≤w.heap.size+1 by omega)))
   clear hl2 hb2;go_wp2_with fail;rw[GM];refine(EL (w.heap.size+1) (w.heap.size+1) _ _ _ HL2.out (by rw[List.length_append,List.length_append];have:=HLEN.out;have:shaHead.length=7:=rfl;rw[List.length_singleton];omega) (by have:=HZ2.out;omega)).mono ?_;rintro e w3 ⟨rfl,hl3,hb3⟩;have HL3:=hZ hl3
   have HZ3:=hZ (Nat.le_trans HZ2.out hb3.size);have HB3:=hZ (HB2.out.trans (hb3.mono (show w.heap.size≤w.heap.size+1 by omega)))
   clear hl3 hb3;go_wp2_with fail;refine⟨⟨i+1,aC,aG,hZ ?_,HB3,HZ3⟩,cN⟩;rw[HTK.out,A1];have:=HL3.out
   rw[List.append_assoc,List.append_assoc]at this;exact this
  ·obtain rfl:i=32:=by omega
   go_wp2_with fail;refine(Gv (w.heap.size+1) (w.heap.size+1) _ _ HL.out (by have:=HZ.out;omega)).mono ?_;rintro e w2 ⟨rfl,-,hb2,-⟩;have HB2:=hZ (HB.out.trans (hb2.mono (show w.heap.size≤w.heap.size+1 by omega)))
   clear hb2;go_wp2_with fail;go_ret;refine⟨?_,HB2.out⟩;unfold nA;rw[List.take_of_length_le (by rw[hd];omega)]
   rfl
end Go.Proofs.YtdkedmngeahjiaaGreatDoor
