/- Texts of the seat, one behind the other: RefShaB, RefSum, RefSumB. -/
import Derived.Test.YtecgikanophonaaGreatDoorM27
import Derived.Test.YtecgikanophonaaGreatDoorM29
import Derived.Test.YtecgikanophonaaGreatDoorM12
set_option maxRecDepth 100000
set_option maxHeartbeats 25600000
/- Contract of strataref03.block. -/
namespace Go.Proofs.YtecgikanophonaaGreatDoor
open Go Go.RowKit
theorem infoW:(Tryz.prog.info? 96).map (fun i=>(i.zero,i.size,i.bytes))=some (some (.int .u32 0),1,4):=by kernel_rfl
def GrA (w W:World):Prop:=Below w.heap.size w W
def GrB (w:World) (u:Value) (b:Nat) (W:World):Prop:=GrA w W∧w.heap.size≤b∧W.heap[b]?=some (.cells #[u] 96 (0,0))
def R8.words (h:R8):List Value:=[u32V h.a,u32V h.b,u32V h.c,u32V h.d,u32V h.e,u32V h.f,u32V h.g,u32V h.k]
theorem R8.words_at {h:R8} {j:Nat} {v:Value} (hv:h.words[j]?=some v):j < 8∧v=.int .u32 (h.at j):=by
 have hj:j < 8:=(List.getElem?_eq_some_iff.1 hv).1
 refine ⟨hj,?_⟩
 rcases (show j=0∨j=1∨j=2∨j=3∨j=4∨j=5∨j=6∨j=7 by omega) with rfl | rfl | rfl | rfl | rfl | rfl | rfl | rfl <;> (cases hv;rfl)
theorem R8.words_one (h:R8):∀ v∈h.words,v.oneCell'=true:=by
 intro v hv
 obtain ⟨j,hj⟩:=List.getElem?_of_mem hv
 obtain ⟨-,rfl⟩:=R8.words_at hj
 rfl
def z8:Array Value:=Array.replicate 8 (.int .u32 0)
def RoundsR (w:World):Prop:=(∀ i k,rk[i]?=some k→w.cell? ⟨2,i,none⟩=some (.int .u32 k))∧2 < w.heap.size
theorem set8 {W:World} {b:Nat} {T:R8} (h:W.heap[b]?=some (.cells T.words.toArray 97 (0,0))) (x0 x1 x2 x3 x4 x5 x6 x7:Value) :
  ((((((((W.setCell ⟨b,0,none⟩ x0).setCell ⟨b,1,none⟩ x1).setCell ⟨b,2,none⟩ x2).setCell ⟨b,3,none⟩ x3).setCell ⟨b,4,none⟩ x4).setCell ⟨b,5,none⟩ x5).setCell ⟨b,6,none⟩ x6).setCell ⟨b,7,none⟩ x7).heap[b]?=some (.cells #[x0,x1,x2,x3,x4,x5,x6,x7] 97 (0,0)):=by
 have hz:=blk_lt h
 unfold R8.words at h
 rw [setCell_blk h,setBlk_setCell hz,setBlk_setCell hz,setBlk_setCell hz,setBlk_setCell hz,setBlk_setCell hz,setBlk_setCell hz,setBlk_setCell hz]
 simp only [List.setIfInBounds_toArray,List.set_cons_zero,List.set_cons_succ]
 exact setBlk_heap hz
structure BlkIn (w:World) (hg g o:Nat) (h:R8) (r:List UInt8):Prop where
 hl:hg < w.heap.size
 gl:g < w.heap.size
 hc:∀ j,j < 8→w.cell? ⟨hg,j,none⟩=some (.int .u32 (h.at j))
 rl:r.length=64
 rc:∀ j,j < 64→w.cell? ⟨g,o+j,none⟩=some (.int .u8 ((r.getD j 0).toNat:Int))
theorem refBlock_any {w:World} {hg g o c1 c2:Nat} {h:R8} {r:List UInt8} (hI:BlkIn w hg g o h r) (hK:RoundsR w) :
  Calls Tryz.prog 43 #[.slice (some ⟨hg,0,none⟩) 8 c1,.slice (some ⟨g,o,none⟩) 64 c2] w fun e w'=>∃ v,e=.returned v∧RowC w.heap.size ((List.range 8).map fun j=>u32V ((compress h r).at j)) v w'∧Below w.heap.size w w':=by
 obtain ⟨i0,hinf,hz0,hz1,hz2⟩:=info_parts infoW
 have HI:=hZ hI
 have HK:=hZ hK
 clear hI hK
 obtain ⟨CR,hCR⟩:∃ c,compress h r=c:=⟨_,rfl⟩
 rw [hCR]
 have HCR:=hZ hCR
 clear hCR
 go_enter Tryz.func43,Tryz.ntmps43
 go_wp2_with fail
 go_loopw [5,6] (fun v iv wr=>∃ k:Nat,(k:Int)≤16∧iv=.int .i64 k∧Hid (RowC w.heap.size (((List.range k).map (word r)).map u32V) v wr)∧Hid (Below w.heap.size w wr)) (fun _ iv _=>16 - (intOf iv).toNat)
 case atStart=>exact ⟨0,by omega,rfl,hZ (RowC.nil _ _),hZ (Below.refl _ _)⟩
 case round =>
  obtain ⟨k,hk,rfl,HR,HB⟩:=hrel
  by_cases hlt:(k:Int) < 16
  ·have hk16:k < 16:=by omega
   have cf:∀ j,j < 64→wr.cell? ⟨g,o+j,none⟩=some (.int .u8 ((r.getD j 0).toNat:Int)):=fun j hj=>(HB.out.cell (p:=⟨g,o+j,none⟩) HI.out.gl).trans (HI.out.rc j hj)
   have c0:=cf (4 * k) (by omega)
   have c1:=cf (4 * k+1) (by omega)
   have c2:=cf (4 * k+2) (by omega)
   have c3:=cf (4 * k+3) (by omega)
   clear cf
   have hwd:word r k=word4 (r.getD (4 * k) 0).toNat (r.getD (4 * k+1) 0).toNat (r.getD (4 * k+2) 0).toNat (r.getD (4 * k+3) 0).toNat:=rfl
   generalize ((r.getD (4 * k) 0).toNat:Int)=x0 at c0 hwd
   generalize ((r.getD (4 * k+1) 0).toNat:Int)=x1 at c1 hwd
   generalize ((r.getD (4 * k+2) 0).toNat:Int)=x2 at c2 hwd
   generalize ((r.getD (4 * k+3) 0).toNat:Int)=x3 at c3 hwd
   have hll:(((List.range k).map (word r)).map u32V).length=k:=by rw [List.length_map,List.length_map,List.length_range]
   have hgl:=Nat.lt_of_lt_of_le HI.out.gl HB.out.size
   have HWD:=hZ hwd
   have C:Hid ((∀ W,GrA wr W→W.cell? ⟨g,o+4 * k,none⟩=some (.int .u8 x0))∧(∀ W,GrA wr W→W.cell? ⟨g,o+(4 * k+1),none⟩=some (.int .u8 x1))∧(∀ W,GrA wr W→W.cell? ⟨g,o+(4 * k+2),none⟩=some (.int .u8 x2))∧(∀ W,GrA wr W→W.cell? ⟨g,o+(4 * k+3),none⟩=some (.int .u8 x3))) :=
    hZ ⟨fun W hI=>(Below.cell hI (p:=⟨g,o+4 * k,none⟩) hgl).trans c0,fun W hI=>(Below.cell hI (p:=⟨g,o+(4 * k+1),none⟩) hgl).trans c1,fun W hI=>(Below.cell hI (p:=⟨g,o+(4 * k+2),none⟩) hgl).trans c2,fun W hI=>(Below.cell hI (p:=⟨g,o+(4 * k+3),none⟩) hgl).trans c3⟩
   obtain ⟨p,cap,rfl,-⟩:=HR.out.slice
   rw [hll] at HR ⊢
   have HLL:=hZ hll
   clear hwd hll c0 c1 c2 c3 hgl
   go_wp2_with fail
   have hw0:IntKind.i64.wrap (4 * (k:Int))=4 * k:=by rw [IntKind.wrap_i64];omega
   have hw1:IntKind.i64.wrap (4 * (k:Int)+1)=4 * k+1:=by rw [IntKind.wrap_i64];omega
   have hw2:IntKind.i64.wrap (4 * (k:Int)+2)=4 * k+2:=by rw [IntKind.wrap_i64];omega
   have hw3:IntKind.i64.wrap (4 * (k:Int)+3)=4 * k+3:=by rw [IntKind.wrap_i64];omega
   have hp0:0≤4 * (k:Int):=by omega
   have hq0:4 * (k:Int) < 64:=by omega
   have ht0:(4 * (k:Int)).toNat=4 * k:=by omega
   have hp1:0≤4 * (k:Int)+1:=by omega
   have hq1:4 * (k:Int)+1 < 64:=by omega
   have ht1:(4 * (k:Int)+1).toNat=4 * k+1:=by omega
   have hp2:0≤4 * (k:Int)+2:=by omega
   have hq2:4 * (k:Int)+2 < 64:=by omega
   have ht2:(4 * (k:Int)+2).toNat=4 * k+2:=by omega
   have hp3:0≤4 * (k:Int)+3:=by omega
   have hq3:4 * (k:Int)+3 < 64:=by omega
   have ht3:(4 * (k:Int)+3).toNat=4 * k+3:=by omega
   have hI0:GrA wr wr.drew:=(Below.refl _ _).drew
   refine wp_region_make (GrA wr) (GrB wr (.int .u32 (word4 x0 x1 x2 x3))) 34 (fun b=>.slice (some ⟨b,0,none⟩) 1 1) 35 (fun _ _ hB=>hB.1) (by kernel_rfl) (by kernel_rfl) hI0 ?_
   clear hI0
   simp only [List.take_succ_cons,List.take_zero,List.drop_succ_cons,List.drop_zero]
   refine .inr ⟨by decide,_,yg_still rfl (fun W hI=>by have d0:=C.out.1 W hI;have d1:=C.out.2.1 W hI;have d2:=C.out.2.2.1 W hI;have d3:=C.out.2.2.2 W hI;(go_simp;try simp only [hw0,hw1,hw2,hw3,hp0,hp1,hp2,hp3,hq0,hq1,hq2,hq3,ht0,ht1,ht2,ht3,and_self,if_true];try go_simp) <;> rfl),?_⟩
   refine .inr ⟨by decide,_,yg_still rfl (fun W hI=>by have d0:=C.out.1 W hI;have d1:=C.out.2.1 W hI;have d2:=C.out.2.2.1 W hI;have d3:=C.out.2.2.2 W hI;(go_simp;try simp only [hw0,hw1,hw2,hw3,hp0,hp1,hp2,hp3,hq0,hq1,hq2,hq3,ht0,ht1,ht2,ht3,and_self,if_true];try go_simp) <;> rfl),?_⟩
   refine .inr ⟨by decide,_,yg_still rfl (fun W hI=>by have d0:=C.out.1 W hI;have d1:=C.out.2.1 W hI;have d2:=C.out.2.2.1 W hI;have d3:=C.out.2.2.2 W hI;(go_simp;try simp only [hw0,hw1,hw2,hw3,hp0,hp1,hp2,hp3,hq0,hq1,hq2,hq3,ht0,ht1,ht2,ht3,and_self,if_true];try go_simp) <;> rfl),?_⟩
   refine .inr ⟨by decide,_,yg_still rfl (fun W hI=>by have d0:=C.out.1 W hI;have d1:=C.out.2.1 W hI;have d2:=C.out.2.2.1 W hI;have d3:=C.out.2.2.2 W hI;(go_simp;try simp only [hw0,hw1,hw2,hw3,hp0,hp1,hp2,hp3,hq0,hq1,hq2,hq3,ht0,ht1,ht2,ht3,and_self,if_true];try go_simp) <;> rfl),?_⟩
   refine .inr ⟨by decide,_,yg_still rfl (fun W hI=>by have d0:=C.out.1 W hI;have d1:=C.out.2.1 W hI;have d2:=C.out.2.2.1 W hI;have d3:=C.out.2.2.2 W hI;(go_simp;try simp only [hw0,hw1,hw2,hw3,hp0,hp1,hp2,hp3,hq0,hq1,hq2,hq3,ht0,ht1,ht2,ht3,and_self,if_true];try go_simp) <;> rfl),?_⟩
   refine .inr ⟨by decide,_,yg_still rfl (fun W hI=>by have d0:=C.out.1 W hI;have d1:=C.out.2.1 W hI;have d2:=C.out.2.2.1 W hI;have d3:=C.out.2.2.2 W hI;(go_simp;try simp only [hw0,hw1,hw2,hw3,hp0,hp1,hp2,hp3,hq0,hq1,hq2,hq3,ht0,ht1,ht2,ht3,and_self,if_true];try go_simp) <;> rfl),?_⟩
   refine .inr ⟨by decide,_,yg_still rfl (fun W hI=>by have d0:=C.out.1 W hI;have d1:=C.out.2.1 W hI;have d2:=C.out.2.2.1 W hI;have d3:=C.out.2.2.2 W hI;(go_simp;try simp only [hw0,hw1,hw2,hw3,hp0,hp1,hp2,hp3,hq0,hq1,hq2,hq3,ht0,ht1,ht2,ht3,and_self,if_true];try go_simp) <;> rfl),?_⟩
   refine .inr ⟨by decide,_,yg_still rfl (fun W hI=>by have d0:=C.out.1 W hI;have d1:=C.out.2.1 W hI;have d2:=C.out.2.2.1 W hI;have d3:=C.out.2.2.2 W hI;(go_simp;try simp only [hw0,hw1,hw2,hw3,hp0,hp1,hp2,hp3,hq0,hq1,hq2,hq3,ht0,ht1,ht2,ht3,and_self,if_true];try go_simp) <;> rfl),?_⟩
   refine .inr ⟨by decide,_,yg_still rfl (fun W hI=>by have d0:=C.out.1 W hI;have d1:=C.out.2.1 W hI;have d2:=C.out.2.2.1 W hI;have d3:=C.out.2.2.2 W hI;(go_simp;try simp only [hw0,hw1,hw2,hw3,hp0,hp1,hp2,hp3,hq0,hq1,hq2,hq3,ht0,ht1,ht2,ht3,and_self,if_true];try go_simp) <;> rfl),?_⟩
   refine .inr ⟨by decide,_,yg_still rfl (fun W hI=>by have d0:=C.out.1 W hI;have d1:=C.out.2.1 W hI;have d2:=C.out.2.2.1 W hI;have d3:=C.out.2.2.2 W hI;(go_simp;try simp only [hw0,hw1,hw2,hw3,hp0,hp1,hp2,hp3,hq0,hq1,hq2,hq3,ht0,ht1,ht2,ht3,and_self,if_true];try go_simp) <;> rfl),?_⟩
   refine .inr ⟨by decide,_,yg_still rfl (fun W hI=>by have d0:=C.out.1 W hI;have d1:=C.out.2.1 W hI;have d2:=C.out.2.2.1 W hI;have d3:=C.out.2.2.2 W hI;(go_simp;try simp only [hw0,hw1,hw2,hw3,hp0,hp1,hp2,hp3,hq0,hq1,hq2,hq3,ht0,ht1,ht2,ht3,and_self,if_true];try go_simp) <;> rfl),?_⟩
   refine .inr ⟨by decide,_,yg_still rfl (fun W hI=>by have d0:=C.out.1 W hI;have d1:=C.out.2.1 W hI;have d2:=C.out.2.2.1 W hI;have d3:=C.out.2.2.2 W hI;(go_simp;try simp only [hw0,hw1,hw2,hw3,hp0,hp1,hp2,hp3,hq0,hq1,hq2,hq3,ht0,ht1,ht2,ht3,and_self,if_true];try go_simp) <;> rfl),?_⟩
   refine .inr ⟨by decide,_,yg_still rfl (fun W hI=>by have d0:=C.out.1 W hI;have d1:=C.out.2.1 W hI;have d2:=C.out.2.2.1 W hI;have d3:=C.out.2.2.2 W hI;(go_simp;try simp only [hw0,hw1,hw2,hw3,hp0,hp1,hp2,hp3,hq0,hq1,hq2,hq3,ht0,ht1,ht2,ht3,and_self,if_true];try go_simp) <;> rfl),?_⟩
   refine .inr ⟨by decide,_,yg_still rfl (fun W hI=>by have d0:=C.out.1 W hI;have d1:=C.out.2.1 W hI;have d2:=C.out.2.2.1 W hI;have d3:=C.out.2.2.2 W hI;(go_simp;try simp only [hw0,hw1,hw2,hw3,hp0,hp1,hp2,hp3,hq0,hq1,hq2,hq3,ht0,ht1,ht2,ht3,and_self,if_true];try go_simp) <;> rfl),?_⟩
   refine .inr ⟨by decide,_,yg_still rfl (fun W hI=>by have d0:=C.out.1 W hI;have d1:=C.out.2.1 W hI;have d2:=C.out.2.2.1 W hI;have d3:=C.out.2.2.2 W hI;(go_simp;try simp only [hw0,hw1,hw2,hw3,hp0,hp1,hp2,hp3,hq0,hq1,hq2,hq3,ht0,ht1,ht2,ht3,and_self,if_true];try go_simp) <;> rfl),?_⟩
   refine .inr ⟨by decide,_,yg_still rfl (fun W hI=>by have d0:=C.out.1 W hI;have d1:=C.out.2.1 W hI;have d2:=C.out.2.2.1 W hI;have d3:=C.out.2.2.2 W hI;(go_simp;try simp only [hw0,hw1,hw2,hw3,hp0,hp1,hp2,hp3,hq0,hq1,hq2,hq3,ht0,ht1,ht2,ht3,and_self,if_true];try go_simp) <;> rfl),?_⟩
   refine .inr ⟨by decide,_,yg_still rfl (fun W hI=>by have d0:=C.out.1 W hI;have d1:=C.out.2.1 W hI;have d2:=C.out.2.2.1 W hI;have d3:=C.out.2.2.2 W hI;(go_simp;try simp only [hw0,hw1,hw2,hw3,hp0,hp1,hp2,hp3,hq0,hq1,hq2,hq3,ht0,ht1,ht2,ht3,and_self,if_true];try go_simp) <;> rfl),?_⟩
   refine .inr ⟨by decide,_,yg_still rfl (fun W hI=>by have d0:=C.out.1 W hI;have d1:=C.out.2.1 W hI;have d2:=C.out.2.2.1 W hI;have d3:=C.out.2.2.2 W hI;(go_simp;try simp only [hw0,hw1,hw2,hw3,hp0,hp1,hp2,hp3,hq0,hq1,hq2,hq3,ht0,ht1,ht2,ht3,and_self,if_true];try go_simp) <;> rfl),?_⟩
   refine .inr ⟨by decide,_,yg_still rfl (fun W hI=>by have d0:=C.out.1 W hI;have d1:=C.out.2.1 W hI;have d2:=C.out.2.2.1 W hI;have d3:=C.out.2.2.2 W hI;(go_simp;try simp only [hw0,hw1,hw2,hw3,hp0,hp1,hp2,hp3,hq0,hq1,hq2,hq3,ht0,ht1,ht2,ht3,and_self,if_true];try go_simp) <;> rfl),?_⟩
   refine .inr ⟨by decide,_,yg_still rfl (fun W hI=>by have d0:=C.out.1 W hI;have d1:=C.out.2.1 W hI;have d2:=C.out.2.2.1 W hI;have d3:=C.out.2.2.2 W hI;(go_simp;try simp only [hw0,hw1,hw2,hw3,hp0,hp1,hp2,hp3,hq0,hq1,hq2,hq3,ht0,ht1,ht2,ht3,and_self,if_true];try go_simp) <;> rfl),?_⟩
   refine .inr ⟨by decide,_,yg_still rfl (fun W hI=>by have d0:=C.out.1 W hI;have d1:=C.out.2.1 W hI;have d2:=C.out.2.2.1 W hI;have d3:=C.out.2.2.2 W hI;(go_simp;try simp only [hw0,hw1,hw2,hw3,hp0,hp1,hp2,hp3,hq0,hq1,hq2,hq3,ht0,ht1,ht2,ht3,and_self,if_true];try go_simp) <;> rfl),?_⟩
   refine .inr ⟨by decide,_,yg_still rfl (fun W hI=>by have d0:=C.out.1 W hI;have d1:=C.out.2.1 W hI;have d2:=C.out.2.2.1 W hI;have d3:=C.out.2.2.2 W hI;(go_simp;try simp only [hw0,hw1,hw2,hw3,hp0,hp1,hp2,hp3,hq0,hq1,hq2,hq3,ht0,ht1,ht2,ht3,and_self,if_true];try go_simp) <;> rfl),?_⟩
   refine .inr ⟨by decide,_,yg_still rfl (fun W hI=>by have d0:=C.out.1 W hI;have d1:=C.out.2.1 W hI;have d2:=C.out.2.2.1 W hI;have d3:=C.out.2.2.2 W hI;(go_simp;try simp only [hw0,hw1,hw2,hw3,hp0,hp1,hp2,hp3,hq0,hq1,hq2,hq3,ht0,ht1,ht2,ht3,and_self,if_true];try go_simp) <;> rfl),?_⟩
   refine .inr ⟨by decide,_,yg_still rfl (fun W hI=>by have d0:=C.out.1 W hI;have d1:=C.out.2.1 W hI;have d2:=C.out.2.2.1 W hI;have d3:=C.out.2.2.2 W hI;(go_simp;try simp only [hw0,hw1,hw2,hw3,hp0,hp1,hp2,hp3,hq0,hq1,hq2,hq3,ht0,ht1,ht2,ht3,and_self,if_true];try go_simp) <;> rfl),?_⟩
   refine .inr ⟨by decide,_,yg_still rfl (fun W hI=>by have d0:=C.out.1 W hI;have d1:=C.out.2.1 W hI;have d2:=C.out.2.2.1 W hI;have d3:=C.out.2.2.2 W hI;(go_simp;try simp only [hw0,hw1,hw2,hw3,hp0,hp1,hp2,hp3,hq0,hq1,hq2,hq3,ht0,ht1,ht2,ht3,and_self,if_true];try go_simp) <;> rfl),?_⟩
   refine .inr ⟨by decide,_,yg_still rfl (fun W hI=>by have d0:=C.out.1 W hI;have d1:=C.out.2.1 W hI;have d2:=C.out.2.2.1 W hI;have d3:=C.out.2.2.2 W hI;(go_simp;try simp only [hw0,hw1,hw2,hw3,hp0,hp1,hp2,hp3,hq0,hq1,hq2,hq3,ht0,ht1,ht2,ht3,and_self,if_true];try go_simp) <;> rfl),?_⟩
   refine .inr ⟨by decide,_,yg_still rfl (fun W hI=>by have d0:=C.out.1 W hI;have d1:=C.out.2.1 W hI;have d2:=C.out.2.2.1 W hI;have d3:=C.out.2.2.2 W hI;(go_simp;try simp only [hw0,hw1,hw2,hw3,hp0,hp1,hp2,hp3,hq0,hq1,hq2,hq3,ht0,ht1,ht2,ht3,and_self,if_true];try go_simp) <;> rfl),?_⟩
   refine .inr ⟨by decide,_,yg_still rfl (fun W hI=>by have d0:=C.out.1 W hI;have d1:=C.out.2.1 W hI;have d2:=C.out.2.2.1 W hI;have d3:=C.out.2.2.2 W hI;(go_simp;try simp only [hw0,hw1,hw2,hw3,hp0,hp1,hp2,hp3,hq0,hq1,hq2,hq3,ht0,ht1,ht2,ht3,and_self,if_true];try go_simp) <;> rfl),?_⟩
   refine .inr ⟨by decide,_,yg_still rfl (fun W hI=>by have d0:=C.out.1 W hI;have d1:=C.out.2.1 W hI;have d2:=C.out.2.2.1 W hI;have d3:=C.out.2.2.2 W hI;(go_simp;try simp only [hw0,hw1,hw2,hw3,hp0,hp1,hp2,hp3,hq0,hq1,hq2,hq3,ht0,ht1,ht2,ht3,and_self,if_true];try go_simp) <;> rfl),?_⟩
   refine .inr ⟨by decide,_,yg_still rfl (fun W hI=>by have d0:=C.out.1 W hI;have d1:=C.out.2.1 W hI;have d2:=C.out.2.2.1 W hI;have d3:=C.out.2.2.2 W hI;(go_simp;try simp only [hw0,hw1,hw2,hw3,hp0,hp1,hp2,hp3,hq0,hq1,hq2,hq3,ht0,ht1,ht2,ht3,and_self,if_true];try go_simp) <;> rfl),?_⟩
   refine .inr ⟨by decide,_,yg_still rfl (fun W hI=>by have d0:=C.out.1 W hI;have d1:=C.out.2.1 W hI;have d2:=C.out.2.2.1 W hI;have d3:=C.out.2.2.2 W hI;(go_simp;try simp only [hw0,hw1,hw2,hw3,hp0,hp1,hp2,hp3,hq0,hq1,hq2,hq3,ht0,ht1,ht2,ht3,and_self,if_true];try go_simp) <;> rfl),?_⟩
   refine .inr ⟨by decide,_,yg_still rfl (fun W hI=>by have d0:=C.out.1 W hI;have d1:=C.out.2.1 W hI;have d2:=C.out.2.2.1 W hI;have d3:=C.out.2.2.2 W hI;(go_simp;try simp only [hw0,hw1,hw2,hw3,hp0,hp1,hp2,hp3,hq0,hq1,hq2,hq3,ht0,ht1,ht2,ht3,and_self,if_true];try go_simp) <;> rfl),?_⟩
   refine .inr ⟨by decide,_,yg_still rfl (fun W hI=>by have d0:=C.out.1 W hI;have d1:=C.out.2.1 W hI;have d2:=C.out.2.2.1 W hI;have d3:=C.out.2.2.2 W hI;(go_simp;try simp only [hw0,hw1,hw2,hw3,hp0,hp1,hp2,hp3,hq0,hq1,hq2,hq3,ht0,ht1,ht2,ht3,and_self,if_true];try go_simp) <;> rfl),?_⟩
   refine .inr ⟨by decide,_,yg_still rfl (fun W hI=>by have d0:=C.out.1 W hI;have d1:=C.out.2.1 W hI;have d2:=C.out.2.2.1 W hI;have d3:=C.out.2.2.2 W hI;(go_simp;try simp only [hw0,hw1,hw2,hw3,hp0,hp1,hp2,hp3,hq0,hq1,hq2,hq3,ht0,ht1,ht2,ht3,and_self,if_true];try go_simp) <;> rfl),?_⟩
   refine .inl ⟨rfl,⟨rfl,fun W hI=>.inl ⟨W.heap.size,W.alloc (.cells #[.int .u32 (word4 x0 x1 x2 x3)] 96),by go_simp;rfl,⟨Below.trans hI ((Below.refl _ _).alloc (Below.size hI) _),Below.size hI,heap_new _ _⟩⟩⟩,?_⟩
   rintro b8 W8 hI8
   change wpList _ _ _ _ _ W8
   simp only [Act.put,List.setIfInBounds_toArray,List.set_cons_succ,List.set_cons_zero]
   have H8:=hZ hI8
   have hc8:W8.cell? ((⟨b8,0,none⟩:Addr).add 0)=some (.int .u32 (word4 x0 x1 x2 x3)):=by
    rw [show ((⟨b8,0,none⟩:Addr).add 0)=⟨b8,0,none⟩ by simp [Addr.add]]
    exact cell_of_heapN hI8.2.2
   have HC8:=hZ hc8
   clear hI8 hc8
   go_wp2_with (first | (at_builtin;refine wpList_appC rfl _ _ 95 rfl w.heap.size 96 i0 (.int .u32 0) 4 Tryz.underlying95 hinf hz0 hz1 hz2 rfl _ _ rfl (HR.out.keep H8.out.1) (.int .u32 (word4 x0 x1 x2 x3)) ⟨b8,0,none⟩ rfl HC8.out rfl (by rw [HLL.out];unfold maxLen;omega) (by rw [HLL.out];omega) (Nat.le_trans HB.out.size (Below.size H8.out.1)) ?_;intro v1 w1 hr1 hb1;have HR1:=hZ hr1;have HB2:=hZ (HB.out.trans ((Below.mono H8.out.1 HB.out.size).trans hb1));clear hr1 hb1) | go_in)
   case roundEnd =>
    refine ⟨⟨k+1,by omega,by rw [Int.natCast_add];rfl,hZ ?_,HB2⟩,by simp [intOf];omega⟩
    rw [List.range_succ,List.map_append,List.map_append,List.map_singleton,List.map_singleton,HWD.out]
    exact HR1.out
  ·obtain rfl:k=16:=by omega
   have HR0:Hid (RowC w.heap.size ((sch r 0).map u32V) u5 wr):=HR
   clear HR
   go_wp2_with fail
   go_loopw [5,7] (fun v iv wr=>∃ k:Nat,(k:Int)≤48∧iv=.int .i64 ((k+16:Nat):Int)∧Hid (RowC w.heap.size ((sch r k).map u32V) v wr)∧Hid (Below w.heap.size w wr)) (fun _ iv _=>64 - (intOf iv).toNat)
   case atStart=>exact ⟨0,by omega,rfl,HR0,HB⟩
   case round =>
    obtain ⟨k,hk,rfl,HR,HB⟩:=hrel
    have hll:((sch r k).map u32V).length=k+16:=by rw [List.length_map,sch_length];omega
    have HLL:=hZ hll
    by_cases hlt:((k+16:Nat):Int) < 64
    ·obtain ⟨p,cap,rfl,hcl⟩:=HR.out.slice
     have hget:∀ j,j < k+16→((sch r k).map u32V)[j]?=some (.int .u32 ((sch r k).getD j 0)):=fun j hj=>by
      rw [List.getElem?_map,List.getElem?_eq_getElem (by rw [sch_length];omega),List.getD_eq_getElem?_getD,List.getElem?_eq_getElem (by rw [sch_length];omega)]
      rfl
     obtain ⟨gw,rfl,hgw,c0⟩:=hcl k _ (hget k (by omega))
     have hc:∀ j,j < k+16→wr.cell? ⟨gw,j,none⟩=some (.int .u32 ((sch r k).getD j 0)):=fun j hj=>by
      obtain ⟨g',e,-,h⟩:=hcl j _ (hget j hj)
      cases e
      exact h
     have c15:=hc (k+1) (by omega)
     have c2:=hc (k+14) (by omega)
     have c7:=hc (k+9) (by omega)
     rw [hll] at HR ⊢
     clear hcl hget hc hll
     obtain ⟨y16,hy16⟩:∃ y,(sch r k).getD k 0=y:=⟨_,rfl⟩
     obtain ⟨y7,hy7⟩:∃ y,(sch r k).getD (k+9) 0=y:=⟨_,rfl⟩
     obtain ⟨y15,hy15⟩:∃ y,(sch r k).getD (k+1) 0=y:=⟨_,rfl⟩
     obtain ⟨y2,hy2⟩:∃ y,(sch r k).getD (k+14) 0=y:=⟨_,rfl⟩
     have HWN:=hZ (show wnext (sch r k) k=(((s1 y2+y7) % 4294967296+s0 y15) % 4294967296+y16) % 4294967296 by unfold wnext;rw [hy16,hy7,hy15,hy2];omega)
     rw [hy16] at c0
     rw [hy15] at c15
     rw [hy7] at c7
     rw [hy2] at c2
     clear hy16 hy7 hy15 hy2
     go_wp2_with (first | (go_at_call_of 96 (Value.int .i64 (7:Int));refine (refTurn_any _ 7 (by decide) _).mono ?_;rintro e' w' ⟨rfl,q7,rfl⟩) | (go_at_call_of 96 (Value.int .i64 (18:Int));refine (refTurn_any _ 18 (by decide) _).mono ?_;rintro e' w' ⟨rfl,q18,rfl⟩) | (go_at_call_of 96 (Value.int .i64 (17:Int));refine (refTurn_any _ 17 (by decide) _).mono ?_;rintro e' w' ⟨rfl,q17,rfl⟩) | (go_at_call_of 96 (Value.int .i64 (19:Int));refine (refTurn_any _ 19 (by decide) _).mono ?_;rintro e' w' ⟨rfl,q19,rfl⟩))
     have C:Hid ((∀ W,GrA wr W→W.cell? ⟨gw,k,none⟩=some (.int .u32 y16))∧∀ W,GrA wr W→W.cell? ⟨gw,k+9,none⟩=some (.int .u32 y7)) :=
      hZ ⟨fun W hI=>(Below.cell hI (p:=⟨gw,k,none⟩) hgw).trans c0,fun W hI=>(Below.cell hI (p:=⟨gw,k+9,none⟩) hgw).trans c7⟩
     have hw9:IntKind.i64.wrap ((k:Int)+16 - 7)=k+9:=by rw [IntKind.wrap_i64];omega
     have hw16:IntKind.i64.wrap (k:Int)=k:=by rw [IntKind.wrap_i64];omega
     have hp9:0≤(k:Int)+9:=by omega
     have hq9:(k:Int)+9 < (k:Int)+16:=by omega
     have ht9:((k:Int)+9).toNat=k+9:=by omega
     have hp0:0≤(k:Int):=by omega
     have hq0:(k:Int) < (k:Int)+16:=by omega
     refine wp_region_make (GrA wr) (GrB wr (.int .u32 (wnext (sch r k) k))) 16 (fun b=>.slice (some ⟨b,0,none⟩) 1 1) 17 (fun _ _ hB=>hB.1) (by kernel_rfl) (by kernel_rfl) (show GrA wr _ from ⟨rfl,rfl,rfl,Nat.le_refl _,fun _ _=>rfl⟩) ?_
     simp only [List.take_succ_cons,List.take_zero,List.drop_succ_cons,List.drop_zero]
     clear c0 c15 c2 c7
     refine .inr ⟨by decide,_,yg_still rfl (fun W hI=>by have d0:=C.out.1 W hI;have d1:=C.out.2 W hI;(go_simp;try simp only [hw9,hw16,hp9,hq9,ht9,hp0,hq0,and_self,if_true];try go_simp) <;> rfl),?_⟩
     refine .inr ⟨by decide,_,yg_still rfl (fun W hI=>by have d0:=C.out.1 W hI;have d1:=C.out.2 W hI;(go_simp;try simp only [hw9,hw16,hp9,hq9,ht9,hp0,hq0,and_self,if_true];try go_simp) <;> rfl),?_⟩
     refine .inr ⟨by decide,_,yg_still rfl (fun W hI=>by have d0:=C.out.1 W hI;have d1:=C.out.2 W hI;(go_simp;try simp only [hw9,hw16,hp9,hq9,ht9,hp0,hq0,and_self,if_true];try go_simp) <;> rfl),?_⟩
     refine .inr ⟨by decide,_,yg_still rfl (fun W hI=>by have d0:=C.out.1 W hI;have d1:=C.out.2 W hI;(go_simp;try simp only [hw9,hw16,hp9,hq9,ht9,hp0,hq0,and_self,if_true];try go_simp) <;> rfl),?_⟩
     refine .inr ⟨by decide,_,yg_still rfl (fun W hI=>by have d0:=C.out.1 W hI;have d1:=C.out.2 W hI;(go_simp;try simp only [hw9,hw16,hp9,hq9,ht9,hp0,hq0,and_self,if_true];try go_simp) <;> rfl),?_⟩
     refine .inr ⟨by decide,_,yg_still rfl (fun W hI=>by have d0:=C.out.1 W hI;have d1:=C.out.2 W hI;(go_simp;try simp only [hw9,hw16,hp9,hq9,ht9,hp0,hq0,and_self,if_true];try go_simp) <;> rfl),?_⟩
     refine .inr ⟨by decide,_,yg_still rfl (fun W hI=>by have d0:=C.out.1 W hI;have d1:=C.out.2 W hI;(go_simp;try simp only [hw9,hw16,hp9,hq9,ht9,hp0,hq0,and_self,if_true];try go_simp) <;> rfl),?_⟩
     refine .inr ⟨by decide,_,yg_still rfl (fun W hI=>by have d0:=C.out.1 W hI;have d1:=C.out.2 W hI;(go_simp;try simp only [hw9,hw16,hp9,hq9,ht9,hp0,hq0,and_self,if_true];try go_simp) <;> rfl),?_⟩
     refine .inr ⟨by decide,_,yg_still rfl (fun W hI=>by have d0:=C.out.1 W hI;have d1:=C.out.2 W hI;(go_simp;try simp only [hw9,hw16,hp9,hq9,ht9,hp0,hq0,and_self,if_true];try go_simp) <;> rfl),?_⟩
     refine .inr ⟨by decide,_,yg_still rfl (fun W hI=>by have d0:=C.out.1 W hI;have d1:=C.out.2 W hI;(go_simp;try simp only [hw9,hw16,hp9,hq9,ht9,hp0,hq0,and_self,if_true];try go_simp) <;> rfl),?_⟩
     refine .inr ⟨by decide,_,yg_still rfl (fun W hI=>by have d0:=C.out.1 W hI;have d1:=C.out.2 W hI;(go_simp;try simp only [hw9,hw16,hp9,hq9,ht9,hp0,hq0,and_self,if_true];try go_simp) <;> rfl),?_⟩
     refine .inr ⟨by decide,_,yg_still rfl (fun W hI=>by have d0:=C.out.1 W hI;have d1:=C.out.2 W hI;(go_simp;try simp only [hw9,hw16,hp9,hq9,ht9,hp0,hq0,and_self,if_true];try go_simp) <;> rfl),?_⟩
     refine .inr ⟨by decide,_,yg_still rfl (fun W hI=>by have d0:=C.out.1 W hI;have d1:=C.out.2 W hI;(go_simp;try simp only [hw9,hw16,hp9,hq9,ht9,hp0,hq0,and_self,if_true];try go_simp) <;> rfl),?_⟩
     refine .inr ⟨by decide,_,yg_still rfl (fun W hI=>by have d0:=C.out.1 W hI;have d1:=C.out.2 W hI;(go_simp;try simp only [hw9,hw16,hp9,hq9,ht9,hp0,hq0,and_self,if_true];try go_simp) <;> rfl),?_⟩
     refine .inr ⟨by decide,_,yg_still rfl (fun W hI=>by have d0:=C.out.1 W hI;have d1:=C.out.2 W hI;(go_simp;try simp only [hw9,hw16,hp9,hq9,ht9,hp0,hq0,and_self,if_true];try go_simp) <;> rfl),?_⟩
     refine .inr ⟨by decide,_,yg_still rfl (fun W hI=>by have d0:=C.out.1 W hI;have d1:=C.out.2 W hI;(go_simp;try simp only [hw9,hw16,hp9,hq9,ht9,hp0,hq0,and_self,if_true];try go_simp) <;> rfl),?_⟩
     refine .inl ⟨rfl,⟨rfl,fun W hI=>.inl ⟨W.heap.size,W.alloc (.cells #[.int .u32 (wnext (sch r k) k)] 96),by rw [HWN.out];unfold s0 s1;go_simp;simp only [IntKind.wrap_u32];refine congrArg (fun x=>W.alloc (.cells #[.int .u32 x] 96)) ?_;omega,⟨Below.trans hI ((Below.refl _ _).alloc (Below.size hI) _),Below.size hI,heap_new _ _⟩⟩⟩,?_⟩
     rintro b8 W8 hI8
     change wpList _ _ _ _ _ W8
     simp only [Act.put,List.setIfInBounds_toArray,List.set_cons_succ,List.set_cons_zero]
     have H8:=hZ hI8
     have hc8:W8.cell? ((⟨b8,0,none⟩:Addr).add 0)=some (.int .u32 (wnext (sch r k) k)):=by
      rw [show ((⟨b8,0,none⟩:Addr).add 0)=⟨b8,0,none⟩ by simp [Addr.add]]
      exact cell_of_heapN hI8.2.2
     have HC8:=hZ hc8
     clear hI8 hc8 hw9 hw16 hp9 hq9 ht9 hp0 hq0
     go_wp2_with (first | (at_builtin;refine wpList_appC rfl _ _ 95 rfl w.heap.size 96 i0 (.int .u32 0) 4 Tryz.underlying95 hinf hz0 hz1 hz2 rfl _ _ rfl (HR.out.keep H8.out.1) (.int .u32 (wnext (sch r k) k)) ⟨b8,0,none⟩ rfl HC8.out rfl (by rw [HLL.out];unfold maxLen;omega) (by rw [HLL.out];omega) (Nat.le_trans HB.out.size (Below.size H8.out.1)) ?_;intro v1 w1 hr1 hb1;have HR1:=hZ hr1;have HB2:=hZ (HB.out.trans ((Below.mono H8.out.1 HB.out.size).trans hb1));clear hr1 hb1) | go_in)
     case roundEnd =>
      refine ⟨⟨k+1,by omega,by simp only [Int.natCast_add];rfl,hZ ?_,HB2⟩,by simp [intOf];omega⟩
      rw [sch,List.map_append,List.map_singleton]
      exact HR1.out
    ·obtain rfl:k=48:=by simp only [Int.natCast_add] at hlt;omega
     obtain ⟨p,cap,rfl,hcl⟩:=HR.out.slice
     rw [hll] at HR ⊢
     clear hll
     have HCL:=hZ hcl
     clear hcl
     have hnew:=heap_new wr (.cells z8 97)
     have hcp:=run_copy_row (P:=Tryz.prog) (wr.alloc (.cells z8 97)) 95 95 3 96 wr.heap.size 0 8 8 ⟨hg,0,none⟩ 8 c1 z8 97 h.words Tryz.underlying95 (by kernel_rfl) hnew rfl (fun j v hv=>by
      obtain ⟨hj,rfl⟩:=R8.words_at hv
      rw [show (⟨hg,0,none⟩:Addr).add j=⟨hg,j,none⟩ by simp [Addr.add];intro e;exact e.symm]
      exact ((Below.refl wr.heap.size wr).alloc (Nat.le_refl _) _).cell (p:=⟨hg,j,none⟩) (Nat.lt_of_lt_of_le HI.out.hl HB.out.size) |>.trans ((HB.out.cell (p:=⟨hg,j,none⟩) HI.out.hl).trans (HI.out.hc j hj))) (by show 0+8≤(Array.replicate 8 _).size;rw [Array.size_replicate];omega) (R8.words_one h)
     rw [setRow_setBlk hnew] at hcp
     have hset:setBlk (wr.alloc (.cells z8 97)) wr.heap.size (.cells (z8.toList.take 0 ++ h.words ++ z8.toList.drop (0+h.words.length)).toArray 97 (0,0))=wr.alloc (.cells h.words.toArray 97):=by
      refine heap_ext (fun k=>?_) rfl rfl rfl rfl
      rw [setBlk_at]
      by_cases hk:wr.heap.size=k
      ·subst hk
       rw [if_pos rfl,if_pos (by rw [World.size_alloc];omega),heap_new]
       rfl
      ·rw [if_neg hk]
       show (wr.heap.push _)[k]?=(wr.heap.push _)[k]?
       rw [Array.getElem?_push,Array.getElem?_push,if_neg (fun e=>hk e.symm),if_neg (fun e=>hk e.symm)]
     rw [hset] at hcp
     have HCP:=hZ hcp
     clear hset hnew hcp
     have hcp2:(Builtin.copy_ #[95,95] 3 #[.slice (some ⟨wr.heap.size,0,none⟩) 8 8,.slice (some ⟨hg,0,none⟩) 8 c1]).run Tryz.prog (wr.alloc (.cells #[.int .u32 0,.int .u32 0,.int .u32 0,.int .u32 0,.int .u32 0,.int .u32 0,.int .u32 0,.int .u32 0] 97))=.ok (.int .i64 8) (wr.alloc (.cells h.words.toArray 97)):=HCP.out
     obtain ⟨W0,hW0⟩:∃ W,wr.alloc (.cells h.words.toArray 97)=W:=⟨_,rfl⟩
     have hv0:W0.heap[wr.heap.size]?=some (.cells (rnds h (sch r 48) 0).words.toArray 97 (0,0)):=by rw [← hW0];exact heap_new _ _
     have hb0:Below wr.heap.size wr W0:=by rw [← hW0];exact (Below.refl _ _).alloc (Nat.le_refl _) _
     rw [hW0] at hcp2
     have HV0:=hZ hv0
     have HB0:=hZ hb0
     clear hv0 hb0 hW0 HCP
     go_wp2_with fail
     obtain ⟨vb,hvb⟩:∃ b,wr.heap.size=b:=⟨_,rfl⟩
     have HVB:=hZ hvb
     rw [hvb] at HV0 ⊢
     clear hcp2 hvb
     go_loopw [13] (fun iv wr=>∃ i:Nat,(i:Int)≤64∧iv=.int .i64 i∧Hid (Off (fun b=>b=vb) W0 wr)∧Hid (wr.heap[vb]?=some (.cells (rnds h (sch r 48) i).words.toArray 97 (0,0)))) (fun iv _=>64 - (intOf iv).toNat)
     case atStart=>exact ⟨0,by omega,rfl,hZ (Off.refl _ _),HV0⟩
     case round =>
      obtain ⟨i,hi,rfl,HO,HV⟩:=hrel
      by_cases hlt:(i:Int) < 64
      ·have hi64:i < 64:=by omega
       obtain ⟨K,hKi⟩:∃ K,rk[i]?=some K:=⟨_,List.getElem?_eq_getElem (i:=i) (by show i < 64;exact hi64)⟩
       obtain ⟨gw,hp,hgw,hcw⟩:=HCL.out i (.int .u32 ((sch r 48).getD i 0)) (by
        rw [List.getElem?_map,List.getElem?_eq_getElem (by rw [sch_length];omega),List.getD_eq_getElem?_getD,List.getElem?_eq_getElem (by rw [sch_length];omega)]
        rfl)
       subst hp
       have hz0:=HB0.out.size
       have cw:wr.cell? ⟨gw,i,none⟩=some (.int .u32 ((sch r 48).getD i 0)):=(HO.out.cell (p:=⟨gw,i,none⟩) (Nat.lt_of_lt_of_le hgw hz0) (by have:=HVB.out;show ¬ gw=vb;omega)).trans ((HB0.out.cell (p:=⟨gw,i,none⟩) hgw).trans hcw)
       have hgk:=Nat.lt_of_lt_of_le HK.out.2 HB.out.size
       have ck:wr.cell? ⟨2,i,none⟩=some (.int .u32 K):=(HO.out.cell (p:=⟨2,i,none⟩) (Nat.lt_of_lt_of_le hgk hz0) (by have:=HVB.out;show ¬ 2=vb;omega)).trans ((HB0.out.cell (p:=⟨2,i,none⟩) hgk).trans ((HB.out.cell (p:=⟨2,i,none⟩) HK.out.2).trans (HK.out.1 i K hKi)))
       obtain ⟨y,hy⟩:∃ y,(sch r 48).getD i 0=y:=⟨_,rfl⟩
       rw [hy] at cw
       obtain ⟨T,hT⟩:∃ t,rnds h (sch r 48) i=t:=⟨_,rfl⟩
       have HT1:Hid (rnd T K y=rnds h (sch r 48) (i+1)):=hZ (by rw [rnds,hT,hy,List.getD_eq_getElem?_getD,hKi];rfl)
       rw [hT] at HV
       obtain ⟨ta,tb,tc,td,te,tf,tg,tk⟩:=T
       have v0:wr.cell? ⟨vb,0,none⟩=some (.int .u32 ta):=cell_of_heapN HV.out
       have v1:wr.cell? ⟨vb,1,none⟩=some (.int .u32 tb):=cell_of_heapN HV.out
       have v2:wr.cell? ⟨vb,2,none⟩=some (.int .u32 tc):=cell_of_heapN HV.out
       have v3:wr.cell? ⟨vb,3,none⟩=some (.int .u32 td):=cell_of_heapN HV.out
       have v4:wr.cell? ⟨vb,4,none⟩=some (.int .u32 te):=cell_of_heapN HV.out
       have v5:wr.cell? ⟨vb,5,none⟩=some (.int .u32 tf):=cell_of_heapN HV.out
       have v6:wr.cell? ⟨vb,6,none⟩=some (.int .u32 tg):=cell_of_heapN HV.out
       have v7:wr.cell? ⟨vb,7,none⟩=some (.int .u32 tk):=cell_of_heapN HV.out
       clear hKi hy hT hcw hgk hz0
       go_wp2_with fail
       go_big_quiet (fail)
       rename_i n0
       go_wp2_with fail
       go_big_quiet ((first | (go_at_call_of 96 (Value.int .i64 (6:Int));exact quietT (refTurn_any _ 6 (by decide) _)) | (go_at_call_of 96 (Value.int .i64 (11:Int));exact quietT (refTurn_any _ 11 (by decide) _)) | (go_at_call_of 96 (Value.int .i64 (25:Int));exact quietT (refTurn_any _ 25 (by decide) _))))
       rename_i n1
       rw [show (if IntKind.u32.signed=true then (-1:Int) else IntKind.u32.max)=4294967295 from by decide]
       have hone:rone ⟨ta,tb,tc,td,te,tf,tg,tk⟩ K y=((tk+bits .xor .u32 (bits .xor .u32 (rotr te 6) (rotr te 11)) (rotr te 25)+bits .xor .u32 (bits .and .u32 te tf) (bits .and .u32 (bits .xor .u32 4294967295 te) tg)+K) % 4294967296+y) % 4294967296:=by
        unfold rone
        show ((((tk+bits .xor .u32 (bits .xor .u32 (rotr te 6) (rotr te 11)) (rotr te 25)) % 4294967296+bits .xor .u32 (bits .and .u32 te tf) (bits .and .u32 (bits .xor .u32 4294967295 te) tg)) % 4294967296+K) % 4294967296+y) % 4294967296=_
        omega
       generalize bits .xor .u32 (bits .xor .u32 (rotr te 6) (rotr te 11)) (rotr te 25)=x6 at hone ⊢
       generalize bits .xor .u32 (bits .and .u32 te tf) (bits .and .u32 (bits .xor .u32 4294967295 te) tg)=y6 at hone ⊢
       generalize ((tk+x6+y6+K) % 4294967296+y) % 4294967296=oo at hone ⊢
       generalize (tk+x6+y6+K) % 4294967296=z3
       generalize ((tk+x6) % 4294967296+y6) % 4294967296=z2
       generalize (tk+x6) % 4294967296=z1
       have HONE:=hZ hone
       clear hone
       have f0:wr.frozen? ⟨vb,0,none⟩=false:=frozen_blk HV.out
       have f1:wr.frozen? ⟨vb,1,none⟩=false:=frozen_blk HV.out
       have f2:wr.frozen? ⟨vb,2,none⟩=false:=frozen_blk HV.out
       have f3:wr.frozen? ⟨vb,3,none⟩=false:=frozen_blk HV.out
       have f4:wr.frozen? ⟨vb,4,none⟩=false:=frozen_blk HV.out
       have f5:wr.frozen? ⟨vb,5,none⟩=false:=frozen_blk HV.out
       have f6:wr.frozen? ⟨vb,6,none⟩=false:=frozen_blk HV.out
       have f7:wr.frozen? ⟨vb,7,none⟩=false:=frozen_blk HV.out
       go_wp2_with (first | (go_at_call_of 96 (Value.int .i64 (2:Int));refine (refTurn_any _ 2 (by decide) _).mono ?_;rintro e' w' ⟨rfl,q2,rfl⟩) | (go_at_call_of 96 (Value.int .i64 (13:Int));refine (refTurn_any _ 13 (by decide) _).mono ?_;rintro e' w' ⟨rfl,q13,rfl⟩) | (go_at_call_of 96 (Value.int .i64 (22:Int));refine (refTurn_any _ 22 (by decide) _).mono ?_;rintro e' w' ⟨rfl,q22,rfl⟩))
       refine ⟨⟨i+1,by omega,by rw [Int.natCast_add];rfl,hZ (((((((((HO.out.draws _).setCell _ _ (fun _=>rfl)).setCell _ _ (fun _=>rfl)).setCell _ _ (fun _=>rfl)).setCell _ _ (fun _=>rfl)).setCell _ _ (fun _=>rfl)).setCell _ _ (fun _=>rfl)).setCell _ _ (fun _=>rfl)).setCell _ _ (fun _=>rfl)),hZ ?_⟩,by simp [intOf];omega⟩
       rw [← HT1.out]
       refine (set8 (W:=wr.drewN _) (T:=⟨ta,tb,tc,td,te,tf,tg,tk⟩) HV.out _ _ _ _ _ _ _ _).trans ?_
       have hr:rnd ⟨ta,tb,tc,td,te,tf,tg,tk⟩ K y=⟨(oo+rtwo ⟨ta,tb,tc,td,te,tf,tg,tk⟩) % 4294967296,ta,tb,tc,(td+oo) % 4294967296,te,tf,tg⟩:=by
        unfold rnd
        rw [HONE.out]
       rw [hr]
       refine congrArg (fun x=>some (Obj.cells #[Value.int .u32 x,u32V ta,u32V tb,u32V tc,u32V ((td+oo) % 4294967296),u32V te,u32V tf,u32V tg] 97 (0,0))) ?_
       unfold rtwo
       simp only []
       omega
      ·obtain rfl:i=64:=by omega
       obtain ⟨T,hT⟩:∃ t,rnds h (sch r 48) 64=t:=⟨_,rfl⟩
       rw [hT] at HV
       have HT:=hZ hT
       clear hT
       obtain ⟨W3,hW3⟩:∃ W,W=wr:=⟨_,rfl⟩
       rw [← hW3] at HV HO ⊢
       have HVZ:=hZ (blk_lt HV.out)
       have HVB3:=hZ (show w.heap.size≤vb from HVB.out ▸ HB.out.size)
       clear hW3
       go_wp2_with fail
       go_loopw [22,23] (fun v iv wx=>∃ k:Nat,(k:Int)≤8∧iv=.int .i64 k∧Hid (RowC W3.heap.size ((List.range k).map fun j=>u32V (CR.at j)) v wx)∧Hid (Below W3.heap.size W3 wx)) (fun _ iv _=>8 - (intOf iv).toNat)
       case atStart=>exact ⟨0,by omega,rfl,hZ (RowC.nil _ _),hZ (Below.refl _ _)⟩
       case round =>
        obtain ⟨k,hk,rfl,HR4,HB4⟩:=hrel
        by_cases hlt:(k:Int) < 8
        ·have hk8:k < 8:=by omega
         have hz3:vb≤W3.heap.size:=Nat.le_of_lt HVZ.out
         have hhg:hg < w.heap.size:=HI.out.hl
         have ch:wr.cell? ⟨hg,k,none⟩=some (.int .u32 (h.at k)):=by
          refine (HB4.out.cell (p:=⟨hg,k,none⟩) (by have:=HVB3.out;show hg < _;omega)).trans ?_
          refine (HO.out.cell (p:=⟨hg,k,none⟩) (by have:=HB.out.size;have:=HB0.out.size;show hg < _;omega) (by have:=HVB3.out;show ¬ hg=vb;omega)).trans ?_
          refine (HB0.out.cell (p:=⟨hg,k,none⟩) (by have:=HB.out.size;show hg < _;omega)).trans ?_
          exact (HB.out.cell (p:=⟨hg,k,none⟩) hhg).trans (HI.out.hc k hk8)
         have cv:wr.cell? ⟨vb,k,none⟩=some (.int .u32 (T.at k)):=by
          refine (HB4.out.cell (p:=⟨vb,k,none⟩) HVZ.out).trans ?_
          rw [cell_of_heapN HV.out]
          rcases (show k=0∨k=1∨k=2∨k=3∨k=4∨k=5∨k=6∨k=7 by omega) with rfl | rfl | rfl | rfl | rfl | rfl | rfl | rfl <;> rfl
         have hadd:CR.at k=(h.at k+T.at k) % 4294967296:=by
          rw [← HCR.out]
          unfold compress
          rw [HT.out]
          rcases (show k=0∨k=1∨k=2∨k=3∨k=4∨k=5∨k=6∨k=7 by omega) with rfl | rfl | rfl | rfl | rfl | rfl | rfl | rfl <;> rfl
         generalize T.at k=y at cv hadd
         generalize h.at k=x at ch hadd
         have HADD:=hZ hadd
         have C:Hid ((∀ W,GrA wr W→W.cell? ⟨hg,k,none⟩=some (.int .u32 x))∧(∀ W,GrA wr W→W.cell? ⟨vb,k,none⟩=some (.int .u32 y))) :=
          hZ ⟨fun W hI=>(Below.cell hI (p:=⟨hg,k,none⟩) (by have:=HB4.out.size;have:=HVB3.out;show hg < _;omega)).trans ch,fun W hI=>(Below.cell hI (p:=⟨vb,k,none⟩) (by have:=HB4.out.size;have:=HVZ.out;show vb < _;omega)).trans cv⟩
         have hll:((List.range k).map fun j=>u32V (CR.at j)).length=k:=by rw [List.length_map,List.length_range]
         obtain ⟨p,cap,rfl,-⟩:=HR4.out.slice
         rw [hll] at HR4 ⊢
         have HLL:=hZ hll
         clear hll ch cv hadd hz3 hhg
         go_wp2_with fail
         have hI0:GrA wr wr.drew:=(Below.refl _ _).drew
         have hp0:(0:Int)≤k:=by omega
         have ht0:(k:Int).toNat=k:=by omega
         refine wp_region_make (GrA wr) (GrB wr (.int .u32 ((x+y) % 4294967296))) 9 (fun b=>.slice (some ⟨b,0,none⟩) 1 1) 10 (fun _ _ hB=>hB.1) (by kernel_rfl) (by kernel_rfl) hI0 ?_
         clear hI0
         simp only [List.take_succ_cons,List.take_zero,List.drop_succ_cons,List.drop_zero]
         iterate 9 refine .inr ⟨by decide,_,yg_still rfl (fun W hI=>by have d0:=C.out.1 W hI;have d1:=C.out.2 W hI;(go_simp;try simp only [hp0,hlt,ht0,and_self,if_true];try go_simp) <;> rfl),?_⟩
         refine .inl ⟨rfl,⟨rfl,fun W hI=>.inl ⟨W.heap.size,W.alloc (.cells #[.int .u32 ((x+y) % 4294967296)] 96),by go_simp;rfl,⟨Below.trans hI ((Below.refl _ _).alloc (Below.size hI) _),Below.size hI,heap_new _ _⟩⟩⟩,?_⟩
         rintro b8 W8 hI8
         change wpList _ _ _ _ _ W8
         simp only [Act.put,List.setIfInBounds_toArray,List.set_cons_succ,List.set_cons_zero]
         have H8:=hZ hI8
         have hc8:W8.cell? ((⟨b8,0,none⟩:Addr).add 0)=some (.int .u32 ((x+y) % 4294967296)):=by
          rw [show ((⟨b8,0,none⟩:Addr).add 0)=⟨b8,0,none⟩ by simp [Addr.add]]
          exact cell_of_heapN hI8.2.2
         have HC8:=hZ hc8
         clear hI8 hc8
         go_wp2_with (first | (at_builtin;refine wpList_appC rfl _ _ 95 rfl W3.heap.size 96 i0 (.int .u32 0) 4 Tryz.underlying95 hinf hz0 hz1 hz2 rfl _ _ rfl (HR4.out.keep H8.out.1) (.int .u32 ((x+y) % 4294967296)) ⟨b8,0,none⟩ rfl HC8.out rfl (by rw [HLL.out];unfold maxLen;omega) (by rw [HLL.out];omega) (Nat.le_trans HB4.out.size (Below.size H8.out.1)) ?_;intro v1 w1 hr1 hb1;have HR1:=hZ hr1;have HB2:=hZ (HB4.out.trans ((Below.mono H8.out.1 HB4.out.size).trans hb1));clear hr1 hb1) | go_in)
         case roundEnd =>
          refine ⟨⟨k+1,by omega,by rw [Int.natCast_add];rfl,hZ ?_,HB2⟩,by simp [intOf];omega⟩
          rw [List.range_succ,List.map_append,List.map_singleton,HADD.out]
          exact HR1.out
        ·obtain rfl:k=8:=by omega
         go_wp2_with fail
         go_ret
         have e1:=HO.out.toBelow (B:=w.heap.size) (fun k hk=>by have:=HVB3.out;omega) (Nat.le_trans HB.out.size HB0.out.size)
         refine ⟨_,rfl,HR4.out.lower (by have:=HVB3.out;have:=HVZ.out;omega),((HB.out.trans (HB0.out.mono HB.out.size)).trans e1).trans (HB4.out.mono (by have:=HVB3.out;have:=HVZ.out;omega))⟩
end Go.Proofs.YtecgikanophonaaGreatDoor
/- Contract of strataref03.Sum. -/
namespace Go.Proofs.YtecgikanophonaaGreatDoor
open Go Go.RowKit
def BeginR (w:World):Prop:=(∀ j,j < 8→w.cell? ⟨0,j,none⟩=some (.int .u32 (r8i.at j)))∧0 < w.heap.size
def Nums8 (w:World) (v:Value) (h:R8):Prop:=∃ g c,v=.slice (some ⟨g,0,none⟩) 8 c∧g < w.heap.size∧∀ j,j < 8→w.cell? ⟨g,j,none⟩=some (.int .u32 (h.at j))
theorem Nums8.ofRow {B:Nat} {w:World} {v:Value} {h:R8} (hr:RowC B ((List.range 8).map fun j=>u32V (h.at j)) v w):Nums8 w v h:=by
 rcases hr with ⟨-,h0⟩ | ⟨g,cap,rfl,-,h3,-,-,h6,-⟩
 ·cases h0
 ·exact ⟨g,cap,rfl,h3,fun j hj=>h6 j _ (by rw [List.getElem?_map,List.getElem?_range hj];rfl)⟩
theorem padB_pos (l:List UInt8):0 < (padB l).length:=by
 unfold padB
 rw [List.length_append,List.length_append,List.length_append,List.length_singleton]
 omega
theorem padB_le (l:List UInt8):(padB l).length≤l.length+72:=by
 unfold padB zeros len8
 simp only [List.length_append,List.length_replicate,List.length_cons,List.length_nil,List.length_map]
 omega
end Go.Proofs.YtecgikanophonaaGreatDoor
/- Contract of strataref03.Sum, at every text that an argument may be. -/
namespace Go.Proofs.YtecgikanophonaaGreatDoor
open Go Go.RowKit
theorem refPadB_any (s:ByteArray) (w:World) (hs:s.size≤140737488352256) :
  Calls Tryz.prog 42 #[.string s] w fun e w'=>∃ v,e=.returned v∧RowC w.heap.size ((padB s.data.toList).map byteV) v w'∧Below w.heap.size w w':=by
 obtain ⟨i0,hi,hz0,hz1,hz2⟩:=info_parts infoB
 have hcv:=Lib.run_convert_string_bytes (P:=Tryz.prog) w 9 98 5 s Tryz.underlying9 Tryz.underlying98 Tryz.underlying5
 obtain ⟨hrow,hbel⟩:=rowC_conv w 5 s w.heap.size (Nat.le_refl _) (by unfold maxLen;omega)
 generalize Lib.bytesWorld w 5 s=W1 at hcv hrow hbel
 generalize grownCap w s.size 0 5=cp at hcv hrow
 have HROW:=hZ hrow
 have HB1:=hZ hbel
 have hll:(s.data.toList.map byteV).length=s.size:=by rw [List.length_map];exact Array.length_toList
 have HLL:=hZ hll
 clear hrow hbel hll
 go_enter Tryz.func42,Tryz.ntmps42
 go_wp2_with (at_builtin;refine wpList_appC rfl _ _ 98 rfl w.heap.size 5 i0 (.int .u8 0) 1 Tryz.underlying98 hi hz0 hz1 hz2 rfl (s.data.toList.map byteV) _ rfl (HROW.out.keep ((Below.refl _ _).alloc (Nat.le_refl _) _)) (byteV 128) ⟨W1.heap.size,0,none⟩ rfl (new1 W1 128 _ 0 _ rfl) rfl (by rw [HLL.out];unfold maxLen;omega) (by rw [HLL.out];omega) (by rw [World.size_alloc];have:=HB1.out.size;omega) ?_;intro v1 w1 hr1 hb1;have HR1:=hZ hr1;have HB2:=hZ hb1;clear hr1 hb1)
 have hn:s.data.toList.length=s.size:=Array.length_toList
 have HN:=hZ hn
 have hz63:zeros s.size≤63:=by unfold zeros;omega
 have HR0:Hid (RowC w.heap.size ((s.data.toList ++ [128] ++ List.replicate 0 0).map byteV) v1 w1):=hZ (by rw [List.replicate_zero,List.append_nil,List.map_append];exact HR1.out)
 have HB0:Hid (Below w.heap.size w w1):=hZ (HB1.out.trans (((Below.refl w.heap.size W1).alloc HB1.out.size _).trans HB2.out))
 clear HR1 HB2 HROW HB1 hcv hn
 go_loopw [3] (fun v wr=>∃ j:Nat,j≤zeros s.size∧Hid (RowC w.heap.size ((s.data.toList ++ [128] ++ List.replicate j 0).map byteV) v wr)∧Hid (Below w.heap.size w wr)) (fun v _=>lenZ v)
 case atStart=>exact ⟨0,Nat.zero_le _,HR0,HB0⟩
 case round =>
  obtain ⟨j,hj,HR,HB⟩:=hrel
  have hlj:((s.data.toList ++ [128] ++ List.replicate j 0).map byteV).length=s.size+1+j:=by
   rw [List.length_map,List.length_append,List.length_append,HN.out,List.length_replicate]
   rfl
  obtain ⟨p,cap,rfl,-⟩:=HR.out.slice
  rw [hlj] at HR ⊢
  have HLJ:=hZ hlj
  have hzz:zeros s.size=(119 - s.size % 64) % 64:=rfl
  by_cases h56:((s.size+1+j:Nat):Int) % 64=56
  ·have hjz:j=zeros s.size:=by omega
   subst hjz
   clear hlj hzz hj
   go_wp2_with fail
   have hbb:((((s.size:Int)+1+(zeros s.size:Int)) % 64 != 56):Bool)=false:=by
    rw [Int.natCast_add,Int.natCast_add] at h56
    exact bne_eq_false_iff_eq.2 h56
   simp only [hbb]
   go_loopw [3,4] (fun v iv wr=>∃ m:Nat,(m:Int)≤8∧iv=.int .i64 (7 - (m:Int))∧Hid (RowC w.heap.size ((s.data.toList ++ [128] ++ List.replicate (zeros s.size) 0 ++ (len8 s.size).take m).map byteV) v wr)∧Hid (Below w.heap.size w wr)) (fun _ iv _=>(intOf iv+1).toNat)
   case atStart=>exact ⟨0,by omega,rfl,hZ (by rw [List.take_zero,List.append_nil];exact HR.out),HB⟩
   case round =>
    obtain ⟨m,hm,rfl,HR,HB⟩:=hrel
    have hlm:((s.data.toList ++ [128] ++ List.replicate (zeros s.size) 0 ++ (len8 s.size).take m).map byteV).length=s.size+1+zeros s.size+m:=by
     rw [List.length_map,List.length_append,List.length_append,List.length_append,HN.out,List.length_replicate,List.length_take]
     show s.size+1+zeros s.size+min m 8=_
     omega
    have HLJ:=hZ hlm
    by_cases hlt:(m:Int) < 8
    ·rcases (show m=0∨m=1∨m=2∨m=3∨m=4∨m=5∨m=6∨m=7 by omega) with rfl | rfl | rfl | rfl | rfl | rfl | rfl | rfl
     ·clear hlm
      go_wp2_with (first | (at_builtin;refine wpList_appC rfl _ _ 98 rfl w.heap.size 5 i0 (.int .u8 0) 1 Tryz.underlying98 hi hz0 hz1 hz2 rfl _ _ rfl (HR.out.keep ((Below.refl _ _).alloc (Nat.le_refl _) _)) _ ⟨wr.heap.size,0,none⟩ rfl (newV wr _ _) rfl (by rw [HLJ.out];unfold maxLen;omega) (by rw [HLJ.out];omega) (by rw [World.size_alloc];have:=HB.out.size;omega) ?_;intro v1 w1 hr1 hb1;have HR1:=hZ hr1;have HB2:=hZ (HB.out.trans (((Below.refl w.heap.size wr).alloc HB.out.size _).trans hb1));clear hr1 hb1) | go_in)
      go_roundw
      case rel =>
       refine ⟨1,by omega,rfl,hZ ?_,HB2⟩
       rw [show s.data.toList ++ [128] ++ List.replicate (zeros s.size) 0 ++ (len8 s.size).take 1=(s.data.toList ++ [128] ++ List.replicate (zeros s.size) 0 ++ (len8 s.size).take 0) ++ [UInt8.ofNat (8 * s.size / 2 ^ 56)] from app_take _ (show (len8 s.size).take 1=(len8 s.size).take 0 ++ [UInt8.ofNat (8 * s.size / 2 ^ 56)] from rfl),List.map_append]
       refine Eq.mp (congrArg (fun u=>RowC w.heap.size (_ ++ [u]) v1 w1) (congrArg (Value.int .u8) ?_)) HR1.out
       rw [UInt8.toNat_ofNat']
       omega
      case measure=>simp [intOf]
     ·clear hlm
      go_wp2_with (first | (at_builtin;refine wpList_appC rfl _ _ 98 rfl w.heap.size 5 i0 (.int .u8 0) 1 Tryz.underlying98 hi hz0 hz1 hz2 rfl _ _ rfl (HR.out.keep ((Below.refl _ _).alloc (Nat.le_refl _) _)) _ ⟨wr.heap.size,0,none⟩ rfl (newV wr _ _) rfl (by rw [HLJ.out];unfold maxLen;omega) (by rw [HLJ.out];omega) (by rw [World.size_alloc];have:=HB.out.size;omega) ?_;intro v1 w1 hr1 hb1;have HR1:=hZ hr1;have HB2:=hZ (HB.out.trans (((Below.refl w.heap.size wr).alloc HB.out.size _).trans hb1));clear hr1 hb1) | go_in)
      go_roundw
      case rel =>
       refine ⟨2,by omega,rfl,hZ ?_,HB2⟩
       rw [show s.data.toList ++ [128] ++ List.replicate (zeros s.size) 0 ++ (len8 s.size).take 2=(s.data.toList ++ [128] ++ List.replicate (zeros s.size) 0 ++ (len8 s.size).take 1) ++ [UInt8.ofNat (8 * s.size / 2 ^ 48)] from app_take _ (show (len8 s.size).take 2=(len8 s.size).take 1 ++ [UInt8.ofNat (8 * s.size / 2 ^ 48)] from rfl),List.map_append]
       refine Eq.mp (congrArg (fun u=>RowC w.heap.size (_ ++ [u]) v1 w1) (congrArg (Value.int .u8) ?_)) HR1.out
       rw [UInt8.toNat_ofNat']
       omega
      case measure=>simp [intOf]
     ·clear hlm
      go_wp2_with (first | (at_builtin;refine wpList_appC rfl _ _ 98 rfl w.heap.size 5 i0 (.int .u8 0) 1 Tryz.underlying98 hi hz0 hz1 hz2 rfl _ _ rfl (HR.out.keep ((Below.refl _ _).alloc (Nat.le_refl _) _)) _ ⟨wr.heap.size,0,none⟩ rfl (newV wr _ _) rfl (by rw [HLJ.out];unfold maxLen;omega) (by rw [HLJ.out];omega) (by rw [World.size_alloc];have:=HB.out.size;omega) ?_;intro v1 w1 hr1 hb1;have HR1:=hZ hr1;have HB2:=hZ (HB.out.trans (((Below.refl w.heap.size wr).alloc HB.out.size _).trans hb1));clear hr1 hb1) | go_in)
      go_roundw
      case rel =>
       refine ⟨3,by omega,rfl,hZ ?_,HB2⟩
       rw [show s.data.toList ++ [128] ++ List.replicate (zeros s.size) 0 ++ (len8 s.size).take 3=(s.data.toList ++ [128] ++ List.replicate (zeros s.size) 0 ++ (len8 s.size).take 2) ++ [UInt8.ofNat (8 * s.size / 2 ^ 40)] from app_take _ (show (len8 s.size).take 3=(len8 s.size).take 2 ++ [UInt8.ofNat (8 * s.size / 2 ^ 40)] from rfl),List.map_append]
       refine Eq.mp (congrArg (fun u=>RowC w.heap.size (_ ++ [u]) v1 w1) (congrArg (Value.int .u8) ?_)) HR1.out
       rw [UInt8.toNat_ofNat']
       omega
      case measure=>simp [intOf]
     ·clear hlm
      go_wp2_with (first | (at_builtin;refine wpList_appC rfl _ _ 98 rfl w.heap.size 5 i0 (.int .u8 0) 1 Tryz.underlying98 hi hz0 hz1 hz2 rfl _ _ rfl (HR.out.keep ((Below.refl _ _).alloc (Nat.le_refl _) _)) _ ⟨wr.heap.size,0,none⟩ rfl (newV wr _ _) rfl (by rw [HLJ.out];unfold maxLen;omega) (by rw [HLJ.out];omega) (by rw [World.size_alloc];have:=HB.out.size;omega) ?_;intro v1 w1 hr1 hb1;have HR1:=hZ hr1;have HB2:=hZ (HB.out.trans (((Below.refl w.heap.size wr).alloc HB.out.size _).trans hb1));clear hr1 hb1) | go_in)
      go_roundw
      case rel =>
       refine ⟨4,by omega,rfl,hZ ?_,HB2⟩
       rw [show s.data.toList ++ [128] ++ List.replicate (zeros s.size) 0 ++ (len8 s.size).take 4=(s.data.toList ++ [128] ++ List.replicate (zeros s.size) 0 ++ (len8 s.size).take 3) ++ [UInt8.ofNat (8 * s.size / 2 ^ 32)] from app_take _ (show (len8 s.size).take 4=(len8 s.size).take 3 ++ [UInt8.ofNat (8 * s.size / 2 ^ 32)] from rfl),List.map_append]
       refine Eq.mp (congrArg (fun u=>RowC w.heap.size (_ ++ [u]) v1 w1) (congrArg (Value.int .u8) ?_)) HR1.out
       rw [UInt8.toNat_ofNat']
       omega
      case measure=>simp [intOf]
     ·clear hlm
      go_wp2_with (first | (at_builtin;refine wpList_appC rfl _ _ 98 rfl w.heap.size 5 i0 (.int .u8 0) 1 Tryz.underlying98 hi hz0 hz1 hz2 rfl _ _ rfl (HR.out.keep ((Below.refl _ _).alloc (Nat.le_refl _) _)) _ ⟨wr.heap.size,0,none⟩ rfl (newV wr _ _) rfl (by rw [HLJ.out];unfold maxLen;omega) (by rw [HLJ.out];omega) (by rw [World.size_alloc];have:=HB.out.size;omega) ?_;intro v1 w1 hr1 hb1;have HR1:=hZ hr1;have HB2:=hZ (HB.out.trans (((Below.refl w.heap.size wr).alloc HB.out.size _).trans hb1));clear hr1 hb1) | go_in)
      go_roundw
      case rel =>
       refine ⟨5,by omega,rfl,hZ ?_,HB2⟩
       rw [show s.data.toList ++ [128] ++ List.replicate (zeros s.size) 0 ++ (len8 s.size).take 5=(s.data.toList ++ [128] ++ List.replicate (zeros s.size) 0 ++ (len8 s.size).take 4) ++ [UInt8.ofNat (8 * s.size / 2 ^ 24)] from app_take _ (show (len8 s.size).take 5=(len8 s.size).take 4 ++ [UInt8.ofNat (8 * s.size / 2 ^ 24)] from rfl),List.map_append]
       refine Eq.mp (congrArg (fun u=>RowC w.heap.size (_ ++ [u]) v1 w1) (congrArg (Value.int .u8) ?_)) HR1.out
       rw [UInt8.toNat_ofNat']
       omega
      case measure=>simp [intOf]
     ·clear hlm
      go_wp2_with (first | (at_builtin;refine wpList_appC rfl _ _ 98 rfl w.heap.size 5 i0 (.int .u8 0) 1 Tryz.underlying98 hi hz0 hz1 hz2 rfl _ _ rfl (HR.out.keep ((Below.refl _ _).alloc (Nat.le_refl _) _)) _ ⟨wr.heap.size,0,none⟩ rfl (newV wr _ _) rfl (by rw [HLJ.out];unfold maxLen;omega) (by rw [HLJ.out];omega) (by rw [World.size_alloc];have:=HB.out.size;omega) ?_;intro v1 w1 hr1 hb1;have HR1:=hZ hr1;have HB2:=hZ (HB.out.trans (((Below.refl w.heap.size wr).alloc HB.out.size _).trans hb1));clear hr1 hb1) | go_in)
      go_roundw
      case rel =>
       refine ⟨6,by omega,rfl,hZ ?_,HB2⟩
       rw [show s.data.toList ++ [128] ++ List.replicate (zeros s.size) 0 ++ (len8 s.size).take 6=(s.data.toList ++ [128] ++ List.replicate (zeros s.size) 0 ++ (len8 s.size).take 5) ++ [UInt8.ofNat (8 * s.size / 2 ^ 16)] from app_take _ (show (len8 s.size).take 6=(len8 s.size).take 5 ++ [UInt8.ofNat (8 * s.size / 2 ^ 16)] from rfl),List.map_append]
       refine Eq.mp (congrArg (fun u=>RowC w.heap.size (_ ++ [u]) v1 w1) (congrArg (Value.int .u8) ?_)) HR1.out
       rw [UInt8.toNat_ofNat']
       omega
      case measure=>simp [intOf]
     ·clear hlm
      go_wp2_with (first | (at_builtin;refine wpList_appC rfl _ _ 98 rfl w.heap.size 5 i0 (.int .u8 0) 1 Tryz.underlying98 hi hz0 hz1 hz2 rfl _ _ rfl (HR.out.keep ((Below.refl _ _).alloc (Nat.le_refl _) _)) _ ⟨wr.heap.size,0,none⟩ rfl (newV wr _ _) rfl (by rw [HLJ.out];unfold maxLen;omega) (by rw [HLJ.out];omega) (by rw [World.size_alloc];have:=HB.out.size;omega) ?_;intro v1 w1 hr1 hb1;have HR1:=hZ hr1;have HB2:=hZ (HB.out.trans (((Below.refl w.heap.size wr).alloc HB.out.size _).trans hb1));clear hr1 hb1) | go_in)
      go_roundw
      case rel =>
       refine ⟨7,by omega,rfl,hZ ?_,HB2⟩
       rw [show s.data.toList ++ [128] ++ List.replicate (zeros s.size) 0 ++ (len8 s.size).take 7=(s.data.toList ++ [128] ++ List.replicate (zeros s.size) 0 ++ (len8 s.size).take 6) ++ [UInt8.ofNat (8 * s.size / 2 ^ 8)] from app_take _ (show (len8 s.size).take 7=(len8 s.size).take 6 ++ [UInt8.ofNat (8 * s.size / 2 ^ 8)] from rfl),List.map_append]
       refine Eq.mp (congrArg (fun u=>RowC w.heap.size (_ ++ [u]) v1 w1) (congrArg (Value.int .u8) ?_)) HR1.out
       rw [UInt8.toNat_ofNat']
       omega
      case measure=>simp [intOf]
     ·clear hlm
      go_wp2_with (first | (at_builtin;refine wpList_appC rfl _ _ 98 rfl w.heap.size 5 i0 (.int .u8 0) 1 Tryz.underlying98 hi hz0 hz1 hz2 rfl _ _ rfl (HR.out.keep ((Below.refl _ _).alloc (Nat.le_refl _) _)) _ ⟨wr.heap.size,0,none⟩ rfl (newV wr _ _) rfl (by rw [HLJ.out];unfold maxLen;omega) (by rw [HLJ.out];omega) (by rw [World.size_alloc];have:=HB.out.size;omega) ?_;intro v1 w1 hr1 hb1;have HR1:=hZ hr1;have HB2:=hZ (HB.out.trans (((Below.refl w.heap.size wr).alloc HB.out.size _).trans hb1));clear hr1 hb1) | go_in)
      go_roundw
      case rel =>
       refine ⟨8,by omega,rfl,hZ ?_,HB2⟩
       rw [show s.data.toList ++ [128] ++ List.replicate (zeros s.size) 0 ++ (len8 s.size).take 8=(s.data.toList ++ [128] ++ List.replicate (zeros s.size) 0 ++ (len8 s.size).take 7) ++ [UInt8.ofNat (8 * s.size / 2 ^ 0)] from app_take _ (show (len8 s.size).take 8=(len8 s.size).take 7 ++ [UInt8.ofNat (8 * s.size / 2 ^ 0)] from rfl),List.map_append]
       refine Eq.mp (congrArg (fun u=>RowC w.heap.size (_ ++ [u]) v1 w1) (congrArg (Value.int .u8) ?_)) HR1.out
       rw [UInt8.toNat_ofNat']
       omega
      case measure=>simp [intOf]
    ·obtain rfl:m=8:=by omega
     go_wp2_with fail
     go_ret
     refine ⟨_,rfl,?_,HB.out⟩
     have hp:padB s.data.toList=s.data.toList ++ [128] ++ List.replicate (zeros s.size) 0 ++ (len8 s.size).take 8:=by
      unfold padB
      rw [HN.out]
      rfl
     rw [hp]
     exact HR.out
  ·have hjz:j < zeros s.size:=by omega
   go_wp2_with (first | (at_builtin;refine wpList_appC rfl _ _ 98 rfl w.heap.size 5 i0 (.int .u8 0) 1 Tryz.underlying98 hi hz0 hz1 hz2 rfl _ _ rfl (HR.out.keep ((Below.refl _ _).alloc (Nat.le_refl _) _)) _ ⟨wr.heap.size,0,none⟩ rfl (newV wr _ _) rfl (by rw [HLJ.out];unfold maxLen;omega) (by rw [HLJ.out];omega) (by rw [World.size_alloc];have:=HB.out.size;omega) ?_;intro v1 w1 hr1 hb1;have HR1:=hZ hr1;have HB2:=hZ (HB.out.trans (((Below.refl w.heap.size wr).alloc HB.out.size _).trans hb1));clear hr1 hb1) | go_in)
   case roundEnd =>
    have hl1:((s.data.toList ++ [128] ++ List.replicate j 0).map byteV ++ [Value.int .u8 0])=(s.data.toList ++ [128] ++ List.replicate (j+1) 0).map byteV:=by
     rw [List.replicate_succ',← List.append_assoc,List.map_append (l₂:=[0])]
     rfl
    rw [hl1] at HR1
    obtain ⟨p1,cap1,rfl,-⟩:=HR1.out.slice
    refine ⟨⟨j+1,by omega,HR1,HB2⟩,?_⟩
    have hl2:((s.data.toList ++ [128] ++ List.replicate (j+1) 0).map byteV).length=s.size+1+(j+1):=by
     rw [← hl1,List.length_append,HLJ.out]
     rfl
    rw [hl2]
    show (120 - (s.size+1+(j+1)) % 64) % 64 < (120 - (s.size+1+j) % 64) % 64
    omega
theorem refSumB_any (x:Int) (s:ByteArray) (w:World) (hK:RoundsR w) (hG:BeginR w) (hs:s.size≤140737488352256) :
  Calls Tryz.prog 13 #[.int .i64 x,.string s] w fun e w'=>e=.returned (.agg (shaL x s).toArray)∧Below w.heap.size w w':=by
 have HK:=hZ hK
 have HG:=hZ hG
 clear hK hG
 obtain ⟨P,hP⟩:∃ P,padB s.data.toList=P:=⟨_,rfl⟩
 have HLP:=hZ (show P.length % 64=0∧0 < P.length∧P.length≤s.size+72 from by
  rw [← hP]
  exact ⟨padB_length _,padB_pos _,Nat.le_trans (padB_le _) (by rw [Array.length_toList];exact Nat.le_refl _)⟩)
 have HP:=hZ hP
 go_enter Tryz.func13,Tryz.ntmps13
 go_wp2_with fail
 refine (refPadB_any s _ hs).mono ?_
 rintro e w1 ⟨v6,rfl,hrow,hb1⟩
 rw [hP] at hrow
 rw [World.size_alloc] at hrow hb1
 clear hP
 have hb1':Below w.heap.size w w1:=((Below.refl w.heap.size w).alloc (Nat.le_refl _) _).trans (hb1.mono (by omega))
 have hr1:w1.heap[w.heap.size]?=some (.cells z32 33 (0,0)):=(hb1.block _ (by omega)).trans (heap_new _ _)
 have HB1:=hZ hb1'
 have HR1:=hZ hr1
 have HZ1:=hZ (blk_lt hr1)
 clear hb1 hb1' hr1
 rcases hrow with ⟨-,h0⟩ | ⟨g,cap,rfl,hg1,hg2,hg3,hg4,hg6,-⟩
 ·have:=HLP.out.2.1
  rw [List.map_eq_nil_iff] at h0
  rw [h0] at this
  cases this
 rw [List.length_map] at hg3 ⊢
 have HC:=hZ hg6
 have HGG:=hZ (show w.heap.size+1≤g∧g < w1.heap.size from ⟨hg1,hg2⟩)
 have HCAP:=hZ (show P.length≤cap∧cap≤maxLen from ⟨hg3,hg4⟩)
 obtain ⟨L,hL⟩:∃ L,P.length=L:=⟨_,rfl⟩
 rw [hL] at HLP HCAP ⊢
 have HL:=hZ hL
 clear hg6 hg1 hg2 hg3 hg4 hL
 go_wp2_with fail
 go_loopw [5,7] (fun v iv wr=>∃ j:Nat,64 * j≤L∧iv=.int .i64 ((64 * j:Nat):Int)∧Hid (Nums8 wr v (chunks compress r8i P j))∧Hid (Below w1.heap.size w1 wr)) (fun _ iv _=>L - (intOf iv).toNat)
 case atStart=>exact ⟨0,by omega,rfl,hZ ⟨_,_,rfl,Nat.lt_of_lt_of_le HG.out.2 HB1.out.size,fun j hj=>(HB1.out.cell (p:=⟨0,j,none⟩) HG.out.2).trans (HG.out.1 j hj)⟩,hZ (Below.refl _ _)⟩
 case round =>
  obtain ⟨j,hj,rfl,HN,HB⟩:=hrel
  have hl2:L≤140737488355328:=by have:=HLP.out.2.2;omega
  by_cases hlt:((64 * j:Nat):Int) < L
  ·have hj64:64 * j+64≤L:=by have:=HLP.out.1;omega
   obtain ⟨hg,c1,rfl,hgl,hgc⟩:=HN.out
   have hI:BlkIn wr hg g (64 * j) (chunks compress r8i P j) ((P.drop (64 * j)).take 64):=by
    refine ⟨hgl,Nat.lt_of_lt_of_le HGG.out.2 HB.out.size,hgc,by rw [List.length_take,List.length_drop,HL.out];omega,fun k hk=>?_⟩
    refine (HB.out.cell (p:=⟨g,64 * j+k,none⟩) HGG.out.2).trans (HC.out _ _ ?_)
    have hkl:64 * j+k < P.length:=by rw [HL.out];omega
    rw [List.getElem?_map,List.getElem?_eq_getElem hkl,List.getD_eq_getElem?_getD,List.getElem?_take,if_pos hk,List.getElem?_drop,List.getElem?_eq_getElem hkl]
    rfl
   have hKr:RoundsR wr:=⟨fun i k hk=>(HB.out.cell (p:=⟨2,i,none⟩) (Nat.lt_of_lt_of_le HK.out.2 HB1.out.size)).trans ((HB1.out.cell (p:=⟨2,i,none⟩) HK.out.2).trans (HK.out.1 i k hk)),Nat.lt_of_lt_of_le HK.out.2 (Nat.le_trans HB1.out.size HB.out.size)⟩
   have hc:=fun c2=>refBlock_any (c1:=c1) (c2:=c2) hI hKr
   have hcap:=HCAP.out
   have hw:IntKind.i64.wrap (((64 * j:Nat):Int)+64)=((64 * j+64:Nat):Int):=by rw [IntKind.wrap_i64];omega
   obtain ⟨H1,hH1⟩:∃ H1,compress (chunks compress r8i P j) ((P.drop (64 * j)).take 64)=H1:=⟨_,rfl⟩
   rw [hH1] at hc
   have HH1:=hZ (show chunks compress r8i P (j+1)=H1 from hH1)
   have HCC:=hZ hc
   clear hI hKr hc hH1 hgc hgl HN
   obtain ⟨a,ha⟩:∃ a,64 * j=a:=⟨_,rfl⟩
   rw [ha] at hlt hj64 hw HCC ⊢
   go_wp2_with (first | (go_at_call 43;refine (HCC.out _).mono ?_;rintro e w2 ⟨v,rfl,hr2,hb2⟩;have HR2:=hZ hr2;have HB2:=hZ (HB.out.trans (hb2.mono HB.out.size));clear hr2 hb2) | go_in)
   case roundEnd =>
    have hw2:IntKind.i64.wrap ((a:Int)+64)=((64 * (j+1):Nat):Int):=by rw [hw];omega
    refine ⟨⟨j+1,by omega,by first | rw [hw2] | exact congrArg _ (show (a:Int)+64=((64 * (j+1):Nat):Int) by omega),hZ ?_,HB2⟩,by simp [intOf];omega⟩
    rw [HH1.out]
    exact Nums8.ofRow HR2.out
  ·obtain ⟨hg,c1,rfl,hgl,hgc⟩:=HN.out
   have hcs:chunks compress r8i P j=shaH compress r8i s.data.toList:=by
    unfold shaH
    rw [HP.out]
    congr 1
    rw [HL.out]
    omega
   rw [hcs] at hgc
   obtain ⟨V,hV⟩:∃ V,shaH compress r8i s.data.toList=V:=⟨_,rfl⟩
   rw [hV] at hgc
   have HGC:=hZ hgc
   have HGL:=hZ hgl
   have HV:=hZ hV
   clear hgc hgl hV hcs HN
   go_wp2_with fail
   obtain ⟨WZ,hWZ⟩:∃ z,wr.heap.size=z:=⟨_,rfl⟩
   have HW2:Hid (Below WZ wr (wr.alloc (.cells z32 33))):=hZ ((Below.refl _ _).alloc (by rw [hWZ];exact Nat.le_refl _) _)
   have HX2:Hid ((wr.alloc (.cells z32 33)).heap[WZ]?=some (.cells (digB V 0).toArray 33 (0,0))):=hZ (by rw [← hWZ,heap_new];rfl)
   have HWL:Hid (w.heap.size < wr.heap.size):=hZ (Nat.lt_of_lt_of_le HZ1.out HB.out.size)
   have HWZ:=hZ hWZ
   rw [hWZ] at HGL HWL ⊢
   clear hWZ
   go_loopw [9] (fun iv wx=>∃ i:Nat,(i:Int)≤wide x∧iv=.int .i64 i∧Hid (Below WZ wr wx)∧Hid (wx.heap[WZ]?=some (.cells (digB V i).toArray 33 (0,0)))) (fun iv _=>32 - (intOf iv).toNat)
   case atStart=>exact ⟨0,by unfold wide;omega,rfl,HW2,HX2⟩
   case round =>
    obtain ⟨i,hi,rfl,HB2,HD⟩:=hrel
    have hwd:wide x=min (max x 1) 32:=rfl
    by_cases hlt:(i:Int) < 32∧(i:Int) < (if x < 1 then 1 else x)
    ·obtain ⟨h32,hmx⟩:=hlt
     have hq:i / 4 < 8:=by omega
     obtain ⟨y,hy⟩:∃ y,V.at (i / 4)=y:=⟨_,rfl⟩
     have c1:wr.cell? ⟨hg,i / 4,none⟩=some (.int .u32 y):=by
      rw [← hy]
      exact (HB2.out.cell (p:=⟨hg,i / 4,none⟩) HGL.out).trans (HGC.out _ hq)
     have d0:wr.cell? ⟨WZ,i,none⟩=some (.int .u8 (if i < i then V.at (i / 4) / 2 ^ (24 - 8 * (i % 4)) % 256 else 0)):=by
      rw [cell_of_heapN HD.out,List.getElem?_toArray]
      unfold digB
      rw [List.getElem?_map,List.getElem?_range (by omega)]
      rfl
     have f0:wr.frozen? ⟨WZ,i,none⟩=false:=frozen_blk HD.out
     rw [if_neg (Nat.lt_irrefl i)] at d0
     have HY:=hZ hy
     have hle:((i+1:Nat):Int)≤wide x:=by
      unfold wide
      split at hmx <;> omega
     have HLE:=hZ hle
     clear hy hle hwd
     have hm:=Nat.mod_lt i (show 0 < 4 by omega)
     rcases (show i % 4=0∨i % 4=1∨i % 4=2∨i % 4=3 by omega) with hr4 | hr4 | hr4 | hr4
     ·have hr5:(i:Int) % 4=0:=by omega
      have HSET:=hZ (dig_set HD.out (show i < 32 by omega))
      go_wp2_with fail
      refine ⟨⟨i+1,HLE.out,by rw [Int.natCast_add];rfl,hZ (HB2.out.setCell (Nat.le_refl WZ) _),hZ ?_⟩,by simp [intOf];omega⟩
      have h:=HSET.out
      rw [HY.out,hr4,show (2:Int) ^ (24 - 8 * 0)=16777216 from by decide] at h
      exact h
     ·have hr5:(i:Int) % 4=1:=by omega
      have HSET:=hZ (dig_set HD.out (show i < 32 by omega))
      go_wp2_with fail
      refine ⟨⟨i+1,HLE.out,by rw [Int.natCast_add];rfl,hZ (HB2.out.setCell (Nat.le_refl WZ) _),hZ ?_⟩,by simp [intOf];omega⟩
      have h:=HSET.out
      rw [HY.out,hr4,show (2:Int) ^ (24 - 8 * 1)=65536 from by decide] at h
      exact h
     ·have hr5:(i:Int) % 4=2:=by omega
      have HSET:=hZ (dig_set HD.out (show i < 32 by omega))
      go_wp2_with fail
      refine ⟨⟨i+1,HLE.out,by rw [Int.natCast_add];rfl,hZ (HB2.out.setCell (Nat.le_refl WZ) _),hZ ?_⟩,by simp [intOf];omega⟩
      have h:=HSET.out
      rw [HY.out,hr4,show (2:Int) ^ (24 - 8 * 2)=256 from by decide] at h
      exact h
     ·have hr5:(i:Int) % 4=3:=by omega
      have HSET:=hZ (dig_set HD.out (show i < 32 by omega))
      go_wp2_with fail
      refine ⟨⟨i+1,HLE.out,by rw [Int.natCast_add];rfl,hZ (HB2.out.setCell (Nat.le_refl WZ) _),hZ ?_⟩,by simp [intOf];omega⟩
      have h:=HSET.out
      rw [HY.out,hr4,show (2:Int) ^ (24 - 8 * 3)=1 from by decide,Int.ediv_one] at h
      exact h
    ·obtain rfl:i=(wide x).toNat:=by
      unfold wide at hi ⊢
      by_cases hx:x < 1
      ·rw [if_pos hx] at hlt;omega
      ·rw [if_neg hx] at hlt;omega
     obtain ⟨n,hn⟩:∃ n,(wide x).toNat=n:=⟨_,rfl⟩
     rw [hn] at hlt HD ⊢
     have HN:=hZ hn
     clear hn hi hwd
     have hbx:wr.heap[w.heap.size]?=some (.cells z32 33 (0,0)):=(HB2.out.block w.heap.size HWL.out).trans ((HB.out.block _ HZ1.out).trans HR1.out)
     have hdl:(digB V n).length=32:=digB_len V n
     have HI33:(Tryz.prog.info? 33).map (·.size)=some (digB V n).length:=by rw [hdl];kernel_rfl
     have HU33:Tryz.prog.underlying 33=some _:=Tryz.underlying33
     have HRG:wr.rangeAt WZ 0 (digB V n):=fun j v hv=>by
      rw [Nat.zero_add,cell_of_heapN HD.out,List.getElem?_toArray]
      exact hv
     have hst:=store_digest hbx hdl (digB_one _ _)
     have HBX:=hZ hbx
     clear hbx
     have hne:¬ ((n:Int) < 32∧(n:Int) < (if x < 1 then 1 else x)):=hlt
     by_cases h32:(n:Int) < 32
     ·have hmx:¬ (n:Int) < (if x < 1 then 1 else x):=fun h=>hne ⟨h32,h⟩
      clear hne hlt
      go_wp2_with (first | refine wpList_load_mid rfl _ _ rfl WZ 0 rfl (digB V n) _ HRG HU33 rfl HI33 ?_)
      all_goals
       have hz4:w.heap.size < wr.heap.size:=blk_lt HBX.out
       refine bodyPost_ret (v:=.agg (digB V n).toArray) (results_cell_row (fn:=Tryz.f13) rfl _ _ w.heap.size 33 _ (0,0) _ rfl (setBlk_heap hz4) HU33 rfl (by rw [List.size_toArray];exact HI33)) rfl ⟨by unfold shaL;rw [HV.out,HN.out],?_⟩
       have e3:=((Off.refl (fun b=>b=w.heap.size) wr).setBlk (k:=w.heap.size) (o:=.cells (digB V n).toArray 33 (0,0)) (fun _=>rfl)).toBelow (B:=w.heap.size) (fun k hk=>by omega) (Nat.le_of_lt hz4)
       exact ((HB1.out.trans (HB.out.mono HB1.out.size)).trans (HB2.out.mono (Nat.le_of_lt HWL.out))).trans e3
     ·clear hne hlt
      go_wp2_with (first | refine wpList_load_mid rfl _ _ rfl WZ 0 rfl (digB V n) _ HRG HU33 rfl HI33 ?_)
      have hz4:w.heap.size < wr.heap.size:=blk_lt HBX.out
      refine bodyPost_ret (v:=.agg (digB V n).toArray) (results_cell_row (fn:=Tryz.f13) rfl _ _ w.heap.size 33 _ (0,0) _ rfl (setBlk_heap hz4) HU33 rfl (by rw [List.size_toArray];exact HI33)) rfl ⟨by unfold shaL;rw [HV.out,HN.out],?_⟩
      have e3:=((Off.refl (fun b=>b=w.heap.size) wr).setBlk (k:=w.heap.size) (o:=.cells (digB V n).toArray 33 (0,0)) (fun _=>rfl)).toBelow (B:=w.heap.size) (fun k hk=>by omega) (Nat.le_of_lt hz4)
      exact ((HB1.out.trans (HB.out.mono HB1.out.size)).trans (HB2.out.mono (Nat.le_of_lt HWL.out))).trans e3
end Go.Proofs.YtecgikanophonaaGreatDoor
