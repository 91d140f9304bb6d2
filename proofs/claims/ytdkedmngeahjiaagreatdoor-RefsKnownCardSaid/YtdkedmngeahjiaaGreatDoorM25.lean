import Derived.Test.YtdkedmngeahjiaaGreatDoorM13
import Derived.Test.YtdkedmngeahjiaaGreatDoorM24
import Derived.Test.YtdkedmngeahjiaaGreatDoorM15
import Derived.Test.YtdkedmngeahjiaaGreatDoorM14
set_option maxRecDepth 100000
set_option maxHeartbeats 25600000
namespace Go.Proofs.YtdkedmngeahjiaaGreatDoor
theorem aB{p:Prop}(h:p:=by have d0:=C.out.1 W hI;have d1:=C.out.2.1 W hI;have d2:=C.out.2.2.1 W hI;have d3:=C.out.2.2.2 W hI;(go_simp;try simp only[hw0,hw1,hw2,hw3,hp0,hp1,hp2,hp3,hq0,hq1,hq2,hq3,ht0,ht1,ht2,ht3,and_self,if_true];try go_simp)<;>rfl):p:=h
theorem aH{p:Prop}(h:p:=by have d0:=C.out.1 W hI;have d1:=C.out.2 W hI;(go_simp;try simp only[hw9,hw16,hp9,hq9,ht9,hp0,hq0,and_self,if_true];try go_simp)<;>rfl):p:=h
theorem dS{p:Prop}(h:p:=by rw[HLJ.out];omega):p:=h
theorem fA{p:Prop}(h:p:=by rw[HLJ.out];unfold maxLen;omega):p:=h
theorem fI{p:Prop}(h:p:=by rw[HLL.out];unfold maxLen;omega):p:=h
theorem gB{p:Prop}(h:p:=by exact((HB1.out.trans (HB.out.mono HB1.out.size)).trans (HB2.out.mono (Nat.le_of_lt HWL.out))).trans e3):p:=h
theorem iZ{p:Prop}(h:p:=by rw[HLL.out];omega):p:=h
open Go Go.RowKit
theorem sY{B C D:List UInt8}(A:List UInt8)(h:B=C++D):A++B=A++C++D:=by rw[h,List.append_assoc]
def Nw:Value→Nat
 |.slice _ n _=>(120-n%64) %64
 |_=>0
theorem Eg(w:World)(u:Value)(t:TypeId):(w.alloc (.cells #[u] t)).cell? ((⟨w.heap.size,0,none⟩:Addr).add 0)=some u:=by
 rw[show((⟨w.heap.size,0,none⟩:Addr).add 0)=⟨w.heap.size,0,none⟩ by simp[Addr.add]];exact lF (lP w _)
theorem Ng:(Tryz.prog.info? 183).map (fun i=>(i.zero,i.size,i.bytes))=some (some (.int .u32 0),1,4):=aE
def GrA(w W:World):Prop:=Below w.heap.size w W
def GrB(w:World)(u:Value)(b:Nat)(W:World):Prop:=GrA w W∧w.heap.size≤b∧W.heap[b]?=some (.cells #[u] 183 (0,0))
def R8.words(h:R8):List Value:=[rT h.a,rT h.b,rT h.c,rT h.d,rT h.e,rT h.f,rT h.g,rT h.k]
theorem R8.words_at{h:R8}{j:Nat}{v:Value}(hv:h.words[j]?=some v):j<8∧v=.int .u32 (h.at j):=by
 have hj:j<8:=(List.getElem?_eq_some_iff.1 hv).1;refine⟨hj,?_⟩
 rcases (show j=0∨j=1∨j=2∨j=3∨j=4∨j=5∨j=6∨j=7 by omega)with rfl|rfl|rfl|rfl|rfl|rfl|rfl|rfl<;>(cases hv;rfl)
theorem R8.words_one(h:R8):∀v∈h.words,v.oneCell'=true:=by
 intro v hv;obtain⟨j,hj⟩:=List.getElem?_of_mem hv;obtain⟨-,rfl⟩:=R8.words_at hj
 rfl
def z8:Array Value:=Array.replicate 8 (.int .u32 0)
def zZ(w:World):Prop:=(∀i k,rk[i]?=some k→w.cell? ⟨2,i,none⟩=some (.int .u32 k))∧2<w.heap.size
theorem Nx{W:World}{b:Nat}{T:R8}(h:W.heap[b]?=some (.cells T.words.toArray 184 (0,0)))(x0 x1 x2 x3 x4 x5 x6 x7:Value):
  ((((((((W.setCell ⟨b,0,none⟩ x0).setCell ⟨b,1,none⟩ x1).setCell ⟨b,2,none⟩ x2).setCell ⟨b,3,none⟩ x3).setCell ⟨b,4,none⟩ x4).setCell ⟨b,5,none⟩ x5).setCell ⟨b,6,none⟩ x6).setCell ⟨b,7,none⟩ x7).heap[b]?=some (.cells #[x0,x1,x2,x3,x4,x5,x6,x7] 184 (0,0)):=by
 have hz:=lH h;unfold R8.words at h;rw[lY h,mM hz,mM hz,mM hz,mM hz,mM hz,mM hz,mM hz];simp only[List.setIfInBounds_toArray,List.set_cons_zero,List.set_cons_succ];exact lM hz
structure BlkIn (w:World) (hg g o:Nat) (h:R8) (r:List UInt8):Prop where
 hl:hg<w.heap.size
 gl:g<w.heap.size
 hc:∀j,j<8→w.cell? ⟨hg,j,none⟩=some (.int .u32 (h.at j))
 rl:r.length=64
 rc:∀j,j<64→w.cell? ⟨g,o+j,none⟩=some (.int .u8 ((r.getD j 0).toNat:Int))
theorem Eh{w:World}{hg g o c1 c2:Nat}{h:R8}{r:List UInt8}(hI:BlkIn w hg g o h r)(hK:zZ w):
  Calls Tryz.prog 129 #[.slice (some ⟨hg,0,none⟩) 8 c1,.slice (some ⟨g,o,none⟩) 64 c2] w fun e w'=>∃v,e=.returned v∧RowC w.heap.size ((List.range 8).map fun j=>rT ((pV h r).at j)) v w'∧Below w.heap.size w w':=by
 obtain⟨i0,hinf,hz0,hz1,hz2⟩:=info_parts Ng;have HI:=hZ hI
 have HK:=hZ hK;clear hI hK
 obtain⟨CR,hCR⟩:∃c,pV h r=c:=⟨_,rfl⟩
 rw[hCR];have HCR:=hZ hCR
 clear hCR;go_enter Tryz.func129,Tryz.ntmps129;go_wp2_with fail;go_loopw [5,6] (fun v iv wr=>∃k:Nat,(k:Int)≤16∧iv=.int .i64 k∧Hid (RowC w.heap.size (((List.range k).map (LY r)).map rT) v wr)∧Hid (Below w.heap.size w wr)) (fun _ iv _=>16-(intOf iv).toNat)
 case atStart=>exact⟨0,aC,rfl,hZ (RowC.nil _ _),hZ (Below.refl _ _)⟩
 case round=>
  obtain⟨k,hk,rfl,HR,HB⟩:=hrel;by_cases hlt:(k:Int)<16
  ·have hk16:k<16:=by omega
   have cf:∀j,j<64→wr.cell? ⟨g,o+j,none⟩=some (.int .u8 ((r.getD j 0).toNat:Int)):=fun j hj=>(HB.out.cell (p:=⟨g,o+j,none⟩) HI.out.gl).trans (HI.out.rc j hj)
   have c0:=cf (4*k) aC;have c1:=cf (4*k+1) aC
   have c2:=cf (4*k+2) aC;have c3:=cf (4*k+3) aC
   clear cf;have hwd:LY r k=C8 (r.getD (4*k) 0).toNat (r.getD (4*k+1) 0).toNat (r.getD (4*k+2) 0).toNat (r.getD (4*k+3) 0).toNat:=rfl
   generalize ((r.getD (4*k) 0).toNat:Int)=x0 at c0 hwd;generalize ((r.getD (4*k+1) 0).toNat:Int)=x1 at c1 hwd;generalize ((r.getD (4*k+2) 0).toNat:Int)=x2 at c2 hwd;generalize ((r.getD (4*k+3) 0).toNat:Int)=x3 at c3 hwd;have hll:(((List.range k).map (LY r)).map rT).length=k:=by rw[List.length_map,List.length_map,List.length_range]
   have hgl:=Nat.lt_of_lt_of_le HI.out.gl HB.out.size;have HWD:=hZ hwd
   have C:Hid ((∀W,GrA wr W→W.cell? ⟨g,o+4*k,none⟩=some (.int .u8 x0))∧(∀W,GrA wr W→W.cell? ⟨g,o+(4*k+1),none⟩=some (.int .u8 x1))∧(∀W,GrA wr W→W.cell? ⟨g,o+(4*k+2),none⟩=some (.int .u8 x2))∧(∀W,GrA wr W→W.cell? ⟨g,o+(4*k+3),none⟩=some (.int .u8 x3))):=
    hZ ⟨fun W hI=>(Below.cell hI (p:=⟨g,o+4*k,none⟩) hgl).trans c0,fun W hI=>(Below.cell hI (p:=⟨g,o+(4*k+1),none⟩) hgl).trans c1,fun W hI=>(Below.cell hI (p:=⟨g,o+(4*k+2),none⟩) hgl).trans c2,fun W hI=>(Below.cell hI (p:=⟨g,o+(4*k+3),none⟩) hgl).trans c3⟩
   obtain⟨p,cap,rfl,-⟩:=HR.out.slice;rw[hll]at HR⊢;have HLL:=hZ hll
   clear hwd hll c0 c1 c2 c3 hgl;go_wp2_with fail;have hw0:IntKind.i64.wrap (4*(k:Int))=4*k:=dL
   have hw1:IntKind.i64.wrap (4*(k:Int)+1)=4*k+1:=dL;have hw2:IntKind.i64.wrap (4*(k:Int)+2)=4*k+2:=dL
   have hw3:IntKind.i64.wrap (4*(k:Int)+3)=4*k+3:=dL;have hp0:0≤4*(k:Int):=aC
   have hq0:4*(k:Int)<64:=aC;have ht0:(4*(k:Int)).toNat=4*k:=aC
   have hp1:0≤4*(k:Int)+1:=aC;have hq1:4*(k:Int)+1<64:=aC
   have ht1:(4*(k:Int)+1).toNat=4*k+1:=aC;have hp2:0≤4*(k:Int)+2:=aC
   have hq2:4*(k:Int)+2<64:=aC;have ht2:(4*(k:Int)+2).toNat=4*k+2:=aC
   have hp3:0≤4*(k:Int)+3:=aC;have hq3:4*(k:Int)+3<64:=aC
   have ht3:(4*(k:Int)+3).toNat=4*k+3:=aC;have hI0:GrA wr wr.drew:=(Below.refl _ _).drew
   refine rR (GrA wr) (GrB wr (.int .u32 (C8 x0 x1 x2 x3))) 34 (fun b=>.slice (some ⟨b,0,none⟩) 1 1) 35 (fun _ _ hB=>hB.1) aE aE hI0 ?_;clear hI0;simp only[List.take_succ_cons,List.take_zero,List.drop_succ_cons,List.drop_zero];refine .inr ⟨aA,_,lW rfl (fun W hI=>aB),?_⟩;refine .inr ⟨aA,_,lW rfl (fun W hI=>aB),?_⟩;refine .inr ⟨aA,_,lW rfl (fun W hI=>aB),?_⟩;refine .inr ⟨aA,_,lW rfl (fun W hI=>aB),?_⟩;refine .inr ⟨aA,_,lW rfl (fun W hI=>aB),?_⟩;refine .inr ⟨aA,_,lW rfl (fun W hI=>aB),?_⟩;refine .inr ⟨aA,_,lW rfl (fun W hI=>aB),?_⟩;refine .inr ⟨aA,_,lW rfl (fun W hI=>aB),?_⟩;refine .inr ⟨aA,_,lW rfl (fun W hI=>aB),?_⟩;refine .inr ⟨aA,_,lW rfl (fun W hI=>aB),?_⟩;refine .inr ⟨aA,_,lW rfl (fun W hI=>aB),?_⟩;refine .inr ⟨aA,_,lW rfl (fun W hI=>aB),?_⟩;refine .inr ⟨aA,_,lW rfl (fun W hI=>aB),?_⟩;refine .inr ⟨aA,_,lW rfl (fun W hI=>aB),?_⟩;refine .inr ⟨aA,_,lW rfl (fun W hI=>aB),?_⟩;refine .inr ⟨aA,_,lW rfl (fun W hI=>aB),?_⟩;refine .inr ⟨aA,_,lW rfl (fun W hI=>aB),?_⟩;refine .inr ⟨aA,_,lW rfl (fun W hI=>aB),?_⟩;refine .inr ⟨aA,_,lW rfl (fun W hI=>aB),?_⟩;refine .inr ⟨aA,_,lW rfl (fun W hI=>aB),?_⟩;refine .inr ⟨aA,_,lW rfl (fun W hI=>aB),?_⟩;refine .inr ⟨aA,_,lW rfl (fun W hI=>aB),?_⟩;refine .inr ⟨aA,_,lW rfl (fun W hI=>aB),?_⟩;refine .inr ⟨aA,_,lW rfl (fun W hI=>aB),?_⟩;refine .inr ⟨aA,_,lW rfl (fun W hI=>aB),?_⟩;refine .inr ⟨aA,_,lW rfl (fun W hI=>aB),?_⟩;refine .inr ⟨aA,_,lW rfl (fun W hI=>aB),?_⟩;refine .inr ⟨aA,_,lW rfl (fun W hI=>aB),?_⟩;refine .inr ⟨aA,_,lW rfl (fun W hI=>aB),?_⟩;refine .inr ⟨aA,_,lW rfl (fun W hI=>aB),?_⟩;refine .inr ⟨aA,_,lW rfl (fun W hI=>aB),?_⟩;refine .inr ⟨aA,_,lW rfl (fun W hI=>aB),?_⟩;refine .inr ⟨aA,_,lW rfl (fun W hI=>aB),?_⟩;refine .inr ⟨aA,_,lW rfl (fun W hI=>aB),?_⟩;refine .inl ⟨rfl,⟨rfl,fun W hI=>.inl ⟨W.heap.size,W.alloc (.cells #[.int .u32 (C8 x0 x1 x2 x3)] 183),aV,⟨Below.trans hI ((Below.refl _ _).alloc (Below.size hI) _),Below.size hI,lP _ _⟩⟩⟩,?_⟩;rintro b8 W8 hI8;change wpList _ _ _ _ _ W8;simp only[Act.put,List.setIfInBounds_toArray,List.set_cons_succ,List.set_cons_zero];have H8:=hZ hI8
   have hc8:W8.cell? ((⟨b8,0,none⟩:Addr).add 0)=some (.int .u32 (C8 x0 x1 x2 x3)):=by
    rw[show((⟨b8,0,none⟩:Addr).add 0)=⟨b8,0,none⟩ by simp[Addr.add]];exact lF hI8.2.2
   have HC8:=hZ hc8;clear hI8 hc8;go_wp2_with (first|(at_builtin;refine mD rfl _ _ 182 rfl w.heap.size 183 i0 (.int .u32 0) 4 Tryz.underlying182 hinf hz0 hz1 hz2 rfl _ _ rfl (HR.out.keep H8.out.1) (.int .u32 (C8 x0 x1 x2 x3)) ⟨b8,0,none⟩ rfl HC8.out rfl fI iZ (Nat.le_trans HB.out.size (Below.size H8.out.1)) ?_;intro v1 w1 hr1 hb1;have HR1:=hZ hr1;have HB2:=hZ (HB.out.trans ((Below.mono H8.out.1 HB.out.size).trans hb1));clear hr1 hb1)|go_in)
   case roundEnd=>
    refine⟨⟨k+1,aC,aG,hZ ?_,HB2⟩,cN⟩;rw[List.range_succ,List.map_append,List.map_append,List.map_singleton,List.map_singleton,HWD.out];exact HR1.out
  ·obtain rfl:k=16:=by omega
   have HR0:Hid (RowC w.heap.size ((sch r 0).map rT) u5 wr):=HR;clear HR;go_wp2_with fail;go_loopw [5,7] (fun v iv wr=>∃k:Nat,(k:Int)≤48∧iv=.int .i64 ((k+16:Nat):Int)∧Hid (RowC w.heap.size ((sch r k).map rT) v wr)∧Hid (Below w.heap.size w wr)) (fun _ iv _=>64-(intOf iv).toNat)
   case atStart=>exact⟨0,aC,rfl,HR0,HB⟩
   case round=>
    obtain⟨k,hk,rfl,HR,HB⟩:=hrel;have hll:((sch r k).map rT).length=k+16:=by rw[List.length_map,BV];omega
    have HLL:=hZ hll;by_cases hlt:((k+16:Nat):Int)<64
    ·obtain⟨p,cap,rfl,hcl⟩:=HR.out.slice
     have hget:∀j,j<k+16→((sch r k).map rT)[j]?=some (.int .u32 ((sch r k).getD j 0)):=fun j hj=>by
      rw[List.getElem?_map,List.getElem?_eq_getElem fS,List.getD_eq_getElem?_getD,List.getElem?_eq_getElem fS]
      rfl
     obtain⟨gw,rfl,hgw,c0⟩:=hcl k _ (hget k aC)
     have hc:∀j,j<k+16→wr.cell? ⟨gw,j,none⟩=some (.int .u32 ((sch r k).getD j 0)):=fun j hj=>by
      obtain⟨g',e,-,h⟩:=hcl j _ (hget j hj);cases e;exact h
     have c15:=hc (k+1) aC;have c2:=hc (k+14) aC
     have c7:=hc (k+9) aC;rw[hll]at HR⊢;clear hcl hget hc hll
     obtain⟨y16,hy16⟩:∃y,(sch r k).getD k 0=y:=⟨_,rfl⟩
     obtain⟨y7,hy7⟩:∃y,(sch r k).getD (k+9) 0=y:=⟨_,rfl⟩
     obtain⟨y15,hy15⟩:∃y,(sch r k).getD (k+1) 0=y:=⟨_,rfl⟩
     obtain⟨y2,hy2⟩:∃y,(sch r k).getD (k+14) 0=y:=⟨_,rfl⟩
     have HWN:=hZ (show A5 (sch r k) k=(((s1 y2+y7) %4294967296+s0 y15) %4294967296+y16) %4294967296 by unfold A5;rw[hy16,hy7,hy15,hy2];omega);rw[hy16]at c0;rw[hy15]at c15;rw[hy7]at c7;rw[hy2]at c2;clear hy16 hy7 hy15 hy2;go_wp2_with (first|(go_at_call_of 162 (Value.int .i64 (7:Int));refine(pC _ 7 aA _).mono ?_;rintro e' w' ⟨rfl,q7,rfl⟩)|(go_at_call_of 162 (Value.int .i64 (18:Int));refine(pC _ 18 aA _).mono ?_;rintro e' w' ⟨rfl,q18,rfl⟩)|(go_at_call_of 162 (Value.int .i64 (17:Int));refine(pC _ 17 aA _).mono ?_;rintro e' w' ⟨rfl,q17,rfl⟩)|(go_at_call_of 162 (Value.int .i64 (19:Int));refine(pC _ 19 aA _).mono ?_;rintro e' w' ⟨rfl,q19,rfl⟩))
     have C:Hid ((∀W,GrA wr W→W.cell? ⟨gw,k,none⟩=some (.int .u32 y16))∧∀W,GrA wr W→W.cell? ⟨gw,k+9,none⟩=some (.int .u32 y7)):=
      hZ ⟨fun W hI=>(Below.cell hI (p:=⟨gw,k,none⟩) hgw).trans c0,fun W hI=>(Below.cell hI (p:=⟨gw,k+9,none⟩) hgw).trans c7⟩
     have hw9:IntKind.i64.wrap ((k:Int)+16-7)=k+9:=dL;have hw16:IntKind.i64.wrap (k:Int)=k:=dL
     have hp9:0≤(k:Int)+9:=aC;have hq9:(k:Int)+9<(k:Int)+16:=aC
     have ht9:((k:Int)+9).toNat=k+9:=aC;have hp0:0≤(k:Int):=aC
     have hq0:(k:Int)<(k:Int)+16:=aC;refine rR (GrA wr) (GrB wr (.int .u32 (A5 (sch r k) k))) 16 (fun b=>.slice (some ⟨b,0,none⟩) 1 1) 17 (fun _ _ hB=>hB.1) aE aE (show GrA wr _ from⟨rfl,rfl,rfl,Nat.le_refl _,fun _ _=>rfl⟩) ?_;simp only[List.take_succ_cons,List.take_zero,List.drop_succ_cons,List.drop_zero];clear c0 c15 c2 c7;refine .inr ⟨aA,_,lW rfl (fun W hI=>aH),?_⟩;refine .inr ⟨aA,_,lW rfl (fun W hI=>aH),?_⟩;refine .inr ⟨aA,_,lW rfl (fun W hI=>aH),?_⟩;refine .inr ⟨aA,_,lW rfl (fun W hI=>aH),?_⟩;refine .inr ⟨aA,_,lW rfl (fun W hI=>aH),?_⟩;refine .inr ⟨aA,_,lW rfl (fun W hI=>aH),?_⟩;refine .inr ⟨aA,_,lW rfl (fun W hI=>aH),?_⟩;refine .inr ⟨aA,_,lW rfl (fun W hI=>aH),?_⟩;refine .inr ⟨aA,_,lW rfl (fun W hI=>aH),?_⟩;refine .inr ⟨aA,_,lW rfl (fun W hI=>aH),?_⟩;refine .inr ⟨aA,_,lW rfl (fun W hI=>aH),?_⟩;refine .inr ⟨aA,_,lW rfl (fun W hI=>aH),?_⟩;refine .inr ⟨aA,_,lW rfl (fun W hI=>aH),?_⟩;refine .inr ⟨aA,_,lW rfl (fun W hI=>aH),?_⟩;refine .inr ⟨aA,_,lW rfl (fun W hI=>aH),?_⟩;refine .inr ⟨aA,_,lW rfl (fun W hI=>aH),?_⟩;refine .inl ⟨rfl,⟨rfl,fun W hI=>.inl ⟨W.heap.size,W.alloc (.cells #[.int .u32 (A5 (sch r k) k)] 183),by rw[HWN.out];unfold s0 s1;go_simp;simp only[IntKind.wrap_u32];refine congrArg (fun x=>W.alloc (.cells #[.int .u32 x] 183)) ?_;omega,⟨Below.trans hI ((Below.refl _ _).alloc (Below.size hI) _),Below.size hI,lP _ _⟩⟩⟩,?_⟩;rintro b8 W8 hI8;change wpList _ _ _ _ _ W8;simp only[Act.put,List.setIfInBounds_toArray,List.set_cons_succ,List.set_cons_zero];have H8:=hZ hI8
     have hc8:W8.cell? ((⟨b8,0,none⟩:Addr).add 0)=some (.int .u32 (A5 (sch r k) k)):=by
      rw[show((⟨b8,0,none⟩:Addr).add 0)=⟨b8,0,none⟩ by simp[Addr.add]];exact lF hI8.2.2
     have HC8:=hZ hc8;clear hI8 hc8 hw9 hw16 hp9 hq9 ht9 hp0 hq0;go_wp2_with (first|(at_builtin;refine mD rfl _ _ 182 rfl w.heap.size 183 i0 (.int .u32 0) 4 Tryz.underlying182 hinf hz0 hz1 hz2 rfl _ _ rfl (HR.out.keep H8.out.1) (.int .u32 (A5 (sch r k) k)) ⟨b8,0,none⟩ rfl HC8.out rfl fI iZ (Nat.le_trans HB.out.size (Below.size H8.out.1)) ?_;intro v1 w1 hr1 hb1;have HR1:=hZ hr1;have HB2:=hZ (HB.out.trans ((Below.mono H8.out.1 HB.out.size).trans hb1));clear hr1 hb1)|go_in)
     case roundEnd=>
      refine⟨⟨k+1,aC,by simp only[Int.natCast_add];rfl,hZ ?_,HB2⟩,cN⟩;rw[sch,List.map_append,List.map_singleton];exact HR1.out
    ·obtain rfl:k=48:=by simp only[Int.natCast_add]at hlt;omega
     obtain⟨p,cap,rfl,hcl⟩:=HR.out.slice;rw[hll]at HR⊢;clear hll;have HCL:=hZ hcl
     clear hcl;have hnew:=lP wr (.cells z8 184)
     have hcp:=run_copy_row (P:=Tryz.prog) (wr.alloc (.cells z8 184)) 182 182 3 183 wr.heap.size 0 8 8 ⟨hg,0,none⟩ 8 c1 z8 184 h.words Tryz.underlying182 aE hnew rfl (fun j v hv=>by
      obtain⟨hj,rfl⟩:=R8.words_at hv;rw[show(⟨hg,0,none⟩:Addr).add j=⟨hg,j,none⟩ by simp[Addr.add];intro e;exact e.symm];exact((Below.refl wr.heap.size wr).alloc (Nat.le_refl _) _).cell (p:=⟨hg,j,none⟩) (Nat.lt_of_lt_of_le HI.out.hl HB.out.size)|>.trans ((HB.out.cell (p:=⟨hg,j,none⟩) HI.out.hl).trans (HI.out.hc j hj))) (by show 0+8≤(Array.replicate 8 _).size;rw[Array.size_replicate];omega) (R8.words_one h)
     rw[lZ hnew]at hcp
     have hset:setBlk (wr.alloc (.cells z8 184)) wr.heap.size (.cells (z8.toList.take 0++h.words++z8.toList.drop (0+h.words.length)).toArray 184 (0,0))=wr.alloc (.cells h.words.toArray 184):=by
      refine vM (fun k=>?_) rfl rfl rfl rfl;rw[qJ];by_cases hk:wr.heap.size=k
      ·subst hk;rw[if_pos rfl,if_pos cO,lP]
       rfl
      ·rw[if_neg hk];show(wr.heap.push _)[k]?=(wr.heap.push _)[k]?
       rw[Array.getElem?_push,Array.getElem?_push,if_neg (fun e=>hk e.symm),if_neg (fun e=>hk e.symm)]
     rw[hset]at hcp;have HCP:=hZ hcp
     clear hset hnew hcp;have hcp2:(Builtin.copy_ #[182,182] 3 #[.slice (some ⟨wr.heap.size,0,none⟩) 8 8,.slice (some ⟨hg,0,none⟩) 8 c1]).run Tryz.prog (wr.alloc (.cells #[.int .u32 0,.int .u32 0,.int .u32 0,.int .u32 0,.int .u32 0,.int .u32 0,.int .u32 0,.int .u32 0] 184))=.ok (.int .i64 8) (wr.alloc (.cells h.words.toArray 184)):=HCP.out
     obtain⟨W0,hW0⟩:∃W,wr.alloc (.cells h.words.toArray 184)=W:=⟨_,rfl⟩
     have hv0:W0.heap[wr.heap.size]?=some (.cells (Ff h (sch r 48) 0).words.toArray 184 (0,0)):=by rw[←hW0];exact lP _ _
     have hb0:Below wr.heap.size wr W0:=aN;rw[hW0]at hcp2;have HV0:=hZ hv0
     have HB0:=hZ hb0;clear hv0 hb0 hW0 HCP;go_wp2_with fail
     obtain⟨vb,hvb⟩:∃b,wr.heap.size=b:=⟨_,rfl⟩
     have HVB:=hZ hvb;rw[hvb]at HV0⊢;clear hcp2 hvb;go_loopw [13] (fun iv wr=>∃i:Nat,(i:Int)≤64∧iv=.int .i64 i∧Hid (Off (fun b=>b=vb) W0 wr)∧Hid (wr.heap[vb]?=some (.cells (Ff h (sch r 48) i).words.toArray 184 (0,0)))) (fun iv _=>64-(intOf iv).toNat)
     case atStart=>exact⟨0,aC,rfl,hZ (Off.refl _ _),HV0⟩
     case round=>
      obtain⟨i,hi,rfl,HO,HV⟩:=hrel;by_cases hlt:(i:Int)<64
      ·have hi64:i<64:=by omega
       obtain⟨K,hKi⟩:∃K,rk[i]?=some K:=⟨_,List.getElem?_eq_getElem (i:=i) (by show i<64;exact hi64)⟩
       obtain⟨gw,hp,hgw,hcw⟩:=HCL.out i (.int .u32 ((sch r 48).getD i 0)) (by
        rw[List.getElem?_map,List.getElem?_eq_getElem fS,List.getD_eq_getElem?_getD,List.getElem?_eq_getElem fS]
        rfl)
       subst hp;have hz0:=HB0.out.size
       have cw:wr.cell? ⟨gw,i,none⟩=some (.int .u32 ((sch r 48).getD i 0)):=(HO.out.cell (p:=⟨gw,i,none⟩) (Nat.lt_of_lt_of_le hgw hz0) (by have:=HVB.out;show¬gw=vb;omega)).trans ((HB0.out.cell (p:=⟨gw,i,none⟩) hgw).trans hcw);have hgk:=Nat.lt_of_lt_of_le HK.out.2 HB.out.size
       have ck:wr.cell? ⟨2,i,none⟩=some (.int .u32 K):=(HO.out.cell (p:=⟨2,i,none⟩) (Nat.lt_of_lt_of_le hgk hz0) (by have:=HVB.out;show¬2=vb;omega)).trans ((HB0.out.cell (p:=⟨2,i,none⟩) hgk).trans ((HB.out.cell (p:=⟨2,i,none⟩) HK.out.2).trans (HK.out.1 i K hKi)))
       obtain⟨y,hy⟩:∃y,(sch r 48).getD i 0=y:=⟨_,rfl⟩
       rw[hy]at cw
       obtain⟨T,hT⟩:∃t,Ff h (sch r 48) i=t:=⟨_,rfl⟩
       have HT1:Hid (rnd T K y=Ff h (sch r 48) (i+1)):=hZ (by rw[Ff,hT,hy,List.getD_eq_getElem?_getD,hKi];rfl);rw[hT]at HV;obtain⟨ta,tb,tc,td,te,tf,tg,tk⟩:=T;have v0:wr.cell? ⟨vb,0,none⟩=some (.int .u32 ta):=lF HV.out
       have v1:wr.cell? ⟨vb,1,none⟩=some (.int .u32 tb):=lF HV.out;have v2:wr.cell? ⟨vb,2,none⟩=some (.int .u32 tc):=lF HV.out
       have v3:wr.cell? ⟨vb,3,none⟩=some (.int .u32 td):=lF HV.out;have v4:wr.cell? ⟨vb,4,none⟩=some (.int .u32 te):=lF HV.out
       have v5:wr.cell? ⟨vb,5,none⟩=some (.int .u32 tf):=lF HV.out;have v6:wr.cell? ⟨vb,6,none⟩=some (.int .u32 tg):=lF HV.out
       have v7:wr.cell? ⟨vb,7,none⟩=some (.int .u32 tk):=lF HV.out;clear hKi hy hT hcw hgk hz0;go_wp2_with fail;go_big_quiet (fail);rename_i n0;go_wp2_with fail;go_big_quiet ((first|(go_at_call_of 162 (Value.int .i64 (6:Int));exact GS (pC _ 6 aA _))|(go_at_call_of 162 (Value.int .i64 (11:Int));exact GS (pC _ 11 aA _))|(go_at_call_of 162 (Value.int .i64 (25:Int));exact GS (pC _ 25 aA _))));rename_i n1;rw[show(if IntKind.u32.signed=true then(-1:Int)else IntKind.u32.max)=4294967295 from aA]
       have hone:LZ ⟨ta,tb,tc,td,te,tf,tg,tk⟩ K y=((tk+bits .xor .u32 (bits .xor .u32 (vV te 6) (vV te 11)) (vV te 25)+bits .xor .u32 (bits .and .u32 te tf) (bits .and .u32 (bits .xor .u32 4294967295 te) tg)+K) %4294967296+y) %4294967296:=by
        unfold LZ;show((((tk+bits .xor .u32 (bits .xor .u32 (vV te 6) (vV te 11)) (vV te 25)) %4294967296+bits .xor .u32 (bits .and .u32 te tf) (bits .and .u32 (bits .xor .u32 4294967295 te) tg)) %4294967296+K) %4294967296+y) %4294967296=_
        omega
       generalize bits .xor .u32 (bits .xor .u32 (vV te 6) (vV te 11)) (vV te 25)=x6 at hone⊢;generalize bits .xor .u32 (bits .and .u32 te tf) (bits .and .u32 (bits .xor .u32 4294967295 te) tg)=y6 at hone⊢;generalize ((tk+x6+y6+K) %4294967296+y) %4294967296=oo at hone⊢;generalize (tk+x6+y6+K) %4294967296=z3;generalize ((tk+x6) %4294967296+y6) %4294967296=z2;generalize (tk+x6) %4294967296=z1;have HONE:=hZ hone
       clear hone;have f0:wr.frozen? ⟨vb,0,none⟩=false:=lI HV.out
       have f1:wr.frozen? ⟨vb,1,none⟩=false:=lI HV.out;have f2:wr.frozen? ⟨vb,2,none⟩=false:=lI HV.out
       have f3:wr.frozen? ⟨vb,3,none⟩=false:=lI HV.out;have f4:wr.frozen? ⟨vb,4,none⟩=false:=lI HV.out
       have f5:wr.frozen? ⟨vb,5,none⟩=false:=lI HV.out;have f6:wr.frozen? ⟨vb,6,none⟩=false:=lI HV.out
       have f7:wr.frozen? ⟨vb,7,none⟩=false:=lI HV.out;go_wp2_with (first|(go_at_call_of 162 (Value.int .i64 (2:Int));refine(pC _ 2 aA _).mono ?_;rintro e' w' ⟨rfl,q2,rfl⟩)|(go_at_call_of 162 (Value.int .i64 (13:Int));refine(pC _ 13 aA _).mono ?_;rintro e' w' ⟨rfl,q13,rfl⟩)|(go_at_call_of 162 (Value.int .i64 (22:Int));refine(pC _ 22 aA _).mono ?_;rintro e' w' ⟨rfl,q22,rfl⟩));refine⟨⟨i+1,aC,aG,hZ (((((((((HO.out.draws _).setCell _ _ (fun _=>rfl)).setCell _ _ (fun _=>rfl)).setCell _ _ (fun _=>rfl)).setCell _ _ (fun _=>rfl)).setCell _ _ (fun _=>rfl)).setCell _ _ (fun _=>rfl)).setCell _ _ (fun _=>rfl)).setCell _ _ (fun _=>rfl)),hZ ?_⟩,cN⟩;rw[←HT1.out];refine(Nx (W:=wr.drewN _) (T:=⟨ta,tb,tc,td,te,tf,tg,tk⟩) HV.out _ _ _ _ _ _ _ _).trans ?_
       have hr:rnd ⟨ta,tb,tc,td,te,tf,tg,tk⟩ K y=⟨(oo+MO ⟨ta,tb,tc,td,te,tf,tg,tk⟩) %4294967296,ta,tb,tc,(td+oo) %4294967296,te,tf,tg⟩:=by
        unfold rnd;rw[HONE.out]
       rw[hr];refine congrArg (fun x=>some (Obj.cells #[Value.int .u32 x,rT ta,rT tb,rT tc,rT ((td+oo) %4294967296),rT te,rT tf,rT tg] 184 (0,0))) ?_;unfold MO;simp only[];omega
      ·obtain rfl:i=64:=by omega
       obtain⟨T,hT⟩:∃t,Ff h (sch r 48) 64=t:=⟨_,rfl⟩
       rw[hT]at HV;have HT:=hZ hT
       clear hT
       obtain⟨W3,hW3⟩:∃W,W=wr:=⟨_,rfl⟩
       rw[←hW3]at HV HO⊢;have HVZ:=hZ (lH HV.out)
       have HVB3:=hZ (show w.heap.size≤vb from HVB.out▸HB.out.size);clear hW3;go_wp2_with fail;go_loopw [22,23] (fun v iv wx=>∃k:Nat,(k:Int)≤8∧iv=.int .i64 k∧Hid (RowC W3.heap.size ((List.range k).map fun j=>rT (CR.at j)) v wx)∧Hid (Below W3.heap.size W3 wx)) (fun _ iv _=>8-(intOf iv).toNat)
       case atStart=>exact⟨0,aC,rfl,hZ (RowC.nil _ _),hZ (Below.refl _ _)⟩
       case round=>
        obtain⟨k,hk,rfl,HR4,HB4⟩:=hrel;by_cases hlt:(k:Int)<8
        ·have hk8:k<8:=by omega
         have hz3:vb≤W3.heap.size:=Nat.le_of_lt HVZ.out;have hhg:hg<w.heap.size:=HI.out.hl
         have ch:wr.cell? ⟨hg,k,none⟩=some (.int .u32 (h.at k)):=by
          refine(HB4.out.cell (p:=⟨hg,k,none⟩) (by have:=HVB3.out;show hg<_;omega)).trans ?_;refine(HO.out.cell (p:=⟨hg,k,none⟩) (by have:=HB.out.size;have:=HB0.out.size;show hg<_;omega) (by have:=HVB3.out;show¬hg=vb;omega)).trans ?_;refine(HB0.out.cell (p:=⟨hg,k,none⟩) (by have:=HB.out.size;show hg<_;omega)).trans ?_;exact(HB.out.cell (p:=⟨hg,k,none⟩) hhg).trans (HI.out.hc k hk8)
         have cv:wr.cell? ⟨vb,k,none⟩=some (.int .u32 (T.at k)):=by
          refine(HB4.out.cell (p:=⟨vb,k,none⟩) HVZ.out).trans ?_;rw[lF HV.out];rcases (show k=0∨k=1∨k=2∨k=3∨k=4∨k=5∨k=6∨k=7 by omega)with rfl|rfl|rfl|rfl|rfl|rfl|rfl|rfl<;>rfl
         have hadd:CR.at k=(h.at k+T.at k) %4294967296:=by
          rw[←HCR.out];unfold pV;rw[HT.out];rcases (show k=0∨k=1∨k=2∨k=3∨k=4∨k=5∨k=6∨k=7 by omega)with rfl|rfl|rfl|rfl|rfl|rfl|rfl|rfl<;>rfl
         generalize T.at k=y at cv hadd;generalize h.at k=x at ch hadd;have HADD:=hZ hadd
         have C:Hid ((∀W,GrA wr W→W.cell? ⟨hg,k,none⟩=some (.int .u32 x))∧(∀W,GrA wr W→W.cell? ⟨vb,k,none⟩=some (.int .u32 y))):=
          hZ ⟨fun W hI=>(Below.cell hI (p:=⟨hg,k,none⟩) (by have:=HB4.out.size;have:=HVB3.out;show hg<_;omega)).trans ch,fun W hI=>(Below.cell hI (p:=⟨vb,k,none⟩) (by have:=HB4.out.size;have:=HVZ.out;show vb<_;omega)).trans cv⟩
         have hll:((List.range k).map fun j=>rT (CR.at j)).length=k:=by rw[List.length_map,List.length_range]
         obtain⟨p,cap,rfl,-⟩:=HR4.out.slice;rw[hll]at HR4⊢;have HLL:=hZ hll
         clear hll ch cv hadd hz3 hhg;go_wp2_with fail;have hI0:GrA wr wr.drew:=(Below.refl _ _).drew
         have hp0:(0:Int)≤k:=aC;have ht0:(k:Int).toNat=k:=aC
         refine rR (GrA wr) (GrB wr (.int .u32 ((x+y) %4294967296))) 9 (fun b=>.slice (some ⟨b,0,none⟩) 1 1) 10 (fun _ _ hB=>hB.1) aE aE hI0 ?_;clear hI0;simp only[List.take_succ_cons,List.take_zero,List.drop_succ_cons,List.drop_zero]
         iterate 9 refine .inr ⟨aA,_,lW rfl (fun W hI=>by have d0:=C.out.1 W hI;have d1:=C.out.2 W hI;(go_simp;try simp only[hp0,hlt,ht0,and_self,if_true];try go_simp)<;>rfl),?_⟩
         refine .inl ⟨rfl,⟨rfl,fun W hI=>.inl ⟨W.heap.size,W.alloc (.cells #[.int .u32 ((x+y) %4294967296)] 183),aV,⟨Below.trans hI ((Below.refl _ _).alloc (Below.size hI) _),Below.size hI,lP _ _⟩⟩⟩,?_⟩;rintro b8 W8 hI8;change wpList _ _ _ _ _ W8;simp only[Act.put,List.setIfInBounds_toArray,List.set_cons_succ,List.set_cons_zero];have H8:=hZ hI8
         have hc8:W8.cell? ((⟨b8,0,none⟩:Addr).add 0)=some (.int .u32 ((x+y) %4294967296)):=by
          rw[show((⟨b8,0,none⟩:Addr).add 0)=⟨b8,0,none⟩ by simp[Addr.add]];exact lF hI8.2.2
         have HC8:=hZ hc8;clear hI8 hc8;go_wp2_with (first|(at_builtin;refine mD rfl _ _ 182 rfl W3.heap.size 183 i0 (.int .u32 0) 4 Tryz.underlying182 hinf hz0 hz1 hz2 rfl _ _ rfl (HR4.out.keep H8.out.1) (.int .u32 ((x+y) %4294967296)) ⟨b8,0,none⟩ rfl HC8.out rfl fI iZ (Nat.le_trans HB4.out.size (Below.size H8.out.1)) ?_;intro v1 w1 hr1 hb1;have HR1:=hZ hr1;have HB2:=hZ (HB4.out.trans ((Below.mono H8.out.1 HB4.out.size).trans hb1));clear hr1 hb1)|go_in)
         case roundEnd=>
          refine⟨⟨k+1,aC,aG,hZ ?_,HB2⟩,cN⟩;rw[List.range_succ,List.map_append,List.map_singleton,HADD.out];exact HR1.out
        ·obtain rfl:k=8:=by omega
         go_wp2_with fail;go_ret;have e1:=HO.out.toBelow (B:=w.heap.size) (fun k hk=>by have:=HVB3.out;omega) (Nat.le_trans HB.out.size HB0.out.size)
         refine⟨_,rfl,HR4.out.lower (by have:=HVB3.out;have:=HVZ.out;omega),((HB.out.trans (HB0.out.mono HB.out.size)).trans e1).trans (HB4.out.mono (by have:=HVB3.out;have:=HVZ.out;omega))⟩
def GU(w:World):Prop:=(∀j,j<8→w.cell? ⟨1,j,none⟩=some (.int .u32 (r8i.at j)))∧1<w.heap.size
def Nums8(w:World)(v:Value)(h:R8):Prop:=∃g c,v=.slice (some ⟨g,0,none⟩) 8 c∧g<w.heap.size∧∀j,j<8→w.cell? ⟨g,j,none⟩=some (.int .u32 (h.at j))
theorem Nums8.keep{w w':World}{v:Value}{h:R8}(hn:Nums8 w v h)(hb:Below w.heap.size w w'):Nums8 w' v h:=by
 obtain⟨g,c,h1,h2,h3⟩:=hn;exact⟨g,c,h1,Nat.lt_of_lt_of_le h2 hb.size,fun j hj=>(hb.cell (p:=⟨g,j,none⟩) h2).trans (h3 j hj)⟩
theorem Nums8.ofRow{B:Nat}{w:World}{v:Value}{h:R8}(hr:RowC B ((List.range 8).map fun j=>rT (h.at j)) v w):Nums8 w v h:=by
 rcases hr with⟨-,h0⟩|⟨g,cap,rfl,-,h3,-,-,h6,-⟩
 ·cases h0
 ·exact⟨g,cap,rfl,h3,fun j hj=>h6 j _ (by rw[List.getElem?_map,List.getElem?_range hj];rfl)⟩
theorem Kz(l:List UInt8):0<(Br l).length:=by
 unfold Br;rw[List.length_append,List.length_append,List.length_append,List.length_singleton];omega
theorem L4(l:List UInt8):(Br l).length≤l.length+72:=by
 unfold Br pH qE;simp only[List.length_append,List.length_replicate,List.length_cons,List.length_nil,List.length_map];omega
theorem Fh(s:ByteArray)(w:World)(hs:s.size≤140737488352256):
  Calls Tryz.prog 128 #[.string s] w fun e w'=>∃v,e=.returned v∧RowC w.heap.size ((Br s.data.toList).map lG) v w'∧Below w.heap.size w w':=by
 obtain⟨i0,hi,hz0,hz1,hz2⟩:=info_parts Ip;have hcv:=Lib.run_convert_string_bytes (P:=Tryz.prog) w 9 155 5 s Tryz.underlying9 Tryz.underlying155 Tryz.underlying5
 obtain⟨hrow,hbel⟩:=IR w 5 s w.heap.size (Nat.le_refl _) cT;generalize Lib.bytesWorld w 5 s=W1 at hcv hrow hbel;generalize grownCap w s.size 0 5=cp at hcv hrow;have HROW:=hZ hrow
 have HB1:=hZ hbel;have hll:(s.data.toList.map lG).length=s.size:=by rw[List.length_map];exact Array.length_toList
 have HLL:=hZ hll;clear hrow hbel hll;go_enter Tryz.func128,Tryz.ntmps128;go_wp2_with (at_builtin;refine mD rfl _ _ 155 rfl w.heap.size 5 i0 (.int .u8 0) 1 Tryz.underlying155 hi hz0 hz1 hz2 rfl (s.data.toList.map lG) _ rfl (HROW.out.keep ((Below.refl _ _).alloc (Nat.le_refl _) _)) (lG 128) ⟨W1.heap.size,0,none⟩ rfl (Nu W1 128 _ 0 _ rfl) rfl fI iZ (by rw[World.size_alloc];have:=HB1.out.size;omega) ?_;intro v1 w1 hr1 hb1;have HR1:=hZ hr1;have HB2:=hZ hb1;clear hr1 hb1);have hn:s.data.toList.length=s.size:=Array.length_toList
 have HN:=hZ hn;have hz63:pH s.size≤63:=by unfold pH;omega
 have HR0:Hid (RowC w.heap.size ((s.data.toList++[128]++List.replicate 0 0).map lG) v1 w1):=hZ (by rw[List.replicate_zero,List.append_nil,List.map_append];exact HR1.out);have HB0:Hid (Below w.heap.size w w1):=hZ (HB1.out.trans (((Below.refl w.heap.size W1).alloc HB1.out.size _).trans HB2.out))
 clear HR1 HB2 HROW HB1 hcv hn;go_loopw [3] (fun v wr=>∃j:Nat,j≤pH s.size∧Hid (RowC w.heap.size ((s.data.toList++[128]++List.replicate j 0).map lG) v wr)∧Hid (Below w.heap.size w wr)) (fun v _=>Nw v)
 case atStart=>exact⟨0,Nat.zero_le _,HR0,HB0⟩
 case round=>
  obtain⟨j,hj,HR,HB⟩:=hrel
  have hlj:((s.data.toList++[128]++List.replicate j 0).map lG).length=s.size+1+j:=by
   rw[List.length_map,List.length_append,List.length_append,HN.out,List.length_replicate]
   rfl
  obtain⟨p,cap,rfl,-⟩:=HR.out.slice;rw[hlj]at HR⊢;have HLJ:=hZ hlj
  have hzz:pH s.size=(119-s.size%64) %64:=rfl;by_cases h56:((s.size+1+j:Nat):Int) %64=56
  ·have hjz:j=pH s.size:=by omega
   subst hjz;clear hlj hzz hj;go_wp2_with fail
   have hbb:((((s.size:Int)+1+(pH s.size:Int)) %64 !=56):Bool)=false:=by
    rw[Int.natCast_add,Int.natCast_add]at h56;exact bne_eq_false_iff_eq.2 h56
   simp only[hbb];go_loopw [3,4] (fun v iv wr=>∃m:Nat,(m:Int)≤8∧iv=.int .i64 (7-(m:Int))∧Hid (RowC w.heap.size ((s.data.toList++[128]++List.replicate (pH s.size) 0++(qE s.size).take m).map lG) v wr)∧Hid (Below w.heap.size w wr)) (fun _ iv _=>(intOf iv+1).toNat)
   case atStart=>exact⟨0,aC,rfl,hZ (by rw[List.take_zero,List.append_nil];exact HR.out),HB⟩
   case round=>
    obtain⟨m,hm,rfl,HR,HB⟩:=hrel
    have hlm:((s.data.toList++[128]++List.replicate (pH s.size) 0++(qE s.size).take m).map lG).length=s.size+1+pH s.size+m:=by
     rw[List.length_map,List.length_append,List.length_append,List.length_append,HN.out,List.length_replicate,List.length_take];show s.size+1+pH s.size+min m 8=_
     omega
    have HLJ:=hZ hlm;by_cases hlt:(m:Int)<8
    ·rcases (show m=0∨m=1∨m=2∨m=3∨m=4∨m=5∨m=6∨m=7 by omega)with rfl|rfl|rfl|rfl|rfl|rfl|rfl|rfl
     ·clear hlm;go_wp2_with (first|(at_builtin;refine mD rfl _ _ 155 rfl w.heap.size 5 i0 (.int .u8 0) 1 Tryz.underlying155 hi hz0 hz1 hz2 rfl _ _ rfl (HR.out.keep ((Below.refl _ _).alloc (Nat.le_refl _) _)) _ ⟨wr.heap.size,0,none⟩ rfl (Eg wr _ _) rfl fA dS cW ?_;intro v1 w1 hr1 hb1;have HR1:=hZ hr1;have HB2:=hZ (HB.out.trans (((Below.refl w.heap.size wr).alloc HB.out.size _).trans hb1));clear hr1 hb1)|go_in);go_roundw
      case rel=>
       refine⟨1,aC,rfl,hZ ?_,HB2⟩;rw[show s.data.toList++[128]++List.replicate (pH s.size) 0++(qE s.size).take 1=(s.data.toList++[128]++List.replicate (pH s.size) 0++(qE s.size).take 0)++[UInt8.ofNat (8*s.size/2^56)]from sY _ (show(qE s.size).take 1=(qE s.size).take 0++[UInt8.ofNat (8*s.size/2^56)]from rfl),List.map_append];refine Eq.mp (congrArg (fun u=>RowC w.heap.size (_++[u]) v1 w1) (congrArg (Value.int .u8) ?_)) HR1.out;rw[UInt8.toNat_ofNat'];omega
      case measure=>simp[intOf]
     ·clear hlm;go_wp2_with (first|(at_builtin;refine mD rfl _ _ 155 rfl w.heap.size 5 i0 (.int .u8 0) 1 Tryz.underlying155 hi hz0 hz1 hz2 rfl _ _ rfl (HR.out.keep ((Below.refl _ _).alloc (Nat.le_refl _) _)) _ ⟨wr.heap.size,0,none⟩ rfl (Eg wr _ _) rfl fA dS cW ?_;intro v1 w1 hr1 hb1;have HR1:=hZ hr1;have HB2:=hZ (HB.out.trans (((Below.refl w.heap.size wr).alloc HB.out.size _).trans hb1));clear hr1 hb1)|go_in);go_roundw
      case rel=>
       refine⟨2,aC,rfl,hZ ?_,HB2⟩;rw[show s.data.toList++[128]++List.replicate (pH s.size) 0++(qE s.size).take 2=(s.data.toList++[128]++List.replicate (pH s.size) 0++(qE s.size).take 1)++[UInt8.ofNat (8*s.size/2^48)]from sY _ (show(qE s.size).take 2=(qE s.size).take 1++[UInt8.ofNat (8*s.size/2^48)]from rfl),List.map_append];refine Eq.mp (congrArg (fun u=>RowC w.heap.size (_++[u]) v1 w1) (congrArg (Value.int .u8) ?_)) HR1.out;rw[UInt8.toNat_ofNat'];omega
      case measure=>simp[intOf]
     ·clear hlm;go_wp2_with (first|(at_builtin;refine mD rfl _ _ 155 rfl w.heap.size 5 i0 (.int .u8 0) 1 Tryz.underlying155 hi hz0 hz1 hz2 rfl _ _ rfl (HR.out.keep ((Below.refl _ _).alloc (Nat.le_refl _) _)) _ ⟨wr.heap.size,0,none⟩ rfl (Eg wr _ _) rfl fA dS cW ?_;intro v1 w1 hr1 hb1;have HR1:=hZ hr1;have HB2:=hZ (HB.out.trans (((Below.refl w.heap.size wr).alloc HB.out.size _).trans hb1));clear hr1 hb1)|go_in);go_roundw
      case rel=>
       refine⟨3,aC,rfl,hZ ?_,HB2⟩;rw[show s.data.toList++[128]++List.replicate (pH s.size) 0++(qE s.size).take 3=(s.data.toList++[128]++List.replicate (pH s.size) 0++(qE s.size).take 2)++[UInt8.ofNat (8*s.size/2^40)]from sY _ (show(qE s.size).take 3=(qE s.size).take 2++[UInt8.ofNat (8*s.size/2^40)]from rfl),List.map_append];refine Eq.mp (congrArg (fun u=>RowC w.heap.size (_++[u]) v1 w1) (congrArg (Value.int .u8) ?_)) HR1.out;rw[UInt8.toNat_ofNat'];omega
      case measure=>simp[intOf]
     ·clear hlm;go_wp2_with (first|(at_builtin;refine mD rfl _ _ 155 rfl w.heap.size 5 i0 (.int .u8 0) 1 Tryz.underlying155 hi hz0 hz1 hz2 rfl _ _ rfl (HR.out.keep ((Below.refl _ _).alloc (Nat.le_refl _) _)) _ ⟨wr.heap.size,0,none⟩ rfl (Eg wr _ _) rfl fA dS cW ?_;intro v1 w1 hr1 hb1;have HR1:=hZ hr1;have HB2:=hZ (HB.out.trans (((Below.refl w.heap.size wr).alloc HB.out.size _).trans hb1));clear hr1 hb1)|go_in);go_roundw
      case rel=>
       refine⟨4,aC,rfl,hZ ?_,HB2⟩;rw[show s.data.toList++[128]++List.replicate (pH s.size) 0++(qE s.size).take 4=(s.data.toList++[128]++List.replicate (pH s.size) 0++(qE s.size).take 3)++[UInt8.ofNat (8*s.size/2^32)]from sY _ (show(qE s.size).take 4=(qE s.size).take 3++[UInt8.ofNat (8*s.size/2^32)]from rfl),List.map_append];refine Eq.mp (congrArg (fun u=>RowC w.heap.size (_++[u]) v1 w1) (congrArg (Value.int .u8) ?_)) HR1.out;rw[UInt8.toNat_ofNat'];omega
      case measure=>simp[intOf]
     ·clear hlm;go_wp2_with (first|(at_builtin;refine mD rfl _ _ 155 rfl w.heap.size 5 i0 (.int .u8 0) 1 Tryz.underlying155 hi hz0 hz1 hz2 rfl _ _ rfl (HR.out.keep ((Below.refl _ _).alloc (Nat.le_refl _) _)) _ ⟨wr.heap.size,0,none⟩ rfl (Eg wr _ _) rfl fA dS cW ?_;intro v1 w1 hr1 hb1;have HR1:=hZ hr1;have HB2:=hZ (HB.out.trans (((Below.refl w.heap.size wr).alloc HB.out.size _).trans hb1));clear hr1 hb1)|go_in);go_roundw
      case rel=>
       refine⟨5,aC,rfl,hZ ?_,HB2⟩;rw[show s.data.toList++[128]++List.replicate (pH s.size) 0++(qE s.size).take 5=(s.data.toList++[128]++List.replicate (pH s.size) 0++(qE s.size).take 4)++[UInt8.ofNat (8*s.size/2^24)]from sY _ (show(qE s.size).take 5=(qE s.size).take 4++[UInt8.ofNat (8*s.size/2^24)]from rfl),List.map_append];refine Eq.mp (congrArg (fun u=>RowC w.heap.size (_++[u]) v1 w1) (congrArg (Value.int .u8) ?_)) HR1.out;rw[UInt8.toNat_ofNat'];omega
      case measure=>simp[intOf]
     ·clear hlm;go_wp2_with (first|(at_builtin;refine mD rfl _ _ 155 rfl w.heap.size 5 i0 (.int .u8 0) 1 Tryz.underlying155 hi hz0 hz1 hz2 rfl _ _ rfl (HR.out.keep ((Below.refl _ _).alloc (Nat.le_refl _) _)) _ ⟨wr.heap.size,0,none⟩ rfl (Eg wr _ _) rfl fA dS cW ?_;intro v1 w1 hr1 hb1;have HR1:=hZ hr1;have HB2:=hZ (HB.out.trans (((Below.refl w.heap.size wr).alloc HB.out.size _).trans hb1));clear hr1 hb1)|go_in);go_roundw
      case rel=>
       refine⟨6,aC,rfl,hZ ?_,HB2⟩;rw[show s.data.toList++[128]++List.replicate (pH s.size) 0++(qE s.size).take 6=(s.data.toList++[128]++List.replicate (pH s.size) 0++(qE s.size).take 5)++[UInt8.ofNat (8*s.size/2^16)]from sY _ (show(qE s.size).take 6=(qE s.size).take 5++[UInt8.ofNat (8*s.size/2^16)]from rfl),List.map_append];refine Eq.mp (congrArg (fun u=>RowC w.heap.size (_++[u]) v1 w1) (congrArg (Value.int .u8) ?_)) HR1.out;rw[UInt8.toNat_ofNat'];omega
      case measure=>simp[intOf]
     ·clear hlm;go_wp2_with (first|(at_builtin;refine mD rfl _ _ 155 rfl w.heap.size 5 i0 (.int .u8 0) 1 Tryz.underlying155 hi hz0 hz1 hz2 rfl _ _ rfl (HR.out.keep ((Below.refl _ _).alloc (Nat.le_refl _) _)) _ ⟨wr.heap.size,0,none⟩ rfl (Eg wr _ _) rfl fA dS cW ?_;intro v1 w1 hr1 hb1;have HR1:=hZ hr1;have HB2:=hZ (HB.out.trans (((Below.refl w.heap.size wr).alloc HB.out.size _).trans hb1));clear hr1 hb1)|go_in);go_roundw
      case rel=>
       refine⟨7,aC,rfl,hZ ?_,HB2⟩;rw[show s.data.toList++[128]++List.replicate (pH s.size) 0++(qE s.size).take 7=(s.data.toList++[128]++List.replicate (pH s.size) 0++(qE s.size).take 6)++[UInt8.ofNat (8*s.size/2^8)]from sY _ (show(qE s.size).take 7=(qE s.size).take 6++[UInt8.ofNat (8*s.size/2^8)]from rfl),List.map_append];refine Eq.mp (congrArg (fun u=>RowC w.heap.size (_++[u]) v1 w1) (congrArg (Value.int .u8) ?_)) HR1.out;rw[UInt8.toNat_ofNat'];omega
      case measure=>simp[intOf]
     ·clear hlm;go_wp2_with (first|(at_builtin;refine mD rfl _ _ 155 rfl w.heap.size 5 i0 (.int .u8 0) 1 Tryz.underlying155 hi hz0 hz1 hz2 rfl _ _ rfl (HR.out.keep ((Below.refl _ _).alloc (Nat.le_refl _) _)) _ ⟨wr.heap.size,0,none⟩ rfl (Eg wr _ _) rfl fA dS cW ?_;intro v1 w1 hr1 hb1;have HR1:=hZ hr1;have HB2:=hZ (HB.out.trans (((Below.refl w.heap.size wr).alloc HB.out.size _).trans hb1));clear hr1 hb1)|go_in);go_roundw
      case rel=>
       refine⟨8,aC,rfl,hZ ?_,HB2⟩;rw[show s.data.toList++[128]++List.replicate (pH s.size) 0++(qE s.size).take 8=(s.data.toList++[128]++List.replicate (pH s.size) 0++(qE s.size).take 7)++[UInt8.ofNat (8*s.size/2^0)]from sY _ (show(qE s.size).take 8=(qE s.size).take 7++[UInt8.ofNat (8*s.size/2^0)]from rfl),List.map_append];refine Eq.mp (congrArg (fun u=>RowC w.heap.size (_++[u]) v1 w1) (congrArg (Value.int .u8) ?_)) HR1.out;rw[UInt8.toNat_ofNat'];omega
      case measure=>simp[intOf]
    ·obtain rfl:m=8:=by omega
     go_wp2_with fail;go_ret;refine⟨_,rfl,?_,HB.out⟩
     have hp:Br s.data.toList=s.data.toList++[128]++List.replicate (pH s.size) 0++(qE s.size).take 8:=by
      unfold Br;rw[HN.out]
      rfl
     rw[hp];exact HR.out
  ·have hjz:j<pH s.size:=by omega
   go_wp2_with (first|(at_builtin;refine mD rfl _ _ 155 rfl w.heap.size 5 i0 (.int .u8 0) 1 Tryz.underlying155 hi hz0 hz1 hz2 rfl _ _ rfl (HR.out.keep ((Below.refl _ _).alloc (Nat.le_refl _) _)) _ ⟨wr.heap.size,0,none⟩ rfl (Eg wr _ _) rfl fA dS cW ?_;intro v1 w1 hr1 hb1;have HR1:=hZ hr1;have HB2:=hZ (HB.out.trans (((Below.refl w.heap.size wr).alloc HB.out.size _).trans hb1));clear hr1 hb1)|go_in)
   case roundEnd=>
    have hl1:((s.data.toList++[128]++List.replicate j 0).map lG++[Value.int .u8 0])=(s.data.toList++[128]++List.replicate (j+1) 0).map lG:=by
     rw[List.replicate_succ',←List.append_assoc,List.map_append (l₂:=[0])]
     rfl
    rw[hl1]at HR1;obtain⟨p1,cap1,rfl,-⟩:=HR1.out.slice;refine⟨⟨j+1,aC,HR1,HB2⟩,?_⟩
    have hl2:((s.data.toList++[128]++List.replicate (j+1) 0).map lG).length=s.size+1+(j+1):=by
     rw[←hl1,List.length_append,HLJ.out]
     rfl
    rw[hl2];show(120-(s.size+1+(j+1)) %64) %64<(120-(s.size+1+j) %64) %64
    omega
theorem Fi(x:Int)(s:ByteArray)(w:World)(hK:zZ w)(hG:GU w)(hs:s.size≤140737488352256):
  Calls Tryz.prog 71 #[.int .i64 x,.string s] w fun e w'=>e=.returned (.agg (L1 x s).toArray)∧Below w.heap.size w w':=by
 have HK:=hZ hK;have HG:=hZ hG
 clear hK hG
 obtain⟨P,hP⟩:∃P,Br s.data.toList=P:=⟨_,rfl⟩
 have HLP:=hZ (show P.length%64=0∧0<P.length∧P.length≤s.size+72 from by
  rw[←hP];exact⟨EN _,Kz _,Nat.le_trans (L4 _) (by rw[Array.length_toList];exact Nat.le_refl _)⟩)
 have HP:=hZ hP;go_enter Tryz.func71,Tryz.ntmps71;go_wp2_with fail;refine(Fh s _ hs).mono ?_;rintro e w1 ⟨v6,rfl,hrow,hb1⟩;rw[hP]at hrow;rw[World.size_alloc]at hrow hb1;clear hP;have hb1':Below w.heap.size w w1:=((Below.refl w.heap.size w).alloc (Nat.le_refl _) _).trans (hb1.mono aC)
 have hr1:w1.heap[w.heap.size]?=some (.cells z32 33 (0,0)):=(hb1.block _ aC).trans (lP _ _);have HB1:=hZ hb1'
 have HR1:=hZ hr1;have HZ1:=hZ (lH hr1)
 clear hb1 hb1' hr1;rcases hrow with⟨-,h0⟩|⟨g,cap,rfl,hg1,hg2,hg3,hg4,hg6,-⟩
 ·have:=HLP.out.2.1;rw[List.map_eq_nil_iff]at h0;rw[h0]at this;cases this
 rw[List.length_map]at hg3⊢;have HC:=hZ hg6
 have HGG:=hZ (show w.heap.size+1≤g∧g<w1.heap.size from⟨hg1,hg2⟩);have HCAP:=hZ (show P.length≤cap∧cap≤maxLen from⟨hg3,hg4⟩)
 obtain⟨L,hL⟩:∃L,P.length=L:=⟨_,rfl⟩
 rw[hL]at HLP HCAP⊢;have HL:=hZ hL
 clear hg6 hg1 hg2 hg3 hg4 hL;go_wp2_with fail;go_loopw [5,7] (fun v iv wr=>∃j:Nat,64*j≤L∧iv=.int .i64 ((64*j:Nat):Int)∧Hid (Nums8 wr v (zG pV r8i P j))∧Hid (Below w1.heap.size w1 wr)) (fun _ iv _=>L-(intOf iv).toNat)
 case atStart=>exact⟨0,aC,rfl,hZ ⟨_,_,rfl,Nat.lt_of_lt_of_le HG.out.2 HB1.out.size,fun j hj=>(HB1.out.cell (p:=⟨1,j,none⟩) HG.out.2).trans (HG.out.1 j hj)⟩,hZ (Below.refl _ _)⟩
 case round=>
  obtain⟨j,hj,rfl,HN,HB⟩:=hrel;have hl2:L≤140737488355328:=by have:=HLP.out.2.2;omega
  by_cases hlt:((64*j:Nat):Int)<L
  ·have hj64:64*j+64≤L:=by have:=HLP.out.1;omega
   obtain⟨hg,c1,rfl,hgl,hgc⟩:=HN.out
   have hI:BlkIn wr hg g (64*j) (zG pV r8i P j) ((P.drop (64*j)).take 64):=by
    refine⟨hgl,Nat.lt_of_lt_of_le HGG.out.2 HB.out.size,hgc,by rw[List.length_take,List.length_drop,HL.out];omega,fun k hk=>?_⟩;refine(HB.out.cell (p:=⟨g,64*j+k,none⟩) HGG.out.2).trans (HC.out _ _ ?_);have hkl:64*j+k<P.length:=jU
    rw[List.getElem?_map,List.getElem?_eq_getElem hkl,List.getD_eq_getElem?_getD,List.getElem?_take,if_pos hk,List.getElem?_drop,List.getElem?_eq_getElem hkl]
    rfl
   have hKr:zZ wr:=⟨fun i k hk=>(HB.out.cell (p:=⟨2,i,none⟩) (Nat.lt_of_lt_of_le HK.out.2 HB1.out.size)).trans ((HB1.out.cell (p:=⟨2,i,none⟩) HK.out.2).trans (HK.out.1 i k hk)),Nat.lt_of_lt_of_le HK.out.2 (Nat.le_trans HB1.out.size HB.out.size)⟩
   have hc:=fun c2=>Eh (c1:=c1) (c2:=c2) hI hKr
   have hcap:=HCAP.out;have hw:IntKind.i64.wrap (((64*j:Nat):Int)+64)=((64*j+64:Nat):Int):=dL
   obtain⟨H1,hH1⟩:∃H1,pV (zG pV r8i P j) ((P.drop (64*j)).take 64)=H1:=⟨_,rfl⟩
   rw[hH1]at hc;have HH1:=hZ (show zG pV r8i P (j+1)=H1 from hH1)
   have HCC:=hZ hc;clear hI hKr hc hH1 hgc hgl HN
   obtain⟨a,ha⟩:∃a,64*j=a:=⟨_,rfl⟩
   rw[ha]at hlt hj64 hw HCC⊢;go_wp2_with (first|(go_at_call 129;refine(HCC.out _).mono ?_;rintro e w2 ⟨v,rfl,hr2,hb2⟩;have HR2:=hZ hr2;have HB2:=hZ (HB.out.trans (hb2.mono HB.out.size));clear hr2 hb2)|go_in)
   case roundEnd=>
    have hw2:IntKind.i64.wrap ((a:Int)+64)=((64*(j+1):Nat):Int):=by rw[hw];omega
    refine⟨⟨j+1,aC,by first|rw[hw2]|exact congrArg _ (show(a:Int)+64=((64*(j+1):Nat):Int) by omega),hZ ?_,HB2⟩,cN⟩;rw[HH1.out];exact Nums8.ofRow HR2.out
  ·obtain⟨hg,c1,rfl,hgl,hgc⟩:=HN.out
   have hcs:zG pV r8i P j=Kd pV r8i s.data.toList:=by
    unfold Kd;rw[HP.out]
    congr 1
    rw[HL.out];omega
   rw[hcs]at hgc
   obtain⟨V,hV⟩:∃V,Kd pV r8i s.data.toList=V:=⟨_,rfl⟩
   rw[hV]at hgc;have HGC:=hZ hgc
   have HGL:=hZ hgl;have HV:=hZ hV
   clear hgc hgl hV hcs HN;go_wp2_with fail
   obtain⟨WZ,hWZ⟩:∃z,wr.heap.size=z:=⟨_,rfl⟩
   have HW2:Hid (Below WZ wr (wr.alloc (.cells z32 33))):=hZ ((Below.refl _ _).alloc (by rw[hWZ];exact Nat.le_refl _) _);have HX2:Hid ((wr.alloc (.cells z32 33)).heap[WZ]?=some (.cells (uS V 0).toArray 33 (0,0))):=hZ (by rw[←hWZ,lP];rfl)
   have HWL:Hid (w.heap.size<wr.heap.size):=hZ (Nat.lt_of_lt_of_le HZ1.out HB.out.size);have HWZ:=hZ hWZ
   rw[hWZ]at HGL HWL⊢;clear hWZ;go_loopw [9] (fun iv wx=>∃i:Nat,(i:Int)≤CC x∧iv=.int .i64 i∧Hid (Below WZ wr wx)∧Hid (wx.heap[WZ]?=some (.cells (uS V i).toArray 33 (0,0)))) (fun iv _=>32-(intOf iv).toNat)
   case atStart=>exact⟨0,by unfold CC;omega,rfl,HW2,HX2⟩
   case round=>
    obtain⟨i,hi,rfl,HB2,HD⟩:=hrel;have hwd:CC x=min (max x 1) 32:=rfl
    by_cases hlt:(i:Int)<32∧(i:Int)<(if x<1 then 1 else x)
    ·obtain⟨h32,hmx⟩:=hlt;have hq:i/4<8:=aC
     obtain⟨y,hy⟩:∃y,V.at (i/4)=y:=⟨_,rfl⟩
     have c1:wr.cell? ⟨hg,i/4,none⟩=some (.int .u32 y):=by
      rw[←hy];exact(HB2.out.cell (p:=⟨hg,i/4,none⟩) HGL.out).trans (HGC.out _ hq)
     have d0:wr.cell? ⟨WZ,i,none⟩=some (.int .u8 (if i<i then V.at (i/4)/2^(24-8*(i%4)) %256 else 0)):=by
      rw[lF HD.out,List.getElem?_toArray];unfold uS;rw[List.getElem?_map,List.getElem?_range aC]
      rfl
     have f0:wr.frozen? ⟨WZ,i,none⟩=false:=lI HD.out;rw[if_neg (Nat.lt_irrefl i)]at d0;have HY:=hZ hy
     have hle:((i+1:Nat):Int)≤CC x:=by
      unfold CC;split at hmx<;>omega
     have HLE:=hZ hle;clear hy hle hwd;have hm:=Nat.mod_lt i (show 0<4 by omega)
     rcases (show i%4=0∨i%4=1∨i%4=2∨i%4=3 by omega)with hr4|hr4|hr4|hr4
     ·have hr5:(i:Int) %4=0:=by omega
      have HSET:=hZ (BA HD.out (show i<32 by omega));go_wp2_with fail;refine⟨⟨i+1,HLE.out,aG,hZ (HB2.out.setCell (Nat.le_refl WZ) _),hZ ?_⟩,cN⟩;have h:=HSET.out
      rw[HY.out,hr4,show(2:Int)^(24-8*0)=16777216 from aA]at h;exact h
     ·have hr5:(i:Int) %4=1:=by omega
      have HSET:=hZ (BA HD.out (show i<32 by omega));go_wp2_with fail;refine⟨⟨i+1,HLE.out,aG,hZ (HB2.out.setCell (Nat.le_refl WZ) _),hZ ?_⟩,cN⟩;have h:=HSET.out
      rw[HY.out,hr4,show(2:Int)^(24-8*1)=65536 from aA]at h;exact h
     ·have hr5:(i:Int) %4=2:=by omega
      have HSET:=hZ (BA HD.out (show i<32 by omega));go_wp2_with fail;refine⟨⟨i+1,HLE.out,aG,hZ (HB2.out.setCell (Nat.le_refl WZ) _),hZ ?_⟩,cN⟩;have h:=HSET.out
      rw[HY.out,hr4,show(2:Int)^(24-8*2)=256 from aA]at h;exact h
     ·have hr5:(i:Int) %4=3:=by omega
      have HSET:=hZ (BA HD.out (show i<32 by omega));go_wp2_with fail;refine⟨⟨i+1,HLE.out,aG,hZ (HB2.out.setCell (Nat.le_refl WZ) _),hZ ?_⟩,cN⟩;have h:=HSET.out
      rw[HY.out,hr4,show(2:Int)^(24-8*3)=1 from aA,Int.ediv_one]at h;exact h
    ·obtain rfl:i=(CC x).toNat:=by
      unfold CC at hi⊢;by_cases hx:x<1
      ·rw[if_pos hx]at hlt;omega
      ·rw[if_neg hx]at hlt;omega
     obtain⟨n,hn⟩:∃n,(CC x).toNat=n:=⟨_,rfl⟩
     rw[hn]at hlt HD⊢;have HN:=hZ hn
     clear hn hi hwd;have hbx:wr.heap[w.heap.size]?=some (.cells z32 33 (0,0)):=(HB2.out.block w.heap.size HWL.out).trans ((HB.out.block _ HZ1.out).trans HR1.out)
     have hdl:(uS V n).length=32:=Kw V n;have HI33:(Tryz.prog.info? 33).map (·.size)=some (uS V n).length:=by rw[hdl];kernel_rfl
     have HU33:Tryz.prog.underlying 33=some _:=Tryz.underlying33
     have HRG:wr.rangeAt WZ 0 (uS V n):=fun j v hv=>by
      rw[Nat.zero_add,lF HD.out,List.getElem?_toArray];exact hv
     have hst:=zW hbx hdl (Kx _ _);have HBX:=hZ hbx
     clear hbx;have hne:¬((n:Int)<32∧(n:Int)<(if x<1 then 1 else x)):=hlt
     by_cases h32:(n:Int)<32
     ·have hmx:¬(n:Int)<(if x<1 then 1 else x):=fun h=>hne ⟨h32,h⟩
      clear hne hlt;go_wp2_with (first|refine wpList_load_mid rfl _ _ rfl WZ 0 rfl (uS V n) _ HRG HU33 rfl HI33 ?_)
      all_goals
       have hz4:w.heap.size<wr.heap.size:=lH HBX.out;refine bodyPost_ret (v:=.agg (uS V n).toArray) (results_cell_row (fn:=Tryz.f71) rfl _ _ w.heap.size 33 _ (0,0) _ rfl (lM hz4) HU33 rfl (by rw[List.size_toArray];exact HI33)) rfl ⟨by unfold L1;rw[HV.out,HN.out],?_⟩;have e3:=((Off.refl (fun b=>b=w.heap.size) wr).setBlk (k:=w.heap.size) (o:=.cells (uS V n).toArray 33 (0,0)) (fun _=>rfl)).toBelow (B:=w.heap.size) (fun k hk=>aC) (Nat.le_of_lt hz4)
       exact gB
     ·clear hne hlt;go_wp2_with (first|refine wpList_load_mid rfl _ _ rfl WZ 0 rfl (uS V n) _ HRG HU33 rfl HI33 ?_);have hz4:w.heap.size<wr.heap.size:=lH HBX.out
      refine bodyPost_ret (v:=.agg (uS V n).toArray) (results_cell_row (fn:=Tryz.f71) rfl _ _ w.heap.size 33 _ (0,0) _ rfl (lM hz4) HU33 rfl (by rw[List.size_toArray];exact HI33)) rfl ⟨by unfold L1;rw[HV.out,HN.out],?_⟩;have e3:=((Off.refl (fun b=>b=w.heap.size) wr).setBlk (k:=w.heap.size) (o:=.cells (uS V n).toArray 33 (0,0)) (fun _=>rfl)).toBelow (B:=w.heap.size) (fun k hk=>aC) (Nat.le_of_lt hz4)
      exact gB
end Go.Proofs.YtdkedmngeahjiaaGreatDoor
