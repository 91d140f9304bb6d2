/- The walk of BlobsPlays. Printed by wip/g37.py. -/
import Derived.Test.YtecgikanophonaaGreatDoorM46
import Derived.Deep.Cut
import Derived.Deep.CutBlock
set_option maxRecDepth 100000
set_option maxHeartbeats 25600000
namespace Go.Proofs.YtecgikanophonaaGreatDoor
open Go Go.RowKit
theorem width_any {W:World} {a sb:Nat} {x:Int} (h:W.heap[(sb,storeO a x).1]?=some (sb,storeO a x).2):Calls Tryz.prog 32 #[.pointer (some ⟨sb,0,none⟩)] W fun e W'=>e=.returned (.int .i64 x)∧W=W':=by
 have c1:W.cell? ⟨sb,1,none⟩=some (.int .i64 x):=by rw [cell_of_heapN h];rfl
 go_enter Tryz.func32,Tryz.ntmps32
 go_wp2_with fail
 go_ret
 exact ⟨rfl,rfl⟩
structure CallG (f:Nat) (ds:List (List Nat)) (w5:World) (F:World→Prop) (L:Nat→Bool) (W:World):Prop where
 bel:L f=false→Below w5.heap.size w5 W
 fin:L f=true→F W
 all:L f=true→∀ j,j < f→L j=true
 cl:∀ i,L i=true→∀ j∈ds.getD i [],L j=true
theorem CallG.off {f:Nat} {ds:List (List Nat)} {w5 W:World} {F:World→Prop} {L:Nat→Bool} (h:CallG f ds w5 F L W) {i:Nat} (hL:L i=false) (hi:i < f):L f=false:=by
 cases hx:L f with
 |false=>rfl
 |true=>rw [h.all hx i hi] at hL;cases hL
theorem CallG.upd {f:Nat} {ds:List (List Nat)} {w5 W:World} {F:World→Prop} {L:Nat→Bool} (h:CallG f ds w5 F L W) (k:Nat) (h2:k≠f) (hd:∀ j∈ds.getD k [],L j=true):CallG f ds w5 F (updL L k) W:=by
 have e2:updL L k f=L f:=updL_ne h2.symm
 exact ⟨fun a=>h.bel (e2 ▸ a),fun a=>h.fin (e2 ▸ a),fun a j hj=>updL_keep (h.all (e2 ▸ a) j hj),cl_upd h.cl k hd⟩
theorem CallG.done {f:Nat} {ds:List (List Nat)} {w5 W W':World} {F:World→Prop} {L:Nat→Bool} (h:CallG f ds w5 F L W) (hd:∀ j∈ds.getD f [],L j=true) (hall:∀ j,j < f→L j=true) (hf:F W'):CallG f ds w5 F (updL L f) W':=by
 refine ⟨fun a=>?_,fun _=>hf,fun _ j hj=>updL_keep (hall j hj),cl_upd h.cl f hd⟩
 rw [updL_self] at a;cases a
theorem plays_any (w:World) (hG:ErrT w) (hT:RoundsT w) (hR:RoundsR w) (hB:BeginR w) (rm wd:Int) (hr1:-9223372036854775808≤rm) (hr2:rm≤9223372036854775807) (hw1:-9223372036854775808≤wd) (hw2:wd≤9223372036854775807)
  (p:Option Addr) (cap:Nat) (l:List ActM) (hv:ActsAt w (.slice p l.length cap) l) (hl:l.length≤8800000000000) (hs:∀ a∈l,a.Fits) :
  Calls Tryz.prog 6 #[.int .i64 rm,.int .i64 wd,.slice p l.length cap] w fun e w'=>e=.returned (.bool true)∧Below w.heap.size w w':=by
 have HG:=hZ hG
 have HTT:=hZ hT
 have HRR:=hZ hR
 have HBR:=hZ hB
 have HV:=hZ hv
 have HSZ:=hZ hs
 obtain ⟨nl,hL⟩:∃ n,l.length=n:=⟨_,rfl⟩
 rw [hL] at HV hl ⊢
 have HL:=hZ hL
 have hli:(nl:Int)≤8800000000000:=by omega
 have HGT:Hid (3 < w.heap.size∧2 < w.heap.size∧0 < w.heap.size):=hZ ⟨hT.2,hR.2,hB.2⟩
 clear hG hT hR hB hv hs hL
 go_enter Tryz.func6,Tryz.ntmps6
 go_wp2_with fail
 refine (new_any w rm hr1 hr2).mono ?_
 rintro e w1 ⟨a,rfl,hd1,hb1⟩
 have HD1:=hZ hd1
 have HB1:=hZ hb1
 clear hd1 hb1
 go_wp2_with fail
 refine (refNew_any w1 rm hr1 hr2).mono ?_
 rintro e w2 ⟨r,rfl,hd2,hb2⟩
 have hp2:=PlayB.start HTT.out HRR.out HBR.out HD1.out HB1.out hd2 hb2
 have hz2:w.heap.size≤w2.heap.size:=Nat.le_trans HB1.out.size hb2.size
 obtain ⟨W0,hW0⟩:∃ W,w2.alloc (.cells #[.pointer (some ⟨a,0,none⟩),.pointer none,.pointer (some ⟨r,0,none⟩),.pointer none] 68)=W:=⟨_,rfl⟩
 have hp0:=hp2.keep (W':=W0) (by rw [← hW0];exact (Below.refl _ _).alloc (Nat.le_refl _) _) (Nat.le_refl _) (show W0.heap[w2.heap.size]?=some (worldO a none r none) by rw [← hW0];exact heap_new _ _)
 obtain ⟨m0,hm0⟩:∃ m,DM.new rm=m:=⟨_,rfl⟩
 have htb:TabP m0 0:=by rw [← hm0];exact TabP.new rm
 rw [hm0] at hp0
 have HP0:=hZ hp0
 have HT0:=hZ htb
 have HWZ:=hZ hz2
 have HW0:=hZ hW0
 clear hp2 hp0 htb hm0 hz2 hd2 hb2 HD1 HB1 hr1 hr2 hW0
 go_upto_block 0 with fail
 rw [HW0.out]
 obtain ⟨wb,hwb⟩:∃ b,w2.heap.size=b:=⟨_,rfl⟩
 rw [hwb] at HP0 HWZ ⊢
 clear HW0 hwb
 go_cut [8] from 20 (fun _ wr=>Hid (∃ n k m N qp,PlayB w a r wr n m k m [(wb,worldO a none r qp)]∧TabP m N∧(n≤8∧k≤8∧N≤8)))
 case first =>
  go_wp2_with fail
  go_loopw [8] (fun iv wr=>∃ i:Nat,i≤4∧iv=.int .i64 i∧∃ (n k:Nat) (m:DM) (N:Nat) (qp:Option Addr),Hid (PlayB w a r wr n m k m [(wb,worldO a none r qp)])∧Hid (TabP m N)∧(n≤2 * i∧k≤2 * i∧N≤2 * i)) (fun iv _=>4 - (intOf iv).toNat)
  case atStart=>exact ⟨0,by decide,rfl,0,0,m0,0,none,HP0,HT0,by decide⟩
  case round =>
   obtain ⟨i,hi,rfl,n,k,m,N,qp,HP,HTB,hnn⟩:=hrel
   by_cases hlt:i < 4∧i < nl
   ·obtain ⟨hlt1,hlt2⟩:=hlt
    have hi1:(i:Int) < 4:=by omega
    have hi2:(i:Int) < (nl:Int):=by omega
    obtain ⟨act,ha⟩:∃ act,l[i]?=some act:=⟨_,List.getElem?_eq_getElem (i:=i) (by rw [HL.out];omega)⟩
    obtain ⟨p',c',he,hvv⟩:=HV.out
    obtain ⟨vb,vo,kv,hvp,hvl,hvc,hvk⟩:=hvv i act ha
    obtain ⟨f1,f2,f3,f4⟩:=HSZ.out act (List.mem_of_getElem? ha)
    have hpe:p=some ⟨vb,vo,none⟩:=by cases he;exact hvp
    subst hpe
    have HKI:=hZ hvk
    obtain ⟨kp,kc,rfl⟩:=hvk.slice
    obtain ⟨KL,hKL⟩:∃ KL,act.keep.length=KL:=⟨_,rfl⟩
    rw [hKL] at HKI hvc
    have HKL:=hZ hKL
    have HCE:Hid (∀ V,Below w.heap.size w V→∀ j,j < 4→V.cell? ⟨vb,vo+(i * 4+j),none⟩=(act.cells (.slice kp KL kc))[j]?):=hZ (fun V hV j hj=>(hV.cell (p:=⟨vb,vo+(i * 4+j),none⟩) hvl).trans (hvc j hj))
    obtain ⟨kd0,txt,num,keep⟩:=act
    simp only at f1 f2 f3 f4 HKI HKL
    have HF1:=hZ f1
    have HF2:=hZ f2
    have HF3:=hZ f3
    have HF4:=hZ f4
    have HAC:Hid (∀ V,Below w.heap.size w V→V.cell? ⟨vb,vo+i * 4,none⟩=some (.int .i64 kd0)∧V.cell? ⟨vb,vo+i * 4+1,none⟩=some (.string txt)∧V.cell? ⟨vb,vo+i * 4+2,none⟩=some (.int .i64 num)∧V.cell? ⟨vb,vo+i * 4+3,none⟩=some (.slice kp KL kc)):=hZ (fun V hV=>⟨HCE.out V hV 0 (by decide),(by rw [Nat.add_assoc];exact HCE.out V hV 1 (by decide)),(by rw [Nat.add_assoc];exact HCE.out V hV 2 (by decide)),(by rw [Nat.add_assoc];exact HCE.out V hV 3 (by decide))⟩)
    obtain ⟨r0,r1⟩:=pick_bd kd0 12 (by decide)
    have hpk:=fun W=>pick_any kd0 12 W (by decide) (by decide) f1.1 f1.2
    obtain ⟨kd,hkd⟩:∃ k,pick kd0 12=k:=⟨_,rfl⟩
    rw [hkd] at r0 r1 hpk
    have HPK:=hZ hpk
    have HKD:=hZ hkd
    have hiL:i < nl:=by omega
    clear ha he hvv hvp hvl hvc hvk hKL f1 f2 f3 f4 hkd hpk HCE
    have HLE:Hid (n≤2 * i∧k≤2 * i∧N≤2 * i∧i < 4):=hZ ⟨hnn.1,hnn.2.1,hnn.2.2,hlt1⟩
    obtain ⟨qb,hqb⟩:∃ b,wr.heap.size=b:=⟨_,rfl⟩
    obtain ⟨W1,hW1⟩:∃ W,wr.alloc (.cells #[.pointer (some ⟨r,0,none⟩),.int .i64 32] 70)=W:=⟨_,rfl⟩
    have hb1:Below wr.heap.size wr W1:=by rw [← hW1];exact (Below.refl _ _).alloc (Nat.le_refl _) _
    have hx1:W1.heap[qb]?=some (storeR r 32):=by rw [← hW1,← hqb];exact heap_new _ _
    have HP1:=hZ (HP.out.keep hb1 (by rw [hqb];exact Nat.le_refl _) hx1)
    have hne:wb≠qb:=by
     have:=blk_lt (HP.out.kept (wb,worldO a none r qp) (by simp))
     simp only at this
     omega
    have hxw:=HP1.out.kept (wb,worldO a none r qp) (by simp)
    have hsc:W1.setCell ⟨wb,3,none⟩ (.pointer (some ⟨qb,0,none⟩))=setBlk W1 wb (worldO a none r (some ⟨qb,0,none⟩)):=setCell_blk hxw
    obtain ⟨W2,hW2⟩:∃ W,setBlk W1 wb (worldO a none r (some ⟨qb,0,none⟩))=W:=⟨_,rfl⟩
    have hp2:=HP1.out.set (b:=wb) (o:=worldO a none r qp) (o':=worldO a none r (some ⟨qb,0,none⟩)) (by simp) HWZ.out HGT.out.1 HGT.out.2.1 HGT.out.2.2 [(wb,worldO a none r (some ⟨qb,0,none⟩)),(qb,storeR r 32)] (fun q hq=>by
     simp only [List.mem_cons,List.not_mem_nil,or_false] at hq
     rcases hq with rfl | rfl
     ·exact .inl rfl
     ·exact .inr ⟨by simp,fun e=>hne e.symm⟩)
    rw [hW2] at hp2 hsc
    have HP2:=hZ hp2
    have HSC:=hZ hsc
    have c2:W1.cell? ⟨wb,2,none⟩=some (.pointer (some ⟨r,0,none⟩)):=by unfold worldO at hxw;rw [cell_of_heapN hxw];rfl
    have c3:W1.cell? ⟨wb,3,none⟩=some (.pointer qp):=by unfold worldO at hxw;rw [cell_of_heapN hxw];rfl
    have cf:W1.frozen? ⟨wb,3,none⟩=false:=by unfold worldO at hxw;exact frozen_blk hxw
    have d2:=HP.out.cel (b:=wb) (c:=#[.pointer (some ⟨a,0,none⟩),.pointer none,.pointer (some ⟨r,0,none⟩),.pointer qp]) (t:=68) (by simp [worldO]) 2
    simp only [List.getElem?_toArray,List.getElem?_cons_zero,List.getElem?_cons_succ] at d2
    clear hb1 hx1 hne hxw hsc hW2 hp2 hnn HP
    go_wp2_with fail
    rw [hqb] at *
    rw [HSC.out]
    clear c2 c3 cf d2 hW1 hqb
    obtain ⟨w0,w1,w2,w3⟩:=HP2.out.wcel (a':=a) (sp:=none) (r':=r) (qp:=(some ⟨qb,0,none⟩)) wb (by simp)
    have HW0:=hZ w0
    have HW1:=hZ w1
    have HW2:=hZ w2
    have HW3:=hZ w3
    have HWB:Hid (wb < W2.heap.size):=hZ (blk_lt (HP2.out.kept (wb,worldO a none r (some ⟨qb,0,none⟩)) (by simp)))
    clear w0 w1 w2 w3
    by_cases hk9:kd < 9
    ·have hI0:Below W2.heap.size W2 W2.drew:=⟨rfl,rfl,rfl,Nat.le_refl _,fun _ _=>rfl⟩
     refine wp_region_flowG (fun _:Unit=>[.slice (some ⟨vb,vo,none⟩) nl cap,.int .i64 i,.pointer (some ⟨vb,vo+i * 4,none⟩),.pointer (some ⟨vb,vo+i * 4,none⟩),.int .i64 kd0,.int .i64 kd,.bool true,.bool true,undef,undef,undef,undef,undef,undef,undef,.bool true]) (fun _ _ W=>Below W2.heap.size W2 W)
      [[],[],[0,1],[2],[3],[4],[5],[6,5],[7],[7],[7],[9,10,7],[11,7],[8,12,7,7],[13,7],[7,14]] 175 () mixedD rfl (by kernel_rfl) (fun _=>rfl) hI0 ?_ ?_
     ·refine ⟨?_,?_,?_,?_,?_,?_,?_,?_,?_,?_,?_,?_,?_,?_,?_,?_,rfl⟩
      all_goals intro L γ W ev hL hd hW hc hf hg he h0
      ·have e2:ev (.tmp 2)=.slice (some ⟨vb,vo,none⟩) nl cap:=h0 2 rfl
       clear he h0 hc hf hg
       exact flS rfl (by go_simp <;> rfl) (hW) rfl
      ·have e8:ev (.tmp 8)=.int .i64 i:=h0 8 rfl
       clear he h0 hc hf hg
       exact flS rfl (by go_simp <;> rfl) (hW) rfl
      ·have e40:ev (.tmp 40)=.slice (some ⟨vb,vo,none⟩) nl cap:=he 0 (by decide) _ 40 rfl rfl
       have e41:ev (.tmp 41)=.int .i64 i:=he 1 (by decide) _ 41 rfl rfl
       clear he h0 hc hf hg
       exact flS rfl (by go_simp <;> rfl) (hW) rfl
      ·have e42:ev (.tmp 42)=.pointer (some ⟨vb,vo+i * 4,none⟩):=he 2 (by decide) _ 42 rfl rfl
       clear he h0 hc hf hg
       exact flS rfl (by go_simp <;> rfl) (hW) rfl
      ·have e43:ev (.tmp 43)=.pointer (some ⟨vb,vo+i * 4,none⟩):=he 3 (by decide) _ 43 rfl rfl
       obtain ⟨a0,a1,a2,a3⟩:=HAC.out W (HP2.out.toB.trans (hW.mono HP2.out.toB.size))
       clear he h0 hc hf hg
       exact flS rfl (by go_simp <;> rfl) (hW) rfl
      ·have e44:ev (.tmp 44)=.int .i64 kd0:=he 4 (by decide) _ 44 rfl rfl
       have hcc:=hc
       clear he h0 hc hg
       refine .inl ⟨rfl,.inr (.inr ⟨7,#[.int .i64 kd0,.int .i64 12],W,(by have hff:=hf 7;clear hf;go_simp <;> rfl),?_⟩)⟩
       refine (HPK.out W).mono ?_
       rintro e w' ⟨rfl,rfl⟩
       exact ⟨_,rfl,.still (hW) rfl⟩
      ·have e45:ev (.tmp 45)=.int .i64 kd:=he 5 (by decide) _ 45 rfl rfl
       have hcc:=hc
       clear he h0 hc hf hg
       exact flS rfl (by go_simp <;> rfl) (hW) rfl
      ·have e46:ev (.tmp 46)=.bool true:=he 6 (by decide) _ 46 rfl rfl
       clear he h0 hc hf hg
       exact flS rfl (by go_simp <;> rfl) (hW) rfl
      ·exact .inr ⟨rfl,.still (hW) rfl⟩
      ·exact .inr ⟨rfl,.still (hW) rfl⟩
      ·exact .inr ⟨rfl,.still (hW) rfl⟩
      ·exact .inr ⟨rfl,.still (hW) rfl⟩
      ·exact .inr ⟨rfl,.still (hW) rfl⟩
      ·exact .inr ⟨rfl,.still (hW) rfl⟩
      ·exact .inr ⟨rfl,.still (hW) rfl⟩
      ·have e47:ev (.tmp 47)=.bool true:=he 7 (by decide) _ 47 rfl rfl
       have e54:ev (.tmp 54)=undef:=he 14 (by decide) _ 54 rfl rfl
       have hcc:=hc
       clear he h0 hc hf hg
       exact flS rfl (by go_simp <;> rfl) (hW) rfl
     intro γ L w6 hL hW
     have HP6:=hZ (HP2.out.bel hW)
     clear hL hW hI0
     simp only [putAll,Act.put,List.setIfInBounds_toArray,List.set_cons_succ,List.set_cons_zero]
     go_wp2_with fail
     go_meet
     case rel=>exact hZ ⟨n,k,m,N,some ⟨qb,0,none⟩,HP6.out.sub (by simp),HTB.out,by have:=HLE.out;omega⟩
    ·have hk9':¬ kd < 9:=hk9
     have hI0:CallG 13 [[],[],[0,1],[2],[3],[4],[5],[6,5],[7],[7],[7],[9,10,7],[11,7],[8,12,7,7],[13,7],[7,14]] W2 (fun W=>PlayB w a r W (n+2) (filesM m 32 kd txt num keep) (k+2) (filesM m 32 kd txt num keep) [(wb,worldO a none r (some ⟨qb,0,none⟩)),(qb,storeR r 32)]) (fun _=>false) W2.drew:=⟨fun _=>⟨rfl,rfl,rfl,Nat.le_refl _,fun _ _=>rfl⟩,fun h=>(by cases h),fun h=>(by cases h),fun _ h=>(by cases h)⟩
     refine wp_region_flowG (fun _:Unit=>[.slice (some ⟨vb,vo,none⟩) nl cap,.int .i64 i,.pointer (some ⟨vb,vo+i * 4,none⟩),.pointer (some ⟨vb,vo+i * 4,none⟩),.int .i64 kd0,.int .i64 kd,.bool false,.bool false,.agg #[.pointer (some ⟨a,0,none⟩),.pointer none,.pointer (some ⟨r,0,none⟩),.pointer (some ⟨qb,0,none⟩)],.slice (some ⟨vb,vo,none⟩) nl cap,.int .i64 i,.pointer (some ⟨vb,vo+i * 4,none⟩),.agg #[.int .i64 kd0,.string txt,.int .i64 num,.slice kp KL kc],.bool true,.bool false,.bool false]) (fun L _ W=>CallG 13 [[],[],[0,1],[2],[3],[4],[5],[6,5],[7],[7],[7],[9,10,7],[11,7],[8,12,7,7],[13,7],[7,14]] W2 (fun W=>PlayB w a r W (n+2) (filesM m 32 kd txt num keep) (k+2) (filesM m 32 kd txt num keep) [(wb,worldO a none r (some ⟨qb,0,none⟩)),(qb,storeR r 32)]) L W)
      [[],[],[0,1],[2],[3],[4],[5],[6,5],[7],[7],[7],[9,10,7],[11,7],[8,12,7,7],[13,7],[7,14]] 175 () mixedD rfl (by kernel_rfl) (fun _=>rfl) hI0 ?_ ?_
     ·refine ⟨?_,?_,?_,?_,?_,?_,?_,?_,?_,?_,?_,?_,?_,?_,?_,?_,rfl⟩
      all_goals intro L γ W ev hL hd hW hc hf hg he h0
      ·have e2:ev (.tmp 2)=.slice (some ⟨vb,vo,none⟩) nl cap:=h0 2 rfl
       clear he h0 hc hf hg
       exact flS rfl (by go_simp <;> rfl) (hW.upd 0 (by decide) hd) rfl
      ·have e8:ev (.tmp 8)=.int .i64 i:=h0 8 rfl
       clear he h0 hc hf hg
       exact flS rfl (by go_simp <;> rfl) (hW.upd 1 (by decide) hd) rfl
      ·have e40:ev (.tmp 40)=.slice (some ⟨vb,vo,none⟩) nl cap:=he 0 (by decide) _ 40 rfl rfl
       have e41:ev (.tmp 41)=.int .i64 i:=he 1 (by decide) _ 41 rfl rfl
       clear he h0 hc hf hg
       exact flS rfl (by go_simp <;> rfl) (hW.upd 2 (by decide) hd) rfl
      ·have e42:ev (.tmp 42)=.pointer (some ⟨vb,vo+i * 4,none⟩):=he 2 (by decide) _ 42 rfl rfl
       clear he h0 hc hf hg
       exact flS rfl (by go_simp <;> rfl) (hW.upd 3 (by decide) hd) rfl
      ·have e43:ev (.tmp 43)=.pointer (some ⟨vb,vo+i * 4,none⟩):=he 3 (by decide) _ 43 rfl rfl
       obtain ⟨a0,a1,a2,a3⟩:=HAC.out W (HP2.out.toB.trans ((hW.bel (hW.off hL (by decide))).mono HP2.out.toB.size))
       clear he h0 hc hf hg
       exact flS rfl (by go_simp <;> rfl) (hW.upd 4 (by decide) hd) rfl
      ·have e44:ev (.tmp 44)=.int .i64 kd0:=he 4 (by decide) _ 44 rfl rfl
       have hcc:=hc
       clear he h0 hc hg
       refine .inl ⟨rfl,.inr (.inr ⟨7,#[.int .i64 kd0,.int .i64 12],W,(by have hff:=hf 7;clear hf;go_simp <;> rfl),?_⟩)⟩
       refine (HPK.out W).mono ?_
       rintro e w' ⟨rfl,rfl⟩
       exact ⟨_,rfl,.still (hW.upd 5 (by decide) hd) rfl⟩
      ·have e45:ev (.tmp 45)=.int .i64 kd:=he 5 (by decide) _ 45 rfl rfl
       have hcc:=hc
       clear he h0 hc hf hg
       exact flS rfl (by go_simp <;> rfl) (hW.upd 6 (by decide) hd) rfl
      ·have e46:ev (.tmp 46)=.bool false:=he 6 (by decide) _ 46 rfl rfl
       clear he h0 hc hf hg
       exact flS rfl (by go_simp <;> rfl) (hW.upd 7 (by decide) hd) rfl
      ·have e7:ev (.tmp 7)=.pointer (some ⟨wb,0,none⟩):=h0 7 rfl
       have hb:=hW.bel (hW.off hL (by decide))
       have w0:=(hb.cell (p:=⟨wb,0,none⟩) HWB.out).trans HW0.out
       have w1:=(hb.cell (p:=⟨wb,1,none⟩) HWB.out).trans HW1.out
       have w2:=(hb.cell (p:=⟨wb,2,none⟩) HWB.out).trans HW2.out
       have w3:=(hb.cell (p:=⟨wb,3,none⟩) HWB.out).trans HW3.out
       clear he h0 hc hf hg
       exact flS rfl (by go_simp <;> rfl) (hW.upd 8 (by decide) hd) rfl
      ·have e2:ev (.tmp 2)=.slice (some ⟨vb,vo,none⟩) nl cap:=h0 2 rfl
       clear he h0 hc hf hg
       exact flS rfl (by go_simp <;> rfl) (hW.upd 9 (by decide) hd) rfl
      ·have e8:ev (.tmp 8)=.int .i64 i:=h0 8 rfl
       clear he h0 hc hf hg
       exact flS rfl (by go_simp <;> rfl) (hW.upd 10 (by decide) hd) rfl
      ·have e49:ev (.tmp 49)=.slice (some ⟨vb,vo,none⟩) nl cap:=he 9 (by decide) _ 49 rfl rfl
       have e50:ev (.tmp 50)=.int .i64 i:=he 10 (by decide) _ 50 rfl rfl
       clear he h0 hc hf hg
       exact flS rfl (by go_simp <;> rfl) (hW.upd 11 (by decide) hd) rfl
      ·have e51:ev (.tmp 51)=.pointer (some ⟨vb,vo+i * 4,none⟩):=he 11 (by decide) _ 51 rfl rfl
       obtain ⟨a0,a1,a2,a3⟩:=HAC.out W (HP2.out.toB.trans ((hW.bel (hW.off hL (by decide))).mono HP2.out.toB.size))
       clear he h0 hc hf hg
       exact flS rfl (by go_simp <;> rfl) (hW.upd 12 (by decide) hd) rfl
      ·have e48:ev (.tmp 48)=.agg #[.pointer (some ⟨a,0,none⟩),.pointer none,.pointer (some ⟨r,0,none⟩),.pointer (some ⟨qb,0,none⟩)]:=he 8 (by decide) _ 48 rfl rfl
       have e52:ev (.tmp 52)=.agg #[.int .i64 kd0,.string txt,.int .i64 num,.slice kp KL kc]:=he 12 (by decide) _ 52 rfl rfl
       clear he h0 hc hg
       have hb:=hW.bel hL
       have hp3:=HP2.out.bel hb
       refine .inl ⟨rfl,.inr (.inr ⟨29,#[.agg #[.pointer (some ⟨a,0,none⟩),.pointer none,.pointer (some ⟨r,0,none⟩),.pointer (some ⟨qb,0,none⟩)],.agg #[.int .i64 kd0,.string txt,.int .i64 num,.slice kp KL kc]],W,(by have hff:=hf 29;clear hf;go_simp <;> rfl),?_⟩)⟩
       have hfi:=files_any hp3 (q:=qb) (x:=32) (sp:=none) (by simp) HG.out (by have:=HLE.out;omega) (by have:=HLE.out;omega) kd0 num txt keep HF1.out HF2.out HF3.out HF4.out kp KL kc HKI.out HKL.out (by rw [HKD.out];omega)
       rw [HKD.out] at hfi
       refine hfi.mono ?_
       rintro e w' ⟨rfl,hp4⟩
       have q12:L 12=true:=hd 12 (by decide)
       have q11:L 11=true:=hW.cl 12 q12 11 (by decide)
       have q10:L 10=true:=hW.cl 11 q11 10 (by decide)
       have q9:L 9=true:=hW.cl 11 q11 9 (by decide)
       have q8:L 8=true:=hd 8 (by decide)
       have q7:L 7=true:=hd 7 (by decide)
       have q6:L 6=true:=hW.cl 7 q7 6 (by decide)
       have q5:L 5=true:=hW.cl 6 q6 5 (by decide)
       have q4:L 4=true:=hW.cl 5 q5 4 (by decide)
       have q3:L 3=true:=hW.cl 4 q4 3 (by decide)
       have q2:L 2=true:=hW.cl 3 q3 2 (by decide)
       have q1:L 1=true:=hW.cl 2 q2 1 (by decide)
       have q0:L 0=true:=hW.cl 2 q2 0 (by decide)
       exact ⟨_,rfl,.still (hW.done hd (fun j hj=>by
        rcases (show j=0∨j=1∨j=2∨j=3∨j=4∨j=5∨j=6∨j=7∨j=8∨j=9∨j=10∨j=11∨j=12 by omega) with rfl | rfl | rfl | rfl | rfl | rfl | rfl | rfl | rfl | rfl | rfl | rfl | rfl
        ·exact q0
        ·exact q1
        ·exact q2
        ·exact q3
        ·exact q4
        ·exact q5
        ·exact q6
        ·exact q7
        ·exact q8
        ·exact q9
        ·exact q10
        ·exact q11
        ·exact q12) hp4) rfl⟩
      ·have e53:ev (.tmp 53)=.bool true:=he 13 (by decide) _ 53 rfl rfl
       clear he h0 hc hf hg
       exact flS rfl (by go_simp <;> rfl) (hW.upd 14 (by decide) hd) rfl
      ·have e47:ev (.tmp 47)=.bool false:=he 7 (by decide) _ 47 rfl rfl
       have e54:ev (.tmp 54)=.bool false:=he 14 (by decide) _ 54 rfl rfl
       have hcc:=hc
       clear he h0 hc hf hg
       exact flS rfl (by go_simp <;> rfl) (hW.upd 15 (by decide) hd) rfl
     intro γ L w6 hL hW
     have HP6:=hZ (hW.fin (hL 13 (by decide)))
     have HT6:=hZ (HTB.out.files 32 kd txt num keep)
     clear hL hW hI0
     simp only [putAll,Act.put,List.setIfInBounds_toArray,List.set_cons_succ,List.set_cons_zero]
     go_wp2_with fail
     exact ⟨⟨i+1,by have:=HLE.out;omega,by rw [Int.natCast_add];rfl,n+2,k+2,filesM m 32 kd txt num keep,N+2,some ⟨qb,0,none⟩,hZ (HP6.out.sub (by simp)),HT6,by have:=HLE.out;omega⟩,by simp [intOf];omega⟩
   ·have hex:¬ i < 4∨¬ i < nl:=by omega
    rcases hex with hex | hex
    ·have hex2:¬ ((i:Nat):Int) < 4:=by omega
     go_wp2_with fail
     go_meet
     case rel=>exact hZ ⟨n,k,m,N,qp,HP.out,HTB.out,by omega⟩
    ·have hex2:¬ ((i:Nat):Int) < (nl:Int):=by omega
     by_cases hex3:((i:Nat):Int) < 4
     ·go_wp2_with fail
      go_meet
      case rel=>exact hZ ⟨n,k,m,N,qp,HP.out,HTB.out,by omega⟩
     ·go_wp2_with fail
      go_meet
      case rel=>exact hZ ⟨n,k,m,N,qp,HP.out,HTB.out,by omega⟩
 case rest =>
  clear HP0 HT0
  obtain ⟨n,k,m,N,qp,hp,htb,hnn⟩:=hcut.out
  have HP:=hZ hp
  have HTB:=hZ htb
  clear hp htb hcut
  by_cases hx:wd < 1∨32 < wd
  ·have HLE:Hid (n≤8∧k≤8):=hZ ⟨hnn.1,hnn.2.1⟩
   obtain ⟨w0,w1,w2,w3⟩:=HP.out.wcel (a':=a) (sp:=none) (r':=r) (qp:=qp) wb (by simp)
   go_wp2_with fail
   refine (openBad_any a wd wc hx).mono ?_
   rintro e w4 ⟨rfl,rfl⟩
   rw [show errE 1=.iface 76 (.int .i64 1) from rfl]
   go_wp2_with fail
   refine (refOpenBad_any r wd wc hx).mono ?_
   rintro e w4 ⟨rfl,rfl⟩
   have hpl:=plain_E 1 (.inr ⟨by decide,by decide⟩) 1 wc (HG.out.below HP.out.toB HG.out.2)
   rw [show errE 1=.iface 76 (.int .i64 1) from rfl,show ((1:Int) == 1)=true from rfl] at hpl
   go_wp2_with fail
   refine hpl.mono ?_
   rintro e w5 ⟨rfl,hb5⟩
   have HP5:=hZ (HP.out.bel hb5)
   clear hb5 hpl
   clear w0 w1 w2 w3
   obtain ⟨w0,w1,w2,w3⟩:=HP5.out.wcel (a':=a) (sp:=none) (r':=r) (qp:=qp) wb (by simp)
   obtain ⟨Pp,hpp,-⟩:=HP5.out.pair
   have hal:=alikeB_any hpp HTB.out.short (HG.out.below HP5.out.toB HG.out.2) (by have:=HLE.out;omega) (by have:=HLE.out;omega)
   clear hpp
   go_wp2_with fail
   refine hal.mono ?_
   rintro e w6 ⟨rfl,hb6⟩
   have HP6:=hZ (HP5.out.bel hb6)
   clear hb6 hal
   clear w0 w1 w2 w3
   have hwo:=works23 _ (HG.out.below HP6.out.toB HG.out.2) HP6.out.rt HP6.out.rr HP6.out.bg
   go_wp2_with fail
   refine hwo.mono ?_
   rintro e wz ⟨rfl,hbz⟩
   have HZ:=hZ (HP6.out.toB.trans (hbz.mono HP6.out.toB.size))
   clear hbz hwo
   go_wp2_with fail
   go_ret
   exact ⟨rfl,HZ.out⟩
  ·replace hx:1≤wd∧wd≤32:=by omega
   have HLE:Hid (n≤8∧k≤8∧N≤8):=hZ hnn
   have hpo:=HP.out.popen HTB.out.short HTB.out.fit hx (by have:=HLE.out;omega)
   have hcz:=open_code m wd
   have htb:=HTB.out.opens wd
   obtain ⟨M,hM⟩:∃ M,(openM m wd).1=M:=⟨_,rfl⟩
   obtain ⟨z,hz⟩:∃ z,(openM m wd).2=z:=⟨_,rfl⟩
   rw [hM,hz] at hpo
   rw [hz] at hcz
   rw [hM] at htb
   have HCZ:=hZ hcz
   have HTM:=hZ htb
   have HMM:=hZ hM
   have HZZ:=hZ hz
   have HX:=hZ hx
   clear hcz htb hM hz
   obtain ⟨w0,w1,w2,w3⟩:=HP.out.wcel (a':=a) (sp:=none) (r':=r) (qp:=qp) wb (by simp)
   go_wp2_with fail
   refine hpo.mono ?_
   intro e w4 hq
   rcases hq with ⟨rfl,sb,rfl,hp4⟩ | ⟨hz0,rfl,hp4⟩
   ·have HP4:=hZ hp4
    have hro:=HP4.out.ropen HTB.out.short HTB.out.fit HX.out (by have:=HLE.out;omega)
    rw [HMM.out,HZZ.out] at hro
    clear hp4 hpo w0 w1 w2 w3
    obtain ⟨w0,w1,w2,w3⟩:=HP4.out.wcel (a':=a) (sp:=none) (r':=r) (qp:=qp) wb (by simp)
    go_wp2_with fail
    refine hro.mono ?_
    intro e w5 hq
    rcases hq with ⟨-,qb,rfl,hp5⟩ | ⟨hz0,-⟩
    case inr=>exact absurd rfl hz0
    have HP5:=hZ hp5
    clear hp5 hro w0 w1 w2 w3
    have hpl:=plain_E 0 (.inl rfl) 0 w5 (HG.out.below HP5.out.toB HG.out.2)
    rw [show errE 0=.nilIface from rfl,show ((0:Int) == 0)=true from rfl] at hpl
    go_wp2_with fail
    refine hpl.mono ?_
    rintro e w6 ⟨rfl,hb6⟩
    have HP6:=hZ (HP5.out.bel hb6)
    clear hb6 hpl
    obtain ⟨w0,w1,w2,w3⟩:=HP6.out.wcel (a':=a) (sp:=none) (r':=r) (qp:=qp) wb (by simp)
    obtain ⟨Pp,hpp,-⟩:=HP6.out.pair
    have hal:=alikeB_any hpp HTM.out.short (HG.out.below HP6.out.toB HG.out.2) (by have:=HLE.out;omega) (by have:=HLE.out;omega)
    clear hpp
    go_wp2_with fail
    refine hal.mono ?_
    rintro e w7 ⟨rfl,hb7⟩
    have HP7:=hZ (HP6.out.bel hb7)
    clear hb7 hal w0 w1 w2 w3
    have hne1:(sb,storeO a wd).1≠wb:=by
     intro e
     have h1:=HP7.out.kept (sb,storeO a wd) (by simp)
     have h2:=HP7.out.kept (wb,worldO a none r qp) (by simp)
     simp only at e h1 h2
     rw [e,h2] at h1
     unfold worldO storeO at h1
     exact absurd (Obj.cells.inj (Option.some.inj h1)).2.1 (by decide)
    have hne2:(qb,storeR r wd).1≠wb:=by
     intro e
     have h1:=HP7.out.kept (qb,storeR r wd) (by simp)
     have h2:=HP7.out.kept (wb,worldO a none r qp) (by simp)
     simp only at e h1 h2
     rw [e,h2] at h1
     unfold worldO storeR at h1
     exact absurd (Obj.cells.inj (Option.some.inj h1)).2.1 (by decide)
    have hxw:=HP7.out.kept (wb,worldO a none r qp) (by simp)
    have hsc1:w7.setCell ⟨wb,1,none⟩ (.pointer (some ⟨sb,0,none⟩))=setBlk w7 wb (worldO a (some ⟨sb,0,none⟩) r qp):=setCell_blk hxw
    have hsc2:(setBlk w7 wb (worldO a (some ⟨sb,0,none⟩) r qp)).setCell ⟨wb,3,none⟩ (.pointer (some ⟨qb,0,none⟩))=setBlk w7 wb (worldO a (some ⟨sb,0,none⟩) r (some ⟨qb,0,none⟩)):=setBlk_setCell (blk_lt hxw)
    obtain ⟨w8,hw8⟩:∃ W,setBlk w7 wb (worldO a (some ⟨sb,0,none⟩) r (some ⟨qb,0,none⟩))=W:=⟨_,rfl⟩
    have hp8:=HP7.out.set (b:=wb) (o:=worldO a none r qp) (o':=worldO a (some ⟨sb,0,none⟩) r (some ⟨qb,0,none⟩)) (by simp) HWZ.out HGT.out.1 HGT.out.2.1 HGT.out.2.2 [(wb,worldO a (some ⟨sb,0,none⟩) r (some ⟨qb,0,none⟩)),(sb,storeO a wd),(qb,storeR r wd)] (fun q hq=>by
     simp only [List.mem_cons,List.not_mem_nil,or_false] at hq
     rcases hq with rfl | rfl | rfl
     ·exact .inl rfl
     ·exact .inr ⟨by simp,hne1⟩
     ·exact .inr ⟨by simp,hne2⟩)
    rw [hw8] at hp8 hsc2
    have HP8:=hZ hp8
    have c1:=HP7.out.cel (b:=wb) (c:=#[.pointer (some ⟨a,0,none⟩),.pointer none,.pointer (some ⟨r,0,none⟩),.pointer qp]) (t:=68) (by simp [worldO]) 1
    simp only [List.getElem?_toArray,List.getElem?_cons_zero,List.getElem?_cons_succ] at c1
    have cf:∀ j,w7.frozen? ⟨wb,j,none⟩=false:=fun j=>by unfold worldO at hxw;exact frozen_blk hxw
    have c3:(setBlk w7 wb (worldO a (some ⟨sb,0,none⟩) r qp)).cell? ⟨wb,3,none⟩=some (.pointer qp):=by unfold worldO;rw [cell_of_heapN (setBlk_heap (blk_lt hxw))];rfl
    have cf3:∀ j,(setBlk w7 wb (worldO a (some ⟨sb,0,none⟩) r qp)).frozen? ⟨wb,j,none⟩=false:=fun j=>by unfold worldO;exact frozen_blk (setBlk_heap (blk_lt hxw))
    clear hne1 hne2 hxw hw8 hp8
    go_wp2_with fail
    have hwi:=width_any (HP8.out.kept (sb,storeO a wd) (by simp))
    refine hwi.mono ?_
    rintro e w9 ⟨rfl,rfl⟩
    clear hwi c1 cf c3 cf3 hsc1 hsc2
    go_wp2_with fail
    clear HP HP4 HP5 HP6 HP7 HTB HMM HZZ
    go_loopw [13] (fun iv wr=>∃ (i n k:Nat) (m:DM) (N s q:Nat),i≤nl∧i≤120∧iv=.int .i64 i∧Hid (PlayB w a r wr n m k m [(wb,worldO a (some ⟨s,0,none⟩) r (some ⟨q,0,none⟩)),(s,storeO a wd),(q,storeR r wd)])∧Hid (TabP m N)∧(n≤18+300 * i∧k≤18+300 * i∧N≤8+2 * i)) (fun iv _=>120 - (intOf iv).toNat)
    case atStart=>exact ⟨0,n+N+2,k+N+2,M,N,sb,qb,Nat.zero_le _,Nat.zero_le _,rfl,HP8,HTM,by have:=HLE.out;omega⟩
    case round =>
     clear HP8 HTM HLE
     obtain ⟨i,n,k,m,N,s,q,hiL0,hi0,rfl,HP,HTB,hnn⟩:=hrel
     by_cases hlt:i < nl∧i < 120
     ·obtain ⟨hlt1,hlt2⟩:=hlt
      have hi1:(i:Int) < (nl:Int):=by omega
      have hi2:(i:Int) < 120:=by omega
      obtain ⟨act,ha⟩:∃ act,l[i]?=some act:=⟨_,List.getElem?_eq_getElem (i:=i) (by rw [HL.out];omega)⟩
      obtain ⟨p',c',he,hvv⟩:=HV.out
      obtain ⟨vb,vo,kv,hvp,hvl,hvc,hvk⟩:=hvv i act ha
      obtain ⟨f1,f2,f3,f4⟩:=HSZ.out act (List.mem_of_getElem? ha)
      have hpe:p=some ⟨vb,vo,none⟩:=by cases he;exact hvp
      subst hpe
      have HKI:=hZ hvk
      obtain ⟨kp,kc,rfl⟩:=hvk.slice
      obtain ⟨KL,hKL⟩:∃ KL,act.keep.length=KL:=⟨_,rfl⟩
      rw [hKL] at HKI hvc
      have HKL:=hZ hKL
      have HCE:Hid (∀ V,Below w.heap.size w V→∀ j,j < 4→V.cell? ⟨vb,vo+(i * 4+j),none⟩=(act.cells (.slice kp KL kc))[j]?):=hZ (fun V hV j hj=>(hV.cell (p:=⟨vb,vo+(i * 4+j),none⟩) hvl).trans (hvc j hj))
      obtain ⟨kd0,txt,num,keep⟩:=act
      simp only at f1 f2 f3 f4 HKI HKL
      have HF1:=hZ f1
      have HF2:=hZ f2
      have HF3:=hZ f3
      have HF4:=hZ f4
      have HAC:Hid (∀ V,Below w.heap.size w V→V.cell? ⟨vb,vo+i * 4,none⟩=some (.int .i64 kd0)∧V.cell? ⟨vb,vo+i * 4+1,none⟩=some (.string txt)∧V.cell? ⟨vb,vo+i * 4+2,none⟩=some (.int .i64 num)∧V.cell? ⟨vb,vo+i * 4+3,none⟩=some (.slice kp KL kc)):=hZ (fun V hV=>⟨HCE.out V hV 0 (by decide),(by rw [Nat.add_assoc];exact HCE.out V hV 1 (by decide)),(by rw [Nat.add_assoc];exact HCE.out V hV 2 (by decide)),(by rw [Nat.add_assoc];exact HCE.out V hV 3 (by decide))⟩)
      obtain ⟨r0,r1⟩:=pick_bd kd0 12 (by decide)
      have hpk:=fun W=>pick_any kd0 12 W (by decide) (by decide) f1.1 f1.2
      obtain ⟨kd,hkd⟩:∃ k,pick kd0 12=k:=⟨_,rfl⟩
      rw [hkd] at r0 r1 hpk
      have HPK:=hZ hpk
      have HKD:=hZ hkd
      have hiL:i < nl:=by omega
      clear ha he hvv hvp hvl hvc hvk hKL f1 f2 f3 f4 hkd hpk HCE
      have HLE:Hid (n≤18+300 * i∧k≤18+300 * i∧N≤8+2 * i∧i < 120∧i < nl):=hZ ⟨hnn.1,hnn.2.1,hnn.2.2,hlt2,hlt1⟩
      have c0:=(HAC.out wr HP.out.toB).1
      clear hnn
      obtain ⟨w0,w1,w2,w3⟩:=HP.out.wcel (a':=a) (sp:=(some ⟨s,0,none⟩)) (r':=r) (qp:=(some ⟨q,0,none⟩)) wb (by simp)
      go_wp2_with fail
      refine (HPK.out _).mono ?_
      rintro e wk ⟨rfl,rfl⟩
      clear HPK
      by_cases hk4:kd≤4
      ·go_wp2_with fail
       have HW0:=hZ w0
       have HW1:=hZ w1
       have HW2:=hZ w2
       have HW3:=hZ w3
       have HWB:Hid (wb < wr.heap.size):=hZ (blk_lt (HP.out.kept (wb,worldO a (some ⟨s,0,none⟩) r (some ⟨q,0,none⟩)) (by simp)))
       clear w0 w1 w2 w3 c0
       have hI0:Below wr.heap.size wr wr.drew:=⟨rfl,rfl,rfl,Nat.le_refl _,fun _ _=>rfl⟩
       refine wp_region_inv (fun V=>Below wr.heap.size wr V) 5 (by kernel_rfl) (by kernel_rfl) hI0 ?_
       simp only [List.take_succ_cons,List.take_zero,List.drop_succ_cons,List.drop_zero]
       refine ⟨_,yi_still rfl (fun V hI=>by have w0:=(hI.cell (p:=⟨wb,0,none⟩) HWB.out).trans HW0.out;have w1:=(hI.cell (p:=⟨wb,1,none⟩) HWB.out).trans HW1.out;have w2:=(hI.cell (p:=⟨wb,2,none⟩) HWB.out).trans HW2.out;have w3:=(hI.cell (p:=⟨wb,3,none⟩) HWB.out).trans HW3.out;go_simp;rfl),?_⟩
       refine ⟨_,yi_still rfl (fun V hI=>by go_simp;rfl),?_⟩
       refine ⟨_,yi_still rfl (fun V hI=>by go_simp;rfl),?_⟩
       refine ⟨_,yi_still rfl (fun V hI=>by go_simp;rfl),?_⟩
       refine ⟨_,yi_still rfl (fun V hI=>by obtain ⟨a0,a1,a2,a3⟩:=HAC.out V (HP.out.toB.trans (hI.mono HP.out.toB.size));go_simp;rfl),?_⟩
       rintro W3 hI3
       change wpList _ _ _ _ _ W3
       simp only [Act.put,List.setIfInBounds_toArray,List.set_cons_succ,List.set_cons_zero]
       have hp3:=HP.out.bel hI3
       have hfi:=store_any hp3 (sb:=s) (q:=q) (x:=wd) (by simp) (by simp) HTB.out.short HG.out (by have:=HLE.out;omega) (by have:=HLE.out;omega) kd0 num txt HF1.out HF2.out HF3.out kp KL kc (by rw [HKD.out];omega)
       rw [HKD.out] at hfi
       clear hp3 hI3 hI0
       go_wp2_with fail
       refine hfi.mono ?_
       rintro e w7 ⟨rfl,hp7⟩
       have HP7:=hZ hp7
       have HT7:=hZ (HTB.out.store wd kd txt num)
       clear hp7 hfi
       obtain ⟨w0,w1,w2,w3⟩:=HP7.out.wcel (a':=a) (sp:=(some ⟨s,0,none⟩)) (r':=r) (qp:=(some ⟨q,0,none⟩)) wb (by simp)
       obtain ⟨Pp,hpp,-⟩:=HP7.out.pair
       have hal:=alikeB_any hpp HT7.out.short (HG.out.below HP7.out.toB HG.out.2) (by have:=HLE.out;omega) (by have:=HLE.out;omega)
       clear hpp
       go_wp2_with fail
       refine hal.mono ?_
       rintro e wy ⟨rfl,hby⟩
       have HPY:=hZ (HP7.out.bel hby)
       clear hby hal w0 w1 w2 w3
       go_wp2_with fail
       exact ⟨⟨i+1,n+9,k+9,storeM m wd kd txt num,N+2,s,q,by omega,by omega,by rw [Int.natCast_add];rfl,hZ (HPY.out.sub (by simp)),HT7,by have:=HLE.out;omega⟩,by simp [intOf];omega⟩
      ·by_cases hk8:kd=8
       ·subst hk8
        have hpo:=HP.out.popen HTB.out.short HTB.out.fit HX.out (by have:=HLE.out;omega)
        have hcz:=open_code m wd
        have htb:=HTB.out.opens wd
        obtain ⟨M,hM⟩:∃ M,(openM m wd).1=M:=⟨_,rfl⟩
        obtain ⟨z,hz⟩:∃ z,(openM m wd).2=z:=⟨_,rfl⟩
        rw [hM,hz] at hpo
        rw [hz] at hcz
        rw [hM] at htb
        have HCZ:=hZ hcz
        have HTM:=hZ htb
        have HMM:=hZ hM
        have HZZ:=hZ hz
        clear hcz htb hM hz c0
        go_wp2_with fail
        refine hpo.mono ?_
        intro e w4 hq
        rcases hq with ⟨rfl,sb,rfl,hp4⟩ | ⟨hz0,rfl,hp4⟩
        ·have HP4:=hZ hp4
         have hro:=HP4.out.ropen HTB.out.short HTB.out.fit HX.out (by have:=HLE.out;omega)
         rw [HMM.out,HZZ.out] at hro
         clear hp4 hpo w0 w1 w2 w3
         obtain ⟨w0,w1,w2,w3⟩:=HP4.out.wcel (a':=a) (sp:=(some ⟨s,0,none⟩)) (r':=r) (qp:=(some ⟨q,0,none⟩)) wb (by simp)
         go_wp2_with fail
         refine hro.mono ?_
         intro e w5 hq
         rcases hq with ⟨-,qb,rfl,hp5⟩ | ⟨hz0,-⟩
         case inr=>exact absurd rfl hz0
         have HP5:=hZ hp5
         clear hp5 hro w0 w1 w2 w3
         have hpl:=plain_E 0 (.inl rfl) 0 w5 (HG.out.below HP5.out.toB HG.out.2)
         rw [show errE 0=.nilIface from rfl,show ((0:Int) == 0)=true from rfl] at hpl
         go_wp2_with fail
         refine hpl.mono ?_
         rintro e w6 ⟨rfl,hb6⟩
         have HP6:=hZ (HP5.out.bel hb6)
         clear hb6 hpl
         have hne1:(sb,storeO a wd).1≠wb:=by
          intro e
          have h1:=HP6.out.kept (sb,storeO a wd) (by simp)
          have h2:=HP6.out.kept (wb,worldO a (some ⟨s,0,none⟩) r (some ⟨q,0,none⟩)) (by simp)
          simp only at e h1 h2
          rw [e,h2] at h1
          unfold worldO storeO at h1
          exact absurd (Obj.cells.inj (Option.some.inj h1)).2.1 (by decide)
         have hne2:(qb,storeR r wd).1≠wb:=by
          intro e
          have h1:=HP6.out.kept (qb,storeR r wd) (by simp)
          have h2:=HP6.out.kept (wb,worldO a (some ⟨s,0,none⟩) r (some ⟨q,0,none⟩)) (by simp)
          simp only at e h1 h2
          rw [e,h2] at h1
          unfold worldO storeR at h1
          exact absurd (Obj.cells.inj (Option.some.inj h1)).2.1 (by decide)
         have hxw:=HP6.out.kept (wb,worldO a (some ⟨s,0,none⟩) r (some ⟨q,0,none⟩)) (by simp)
         have hsc1:w6.setCell ⟨wb,1,none⟩ (.pointer (some ⟨sb,0,none⟩))=setBlk w6 wb (worldO a (some ⟨sb,0,none⟩) r (some ⟨q,0,none⟩)):=setCell_blk hxw
         have hsc2:(setBlk w6 wb (worldO a (some ⟨sb,0,none⟩) r (some ⟨q,0,none⟩))).setCell ⟨wb,3,none⟩ (.pointer (some ⟨qb,0,none⟩))=setBlk w6 wb (worldO a (some ⟨sb,0,none⟩) r (some ⟨qb,0,none⟩)):=setBlk_setCell (blk_lt hxw)
         obtain ⟨w8,hw8⟩:∃ W,setBlk w6 wb (worldO a (some ⟨sb,0,none⟩) r (some ⟨qb,0,none⟩))=W:=⟨_,rfl⟩
         have hp8:=HP6.out.set (b:=wb) (o:=worldO a (some ⟨s,0,none⟩) r (some ⟨q,0,none⟩)) (o':=worldO a (some ⟨sb,0,none⟩) r (some ⟨qb,0,none⟩)) (by simp) HWZ.out HGT.out.1 HGT.out.2.1 HGT.out.2.2 [(wb,worldO a (some ⟨sb,0,none⟩) r (some ⟨qb,0,none⟩)),(sb,storeO a wd),(qb,storeR r wd)] (fun q hq=>by
          simp only [List.mem_cons,List.not_mem_nil,or_false] at hq
          rcases hq with rfl | rfl | rfl
          ·exact .inl rfl
          ·exact .inr ⟨by simp,hne1⟩
          ·exact .inr ⟨by simp,hne2⟩)
         rw [hw8] at hp8 hsc2
         have HP8:=hZ hp8
         have c1:=HP6.out.cel (b:=wb) (c:=#[.pointer (some ⟨a,0,none⟩),.pointer (some ⟨s,0,none⟩),.pointer (some ⟨r,0,none⟩),.pointer (some ⟨q,0,none⟩)]) (t:=68) (by simp [worldO]) 1
         simp only [List.getElem?_toArray,List.getElem?_cons_zero,List.getElem?_cons_succ] at c1
         have cf:∀ j,w6.frozen? ⟨wb,j,none⟩=false:=fun j=>by unfold worldO at hxw;exact frozen_blk hxw
         have c3:(setBlk w6 wb (worldO a (some ⟨sb,0,none⟩) r (some ⟨q,0,none⟩))).cell? ⟨wb,3,none⟩=some (.pointer (some ⟨q,0,none⟩)):=by unfold worldO;rw [cell_of_heapN (setBlk_heap (blk_lt hxw))];rfl
         have cf3:∀ j,(setBlk w6 wb (worldO a (some ⟨sb,0,none⟩) r (some ⟨q,0,none⟩))).frozen? ⟨wb,j,none⟩=false:=fun j=>by unfold worldO;exact frozen_blk (setBlk_heap (blk_lt hxw))
         clear hne1 hne2 hxw hw8 hp8
         obtain ⟨w0,w1,w2,w3⟩:=HP8.out.wcel (a':=a) (sp:=(some ⟨sb,0,none⟩)) (r':=r) (qp:=(some ⟨qb,0,none⟩)) wb (by simp)
         obtain ⟨Pp,hpp,-⟩:=HP8.out.pair
         have hal:=alikeB_any hpp HTM.out.short (HG.out.below HP8.out.toB HG.out.2) (by have:=HLE.out;omega) (by have:=HLE.out;omega)
         clear hpp
         go_wp2_with fail
         refine hal.mono ?_
         rintro e wy ⟨rfl,hby⟩
         have HPY:=hZ (HP8.out.bel hby)
         clear hby hal w0 w1 w2 w3 c1 cf c3 cf3 hsc1 hsc2
         go_wp2_with fail
         exact ⟨⟨i+1,n+N+2,k+N+2,M,N,sb,qb,by omega,by omega,by rw [Int.natCast_add];rfl,hZ (HPY.out.sub (by simp)),HTM,by have:=HLE.out;omega⟩,by simp [intOf];omega⟩
        ·have HP4:=hZ hp4
         have HZ0:=hZ hz0
         have hro:=HP4.out.ropen HTB.out.short HTB.out.fit HX.out (by have:=HLE.out;omega)
         rw [HMM.out,HZZ.out] at hro
         clear hp4 hpo w0 w1 w2 w3 hz0
         obtain ⟨w0,w1,w2,w3⟩:=HP4.out.wcel (a':=a) (sp:=(some ⟨s,0,none⟩)) (r':=r) (qp:=(some ⟨q,0,none⟩)) wb (by simp)
         go_wp2_with fail
         refine hro.mono ?_
         intro e w5 hq
         rcases hq with ⟨hz1,-⟩ | ⟨-,rfl,hp5⟩
         case inl=>exact absurd hz1 HZ0.out
         have HP5:=hZ hp5
         have hzb:(z == 0)=false:=by rw [beq_eq_false_iff_ne];exact HZ0.out
         have hzn:¬ z=0:=HZ0.out
         have hzc:(z != 0)=true:=by rw [bne_iff_ne];exact HZ0.out
         clear hp5 hro w0 w1 w2 w3
         have hpl:=plain_E z HCZ.out z w5 (HG.out.below HP5.out.toB HG.out.2)
         rw [beq_self_eq_true] at hpl
         go_wp2_with fail
         refine hpl.mono ?_
         rintro e w6 ⟨rfl,hb6⟩
         have HP6:=hZ (HP5.out.bel hb6)
         clear hb6 hpl
         obtain ⟨w0,w1,w2,w3⟩:=HP6.out.wcel (a':=a) (sp:=(some ⟨s,0,none⟩)) (r':=r) (qp:=(some ⟨q,0,none⟩)) wb (by simp)
         obtain ⟨Pp,hpp,-⟩:=HP6.out.pair
         have hal:=alikeB_any hpp HTM.out.short (HG.out.below HP6.out.toB HG.out.2) (by have:=HLE.out;omega) (by have:=HLE.out;omega)
         clear hpp
         go_wp2_with fail
         refine hal.mono ?_
         rintro e wy ⟨rfl,hby⟩
         have HPY:=hZ (HP6.out.bel hby)
         clear hby hal w0 w1 w2 w3
         go_wp2_with fail
         exact ⟨⟨i+1,n+N+2,k+N+2,M,N,s,q,by omega,by omega,by rw [Int.natCast_add];rfl,hZ (HPY.out.sub (by simp)),HTM,by have:=HLE.out;omega⟩,by simp [intOf];omega⟩
       ·go_wp2_with fail
        have HW0:=hZ w0
        have HW1:=hZ w1
        have HW2:=hZ w2
        have HW3:=hZ w3
        have HWB:Hid (wb < wr.heap.size):=hZ (blk_lt (HP.out.kept (wb,worldO a (some ⟨s,0,none⟩) r (some ⟨q,0,none⟩)) (by simp)))
        clear w0 w1 w2 w3 c0
        have hI0:Below wr.heap.size wr wr.drew:=⟨rfl,rfl,rfl,Nat.le_refl _,fun _ _=>rfl⟩
        refine wp_region_inv (fun V=>Below wr.heap.size wr V) 5 (by kernel_rfl) (by kernel_rfl) hI0 ?_
        simp only [List.take_succ_cons,List.take_zero,List.drop_succ_cons,List.drop_zero]
        refine ⟨_,yi_still rfl (fun V hI=>by have w0:=(hI.cell (p:=⟨wb,0,none⟩) HWB.out).trans HW0.out;have w1:=(hI.cell (p:=⟨wb,1,none⟩) HWB.out).trans HW1.out;have w2:=(hI.cell (p:=⟨wb,2,none⟩) HWB.out).trans HW2.out;have w3:=(hI.cell (p:=⟨wb,3,none⟩) HWB.out).trans HW3.out;go_simp;rfl),?_⟩
        refine ⟨_,yi_still rfl (fun V hI=>by go_simp;rfl),?_⟩
        refine ⟨_,yi_still rfl (fun V hI=>by go_simp;rfl),?_⟩
        refine ⟨_,yi_still rfl (fun V hI=>by go_simp;rfl),?_⟩
        refine ⟨_,yi_still rfl (fun V hI=>by obtain ⟨a0,a1,a2,a3⟩:=HAC.out V (HP.out.toB.trans (hI.mono HP.out.toB.size));go_simp;rfl),?_⟩
        rintro W3 hI3
        change wpList _ _ _ _ _ W3
        simp only [Act.put,List.setIfInBounds_toArray,List.set_cons_succ,List.set_cons_zero]
        have hp3:=HP.out.bel hI3
        have hfi:=files_any hp3 (sp:=some ⟨s,0,none⟩) (q:=q) (x:=wd) (by simp) HG.out (by have:=HLE.out;omega) (by have:=HLE.out;omega) kd0 num txt keep HF1.out HF2.out HF3.out HF4.out kp KL kc HKI.out HKL.out (by rw [HKD.out];omega)
        rw [HKD.out] at hfi
        clear hp3 hI3 hI0
        go_wp2_with fail
        refine hfi.mono ?_
        rintro e w7 ⟨rfl,hp7⟩
        have HP7:=hZ hp7
        have HT7:=hZ (HTB.out.files wd kd txt num keep)
        clear hp7 hfi
        obtain ⟨w0,w1,w2,w3⟩:=HP7.out.wcel (a':=a) (sp:=(some ⟨s,0,none⟩)) (r':=r) (qp:=(some ⟨q,0,none⟩)) wb (by simp)
        obtain ⟨Pp,hpp,-⟩:=HP7.out.pair
        have hal:=alikeB_any hpp HT7.out.short (HG.out.below HP7.out.toB HG.out.2) (by have:=HLE.out;omega) (by have:=HLE.out;omega)
        clear hpp
        go_wp2_with fail
        refine hal.mono ?_
        rintro e wy ⟨rfl,hby⟩
        have HPY:=hZ (HP7.out.bel hby)
        clear hby hal w0 w1 w2 w3
        go_wp2_with fail
        exact ⟨⟨i+1,n+2,k+2,filesM m wd kd txt num keep,N+2,s,q,by omega,by omega,by rw [Int.natCast_add];rfl,hZ (HPY.out.sub (by simp)),HT7,by have:=HLE.out;omega⟩,by simp [intOf];omega⟩
     ·have hex:¬ i < nl∨¬ i < 120:=by omega
      have HLE:Hid True:=hZ True.intro
      rcases hex with hex | hex
      ·have hex2:¬ ((i:Nat):Int) < (nl:Int):=by omega
       have hwo:=works23 _ (HG.out.below HP.out.toB HG.out.2) HP.out.rt HP.out.rr HP.out.bg
       go_wp2_with fail
       refine hwo.mono ?_
       rintro e wz ⟨rfl,hbz⟩
       have HZ:=hZ (HP.out.toB.trans (hbz.mono HP.out.toB.size))
       clear hbz hwo
       go_wp2_with fail
       go_ret
       exact ⟨rfl,HZ.out⟩
      ·have hex2:¬ ((i:Nat):Int) < 120:=by omega
       by_cases hex3:((i:Nat):Int) < (nl:Int)
       ·have hwo:=works23 _ (HG.out.below HP.out.toB HG.out.2) HP.out.rt HP.out.rr HP.out.bg
        go_wp2_with fail
        refine hwo.mono ?_
        rintro e wz ⟨rfl,hbz⟩
        have HZ:=hZ (HP.out.toB.trans (hbz.mono HP.out.toB.size))
        clear hbz hwo
        go_wp2_with fail
        go_ret
        exact ⟨rfl,HZ.out⟩
       ·have hwo:=works23 _ (HG.out.below HP.out.toB HG.out.2) HP.out.rt HP.out.rr HP.out.bg
        go_wp2_with fail
        refine hwo.mono ?_
        rintro e wz ⟨rfl,hbz⟩
        have HZ:=hZ (HP.out.toB.trans (hbz.mono HP.out.toB.size))
        clear hbz hwo
        go_wp2_with fail
        go_ret
        exact ⟨rfl,HZ.out⟩
   ·have HP4:=hZ hp4
    have HZ0:=hZ hz0
    have hro:=HP4.out.ropen HTB.out.short HTB.out.fit HX.out (by have:=HLE.out;omega)
    rw [HMM.out,HZZ.out] at hro
    clear hp4 hpo w0 w1 w2 w3 hz0
    obtain ⟨w0,w1,w2,w3⟩:=HP4.out.wcel (a':=a) (sp:=none) (r':=r) (qp:=qp) wb (by simp)
    go_wp2_with fail
    refine hro.mono ?_
    intro e w5 hq
    rcases hq with ⟨hz1,-⟩ | ⟨-,rfl,hp5⟩
    case inl=>exact absurd hz1 HZ0.out
    have HP5:=hZ hp5
    have hzb:(z == 0)=false:=by rw [beq_eq_false_iff_ne];exact HZ0.out
    have hzn:¬ z=0:=HZ0.out
    have hzc:(z != 0)=true:=by rw [bne_iff_ne];exact HZ0.out
    clear hp5 hro w0 w1 w2 w3
    have hpl:=plain_E z HCZ.out z w5 (HG.out.below HP5.out.toB HG.out.2)
    rw [beq_self_eq_true] at hpl
    go_wp2_with fail
    refine hpl.mono ?_
    rintro e w6 ⟨rfl,hb6⟩
    have HP6:=hZ (HP5.out.bel hb6)
    clear hb6 hpl
    obtain ⟨w0,w1,w2,w3⟩:=HP6.out.wcel (a':=a) (sp:=none) (r':=r) (qp:=qp) wb (by simp)
    obtain ⟨Pp,hpp,-⟩:=HP6.out.pair
    have hal:=alikeB_any hpp HTM.out.short (HG.out.below HP6.out.toB HG.out.2) (by have:=HLE.out;omega) (by have:=HLE.out;omega)
    clear hpp
    go_wp2_with fail
    refine hal.mono ?_
    rintro e w7 ⟨rfl,hb7⟩
    have HP7:=hZ (HP6.out.bel hb7)
    clear hb7 hal w0 w1 w2 w3
    have hwo:=works23 _ (HG.out.below HP7.out.toB HG.out.2) HP7.out.rt HP7.out.rr HP7.out.bg
    go_wp2_with fail
    refine hwo.mono ?_
    rintro e wz ⟨rfl,hbz⟩
    have HZ:=hZ (HP7.out.toB.trans (hbz.mono HP7.out.toB.size))
    clear hbz hwo
    go_wp2_with fail
    go_ret
    exact ⟨rfl,HZ.out⟩
end Go.Proofs.YtecgikanophonaaGreatDoor
