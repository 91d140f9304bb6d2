/- Texts of the seat, one behind the other: BlobO, GetsW, BlobW. -/
import Derived.Test.YtecgikanophonaaGreatDoorM39
import Derived.Test.YtecgikanophonaaGreatDoorM27
import Derived.Test.YtecgikanophonaaGreatDoorTexts
import Derived.Test.YtecgikanophonaaGreatDoorM30
import Derived.Test.YtecgikanophonaaGreatDoorM29
import Derived.Test.YtecgikanophonaaGreatDoorM23
import Derived.Test.YtecgikanophonaaGreatDoorM36
import Derived.Test.YtecgikanophonaaGreatDoorUsed
set_option maxRecDepth 100000
set_option maxHeartbeats 25600000
/- Contract of blobs.Open. -/
namespace Go.Proofs.YtecgikanophonaaGreatDoor
open Go Go.RowKit
theorem openM_on {m:DM} {x:Int} (h:m.off=false):openM m x=seqM (takesM (badM m x) m) fun m'=>if badM m x=[] then (m',0) else m'.op .flush:=if_neg (by rw [h];decide)
theorem RowC.own {base:Nat} {l:List Value} {v:Value} {w:World} (h:RowC base l v w) (b:Nat) (hb:v.ownBlock=some b):base≤b∧b < w.heap.size:=by
 rcases h with ⟨rfl,-⟩ | ⟨g,cap,rfl,h2,h3,-⟩
 ·cases hb
 ·cases hb
  exact ⟨h2,h3⟩
def OpenPost (w:World) (S P:Nat→Prop) (a n:Nat) (x:Int) (w1:World) (m:DM) (e:Ending) (w':World):Prop :=
 ∃ v,e=.returned v∧(((openM m x).2=0∧∃ sb,v=.tuple #[.pointer (some ⟨sb,0,none⟩),.nilIface]∧w1.heap.size≤sb∧Sto w S (fun b=>P b∨b=sb) sb a x w' (n+(badM m x).length+1) (openM m x).1) ∨
  ((openM m x).2≠0∧∃ u,v=.tuple #[.pointer none,u]∧u=errE (openM m x).2∧St w S P a w' (n+(badM m x).length+1) (openM m x).1))∧SameP P w1 w'
theorem Sto.drop {w w1:World} {S P Q:Nat→Prop} {sb a n n':Nat} {x:Int} {m:DM} (h:Sto w S (fun b=>(P b∨b=sb)∨Q b) sb a x w1 n m) (hn:n≤n') (hp:P 3):Sto w S (fun b=>P b∨b=sb) sb a x w1 n' m :=
 ⟨(h.st.sub _ (fun b hb=>.inl hb)).more hn,h.box,.inr rfl,h.rnd,.inl hp⟩
theorem open_any {w w1:World} {S P:Nat→Prop} {a n:Nat} {x:Int} {m:DM} (h:St w S P a w1 n m) (hK:RoundsT w1) (hPK:P 3) (hx:1≤x∧x≤32) (hn:n≤1000000000) (hsh:∀ s∈m.lists ⟨blobHead.toArray⟩,s.size≤200) :
  Calls Tryz.prog 8 #[.pointer (some ⟨a,0,none⟩),.int .i64 x] w1 (OpenPost w S P a n x w1 m):=by
 obtain ⟨i0,hi,hz0,hz1,hz2⟩:=info_parts infoS
 obtain ⟨hx1,hx2⟩:=hx
 have hb0:Below w1.heap.size w1 (w1.alloc (storeO a x)):=(Below.refl _ _).alloc (Nat.le_refl _) _
 have HS1:Hid (Sto w S (fun b=>P b∨b=w1.heap.size) w1.heap.size a x (w1.alloc (storeO a x)) n m):=hZ
  ⟨h.bel hb0 _ (fun b hb=>by
   rcases hb with hb | rfl
   ·exact .inl hb
   ·exact .inr ⟨Nat.le_refl _,by rw [World.size_alloc];omega⟩),heap_new _ _,.inr rfl,hK.belowR hb0,.inl hPK⟩
 have HM1:Hid (SameP P w1 (w1.alloc (storeO a x))):=hZ (h.same hb0)
 have hlN:(m.lists ⟨blobHead.toArray⟩).length≤n:=by
  unfold DM.lists
  split
  ·exact Nat.zero_le _
  ·rw [List.length_map]
   exact Nat.le_trans (List.length_filter_le _ _) h.ok.nowN
 have HPK:=hZ hPK
 have HSH0:=hZ hsh
 have hls:=st_list HS1.out.st ⟨#[98,108,111,98,115,47]⟩ (by omega)
 have hlq:m.lists ⟨blobHead.toArray⟩=m.lists ⟨#[98,108,111,98,115,47]⟩:=rfl
 rw [hlq] at hlN
 rw [← hlq] at hls hlN
 obtain ⟨L,hL⟩:∃ L,m.lists ⟨blobHead.toArray⟩=L:=⟨_,rfl⟩
 rw [hL] at hls hlN HSH0
 have HL:=hZ hL
 have HSH:=HSH0
 obtain ⟨N,hN⟩:∃ N,L.length=N:=⟨_,rfl⟩
 have HN:=hZ hN
 rw [hN] at hlN
 have HNN:Hid (N≤n∧n≤1000000000):=hZ ⟨hlN,hn⟩
 clear hb0 h hK hPK hsh hlN hL hN hn hlq HSH0
 unfold OpenPost
 have hlsv:∀ W:World,W=w1.alloc (storeO a x)→Calls Tryz.prog 25 #[.pointer (some ⟨a,0,none⟩),.string ⟨#[98,108,111,98,115,47]⟩] W fun e w'=>∃ v,e=.returned (.tuple #[v,errE (if m.off then 27 else 0)])∧OwnTexts W.heap.size w' v L∧Below W.heap.size W w':=fun W hW=>by rw [hW];exact hls
 clear hls
 cases hoff:m.off with
 |true =>
  rw [hoff] at hlsv
  have HOFF:=hZ hoff
  clear hoff
  have hlsw:∀ W:World,W=w1.alloc (storeO a x)→Calls Tryz.prog 25 #[.pointer (some ⟨a,0,none⟩),.string ⟨#[98,108,111,98,115,47]⟩] W fun e w'=>∃ v,e=.returned (.tuple #[v,.iface 76 (.int .i64 27)])∧OwnTexts W.heap.size w' v L∧Below W.heap.size W w':=hlsv
  clear hlsv
  go_enter Tryz.func8,Tryz.ntmps8
  go_wp2_with fail
  refine (hlsw _ rfl).mono ?_
  rintro e w2 ⟨v,rfl,-,hb2⟩
  have HS2:=hZ (HS1.out.bel hb2)
  have HM2:Hid (SameP P w1 w2):=hZ (fun b hb=>(HS1.out.st.same hb2 b (.inl hb)).trans (HM1.out b hb))
  clear hb2 hlsw
  go_wp2_with fail
  go_ret2
  have hO:openM m x=(m,27):=if_pos HOFF.out
  refine ⟨_,rfl,?_,HM2.out⟩
  rw [hO]
  exact .inr ⟨(show (27:Int)≠0 by decide),_,rfl,rfl,(HS2.out.st.sub P (fun b hb=>.inl hb)).more (by omega)⟩
 |false =>
  rw [hoff] at hlsv
  have HOFF:=hZ hoff
  clear hoff
  have hlsw:∀ W:World,W=w1.alloc (storeO a x)→Calls Tryz.prog 25 #[.pointer (some ⟨a,0,none⟩),.string ⟨#[98,108,111,98,115,47]⟩] W fun e w'=>∃ v,e=.returned (.tuple #[v,.nilIface])∧OwnTexts W.heap.size w' v L∧Below W.heap.size W w':=hlsv
  clear hlsv
  obtain ⟨r,hr⟩:∃ r,(m.reads handN).1=r:=⟨_,rfl⟩
  by_cases hy0:(m.reads handN).2=0
  ·have hrd:=fun W (hs:St w S (fun b=>P b∨b=w1.heap.size) a W n m)=>st_read hs handN (by decide)
   rw [hy0,hr,show errE 0=.nilIface from rfl] at hrd
   have HY0:=hZ hy0
   clear hr hy0
   go_enter Tryz.func8,Tryz.ntmps8
   go_wp2_with fail
   refine (hlsw _ rfl).mono ?_
   rintro e w2 ⟨v,rfl,hv,hb2⟩
   obtain ⟨vp,vc,rfl⟩:=hv.rd.len
   rw [HN.out] at hv ⊢
   have HV2:=hZ hv.rd
   have HS2:=hZ (HS1.out.bel hb2)
   have HM2:Hid (SameP P w1 w2):=hZ (fun b hb=>(HS1.out.st.same hb2 b (.inl hb)).trans (HM1.out b hb))
   clear hb2 hlsw hv HS1 HM1
   go_wp2_with fail
   refine (hrd _ HS2.out.st).mono ?_
   rintro e w3 ⟨rfl,rfl⟩
   clear hrd
   have hbn:(0:Nat)+1≤140737488355328:=by decide
   go_wp2_with (at_builtin;refine wpList_appC rfl _ _ 22 rfl w2.heap.size 9 i0 (.string ⟨#[]⟩) 16 Tryz.underlying22 hi hz0 hz1 hz2 rfl [] _ rfl (RowC.nil _ _) (.string handN) ⟨w2.heap.size,0,none⟩ rfl (newV w2 _ _) rfl (by decide) (by decide) (by rw [World.size_alloc];have:=(Below.refl w2.heap.size w2).size;omega) ?_;intro v1 w7 hr7 hb7;have HR7:=hZ hr7;have HB7:Hid (Below w2.heap.size w2 w7):=hZ (((Below.refl w2.heap.size w2).alloc (by have:=(Below.refl w2.heap.size w2).size;omega) _).trans hb7);clear hr7 hb7)
   have HR9:Hid (RowC w2.heap.size (([handN]:List ByteArray).map strV) v1 w7):=HR7
   have HB9:=HB7
   clear hbn HR7 HB7
   have hNi:(N:Int)≤1000000000:=by have:=HNN.out;omega
   go_wp2_with fail
   go_loopw [9,55] (fun v iv wr=>∃ k:Nat,(k:Int)≤N∧iv=.int .i64 k∧Hid (RowC w2.heap.size (([handN] ++ (L.take k).filter fun s=>(rightM m x s).isNone).map strV) v wr)∧Hid (Below w2.heap.size w2 wr)) (fun _ iv _=>N - (intOf iv).toNat)
   case atStart=>exact ⟨0,by omega,rfl,hZ (by rw [List.take_zero,List.filter_nil,List.append_nil];exact HR9.out),HB9⟩
   case round =>
    obtain ⟨k,hk,rfl,HR,HB⟩:=hrel
    by_cases hlt:(k:Int) < N
    ·have hkl:k < L.length:=by rw [HN.out];omega
     obtain ⟨s,hs⟩:∃ s,L[k]?=some s:=⟨_,List.getElem?_eq_getElem hkl⟩
     obtain ⟨vp',vc',he,hv⟩:=HV2.out.below HB.out
     obtain ⟨vb,vo,hvp,hvl,hvc⟩:=hv k s hs
     have hpe:vp=some ⟨vb,vo,none⟩:=by cases he;exact hvp
     subst hpe
     have hss:=HSH.out s (List.mem_of_getElem? hs)
     have htk:L.take (k+1)=L.take k ++ [s]:=by rw [List.take_add_one,hs];rfl
     have HTK:=hZ htk
     obtain ⟨q,cap,rfl,-⟩:=HR.out.slice
     have hql:(([handN] ++ (L.take k).filter fun s=>(rightM m x s).isNone).map strV).length≤1+k:=by
      rw [List.length_map,List.length_append]
      have h1:=List.length_filter_le (fun s=>(rightM m x s).isNone) (L.take k)
      rw [List.length_take] at h1
      have:([handN]:List ByteArray).length=1:=rfl
      omega
     obtain ⟨K,hK⟩:∃ K,(([handN] ++ (L.take k).filter fun s=>(rightM m x s).isNone).map strV).length=K:=⟨_,rfl⟩
     rw [hK] at hql HR ⊢
     have HQL:=hZ hql
     have HK:=hZ hK
     clear hs he hv hvp hvl htk hkl hql hK
     have HS4:=hZ (HS2.out.bel HB.out)
     go_wp2_with fail
     refine (st_right HS4.out s (by omega)).mono ?_
     rintro e w5 ⟨⟨t,rfl,-⟩,hb5⟩
     have HB5:Hid (Below w2.heap.size w2 w5):=hZ (HB.out.trans (hb5.mono HB.out.size))
     have HR5:=hZ (HR.out.keep hb5)
     clear hb5 hvc
     cases hrt:rightM m x s with
     |some u =>
      have hf:[s].filter (fun s=>(rightM m x s).isNone)=[]:=by rw [List.filter_cons,hrt];rfl
      have HF:=hZ hf
      clear hf hrt
      go_wp2_with fail
      refine ⟨⟨k+1,by omega,by rw [Int.natCast_add];rfl,hZ ?_,HB5⟩,by simp [intOf];omega⟩
      rw [HTK.out,List.filter_append,HF.out,List.append_nil]
      exact HR5.out
     |none =>
      have hf:[s].filter (fun s=>(rightM m x s).isNone)=[s]:=by rw [List.filter_cons,hrt];rfl
      have HF:=hZ hf
      clear hf hrt
      go_wp2_with (at_builtin;refine wpList_appC rfl _ _ 22 rfl w2.heap.size 9 i0 (.string ⟨#[]⟩) 16 Tryz.underlying22 hi hz0 hz1 hz2 rfl _ _ rfl (HR5.out.keep ((Below.refl _ _).alloc (Nat.le_refl _) _)) (.string s) ⟨w5.heap.size,0,none⟩ rfl (newV w5 _ _) rfl (by rw [HK.out];have:=HQL.out;have:=HNN.out;unfold maxLen;omega) (by rw [HK.out];have:=HQL.out;have:=HNN.out;omega) (by rw [World.size_alloc];have:=HB5.out.size;omega) ?_;intro v1 w7 hr7 hb7;have HR7:=hZ hr7;have HB7:Hid (Below w2.heap.size w2 w7):=hZ ((HB5.out.alloc (by have:=HB5.out.size;omega) _).trans hb7);clear hr7 hb7)
      refine ⟨⟨k+1,by omega,by rw [Int.natCast_add];rfl,hZ ?_,HB7⟩,by simp [intOf];omega⟩
      rw [HTK.out,List.filter_append,HF.out,← List.append_assoc,List.map_append]
      exact HR7.out
    ·have hbad:([handN] ++ (L.take k).filter fun s=>(rightM m x s).isNone)=badM m x:=by
      rw [List.take_of_length_le (by rw [HN.out];omega)]
      exact (show [handN] ++ L.filter _=badM m x by unfold badM;rw [if_pos HY0.out,HL.out])
     rw [hbad] at HR
     have hbl:(badM m x).length≤1+N:=by
      rw [← hbad,List.length_append]
      have h1:=List.length_filter_le (fun s=>(rightM m x s).isNone) (L.take k)
      rw [List.length_take] at h1
      have:([handN]:List ByteArray).length=1:=rfl
      have:=HN.out
      omega
     have hsz:∀ s∈badM m x,s.size≤200:=by
      rw [← hbad]
      intro s hs
      rcases List.mem_append.1 hs with hs | hs
      ·rw [List.mem_singleton.1 hs];decide
      ·exact HSH.out s (List.mem_of_mem_take (List.mem_filter.1 hs).1)
     obtain ⟨BD,hBD⟩:∃ l,badM m x=l:=⟨_,rfl⟩
     rw [hBD] at HR hbl hsz
     have HBD:=hZ hBD
     have HBL:=hZ hbl
     have HSZ:=hZ hsz
     have HQ:Hid (Sto w S (fun b=>(P b∨b=w1.heap.size)∨u9.ownBlock=some b) w1.heap.size a x wr n m):=hZ (HS2.out.more HB.out _ (fun b hb=>.inl hb) (fun b hb=>hb.elim .inl (fun e=>.inr (HR.out.own b e))))
     have HMQ:Hid (SameP P w1 wr):=hZ (fun b hb=>(HS2.out.st.same HB.out b (.inl hb)).trans (HM2.out b hb))
     obtain ⟨q,cap,hu9,hcl⟩:=HR.out.slice
     rw [List.length_map] at hu9
     obtain ⟨M,hM⟩:∃ M,BD.length=M:=⟨_,rfl⟩
     rw [hM] at hu9 HBL
     have HMM:=hZ hM
     have HCL:Hid (∀ j s,BD[j]?=some s→∃ g,q=some ⟨g,0,none⟩∧wr.cell? ⟨g,j,none⟩=some (.string s)):=hZ (fun j s hj=>by
      obtain ⟨g,h1,-,h3⟩:=hcl j (strV s) (by rw [List.getElem?_map,hj];rfl)
      exact ⟨g,h1,h3⟩)
     have HUU:=hZ hu9
     subst hu9
     clear hbad hbl hsz hBD hcl hM HR
     obtain ⟨W9,hW9⟩:∃ W,W=wr:=⟨_,rfl⟩
     rw [← hW9] at HQ HMQ HCL ⊢
     clear hW9
     have hMi:(M:Int)≤1000000001:=by have:=HNN.out;have:=HBL.out;omega
     go_wp2_with fail
     go_loopw [74] (fun iv wx=>∃ (k:Nat) (mk:DM),(k:Int)≤M∧iv=.int .i64 k∧Hid (takesM BD m=takesM (BD.drop k) mk)∧Hid (Sto w S (fun b=>(P b∨b=w1.heap.size)∨(Value.slice q M cap).ownBlock=some b) w1.heap.size a x wx (n+k) mk)∧Hid (SameP (fun b=>(P b∨b=w1.heap.size)∨(Value.slice q M cap).ownBlock=some b) W9 wx)) (fun iv _=>M - (intOf iv).toNat)
     case atStart=>exact ⟨0,m,by omega,rfl,hZ rfl,HQ,hZ (fun _ _=>rfl)⟩
     case round =>
      obtain ⟨k,mk,hk,rfl,HTM,HS,HX⟩:=hrel
      by_cases hlt:(k:Int) < M
      ·have hkl:k < BD.length:=by rw [HMM.out];omega
       obtain ⟨s,hs⟩:∃ s,BD[k]?=some s:=⟨_,List.getElem?_eq_getElem hkl⟩
       obtain ⟨g,hqg,hgc⟩:=HCL.out k s hs
       have hss:=HSZ.out s (List.mem_of_getElem? hs)
       have hdr:BD.drop k=s :: BD.drop (k+1):=by
        rw [List.drop_eq_getElem_cons hkl]
        rw [List.getElem?_eq_getElem hkl] at hs
        rw [Option.some.inj hs]
       have htm:takesM BD m=seqM (mk.op (.remove s)) (takesM (BD.drop (k+1))):=by rw [HTM.out,hdr];rfl
       have HTM2:=hZ htm
       subst hqg
       have hc9:wr.cell? ⟨g,k,none⟩=some (.string s):=(cell_of_heap (HX.out g (.inr rfl))).trans hgc
       have hMn:M≤1+N:=by have:=HBL.out;omega
       have hnn:=HNN.out
       clear hs hgc hdr htm hkl
       go_wp2_with fail
       refine (st_remove HS.out.st s (Nat.le_trans hss (by decide)) (by omega)).mono ?_
       intro e w8 hp
       by_cases hy:(mk.op (.remove s)).2=0
       ·obtain ⟨mj,h1⟩:∃ mj,mk.op (.remove s)=(mj,0):=⟨_,by rw [← hy]⟩
        obtain ⟨rfl,hs8,hk8⟩:=hp.eq h1 (show errE 0=.nilIface from rfl)
        have HS8:=hZ (HS.out.step hs8 hk8)
        have HX8:Hid (SameP (fun b=>(P b∨b=w1.heap.size)∨(Value.slice (some ⟨g,0,none⟩) M cap).ownBlock=some b) W9 w8):=hZ (fun b hb=>(hk8 b hb).trans (HX.out b hb))
        have HOP:=hZ h1
        clear hp hy hs8 hk8 h1 hc9
        go_wp2_with fail
        refine ⟨⟨k+1,mj,by omega,by rw [Int.natCast_add];rfl,hZ ?_,HS8,HX8⟩,by simp [intOf];omega⟩
        rw [HTM2.out,seqM_ok _ HOP.out]
       ·obtain ⟨y,hyy⟩:∃ y,(mk.op (.remove s)).2=y:=⟨_,rfl⟩
        rw [hyy] at hy
        obtain ⟨mj,h1⟩:∃ mj,mk.op (.remove s)=(mj,y):=⟨_,by rw [← hyy]⟩
        have hv:errE y=.iface 76 (.int .i64 y):=if_neg hy
        obtain ⟨rfl,hs8,hk8⟩:=hp.eq h1 hv
        have HS8:=hZ (HS.out.step hs8 hk8)
        have HX8:Hid (SameP P w1 w8):=hZ (fun b hb=>(hk8 b (.inl (.inl hb))).trans ((HX.out b (.inl (.inl hb))).trans (HMQ.out b hb)))
        have HOP:=hZ h1
        have HV:=hZ hv
        have HY:=hZ hy
        clear hp hy hs8 hk8 h1 hc9 hv hyy
        go_wp2_with fail
        go_ret2
        have hO:openM m x=(mj,y):=by
         rw [openM_on HOFF.out,HBD.out]
         exact seqM_no _ (show takesM BD m=(mj,y) by rw [HTM2.out,seqM_no _ HOP.out HY.out]) HY.out
        refine ⟨_,rfl,?_,HX8.out⟩
        rw [hO,HBD.out]
        refine .inr ⟨HY.out,_,rfl,HV.out.symm,(HS8.out.st.sub P (fun b hb=>.inl (.inl hb))).more ?_⟩
        rw [HMM.out]
        omega
      ·obtain rfl:k=M:=by omega
       have htm:takesM BD m=(mk,0):=by rw [HTM.out,List.drop_of_length_le (by rw [HMM.out];exact Nat.le_refl _)];rfl
       have HTM2:=hZ htm
       have hMn:k≤1+N:=by have:=HBL.out;omega
       have hnn:=HNN.out
       have HX9:Hid (SameP P w1 wr):=hZ (fun b hb=>(HX.out b (.inl (.inl hb))).trans (HMQ.out b hb))
       clear htm
       by_cases hk0:(0:Int) < k
       ·have hne:BD≠[]:=fun e=>by have h0:([]:List ByteArray).length=k:=e ▸ HMM.out;have h1:(0:Nat)=k:=h0;omega
        have HNE:=hZ hne
        clear hne
        go_wp2_with fail
        refine (st_flush HS.out.st (by omega)).mono ?_
        intro e w8 hp
        by_cases hy:(mk.op .flush).2=0
        ·obtain ⟨mj,h1⟩:∃ mj,mk.op .flush=(mj,0):=⟨_,by rw [← hy]⟩
         obtain ⟨rfl,hs8,hk8⟩:=hp.eq h1 (show errE 0=.nilIface from rfl)
         have HS8:=hZ (HS.out.step hs8 hk8)
         have HX8:Hid (SameP P w1 w8):=hZ (fun b hb=>(hk8 b (.inl (.inl hb))).trans (HX9.out b hb))
         have HOP:=hZ h1
         clear hp hy hs8 hk8 h1
         go_wp2_with fail
         go_ret2
         have hO:openM m x=(mj,0):=by
          rw [openM_on HOFF.out,HBD.out,seqM_ok _ HTM2.out,if_neg HNE.out]
          exact HOP.out
         refine ⟨_,rfl,?_,HX8.out⟩
         rw [hO,HBD.out]
         exact .inl ⟨rfl,_,rfl,Nat.le_refl _,HS8.out.drop (by rw [HMM.out];omega) HPK.out⟩
        ·obtain ⟨y,hyy⟩:∃ y,(mk.op .flush).2=y:=⟨_,rfl⟩
         rw [hyy] at hy
         obtain ⟨mj,h1⟩:∃ mj,mk.op .flush=(mj,y):=⟨_,by rw [← hyy]⟩
         have hv:errE y=.iface 76 (.int .i64 y):=if_neg hy
         obtain ⟨rfl,hs8,hk8⟩:=hp.eq h1 hv
         have HS8:=hZ (HS.out.step hs8 hk8)
         have HX8:Hid (SameP P w1 w8):=hZ (fun b hb=>(hk8 b (.inl (.inl hb))).trans (HX9.out b hb))
         have HOP:=hZ h1
         have HV:=hZ hv
         have HY:=hZ hy
         clear hp hy hs8 hk8 h1 hv hyy
         go_wp2_with fail
         go_ret2
         have hO:openM m x=(mj,y):=by
          rw [openM_on HOFF.out,HBD.out,seqM_ok _ HTM2.out,if_neg HNE.out]
          exact HOP.out
         refine ⟨_,rfl,?_,HX8.out⟩
         rw [hO,HBD.out]
         refine .inr ⟨HY.out,_,rfl,HV.out.symm,(HS8.out.st.sub P (fun b hb=>.inl (.inl hb))).more ?_⟩
         rw [HMM.out]
         omega
       ·have he:BD=[]:=List.eq_nil_of_length_eq_zero (by rw [HMM.out];omega)
        have HE:=hZ he
        clear he
        go_wp2_with fail
        go_ret2
        have hO:openM m x=(mk,0):=by
         rw [openM_on HOFF.out,HBD.out,seqM_ok _ HTM2.out,if_pos HE.out]
        refine ⟨_,rfl,?_,HX9.out⟩
        rw [hO,HBD.out]
        exact .inl ⟨rfl,_,rfl,Nat.le_refl _,HS.out.drop (by rw [HMM.out];omega) HPK.out⟩
  ·obtain ⟨z,hz⟩:∃ z,(m.reads handN).2=z:=⟨_,rfl⟩
   have hrd:=fun W (hs:St w S (fun b=>P b∨b=w1.heap.size) a W n m)=>st_read hs handN (by decide)
   have HY0:=hZ hy0
   rw [hz] at hy0
   rw [hz,hr,show errE z=.iface 76 (.int .i64 z) from if_neg hy0] at hrd
   clear hr hy0 hz
   go_enter Tryz.func8,Tryz.ntmps8
   go_wp2_with fail
   refine (hlsw _ rfl).mono ?_
   rintro e w2 ⟨v,rfl,hv,hb2⟩
   obtain ⟨vp,vc,rfl⟩:=hv.rd.len
   rw [HN.out] at hv ⊢
   have HV2:=hZ hv.rd
   have HS2:=hZ (HS1.out.bel hb2)
   have HM2:Hid (SameP P w1 w2):=hZ (fun b hb=>(HS1.out.st.same hb2 b (.inl hb)).trans (HM1.out b hb))
   clear hb2 hlsw hv HS1 HM1
   go_wp2_with fail
   refine (hrd _ HS2.out.st).mono ?_
   rintro e w3 ⟨rfl,rfl⟩
   clear hrd
   have HR9:Hid (RowC w2.heap.size (([]:List ByteArray).map strV) (.slice none 0 0) w2):=hZ (RowC.nil _ _)
   have HB9:Hid (Below w2.heap.size w2 w2):=hZ (Below.refl _ _)
   have hNi:(N:Int)≤1000000000:=by have:=HNN.out;omega
   go_wp2_with fail
   go_loopw [9,55] (fun v iv wr=>∃ k:Nat,(k:Int)≤N∧iv=.int .i64 k∧Hid (RowC w2.heap.size (([] ++ (L.take k).filter fun s=>(rightM m x s).isNone).map strV) v wr)∧Hid (Below w2.heap.size w2 wr)) (fun _ iv _=>N - (intOf iv).toNat)
   case atStart=>exact ⟨0,by omega,rfl,hZ (by rw [List.take_zero,List.filter_nil,List.append_nil];exact HR9.out),HB9⟩
   case round =>
    obtain ⟨k,hk,rfl,HR,HB⟩:=hrel
    by_cases hlt:(k:Int) < N
    ·have hkl:k < L.length:=by rw [HN.out];omega
     obtain ⟨s,hs⟩:∃ s,L[k]?=some s:=⟨_,List.getElem?_eq_getElem hkl⟩
     obtain ⟨vp',vc',he,hv⟩:=HV2.out.below HB.out
     obtain ⟨vb,vo,hvp,hvl,hvc⟩:=hv k s hs
     have hpe:vp=some ⟨vb,vo,none⟩:=by cases he;exact hvp
     subst hpe
     have hss:=HSH.out s (List.mem_of_getElem? hs)
     have htk:L.take (k+1)=L.take k ++ [s]:=by rw [List.take_add_one,hs];rfl
     have HTK:=hZ htk
     obtain ⟨q,cap,rfl,-⟩:=HR.out.slice
     have hql:(([] ++ (L.take k).filter fun s=>(rightM m x s).isNone).map strV).length≤0+k:=by
      rw [List.length_map,List.length_append]
      have h1:=List.length_filter_le (fun s=>(rightM m x s).isNone) (L.take k)
      rw [List.length_take] at h1
      have:([]:List ByteArray).length=0:=rfl
      omega
     obtain ⟨K,hK⟩:∃ K,(([] ++ (L.take k).filter fun s=>(rightM m x s).isNone).map strV).length=K:=⟨_,rfl⟩
     rw [hK] at hql HR ⊢
     have HQL:=hZ hql
     have HK:=hZ hK
     clear hs he hv hvp hvl htk hkl hql hK
     have HS4:=hZ (HS2.out.bel HB.out)
     go_wp2_with fail
     refine (st_right HS4.out s (by omega)).mono ?_
     rintro e w5 ⟨⟨t,rfl,-⟩,hb5⟩
     have HB5:Hid (Below w2.heap.size w2 w5):=hZ (HB.out.trans (hb5.mono HB.out.size))
     have HR5:=hZ (HR.out.keep hb5)
     clear hb5 hvc
     cases hrt:rightM m x s with
     |some u =>
      have hf:[s].filter (fun s=>(rightM m x s).isNone)=[]:=by rw [List.filter_cons,hrt];rfl
      have HF:=hZ hf
      clear hf hrt
      go_wp2_with fail
      refine ⟨⟨k+1,by omega,by rw [Int.natCast_add];rfl,hZ ?_,HB5⟩,by simp [intOf];omega⟩
      rw [HTK.out,List.filter_append,HF.out,List.append_nil]
      exact HR5.out
     |none =>
      have hf:[s].filter (fun s=>(rightM m x s).isNone)=[s]:=by rw [List.filter_cons,hrt];rfl
      have HF:=hZ hf
      clear hf hrt
      go_wp2_with (at_builtin;refine wpList_appC rfl _ _ 22 rfl w2.heap.size 9 i0 (.string ⟨#[]⟩) 16 Tryz.underlying22 hi hz0 hz1 hz2 rfl _ _ rfl (HR5.out.keep ((Below.refl _ _).alloc (Nat.le_refl _) _)) (.string s) ⟨w5.heap.size,0,none⟩ rfl (newV w5 _ _) rfl (by rw [HK.out];have:=HQL.out;have:=HNN.out;unfold maxLen;omega) (by rw [HK.out];have:=HQL.out;have:=HNN.out;omega) (by rw [World.size_alloc];have:=HB5.out.size;omega) ?_;intro v1 w7 hr7 hb7;have HR7:=hZ hr7;have HB7:Hid (Below w2.heap.size w2 w7):=hZ ((HB5.out.alloc (by have:=HB5.out.size;omega) _).trans hb7);clear hr7 hb7)
      refine ⟨⟨k+1,by omega,by rw [Int.natCast_add];rfl,hZ ?_,HB7⟩,by simp [intOf];omega⟩
      rw [HTK.out,List.filter_append,HF.out,← List.append_assoc,List.map_append]
      exact HR7.out
    ·have hbad:([] ++ (L.take k).filter fun s=>(rightM m x s).isNone)=badM m x:=by
      rw [List.take_of_length_le (by rw [HN.out];omega)]
      exact (show [] ++ L.filter _=badM m x by unfold badM;rw [if_neg HY0.out,HL.out])
     rw [hbad] at HR
     have hbl:(badM m x).length≤0+N:=by
      rw [← hbad,List.length_append]
      have h1:=List.length_filter_le (fun s=>(rightM m x s).isNone) (L.take k)
      rw [List.length_take] at h1
      have:([]:List ByteArray).length=0:=rfl
      have:=HN.out
      omega
     have hsz:∀ s∈badM m x,s.size≤200:=by
      rw [← hbad]
      intro s hs
      rcases List.mem_append.1 hs with hs | hs
      ·cases hs
      ·exact HSH.out s (List.mem_of_mem_take (List.mem_filter.1 hs).1)
     obtain ⟨BD,hBD⟩:∃ l,badM m x=l:=⟨_,rfl⟩
     rw [hBD] at HR hbl hsz
     have HBD:=hZ hBD
     have HBL:=hZ hbl
     have HSZ:=hZ hsz
     have HQ:Hid (Sto w S (fun b=>(P b∨b=w1.heap.size)∨u9.ownBlock=some b) w1.heap.size a x wr n m):=hZ (HS2.out.more HB.out _ (fun b hb=>.inl hb) (fun b hb=>hb.elim .inl (fun e=>.inr (HR.out.own b e))))
     have HMQ:Hid (SameP P w1 wr):=hZ (fun b hb=>(HS2.out.st.same HB.out b (.inl hb)).trans (HM2.out b hb))
     obtain ⟨q,cap,hu9,hcl⟩:=HR.out.slice
     rw [List.length_map] at hu9
     obtain ⟨M,hM⟩:∃ M,BD.length=M:=⟨_,rfl⟩
     rw [hM] at hu9 HBL
     have HMM:=hZ hM
     have HCL:Hid (∀ j s,BD[j]?=some s→∃ g,q=some ⟨g,0,none⟩∧wr.cell? ⟨g,j,none⟩=some (.string s)):=hZ (fun j s hj=>by
      obtain ⟨g,h1,-,h3⟩:=hcl j (strV s) (by rw [List.getElem?_map,hj];rfl)
      exact ⟨g,h1,h3⟩)
     have HUU:=hZ hu9
     subst hu9
     clear hbad hbl hsz hBD hcl hM HR
     obtain ⟨W9,hW9⟩:∃ W,W=wr:=⟨_,rfl⟩
     rw [← hW9] at HQ HMQ HCL ⊢
     clear hW9
     have hMi:(M:Int)≤1000000001:=by have:=HNN.out;have:=HBL.out;omega
     go_wp2_with fail
     go_loopw [74] (fun iv wx=>∃ (k:Nat) (mk:DM),(k:Int)≤M∧iv=.int .i64 k∧Hid (takesM BD m=takesM (BD.drop k) mk)∧Hid (Sto w S (fun b=>(P b∨b=w1.heap.size)∨(Value.slice q M cap).ownBlock=some b) w1.heap.size a x wx (n+k) mk)∧Hid (SameP (fun b=>(P b∨b=w1.heap.size)∨(Value.slice q M cap).ownBlock=some b) W9 wx)) (fun iv _=>M - (intOf iv).toNat)
     case atStart=>exact ⟨0,m,by omega,rfl,hZ rfl,HQ,hZ (fun _ _=>rfl)⟩
     case round =>
      obtain ⟨k,mk,hk,rfl,HTM,HS,HX⟩:=hrel
      by_cases hlt:(k:Int) < M
      ·have hkl:k < BD.length:=by rw [HMM.out];omega
       obtain ⟨s,hs⟩:∃ s,BD[k]?=some s:=⟨_,List.getElem?_eq_getElem hkl⟩
       obtain ⟨g,hqg,hgc⟩:=HCL.out k s hs
       have hss:=HSZ.out s (List.mem_of_getElem? hs)
       have hdr:BD.drop k=s :: BD.drop (k+1):=by
        rw [List.drop_eq_getElem_cons hkl]
        rw [List.getElem?_eq_getElem hkl] at hs
        rw [Option.some.inj hs]
       have htm:takesM BD m=seqM (mk.op (.remove s)) (takesM (BD.drop (k+1))):=by rw [HTM.out,hdr];rfl
       have HTM2:=hZ htm
       subst hqg
       have hc9:wr.cell? ⟨g,k,none⟩=some (.string s):=(cell_of_heap (HX.out g (.inr rfl))).trans hgc
       have hMn:M≤1+N:=by have:=HBL.out;omega
       have hnn:=HNN.out
       clear hs hgc hdr htm hkl
       go_wp2_with fail
       refine (st_remove HS.out.st s (Nat.le_trans hss (by decide)) (by omega)).mono ?_
       intro e w8 hp
       by_cases hy:(mk.op (.remove s)).2=0
       ·obtain ⟨mj,h1⟩:∃ mj,mk.op (.remove s)=(mj,0):=⟨_,by rw [← hy]⟩
        obtain ⟨rfl,hs8,hk8⟩:=hp.eq h1 (show errE 0=.nilIface from rfl)
        have HS8:=hZ (HS.out.step hs8 hk8)
        have HX8:Hid (SameP (fun b=>(P b∨b=w1.heap.size)∨(Value.slice (some ⟨g,0,none⟩) M cap).ownBlock=some b) W9 w8):=hZ (fun b hb=>(hk8 b hb).trans (HX.out b hb))
        have HOP:=hZ h1
        clear hp hy hs8 hk8 h1 hc9
        go_wp2_with fail
        refine ⟨⟨k+1,mj,by omega,by rw [Int.natCast_add];rfl,hZ ?_,HS8,HX8⟩,by simp [intOf];omega⟩
        rw [HTM2.out,seqM_ok _ HOP.out]
       ·obtain ⟨y,hyy⟩:∃ y,(mk.op (.remove s)).2=y:=⟨_,rfl⟩
        rw [hyy] at hy
        obtain ⟨mj,h1⟩:∃ mj,mk.op (.remove s)=(mj,y):=⟨_,by rw [← hyy]⟩
        have hv:errE y=.iface 76 (.int .i64 y):=if_neg hy
        obtain ⟨rfl,hs8,hk8⟩:=hp.eq h1 hv
        have HS8:=hZ (HS.out.step hs8 hk8)
        have HX8:Hid (SameP P w1 w8):=hZ (fun b hb=>(hk8 b (.inl (.inl hb))).trans ((HX.out b (.inl (.inl hb))).trans (HMQ.out b hb)))
        have HOP:=hZ h1
        have HV:=hZ hv
        have HY:=hZ hy
        clear hp hy hs8 hk8 h1 hc9 hv hyy
        go_wp2_with fail
        go_ret2
        have hO:openM m x=(mj,y):=by
         rw [openM_on HOFF.out,HBD.out]
         exact seqM_no _ (show takesM BD m=(mj,y) by rw [HTM2.out,seqM_no _ HOP.out HY.out]) HY.out
        refine ⟨_,rfl,?_,HX8.out⟩
        rw [hO,HBD.out]
        refine .inr ⟨HY.out,_,rfl,HV.out.symm,(HS8.out.st.sub P (fun b hb=>.inl (.inl hb))).more ?_⟩
        rw [HMM.out]
        omega
      ·obtain rfl:k=M:=by omega
       have htm:takesM BD m=(mk,0):=by rw [HTM.out,List.drop_of_length_le (by rw [HMM.out];exact Nat.le_refl _)];rfl
       have HTM2:=hZ htm
       have hMn:k≤1+N:=by have:=HBL.out;omega
       have hnn:=HNN.out
       have HX9:Hid (SameP P w1 wr):=hZ (fun b hb=>(HX.out b (.inl (.inl hb))).trans (HMQ.out b hb))
       clear htm
       by_cases hk0:(0:Int) < k
       ·have hne:BD≠[]:=fun e=>by have h0:([]:List ByteArray).length=k:=e ▸ HMM.out;have h1:(0:Nat)=k:=h0;omega
        have HNE:=hZ hne
        clear hne
        go_wp2_with fail
        refine (st_flush HS.out.st (by omega)).mono ?_
        intro e w8 hp
        by_cases hy:(mk.op .flush).2=0
        ·obtain ⟨mj,h1⟩:∃ mj,mk.op .flush=(mj,0):=⟨_,by rw [← hy]⟩
         obtain ⟨rfl,hs8,hk8⟩:=hp.eq h1 (show errE 0=.nilIface from rfl)
         have HS8:=hZ (HS.out.step hs8 hk8)
         have HX8:Hid (SameP P w1 w8):=hZ (fun b hb=>(hk8 b (.inl (.inl hb))).trans (HX9.out b hb))
         have HOP:=hZ h1
         clear hp hy hs8 hk8 h1
         go_wp2_with fail
         go_ret2
         have hO:openM m x=(mj,0):=by
          rw [openM_on HOFF.out,HBD.out,seqM_ok _ HTM2.out,if_neg HNE.out]
          exact HOP.out
         refine ⟨_,rfl,?_,HX8.out⟩
         rw [hO,HBD.out]
         exact .inl ⟨rfl,_,rfl,Nat.le_refl _,HS8.out.drop (by rw [HMM.out];omega) HPK.out⟩
        ·obtain ⟨y,hyy⟩:∃ y,(mk.op .flush).2=y:=⟨_,rfl⟩
         rw [hyy] at hy
         obtain ⟨mj,h1⟩:∃ mj,mk.op .flush=(mj,y):=⟨_,by rw [← hyy]⟩
         have hv:errE y=.iface 76 (.int .i64 y):=if_neg hy
         obtain ⟨rfl,hs8,hk8⟩:=hp.eq h1 hv
         have HS8:=hZ (HS.out.step hs8 hk8)
         have HX8:Hid (SameP P w1 w8):=hZ (fun b hb=>(hk8 b (.inl (.inl hb))).trans (HX9.out b hb))
         have HOP:=hZ h1
         have HV:=hZ hv
         have HY:=hZ hy
         clear hp hy hs8 hk8 h1 hv hyy
         go_wp2_with fail
         go_ret2
         have hO:openM m x=(mj,y):=by
          rw [openM_on HOFF.out,HBD.out,seqM_ok _ HTM2.out,if_neg HNE.out]
          exact HOP.out
         refine ⟨_,rfl,?_,HX8.out⟩
         rw [hO,HBD.out]
         refine .inr ⟨HY.out,_,rfl,HV.out.symm,(HS8.out.st.sub P (fun b hb=>.inl (.inl hb))).more ?_⟩
         rw [HMM.out]
         omega
       ·have he:BD=[]:=List.eq_nil_of_length_eq_zero (by rw [HMM.out];omega)
        have HE:=hZ he
        clear he
        go_wp2_with fail
        go_ret2
        have hO:openM m x=(mk,0):=by
         rw [openM_on HOFF.out,HBD.out,seqM_ok _ HTM2.out,if_pos HE.out]
        refine ⟨_,rfl,?_,HX9.out⟩
        rw [hO,HBD.out]
        exact .inl ⟨rfl,_,rfl,Nat.le_refl _,HS.out.drop (by rw [HMM.out];omega) HPK.out⟩
end Go.Proofs.YtecgikanophonaaGreatDoor
/- Contract of stratalaw23.works. -/
namespace Go.Proofs.YtecgikanophonaaGreatDoor
open Go Go.RowKit
theorem RoundsR.belowR2 {w w':World} (h:RoundsR w) (hb:Below w.heap.size w w'):RoundsR w' :=
 ⟨fun i k hk=>(hb.cell (p:=⟨2,i,none⟩) h.2).trans (h.1 i k hk),Nat.lt_of_lt_of_le h.2 hb.size⟩
theorem BeginR.belowB {w w':World} (h:BeginR w) (hb:Below w.heap.size w w'):BeginR w' :=
 ⟨fun j hj=>(hb.cell (p:=⟨0,j,none⟩) h.2).trans (h.1 j hj),Nat.lt_of_lt_of_le h.2 hb.size⟩
theorem St.toB {w w1:World} {P:Nat→Prop} {a n:Nat} {m:DM} (h:St w (fun _=>False) P a w1 n m):Below w.heap.size w w1:=h.off.toBelow (fun _ hf=>hf.elim) (Nat.le_refl _)
theorem st_new (w w1:World) (hb:Below w.heap.size w w1) (r:Int) (h1:-9223372036854775808≤r) (h2:r≤9223372036854775807) :
  Calls Tryz.prog 9 #[.int .i64 r] w1 fun e w'=>∃ a,e=.returned (.pointer (some ⟨a,0,none⟩))∧St w (fun _=>False) (fun b=>b < w1.heap.size) a w' 0 (DM.new r)∧Below w1.heap.size w1 w':=by
 refine (new_any w1 r h1 h2).mono ?_
 rintro e w' ⟨a,rfl,hd,hb2⟩
 have hz:=hb.size
 exact ⟨a,rfl,⟨⟨_,hd,fun b hb3=>⟨.inr (Nat.le_trans hz hb3.1),fun h=>by have:=hb3.1;omega⟩⟩,fun b hb3=>Nat.lt_of_lt_of_le hb3 hb2.size,(Off.refl _ w).below (hb.trans (hb2.mono hz)) (Nat.le_refl _),fun _ hf=>hf.elim⟩,hb2⟩
def abcB:ByteArray:=⟨#[97,98,99]⟩
def d1:List UInt8:=1 :: List.replicate 31 0
theorem abc_ne:d1≠shaU 32 abcB:=fun e=>by
 have h:=sha_abc
 have h2:(shaU 32 abcB).getD 0 0=186:=h
 rw [← e] at h2
 revert h2
 decide
theorem works_put:(putM (DM.new 100) 32 abcB).2=(shaU 32 abcB,0)∧(putM (DM.new 100) 32 abcB).1.reads (fileN (shaU 32 abcB))=(abcB,0)∧(putM (DM.new 100) 32 abcB).1.reads (fileN d1)=(⟨#[]⟩,10):=by
 obtain ⟨-,-,h⟩:=put_calm (calm_new 100) 32 abcB
 rcases h with ⟨h1,h2,h3,-⟩ | ⟨h1 | ⟨-,h2⟩,h3⟩
 ·exact ⟨h1,h2,h3 d1 abc_ne⟩
 ·exfalso
  have h4:putM (DM.new 100) 32 abcB=if (layM (DM.new 100) (fileN (shaU 32 abcB)) abcB).2=0 then ((layM (DM.new 100) (fileN (shaU 32 abcB)) abcB).1,shaU 32 abcB,0) else ((layM (DM.new 100) (fileN (shaU 32 abcB)) abcB).1,zeroD,(layM (DM.new 100) (fileN (shaU 32 abcB)) abcB).2):=by
   have hr:rightM (DM.new 100) 32 (fileN (shaU 32 abcB))=none:=by
    unfold rightM
    rw [namedM_fileN (shaU_len _ _)]
    exact if_neg (fun hh=>by have:=hh.1;revert this;show ¬ (10:Int)=0;decide)
   unfold putM
   rw [if_neg (by decide),hr]
  obtain ⟨-,-,-,h5⟩:=lay_calm (calm_new 100).calm (calm_new 100).now (calm_new 100).ids (calm_new 100).hand (fileN (shaU 32 abcB)) abcB (fileN_right (shaU_len _ _)) (fileN_hand _)
  rw [h4] at h1
  rcases h5 with ⟨h5,-⟩ | ⟨h5,-,h6⟩
  ·rw [if_pos h5] at h1
   have:=(Prod.mk.inj h1).2
   revert this
   decide
  ·revert h6
   decide
 ·exfalso
  revert h2
  decide
theorem works23 (w:World) (hG:ErrT w) (hT:RoundsT w) (hR:RoundsR w) (hB:BeginR w) :
  Calls Tryz.prog 14 #[] w fun e w'=>e=.returned (.bool true)∧Below w.heap.size w w':=by
 have HG:=hZ hG
 have HTT:=hZ hT
 have HRR:=hZ hR
 have HBR:=hZ hB
 have HWP:=hZ works_put
 clear hG hT hR hB
 go_enter Tryz.func14,Tryz.ntmps14
 go_wp2_with fail
 refine (st_new w w (Below.refl _ _) 100 (by decide) (by decide)).mono ?_
 rintro e w1 ⟨a,rfl,hst,hb1⟩
 have HST:=hZ hst
 clear hst
 go_wp2_with fail
 refine (open_any (x:=32) HST.out (HTT.out.belowR hb1) HTT.out.2 ⟨by decide,by decide⟩ (by decide) (fun s hs=>by cases hs)).mono ?_
 rintro e w2 ⟨v,rfl,h,hk⟩
 rw [(open_new 100 32).1,(open_new 100 32).2] at h
 rcases h with ⟨-,sb,rfl,hsb,hsto⟩ | ⟨hne,-⟩
 case inr=>exact absurd rfl hne
 have HS:=hZ hsto
 clear hsto hk hb1 HST
 go_wp2_with fail
 refine (put_any HS.out (by decide) abcB (by decide)).mono ?_
 rintro e w3 ⟨rfl,hst,hk⟩
 have HS3:=hZ (HS.out.step hst hk)
 obtain ⟨M,hM⟩:∃ M,(putM (DM.new 100) 32 abcB).1=M:=⟨_,rfl⟩
 obtain ⟨D,hD⟩:∃ D,shaU 32 abcB=D:=⟨_,rfl⟩
 have HDL:Hid (D.length=32):=hZ (by rw [← hD];exact shaU_len _ _)
 have HDV:Hid (Value.agg (D.map byteV).toArray=.agg (shaL 32 ⟨#[97,98,99]⟩).toArray):=hZ (by rw [← hD,shaL_shaU];rfl)
 have HSD:Hid (shaU 32 abcB=D):=hZ hD
 rw [HWP.out.1,hD]
 have hr1:=HWP.out.2.1
 have hr2:=HWP.out.2.2
 rw [hM,hD] at hr1
 rw [hM] at hr2 HS3
 have HG1:=hZ (getM_of (x:=32) hr1 hD)
 have HG2:=hZ (getM_none (x:=32) hr2)
 rw [show errE 0=.nilIface from rfl]
 unfold digV
 have hI:=dig_info HDL.out
 have hI2:=dig_info2 HDL.out
 have h1:=dig_one D
 have hz:=dig_size HDL.out
 have hU:=dig_und
 clear hst hk hM hD hr1 hr2 HS HWP
 go_wp2_with (first | (refine wpList_store_new rfl _ _ _ rfl _ (D.map byteV).toArray _ rfl rfl rfl hI2 hz h1 ?_;(obtain ⟨W4,hW4⟩:∃ W,w3.alloc (.cells (D.map byteV).toArray 33)=W:=⟨_,rfl⟩;have hb4:Below w3.heap.size w3 W4:=(by rw [← hW4];exact (Below.refl _ _).alloc (Nat.le_refl _) _);have hx4:W4.heap[w3.heap.size]?=some (.cells (D.map byteV).toArray 33 (0,0)):=(by rw [← hW4];exact heap_new _ _);have HX4:=hZ hx4;have HS4:=hZ (HS3.out.bel hb4);have HRG4:=hZ (dig_range hx4);rw [hW4];clear hW4 hb4 hx4 HS3)) | refine wpList_load_mid rfl _ _ rfl w3.heap.size 0 rfl (D.map byteV) _ HRG4.out hU rfl hI ?_)
 refine (st_get HS4.out D HDL.out).mono ?_
 rintro e w5 ⟨rfl,hb5⟩
 have HS5:=hZ (HS4.out.bel hb5)
 have HX5:Hid (w5.heap[w3.heap.size]?=some (.cells (D.map byteV).toArray 33 (0,0))):=hZ ((hb5.block _ (blk_lt HX4.out)).trans HX4.out)
 rw [HG1.out]
 rw [show errE 0=.nilIface from rfl]
 clear hb5 HS4 HX4 HRG4
 go_wp2_with fail
 refine (st_get HS5.out d1 rfl).mono ?_
 rintro e W9 ⟨rfl,hb9⟩
 have hs9:=HS5.out.bel hb9
 obtain ⟨k4,hk4⟩:∃ k,w3.heap.size=k:=⟨_,rfl⟩
 have HX:Hid (W9.heap[k4]?=some (.cells (D.map byteV).toArray 33 (0,0))):=hZ (by rw [← hk4];exact (hb9.block _ (blk_lt HX5.out)).trans HX5.out)
 have HB9:=hZ hs9.st.toB
 have hG9:=HG.out.below HB9.out HG.out.2
 have HPL:Hid (∀ W,Below W9.heap.size W9 W→Calls Tryz.prog 11 #[.iface 76 (.int .i64 10),.int .i64 10] W fun e w'=>e=.returned (.bool true)∧Below W.heap.size W w'):=hZ (fun W hb=>plain_E 10 (.inr ⟨by decide,by decide⟩) 10 W (hG9.below hb hG9.2))
 rw [HG2.out]
 rw [show errE 10=.iface 76 (.int .i64 10) from rfl]
 rw [hk4]
 clear hb9 hs9 HS5 HX5 hk4 hG9 HG1 HG2
 unfold abcB
 go_wp2_with fail
 have hI0:Below W9.heap.size W9 W9.drew:=⟨rfl,rfl,rfl,Nat.le_refl _,fun _ _=>rfl⟩
 refine wp_region_flowG (fun _:Unit=>[.nilIface,.bool true,.bool true,.agg (D.map byteV).toArray,.agg (D.map byteV).toArray,.bool true,.bool true,.bool true,.nilIface,.bool true,.bool true,.bool true,.string ⟨#[97,98,99]⟩,.bool true,.bool true,.bool true,.iface 76 (.int .i64 10),.bool true,.bool true,.bool true]) (fun _ _ W=>Below W9.heap.size W9 W)
  [[],[0],[1],[2],[2,2],[3,4,2],[2,5],[6,4],[7],[8,7],[7,9],[10,7],[11],[12,11],[11,13],[14,11],[15],[16,15,15],[15,17],[18,17,0,1,2,3,4,5,6,7,8,9,10,11,12,13,14,15,16,17,18]] 58 () mixedD rfl (by kernel_rfl) (fun _=>rfl) hI0 ?_ ?_
 ·refine ⟨?_,?_,?_,?_,?_,?_,?_,?_,?_,?_,?_,?_,?_,?_,?_,?_,?_,?_,?_,?_,rfl⟩
  all_goals intro L γ W ev hL hd hW hc hf hg he h0
  ·have e5:ev (.tmp 5)=.nilIface:=h0 5 rfl
   clear he h0 hc hf hg
   exact flS rfl (by go_simp <;> rfl) (hW) rfl
  ·have e39:ev (.tmp 39)=.nilIface:=he 0 (by decide) _ 39 rfl rfl
   have hcc:=hc
   clear he h0 hc hf hg
   exact flS rfl (by go_simp <;> rfl) (hW) rfl
  ·have e40:ev (.tmp 40)=.bool true:=he 1 (by decide) _ 40 rfl rfl
   clear he h0 hc hf hg
   exact flS rfl (by go_simp <;> rfl) (hW) rfl
  ·have e4:ev (.tmp 4)=.pointer (some ⟨k4,0,none⟩):=h0 4 rfl
   clear he h0 hc hg
   have hlv:=run_loadVar_row (P:=Tryz.prog) W k4 33 33 (D.map byteV).toArray (0,0) _ ((hW.block _ (blk_lt HX.out)).trans HX.out) dig_und rfl (dig_info2 HDL.out)
   refine .inl ⟨rfl,.inl ⟨_,W,?_,.still (hW) rfl⟩⟩
   unfold execOp
   simp only [e4,Instr.loadAt,Instr.sureAddr,Sem.run_bind,Sem.run_pure,Result.andThen_ok,hlv]
   try rfl
  ·have hcc:=hc
   clear he h0 hc hg
   refine .inl ⟨rfl,.inr (.inr ⟨13,#[.int .i64 32,.string ⟨#[97,98,99]⟩],W,(by have hff:=hf 13;clear hf;go_simp <;> rfl),?_⟩)⟩
   refine (refSumB_any 32 ⟨#[97,98,99]⟩ W (HRR.out.belowR2 (HB9.out.trans (hW.mono HB9.out.size))) (HBR.out.belowB (HB9.out.trans (hW.mono HB9.out.size))) (by decide)).mono ?_
   rintro e w' ⟨rfl,hb⟩
   exact ⟨_,rfl,.still (hW.trans (hb.mono hW.size)) HDV.out⟩
  ·have e42:ev (.tmp 42)=.agg (D.map byteV).toArray:=he 3 (by decide) _ 42 rfl rfl
   have e43:ev (.tmp 43)=.agg (D.map byteV).toArray:=he 4 (by decide) _ 43 rfl rfl
   clear he h0 hc hg
   have hq:=dig_in W HDL.out HDL.out
   rw [show (D == D)=true from by simp] at hq
   refine .inl ⟨rfl,.inl ⟨_,W,(by go_simp <;> rfl),.still (hW) rfl⟩⟩
  ·have e41:ev (.tmp 41)=.bool true:=he 2 (by decide) _ 41 rfl rfl
   have e44:ev (.tmp 44)=.bool true:=he 5 (by decide) _ 44 rfl rfl
   have hcc:=hc
   clear he h0 hc hf hg
   exact flS rfl (by go_simp <;> rfl) (hW) rfl
  ·have e45:ev (.tmp 45)=.bool true:=he 6 (by decide) _ 45 rfl rfl
   clear he h0 hc hf hg
   exact flS rfl (by go_simp <;> rfl) (hW) rfl
  ·have e7:ev (.tmp 7)=.nilIface:=h0 7 rfl
   clear he h0 hc hf hg
   exact flS rfl (by go_simp <;> rfl) (hW) rfl
  ·have e47:ev (.tmp 47)=.nilIface:=he 8 (by decide) _ 47 rfl rfl
   have hcc:=hc
   clear he h0 hc hf hg
   exact flS rfl (by go_simp <;> rfl) (hW) rfl
  ·have e46:ev (.tmp 46)=.bool true:=he 7 (by decide) _ 46 rfl rfl
   have e48:ev (.tmp 48)=.bool true:=he 9 (by decide) _ 48 rfl rfl
   have hcc:=hc
   clear he h0 hc hf hg
   exact flS rfl (by go_simp <;> rfl) (hW) rfl
  ·have e49:ev (.tmp 49)=.bool true:=he 10 (by decide) _ 49 rfl rfl
   clear he h0 hc hf hg
   exact flS rfl (by go_simp <;> rfl) (hW) rfl
  ·have e6:ev (.tmp 6)=.string ⟨#[97,98,99]⟩:=h0 6 rfl
   clear he h0 hc hf hg
   exact flS rfl (by go_simp <;> rfl) (hW) rfl
  ·have e51:ev (.tmp 51)=.string ⟨#[97,98,99]⟩:=he 12 (by decide) _ 51 rfl rfl
   have hcc:=hc
   clear he h0 hc hf hg
   exact flS rfl (by go_simp <;> rfl) (hW) rfl
  ·have e50:ev (.tmp 50)=.bool true:=he 11 (by decide) _ 50 rfl rfl
   have e52:ev (.tmp 52)=.bool true:=he 13 (by decide) _ 52 rfl rfl
   have hcc:=hc
   clear he h0 hc hf hg
   exact flS rfl (by go_simp <;> rfl) (hW) rfl
  ·have e53:ev (.tmp 53)=.bool true:=he 14 (by decide) _ 53 rfl rfl
   clear he h0 hc hf hg
   exact flS rfl (by go_simp <;> rfl) (hW) rfl
  ·have e9:ev (.tmp 9)=.iface 76 (.int .i64 10):=h0 9 rfl
   clear he h0 hc hf hg
   exact flS rfl (by go_simp <;> rfl) (hW) rfl
  ·have e55:ev (.tmp 55)=.iface 76 (.int .i64 10):=he 16 (by decide) _ 55 rfl rfl
   have hcc:=hc
   clear he h0 hc hg
   refine .inl ⟨rfl,.inr (.inr ⟨11,#[.iface 76 (.int .i64 10),.int .i64 10],W,(by have hff:=hf 11;clear hf;go_simp <;> rfl),?_⟩)⟩
   refine (HPL.out W hW).mono ?_
   rintro e w' ⟨rfl,hb⟩
   exact ⟨_,rfl,.still (hW.trans (hb.mono hW.size)) rfl⟩
  ·have e54:ev (.tmp 54)=.bool true:=he 15 (by decide) _ 54 rfl rfl
   have e56:ev (.tmp 56)=.bool true:=he 17 (by decide) _ 56 rfl rfl
   have hcc:=hc
   clear he h0 hc hf hg
   exact flS rfl (by go_simp <;> rfl) (hW) rfl
  ·have e57:ev (.tmp 57)=.bool true:=he 18 (by decide) _ 57 rfl rfl
   clear he h0 hc hf hg
   exact flS rfl (by go_simp <;> rfl) (hW) rfl
 intro γ L W hL hW
 have HBF:=hZ (HB9.out.trans (hW.mono HB9.out.size))
 clear hL hW
 simp only [putAll,Act.put,List.setIfInBounds_toArray,List.set_cons_succ,List.set_cons_zero]
 go_wp2_with fail
 go_ret
 exact ⟨rfl,HBF.out⟩
end Go.Proofs.YtecgikanophonaaGreatDoor
/- Walks of BlobsKnown: texts many times over, a Put that is struck; a disk armed and revived. -/
namespace Go.Proofs.YtecgikanophonaaGreatDoor
open Go Go.RowKit
def IntsIn (w:World) (kv:Value) (ks:List Int):Prop:=IntsRd (fun _=>False) w kv ks
theorem IntsIn.rd {w w1:World} {kv:Value} {ks:List Int} (h:IntsIn w kv ks) (hb:Below w.heap.size w w1) {S:Nat→Prop} (hS:∀ b,S b→w.heap.size≤b):IntsRd S w1 kv ks:=by
 obtain ⟨p,cap,h1,h2,h3⟩:=h
 refine ⟨p,cap,h1,h2,fun j k hj=>?_⟩
 obtain ⟨h4,b,off,h5,h6,h7,-⟩:=h3 j k hj
 exact ⟨h4,b,off,h5,(hb.cell (p:=⟨b,off+j,none⟩) h7).trans h6,Nat.lt_of_lt_of_le h7 hb.size,.inl (fun hs=>by have:=hS b hs;omega)⟩
section
variable {w w1:World} {P:Nat→Prop} {a n:Nat} {m:DM}
theorem st_revive (h:St w (fun _=>False) P a w1 n m) :
  Calls Tryz.prog 26 #[.pointer (some ⟨a,0,none⟩)] w1 fun e w'=>e=.returned (.tuple #[])∧St w (fun _=>False) P a w' n m.revive∧SameP P w1 w':=by
 obtain ⟨⟨S1,h1,h2⟩,h3,h4,h5⟩:=h
 refine (revive_any h1).mono fun e w' hp=>?_
 exact ⟨hp.1,St.post h2 h3 h4 h5 hp.2⟩
end
end Go.Proofs.YtecgikanophonaaGreatDoor
