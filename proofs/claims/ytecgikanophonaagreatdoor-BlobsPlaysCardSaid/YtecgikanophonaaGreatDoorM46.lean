/- Texts of the seat, one behind the other: RefList, RefOpen, PairB, PlayS, PlayO, PlayA, ShortM, ListsM, PlayP, OpenFit, PlayQ, PlayT, AlikeB, PlayW, PlayD, PlayF, PlayG, OpenBad. -/
import Derived.Test.YtecgikanophonaaGreatDoorM38
import Derived.Test.YtecgikanophonaaGreatDoorM44
import Derived.Test.YtecgikanophonaaGreatDoorM40
import Derived.Test.YtecgikanophonaaGreatDoorM24
import Derived.Test.YtecgikanophonaaGreatDoorM45
import Derived.Test.YtecgikanophonaaGreatDoorM12
set_option maxRecDepth 100000
set_option maxHeartbeats 25600000
/- The contract of the reference's List. -/
namespace Go.Proofs.YtecgikanophonaaGreatDoor
open Go Go.RowKit
theorem rightRV_form (m:DM) (x:Int) (s:ByteArray):∃ T,rightRV m x s=.tuple #[digV ((namedM s).getD zeroD),.string T,.bool (rightM m x s).isSome]:=by
 unfold rightRV
 cases h:namedM s with
 |none=>exact ⟨⟨#[]⟩,by unfold rightM;rw [h];rfl⟩
 |some d=>exact ⟨_,rfl⟩
theorem lists_head {m:DM} {s:ByteArray} (h:s∈m.lists ⟨blobHead.toArray⟩):s.data.toList.take 6=blobHead:=by
 unfold DM.lists at h
 split at h
 ·cases h
 ·obtain ⟨p,hp,rfl⟩:=List.mem_map.1 h
  have h1:=(head_iff p _).1 (List.mem_filter.1 hp).2
  exact h1.symm
theorem refListB_any {w w1:World} {S P:Nat→Prop} {sb r n:Nat} {x:Int} {m:DM} (h:RSto w S P sb r x w1 n m) (hn:n≤1000000000) (hnm:∀ p∈m.now,(nameB p).size≤140737488355328) (hsh:∀ s∈m.lists ⟨blobHead.toArray⟩,s.size≤200) :
  Calls Tryz.prog 73 #[.pointer (some ⟨sb,0,none⟩)] w1 fun e w'=>∃ v,e=.returned (.tuple #[v,.int .i64 (if m.off then 27 else 0)])∧OwnD w1.heap.size (listM m x) v w'∧Below w1.heap.size w1 w':=by
 obtain ⟨i0,hi,hz0,hz1,hz2⟩:=dig_parts
 have HS1:=hZ h
 have hlN:(m.lists ⟨blobHead.toArray⟩).length≤n:=by
  unfold DM.lists
  split
  ·exact Nat.zero_le _
  ·rw [List.length_map]
   exact Nat.le_trans (List.length_filter_le _ _) h.st.ok.nowN
 have hls:=rlist_any h (by omega) hnm ⟨#[98,108,111,98,115,47]⟩ (by decide)
 have hlq:m.lists ⟨blobHead.toArray⟩=m.lists ⟨#[98,108,111,98,115,47]⟩:=rfl
 rw [← hlq] at hls
 have hLM:listM m x=((m.lists ⟨blobHead.toArray⟩).filter fun n=>(rightM m x n).isSome).map digOf:=rfl
 have hbox:=h.cells.1
 have hhd:∀ s∈m.lists ⟨blobHead.toArray⟩,s.data.toList.take 6=blobHead:=fun s hs=>lists_head hs
 obtain ⟨L,hL⟩:∃ L,m.lists ⟨blobHead.toArray⟩=L:=⟨_,rfl⟩
 rw [hL] at hls hlN hsh hLM hhd
 have HLM:=hZ hLM
 have HSH:=hZ hsh
 have HHD:=hZ hhd
 obtain ⟨N,hN⟩:∃ N,L.length=N:=⟨_,rfl⟩
 have HN:=hZ hN
 rw [hN] at hlN
 have HNN:Hid (N≤n∧n≤1000000000):=hZ ⟨hlN,hn⟩
 clear h hsh hlN hL hN hn hlq hLM hhd hnm
 cases hoff:m.off with
 |true =>
  rw [hoff] at hls
  have HOFF:=hZ hoff
  clear hoff
  have hlsw:Calls Tryz.prog 62 #[.pointer (some ⟨r,0,none⟩),.string ⟨#[98,108,111,98,115,47]⟩] w1 fun e w'=>∃ v,e=.returned (.tuple #[v,.int .i64 27])∧GathT w1 w' v L:=hls
  clear hls
  go_enter Tryz.func73,Tryz.ntmps73
  go_wp2_with fail
  refine hlsw.mono ?_
  rintro e w2 ⟨v,rfl,-,hb2⟩
  have HB2:=hZ hb2
  clear hb2 hlsw hbox
  go_wp2_with fail
  go_ret2
  refine ⟨_,rfl,?_,HB2.out⟩
  rw [listM_off x HOFF.out]
  exact ⟨rfl,.inl ⟨rfl,rfl⟩⟩
 |false =>
  rw [hoff] at hls
  clear hoff
  have hlsw:Calls Tryz.prog 62 #[.pointer (some ⟨r,0,none⟩),.string ⟨#[98,108,111,98,115,47]⟩] w1 fun e w'=>∃ v,e=.returned (.tuple #[v,.int .i64 0])∧GathT w1 w' v L:=hls
  clear hls
  go_enter Tryz.func73,Tryz.ntmps73
  go_wp2_with fail
  refine hlsw.mono ?_
  rintro e w2 ⟨v,rfl,hv,hb2⟩
  obtain ⟨vp,vc,rfl⟩:=hv.rd.len
  rw [HN.out] at hv ⊢
  have HV2:=hZ hv.rd
  have HB2:=hZ hb2
  have HS2:=hZ (HS1.out.bel hb2)
  have hNi:(N:Int)≤1000000000:=by have:=HNN.out;omega
  clear hb2 hlsw hv HS1 hbox
  go_wp2_with fail
  go_loopw [6,7] (fun v iv wr=>∃ (k K:Nat),(k:Int)≤N∧(K:Int)≤k∧iv=.int .i64 k∧(∃ vp vc,v=.slice vp K vc)∧Hid ((((L.take k).filter fun s=>(rightM m x s).isSome).map digOf).length=K)∧Hid (OwnD w2.heap.size (((L.take k).filter fun s=>(rightM m x s).isSome).map digOf) v wr)∧Hid (Below w2.heap.size w2 wr)) (fun _ iv _=>N - (intOf iv).toNat)
  case atStart=>exact ⟨0,0,by omega,by omega,rfl,⟨_,_,rfl⟩,hZ rfl,hZ ⟨rfl,.inl ⟨rfl,rfl⟩⟩,hZ (Below.refl _ _)⟩
  case round =>
   obtain ⟨k,K,hk,hKk,rfl,⟨up,uc,rfl⟩,HK,HR,HB⟩:=hrel
   by_cases hlt:(k:Int) < N
   ·have hkl:k < L.length:=by rw [HN.out];omega
    obtain ⟨s,hs⟩:∃ s,L[k]?=some s:=⟨_,List.getElem?_eq_getElem hkl⟩
    obtain ⟨vp',vc',he,hv⟩:=HV2.out.below HB.out
    obtain ⟨vb,vo,hvp,hvl,hvc⟩:=hv k s hs
    have hpe:vp=some ⟨vb,vo,none⟩:=by cases he;exact hvp
    subst hpe
    have hss:=HSH.out s (List.mem_of_getElem? hs)
    have hhs:=HHD.out s (List.mem_of_getElem? hs)
    have htk:L.take (k+1)=L.take k ++ [s]:=by rw [List.take_add_one,hs];rfl
    have HTK:=hZ htk
    obtain ⟨l,hl⟩:∃ l,((L.take k).filter fun s=>(rightM m x s).isSome).map digOf=l:=⟨_,rfl⟩
    have HL:=hZ hl
    rw [hl] at HK HR
    have hss3:s.size≤140737488355328:=by omega
    have HS4:=hZ (HS2.out.bel HB.out)
    obtain ⟨T,hT⟩:=rightRV_form m x s
    have hrg:=refRightB_any HS4.out (by have:=HNN.out;omega) s hhs hss3
    rw [hT] at hrg
    have hdl:((namedM s).getD zeroD).length=32:=named_len s
    obtain ⟨D,hD⟩:∃ D,(namedM s).getD zeroD=D:=⟨_,rfl⟩
    have HDO:Hid (∀ h:D.length=32,digOf s=⟨D,h⟩):=hZ (fun h=>Subtype.ext hD)
    rw [hD] at hdl hrg
    have HDL:=hZ hdl
    have hI2:=dig_info2 hdl
    have hd1:=dig_one D
    have hdz:=dig_size hdl
    unfold digV at hrg
    clear hs he hv hvp hvl htk hkl hl hdl hD hss hhs hT
    go_wp2_with fail
    refine hrg.mono ?_
    rintro e w5 ⟨rfl,hb5⟩
    obtain ⟨W5,hW5⟩:∃ W,w5.alloc (.cells (D.map byteV).toArray 33)=W:=⟨_,rfl⟩
    have hb7:Below w5.heap.size w5 W5:=by rw [← hW5];exact (Below.refl _ _).alloc (Nat.le_refl _) _
    have hx5:W5.heap[w5.heap.size]?=some (.cells (D.map byteV).toArray 33 (0,0)):=by rw [← hW5];exact heap_new _ _
    have hb8:=hb5.trans (hb7.mono hb5.size)
    have HB7:Hid (Below w2.heap.size w2 W5):=hZ (HB.out.trans (hb8.mono HB.out.size))
    have HR7:=hZ (HR.out.below hb8)
    have HRG5:=hZ (dig_range hx5)
    have HW5:=hZ hW5
    clear hb5 hvc hb7 hx5 hb8 hW5 hrg
    cases hrt:rightM m x s with
    |none =>
     have hf:[s].filter (fun s=>(rightM m x s).isSome)=[]:=by rw [List.filter_cons,hrt];rfl
     have HF:=hZ hf
     clear hf hrt
     go_wp2_with (first | (refine wpList_store_new rfl _ _ _ rfl _ (D.map byteV).toArray _ rfl rfl rfl hI2 hdz hd1 ?_;rw [HW5.out]))
     have he:((L.take (k+1)).filter fun s=>(rightM m x s).isSome).map digOf=l:=by rw [HTK.out,List.filter_append,HF.out,List.append_nil];exact HL.out
     refine ⟨⟨k+1,K,by omega,by omega,by rw [Int.natCast_add];rfl,⟨_,_,rfl⟩,hZ ?_,hZ ?_,HB7⟩,by simp [intOf];omega⟩
     ·rw [he];exact HK.out
     ·rw [he];exact HR7.out
    |some u =>
     have hf:[s].filter (fun s=>(rightM m x s).isSome)=[s]:=by rw [List.filter_cons,hrt];rfl
     have HF:=hZ hf
     have hdl32:=HDL.out
     have hfd:=fold_dig HDL.out
     have hI:=dig_info HDL.out
     have hU:=dig_und
     have hDo:∀ u∈D.map byteV,u.oneCell'=true:=fun u hu=>by obtain ⟨x,_,rfl⟩:=List.mem_map.1 hu;rfl
     clear hf hrt
     go_wp2_with (first | (refine wpList_store_new rfl _ _ _ rfl _ (D.map byteV).toArray _ rfl rfl rfl hI2 hdz hd1 ?_;rw [HW5.out]) | refine wpList_load_mid rfl _ _ rfl w5.heap.size 0 rfl (D.map byteV) _ HRG5.out hU rfl hI ?_ | (at_builtin;go_must (refine wpList_app_to rfl _ _ 31 rfl w2.heap.size 33 i0 (.agg z32) 32 32 Tryz.underlying31 hi hz0 hz1 hz2 rfl (by decide) (.slice up K uc) K _ rfl ((HR7.out.below ((Below.refl W5.heap.size W5).alloc (Nat.le_refl _) (.cells (D.map byteV).toArray 33))).row HK.out) ⟨W5.heap.size,0,none⟩ 1 1 (D.map byteV) rfl (by rw [List.length_map,hdl32]) (newDg W5 D) hDo (by decide) (by unfold maxLen;omega) (by omega) (Nat.le_trans HB7.out.size (by rw [World.size_alloc];omega)) ?_);intro v6 W6 ho6 hl6;have HO6:=hZ ho6;have HL6:=hZ hl6;(obtain ⟨p6,c6,rfl⟩:=row_slice ho6);clear ho6 hl6))
     have he:((L.take (k+1)).filter fun s=>(rightM m x s).isSome).map digOf=l ++ [⟨D,hdl32⟩]:=by rw [HTK.out,List.filter_append,HF.out,List.map_append,HL.out,← HDO.out];rfl
     have hb9:Below w2.heap.size w2 W6:=(HB7.out.alloc (by have:=HB7.out.size;omega) _).trans (app_below ((HR7.out.below ((Below.refl W5.heap.size W5).alloc (Nat.le_refl _) (.cells (D.map byteV).toArray 33))).row HK.out) HL6.out (Nat.le_trans HB7.out.size (by rw [World.size_alloc];omega)))
     refine ⟨⟨k+1,K+1,by omega,by omega,by rw [Int.natCast_add];rfl,⟨_,_,rfl⟩,hZ ?_,hZ ?_,hZ hb9⟩,by simp [intOf];omega⟩
     ·rw [he,List.length_append,HK.out];rfl
     ·rw [he]
      exact OwnG.app (by rw [HK.out];exact HO6.out)
   ·obtain rfl:k=N:=by omega
    have hall:((L.take k).filter fun s=>(rightM m x s).isSome).map digOf=listM m x:=by rw [List.take_of_length_le (by rw [HN.out];exact Nat.le_refl _)];exact HLM.out.symm
    rw [hall] at HK HR
    go_wp2_with fail
    go_ret2
    exact ⟨_,rfl,own_base HR.out HB2.out.size,HB2.out.trans (HB.out.mono HB2.out.size)⟩
end Go.Proofs.YtecgikanophonaaGreatDoor
/- The contract of the reference's Open. -/
namespace Go.Proofs.YtecgikanophonaaGreatDoor
open Go Go.RowKit
def ROpenPost (w:World) (S P:Nat→Prop) (a n:Nat) (x:Int) (w1:World) (m:DM) (e:Ending) (w':World):Prop :=
 ∃ v,e=.returned v∧(((openM m x).2=0∧∃ sb,v=.tuple #[.pointer (some ⟨sb,0,none⟩),.int .i64 0]∧w1.heap.size≤sb∧RSto w S (fun b=>P b∨b=sb) sb a x w' (n+(badM m x).length+1) (openM m x).1) ∨
  ((openM m x).2≠0∧v=.tuple #[.pointer none,.int .i64 (openM m x).2]∧RSt w S P a w' (n+(badM m x).length+1) (openM m x).1))∧SameP P w1 w'
theorem RSto.drop {w w1:World} {S P Q:Nat→Prop} {sb a n n':Nat} {x:Int} {m:DM} (h:RSto w S (fun b=>(P b∨b=sb)∨Q b) sb a x w1 n m) (hn:n≤n') (hp:P 2) (hg:P 0):RSto w S (fun b=>P b∨b=sb) sb a x w1 n' m :=
 ⟨(h.st.sub _ (fun b hb=>.inl hb)).more hn,h.box,.inr rfl,h.rnd,.inl hp,h.beg,.inl hg⟩
theorem refOpen_any {w w1:World} {S P:Nat→Prop} {a n:Nat} {x:Int} {m:DM} (h:RSt w S P a w1 n m) (hK:RoundsR w1) (hPK:P 2) (hG:BeginR w1) (hPG:P 0) (hnm:∀ p∈m.now,(nameB p).size≤140737488355328) (hx:1≤x∧x≤32) (hn:n≤1000000000) (hsh:∀ s∈m.lists ⟨blobHead.toArray⟩,s.size≤200) :
  Calls Tryz.prog 30 #[.pointer (some ⟨a,0,none⟩),.int .i64 x] w1 (ROpenPost w S P a n x w1 m):=by
 obtain ⟨i0,hi,hz0,hz1,hz2⟩:=info_parts infoS
 obtain ⟨hx1,hx2⟩:=hx
 have hb0:Below w1.heap.size w1 (w1.alloc (storeR a x)):=(Below.refl _ _).alloc (Nat.le_refl _) _
 have HS1:Hid (RSto w S (fun b=>P b∨b=w1.heap.size) w1.heap.size a x (w1.alloc (storeR a x)) n m):=hZ
  ⟨h.bel hb0 _ (fun b hb=>by
   rcases hb with hb | rfl
   ·exact .inl hb
   ·exact .inr ⟨Nat.le_refl _,by rw [World.size_alloc];omega⟩),heap_new _ _,.inr rfl,hK.bel hb0,.inl hPK,hG.bel hb0,.inl hPG⟩
 have HM1:Hid (SameP P w1 (w1.alloc (storeR a x))):=hZ (h.same hb0)
 have hlN:(m.lists ⟨blobHead.toArray⟩).length≤n:=by
  unfold DM.lists
  split
  ·exact Nat.zero_le _
  ·rw [List.length_map]
   exact Nat.le_trans (List.length_filter_le _ _) h.ok.nowN
 have HPK:=hZ hPK
 have HPG:=hZ hPG
 have hhd:∀ s∈m.lists ⟨blobHead.toArray⟩,s.data.toList.take 6=blobHead:=fun s hs=>lists_head hs
 have HSH0:=hZ hsh
 have hls:=rlist_any HS1.out (by omega) hnm ⟨#[98,108,111,98,115,47]⟩ (by decide)
 have hlq:m.lists ⟨blobHead.toArray⟩=m.lists ⟨#[98,108,111,98,115,47]⟩:=rfl
 rw [hlq] at hlN
 rw [← hlq] at hls hlN
 obtain ⟨L,hL⟩:∃ L,m.lists ⟨blobHead.toArray⟩=L:=⟨_,rfl⟩
 rw [hL] at hls hlN HSH0 hhd
 have HHD:=hZ hhd
 clear hhd hPG
 have HL:=hZ hL
 have HSH:=HSH0
 obtain ⟨N,hN⟩:∃ N,L.length=N:=⟨_,rfl⟩
 have HN:=hZ hN
 rw [hN] at hlN
 have HNN:Hid (N≤n∧n≤1000000000):=hZ ⟨hlN,hn⟩
 clear hb0 h hK hPK hsh hG hnm hlN hL hN hn hlq HSH0
 unfold ROpenPost
 have hlsv:∀ W:World,W=w1.alloc (storeR a x)→Calls Tryz.prog 62 #[.pointer (some ⟨a,0,none⟩),.string ⟨#[98,108,111,98,115,47]⟩] W fun e w'=>∃ v,e=.returned (.tuple #[v,.int .i64 (if m.off then 27 else 0)])∧GathT W w' v L:=fun W hW=>by rw [hW];exact hls
 clear hls
 cases hoff:m.off with
 |true =>
  rw [hoff] at hlsv
  have HOFF:=hZ hoff
  clear hoff
  have hlsw:∀ W:World,W=w1.alloc (storeR a x)→Calls Tryz.prog 62 #[.pointer (some ⟨a,0,none⟩),.string ⟨#[98,108,111,98,115,47]⟩] W fun e w'=>∃ v,e=.returned (.tuple #[v,.int .i64 27])∧GathT W w' v L:=hlsv
  clear hlsv
  go_enter Tryz.func30,Tryz.ntmps30
  go_wp2_with fail
  refine (hlsw _ rfl).mono ?_
  rintro e w2 ⟨v,rfl,-,hb2⟩
  have HS2:=hZ (HS1.out.bel hb2)
  have HM2:Hid (SameP P w1 w2):=hZ (fun b hb=>(HS1.out.st.same hb2 b (.inl hb)).trans (HM1.out b hb))
  clear hb2 hlsw
  go_wp2_with fail
  go_ret2
  have hO:openM m x=(m,27):=if_pos HOFF.out
  refine ⟨_,rfl,?_,HM2.out⟩
  rw [hO]
  exact .inr ⟨(show (27:Int)≠0 by decide),rfl,(HS2.out.st.sub P (fun b hb=>.inl hb)).more (by omega)⟩
 |false =>
  rw [hoff] at hlsv
  have HOFF:=hZ hoff
  clear hoff
  have hlsw:∀ W:World,W=w1.alloc (storeR a x)→Calls Tryz.prog 62 #[.pointer (some ⟨a,0,none⟩),.string ⟨#[98,108,111,98,115,47]⟩] W fun e w'=>∃ v,e=.returned (.tuple #[v,.int .i64 0])∧GathT W w' v L:=hlsv
  clear hlsv
  obtain ⟨r,hr⟩:∃ r,(m.reads handN).1=r:=⟨_,rfl⟩
  by_cases hy0:(m.reads handN).2=0
  ·have hrd:=fun W (hs:RSto w S (fun b=>P b∨b=w1.heap.size) w1.heap.size a x W n m)=>rread_any hs (by have:=HNN.out;omega) handN
   rw [hy0,hr] at hrd
   have HY0:=hZ hy0
   clear hr hy0
   go_enter Tryz.func30,Tryz.ntmps30
   go_wp2_with fail
   refine (hlsw _ rfl).mono ?_
   rintro e w20 ⟨v,rfl,hv,hb2⟩
   obtain ⟨vp,vc,rfl⟩:=hv.rd.len
   rw [HN.out] at hv ⊢
   have HV20:=hZ hv.rd
   have HS20:=hZ (HS1.out.bel hb2)
   have HM20:Hid (SameP P w1 w20):=hZ (fun b hb=>(HS1.out.st.same hb2 b (.inl hb)).trans (HM1.out b hb))
   clear hb2 hlsw hv HS1 HM1
   go_wp2_with fail
   refine (hrd _ HS20.out).mono ?_
   rintro e w2 ⟨rfl,hb2⟩
   have HV2:=hZ (HV20.out.below hb2)
   have HS2:=hZ (HS20.out.bel hb2)
   have HM2:Hid (SameP P w1 w2):=hZ (fun b hb=>(HS20.out.st.same hb2 b (.inl hb)).trans (HM20.out b hb))
   clear hb2 HV20 HS20 HM20
   clear hrd
   have hbn:(0:Nat)+1≤140737488355328:=by decide
   go_wp2_with (at_builtin;refine wpList_appC rfl _ _ 22 rfl w2.heap.size 9 i0 (.string ⟨#[]⟩) 16 Tryz.underlying22 hi hz0 hz1 hz2 rfl [] _ rfl (RowC.nil _ _) (.string handN) ⟨w2.heap.size,0,none⟩ rfl (newV w2 _ _) rfl (by decide) (by decide) (by rw [World.size_alloc];have:=(Below.refl w2.heap.size w2).size;omega) ?_;intro v1 w7 hr7 hb7;have HR7:=hZ hr7;have HB7:Hid (Below w2.heap.size w2 w7):=hZ (((Below.refl w2.heap.size w2).alloc (by have:=(Below.refl w2.heap.size w2).size;omega) _).trans hb7);clear hr7 hb7)
   have HR9:Hid (RowC w2.heap.size (([handN]:List ByteArray).map strV) v1 w7):=HR7
   have HB9:=HB7
   clear hbn HR7 HB7
   have hNi:(N:Int)≤1000000000:=by have:=HNN.out;omega
   go_wp2_with fail
   go_loopw [9,10] (fun v iv wr=>∃ k:Nat,(k:Int)≤N∧iv=.int .i64 k∧Hid (RowC w2.heap.size (([handN] ++ (L.take k).filter fun s=>(rightM m x s).isNone).map strV) v wr)∧Hid (Below w2.heap.size w2 wr)) (fun _ iv _=>N - (intOf iv).toNat)
   case atStart=>exact ⟨0,by omega,rfl,hZ (by rw [List.take_zero,List.filter_nil,List.append_nil];exact HR9.out),HB9⟩
   case round =>
    obtain ⟨k,hk,rfl,HR,HB⟩:=hrel
    by_cases hlt:(k:Int) < N
    ·have hkl:k < L.length:=by rw [HN.out];omega
     obtain ⟨s,hs⟩:∃ s,L[k]?=some s:=⟨_,List.getElem?_eq_getElem hkl⟩
     obtain ⟨vp',vc',he,hv⟩:=HV2.out.below HB.out
     obtain ⟨vb,vo,hvp,hvl,hvc⟩:=hv k s hs
     have hpe:vp=some ⟨vb,vo,none⟩:=by cases he;exact hvp
     subst hpe
     have hss:=HSH.out s (List.mem_of_getElem? hs)
     have htk:L.take (k+1)=L.take k ++ [s]:=by rw [List.take_add_one,hs];rfl
     have HTK:=hZ htk
     obtain ⟨q,cap,rfl,-⟩:=HR.out.slice
     have hql:(([handN] ++ (L.take k).filter fun s=>(rightM m x s).isNone).map strV).length≤1+k:=by
      rw [List.length_map,List.length_append]
      have h1:=List.length_filter_le (fun s=>(rightM m x s).isNone) (L.take k)
      rw [List.length_take] at h1
      have:([handN]:List ByteArray).length=1:=rfl
      omega
     obtain ⟨K,hK⟩:∃ K,(([handN] ++ (L.take k).filter fun s=>(rightM m x s).isNone).map strV).length=K:=⟨_,rfl⟩
     rw [hK] at hql HR ⊢
     have HQL:=hZ hql
     have HK:=hZ hK
     have HS4:=hZ (HS2.out.bel HB.out)
     have hhs:=HHD.out s (List.mem_of_getElem? hs)
     obtain ⟨T,hT⟩:=rightRV_form m x s
     have hrg:=refRightB_any HS4.out (by have:=HNN.out;omega) s hhs (by omega)
     rw [hT] at hrg
     have hdl:((namedM s).getD zeroD).length=32:=named_len s
     obtain ⟨D,hD⟩:∃ D,(namedM s).getD zeroD=D:=⟨_,rfl⟩
     rw [hD] at hdl hrg
     have hI2:=dig_info2 hdl
     have hd1:=dig_one D
     have hdz:=dig_size hdl
     unfold digV at hrg
     clear hs he hv hvp htk hkl hql hK hhs hT hD hdl
     go_wp2_with fail
     refine hrg.mono ?_
     rintro e w50 ⟨rfl,hb50⟩
     obtain ⟨w5,hW5⟩:∃ W,w50.alloc (.cells (D.map byteV).toArray 33)=W:=⟨_,rfl⟩
     have hb51:Below w50.heap.size w50 w5:=by rw [← hW5];exact (Below.refl _ _).alloc (Nat.le_refl _) _
     have hb5:=hb50.trans (hb51.mono hb50.size)
     have HW5:=hZ hW5
     have hvc5:=(hb5.cell hvl).trans hvc
     clear hb50 hb51 hW5 hrg hvl
     have HB5:Hid (Below w2.heap.size w2 w5):=hZ (HB.out.trans (hb5.mono HB.out.size))
     have HR5:=hZ (HR.out.keep hb5)
     clear hb5 hvc
     cases hrt:rightM m x s with
     |some u =>
      have hf:[s].filter (fun s=>(rightM m x s).isNone)=[]:=by rw [List.filter_cons,hrt];rfl
      have HF:=hZ hf
      clear hf hrt
      go_wp2_with (first | (refine wpList_store_new rfl _ _ _ rfl _ (D.map byteV).toArray _ rfl rfl rfl hI2 hdz hd1 ?_;rw [HW5.out]))
      refine ⟨⟨k+1,by omega,by rw [Int.natCast_add];rfl,hZ ?_,HB5⟩,by simp [intOf];omega⟩
      rw [HTK.out,List.filter_append,HF.out,List.append_nil]
      exact HR5.out
     |none =>
      have hf:[s].filter (fun s=>(rightM m x s).isNone)=[s]:=by rw [List.filter_cons,hrt];rfl
      have HF:=hZ hf
      clear hf hrt
      go_wp2_with (first | (refine wpList_store_new rfl _ _ _ rfl _ (D.map byteV).toArray _ rfl rfl rfl hI2 hdz hd1 ?_;rw [HW5.out]) | (at_builtin;refine wpList_appC rfl _ _ 22 rfl w2.heap.size 9 i0 (.string ⟨#[]⟩) 16 Tryz.underlying22 hi hz0 hz1 hz2 rfl _ _ rfl (HR5.out.keep ((Below.refl _ _).alloc (Nat.le_refl _) _)) (.string s) ⟨w5.heap.size,0,none⟩ rfl (newV w5 _ _) rfl (by rw [HK.out];have:=HQL.out;have:=HNN.out;unfold maxLen;omega) (by rw [HK.out];have:=HQL.out;have:=HNN.out;omega) (by rw [World.size_alloc];have:=HB5.out.size;omega) ?_;intro v1 w7 hr7 hb7;have HR7:=hZ hr7;have HB7:Hid (Below w2.heap.size w2 w7):=hZ ((HB5.out.alloc (by have:=HB5.out.size;omega) _).trans hb7);clear hr7 hb7))
      refine ⟨⟨k+1,by omega,by rw [Int.natCast_add];rfl,hZ ?_,HB7⟩,by simp [intOf];omega⟩
      rw [HTK.out,List.filter_append,HF.out,← List.append_assoc,List.map_append]
      exact HR7.out
    ·have hbad:([handN] ++ (L.take k).filter fun s=>(rightM m x s).isNone)=badM m x:=by
      rw [List.take_of_length_le (by rw [HN.out];omega)]
      exact (show [handN] ++ L.filter _=badM m x by unfold badM;rw [if_pos HY0.out,HL.out])
     rw [hbad] at HR
     have hbl:(badM m x).length≤1+N:=by
      rw [← hbad,List.length_append]
      have h1:=List.length_filter_le (fun s=>(rightM m x s).isNone) (L.take k)
      rw [List.length_take] at h1
      have:([handN]:List ByteArray).length=1:=rfl
      have:=HN.out
      omega
     have hsz:∀ s∈badM m x,s.size≤200:=by
      rw [← hbad]
      intro s hs
      rcases List.mem_append.1 hs with hs | hs
      ·rw [List.mem_singleton.1 hs];decide
      ·exact HSH.out s (List.mem_of_mem_take (List.mem_filter.1 hs).1)
     obtain ⟨BD,hBD⟩:∃ l,badM m x=l:=⟨_,rfl⟩
     rw [hBD] at HR hbl hsz
     have HBD:=hZ hBD
     have HBL:=hZ hbl
     have HSZ:=hZ hsz
     have HQ:Hid (RSto w S (fun b=>(P b∨b=w1.heap.size)∨u9.ownBlock=some b) w1.heap.size a x wr n m):=hZ (HS2.out.more HB.out _ (fun b hb=>.inl hb) (fun b hb=>hb.elim .inl (fun e=>.inr (HR.out.own b e))))
     have HMQ:Hid (SameP P w1 wr):=hZ (fun b hb=>(HS2.out.st.same HB.out b (.inl hb)).trans (HM2.out b hb))
     obtain ⟨q,cap,hu9,hcl⟩:=HR.out.slice
     rw [List.length_map] at hu9
     obtain ⟨M,hM⟩:∃ M,BD.length=M:=⟨_,rfl⟩
     rw [hM] at hu9 HBL
     have HMM:=hZ hM
     have HCL:Hid (∀ j s,BD[j]?=some s→∃ g,q=some ⟨g,0,none⟩∧wr.cell? ⟨g,j,none⟩=some (.string s)):=hZ (fun j s hj=>by
      obtain ⟨g,h1,-,h3⟩:=hcl j (strV s) (by rw [List.getElem?_map,hj];rfl)
      exact ⟨g,h1,h3⟩)
     have HUU:=hZ hu9
     subst hu9
     clear hbad hbl hsz hBD hcl hM HR
     obtain ⟨W9,hW9⟩:∃ W,W=wr:=⟨_,rfl⟩
     rw [← hW9] at HQ HMQ HCL ⊢
     clear hW9
     have hMi:(M:Int)≤1000000001:=by have:=HNN.out;have:=HBL.out;omega
     go_wp2_with fail
     go_loopw [14] (fun iv wx=>∃ (k:Nat) (mk:DM),(k:Int)≤M∧iv=.int .i64 k∧Hid (takesM BD m=takesM (BD.drop k) mk)∧Hid (RSto w S (fun b=>(P b∨b=w1.heap.size)∨(Value.slice q M cap).ownBlock=some b) w1.heap.size a x wx (n+k) mk)∧Hid (SameP (fun b=>(P b∨b=w1.heap.size)∨(Value.slice q M cap).ownBlock=some b) W9 wx)) (fun iv _=>M - (intOf iv).toNat)
     case atStart=>exact ⟨0,m,by omega,rfl,hZ rfl,HQ,hZ (fun _ _=>rfl)⟩
     case round =>
      obtain ⟨k,mk,hk,rfl,HTM,HS,HX⟩:=hrel
      by_cases hlt:(k:Int) < M
      ·have hkl:k < BD.length:=by rw [HMM.out];omega
       obtain ⟨s,hs⟩:∃ s,BD[k]?=some s:=⟨_,List.getElem?_eq_getElem hkl⟩
       obtain ⟨g,hqg,hgc⟩:=HCL.out k s hs
       have hss:=HSZ.out s (List.mem_of_getElem? hs)
       have hdr:BD.drop k=s :: BD.drop (k+1):=by
        rw [List.drop_eq_getElem_cons hkl]
        rw [List.getElem?_eq_getElem hkl] at hs
        rw [Option.some.inj hs]
       have htm:takesM BD m=seqM (mk.op (.remove s)) (takesM (BD.drop (k+1))):=by rw [HTM.out,hdr];rfl
       have HTM2:=hZ htm
       subst hqg
       have hc9:wr.cell? ⟨g,k,none⟩=some (.string s):=(cell_of_heap (HX.out g (.inr rfl))).trans hgc
       have hMn:M≤1+N:=by have:=HBL.out;omega
       have hnn:=HNN.out
       clear hs hgc hdr htm hkl
       go_wp2_with fail
       refine (rdo_any HS.out ⟨5,⟨#[]⟩,s,0⟩ ⟨#[]⟩ (show 1≤5 by decide) (show 5≤6 by decide) rfl (by omega) (by decide)).mono ?_
       intro e w8 hp
       by_cases hy:(mk.op (.remove s)).2=0
       ·obtain ⟨mj,h1⟩:∃ mj,mk.op (.remove s)=(mj,0):=⟨_,by rw [← hy]⟩
        obtain ⟨rfl,hs8,hk8⟩:=hp.eq h1
        have HS8:=hZ (HS.out.step hs8 hk8)
        have HX8:Hid (SameP (fun b=>(P b∨b=w1.heap.size)∨(Value.slice (some ⟨g,0,none⟩) M cap).ownBlock=some b) W9 w8):=hZ (fun b hb=>(hk8 b hb).trans (HX.out b hb))
        have HOP:=hZ h1
        clear hp hy hs8 hk8 h1 hc9
        go_wp2_with fail
        refine ⟨⟨k+1,mj,by omega,by rw [Int.natCast_add];rfl,hZ ?_,HS8,HX8⟩,by simp [intOf];omega⟩
        rw [HTM2.out,seqM_ok _ HOP.out]
       ·obtain ⟨y,hyy⟩:∃ y,(mk.op (.remove s)).2=y:=⟨_,rfl⟩
        rw [hyy] at hy
        obtain ⟨mj,h1⟩:∃ mj,mk.op (.remove s)=(mj,y):=⟨_,by rw [← hyy]⟩
        have hv:(y != 0)=true:=bne_iff_ne.2 hy
        obtain ⟨rfl,hs8,hk8⟩:=hp.eq h1
        have HS8:=hZ (HS.out.step hs8 hk8)
        have HX8:Hid (SameP P w1 w8):=hZ (fun b hb=>(hk8 b (.inl (.inl hb))).trans ((HX.out b (.inl (.inl hb))).trans (HMQ.out b hb)))
        have HOP:=hZ h1
        have HY:=hZ hy
        clear hp hy hs8 hk8 h1 hc9 hyy
        go_wp2_with fail
        go_ret2
        have hO:openM m x=(mj,y):=by
         rw [openM_on HOFF.out,HBD.out]
         exact seqM_no _ (show takesM BD m=(mj,y) by rw [HTM2.out,seqM_no _ HOP.out HY.out]) HY.out
        refine ⟨_,rfl,?_,HX8.out⟩
        rw [hO,HBD.out]
        refine .inr ⟨HY.out,rfl,(HS8.out.st.sub P (fun b hb=>.inl (.inl hb))).more ?_⟩
        rw [HMM.out]
        omega
      ·obtain rfl:k=M:=by omega
       have htm:takesM BD m=(mk,0):=by rw [HTM.out,List.drop_of_length_le (by rw [HMM.out];exact Nat.le_refl _)];rfl
       have HTM2:=hZ htm
       have hMn:k≤1+N:=by have:=HBL.out;omega
       have hnn:=HNN.out
       have HX9:Hid (SameP P w1 wr):=hZ (fun b hb=>(HX.out b (.inl (.inl hb))).trans (HMQ.out b hb))
       clear htm
       by_cases hk0:(0:Int) < k
       ·have hne:BD≠[]:=fun e=>by have h0:([]:List ByteArray).length=k:=e ▸ HMM.out;have h1:(0:Nat)=k:=h0;omega
        have HNE:=hZ hne
        clear hne
        go_wp2_with fail
        refine (rdo_any HS.out ⟨6,⟨#[]⟩,⟨#[]⟩,0⟩ ⟨#[]⟩ (show 1≤6 by decide) (show 6≤6 by decide) rfl (by omega) (by decide)).mono ?_
        intro e w8 hp
        by_cases hy:(mk.op .flush).2=0
        ·obtain ⟨mj,h1⟩:∃ mj,mk.op .flush=(mj,0):=⟨_,by rw [← hy]⟩
         obtain ⟨rfl,hs8,hk8⟩:=hp.eq h1
         have HS8:=hZ (HS.out.step hs8 hk8)
         have HX8:Hid (SameP P w1 w8):=hZ (fun b hb=>(hk8 b (.inl (.inl hb))).trans (HX9.out b hb))
         have HOP:=hZ h1
         clear hp hy hs8 hk8 h1
         go_wp2_with fail
         go_ret2
         have hO:openM m x=(mj,0):=by
          rw [openM_on HOFF.out,HBD.out,seqM_ok _ HTM2.out,if_neg HNE.out]
          exact HOP.out
         refine ⟨_,rfl,?_,HX8.out⟩
         rw [hO,HBD.out]
         exact .inl ⟨rfl,_,rfl,Nat.le_refl _,HS8.out.drop (by rw [HMM.out];omega) HPK.out HPG.out⟩
        ·obtain ⟨y,hyy⟩:∃ y,(mk.op .flush).2=y:=⟨_,rfl⟩
         rw [hyy] at hy
         obtain ⟨mj,h1⟩:∃ mj,mk.op .flush=(mj,y):=⟨_,by rw [← hyy]⟩
         have hv:(y != 0)=true:=bne_iff_ne.2 hy
         obtain ⟨rfl,hs8,hk8⟩:=hp.eq h1
         have HS8:=hZ (HS.out.step hs8 hk8)
         have HX8:Hid (SameP P w1 w8):=hZ (fun b hb=>(hk8 b (.inl (.inl hb))).trans (HX9.out b hb))
         have HOP:=hZ h1
         have HY:=hZ hy
         clear hp hy hs8 hk8 h1 hyy
         go_wp2_with fail
         go_ret2
         have hO:openM m x=(mj,y):=by
          rw [openM_on HOFF.out,HBD.out,seqM_ok _ HTM2.out,if_neg HNE.out]
          exact HOP.out
         refine ⟨_,rfl,?_,HX8.out⟩
         rw [hO,HBD.out]
         refine .inr ⟨HY.out,rfl,(HS8.out.st.sub P (fun b hb=>.inl (.inl hb))).more ?_⟩
         rw [HMM.out]
         omega
       ·have he:BD=[]:=List.eq_nil_of_length_eq_zero (by rw [HMM.out];omega)
        have HE:=hZ he
        clear he
        go_wp2_with fail
        go_ret2
        have hO:openM m x=(mk,0):=by
         rw [openM_on HOFF.out,HBD.out,seqM_ok _ HTM2.out,if_pos HE.out]
        refine ⟨_,rfl,?_,HX9.out⟩
        rw [hO,HBD.out]
        exact .inl ⟨rfl,_,rfl,Nat.le_refl _,HS.out.drop (by rw [HMM.out];omega) HPK.out HPG.out⟩
  ·obtain ⟨z,hz⟩:∃ z,(m.reads handN).2=z:=⟨_,rfl⟩
   have hrd:=fun W (hs:RSto w S (fun b=>P b∨b=w1.heap.size) w1.heap.size a x W n m)=>rread_any hs (by have:=HNN.out;omega) handN
   have HY0:=hZ hy0
   rw [hz] at hy0
   rw [hz,hr] at hrd
   have hzb:(z == 0)=false:=beq_eq_false_iff_ne.2 hy0
   clear hr hy0 hz
   go_enter Tryz.func30,Tryz.ntmps30
   go_wp2_with fail
   refine (hlsw _ rfl).mono ?_
   rintro e w20 ⟨v,rfl,hv,hb2⟩
   obtain ⟨vp,vc,rfl⟩:=hv.rd.len
   rw [HN.out] at hv ⊢
   have HV20:=hZ hv.rd
   have HS20:=hZ (HS1.out.bel hb2)
   have HM20:Hid (SameP P w1 w20):=hZ (fun b hb=>(HS1.out.st.same hb2 b (.inl hb)).trans (HM1.out b hb))
   clear hb2 hlsw hv HS1 HM1
   go_wp2_with fail
   refine (hrd _ HS20.out).mono ?_
   rintro e w2 ⟨rfl,hb2⟩
   have HV2:=hZ (HV20.out.below hb2)
   have HS2:=hZ (HS20.out.bel hb2)
   have HM2:Hid (SameP P w1 w2):=hZ (fun b hb=>(HS20.out.st.same hb2 b (.inl hb)).trans (HM20.out b hb))
   clear hb2 HV20 HS20 HM20
   clear hrd
   have HR9:Hid (RowC w2.heap.size (([]:List ByteArray).map strV) (.slice none 0 0) w2):=hZ (RowC.nil _ _)
   have HB9:Hid (Below w2.heap.size w2 w2):=hZ (Below.refl _ _)
   have hNi:(N:Int)≤1000000000:=by have:=HNN.out;omega
   go_wp2_with fail
   go_loopw [9,10] (fun v iv wr=>∃ k:Nat,(k:Int)≤N∧iv=.int .i64 k∧Hid (RowC w2.heap.size (([] ++ (L.take k).filter fun s=>(rightM m x s).isNone).map strV) v wr)∧Hid (Below w2.heap.size w2 wr)) (fun _ iv _=>N - (intOf iv).toNat)
   case atStart=>exact ⟨0,by omega,rfl,hZ (by rw [List.take_zero,List.filter_nil,List.append_nil];exact HR9.out),HB9⟩
   case round =>
    obtain ⟨k,hk,rfl,HR,HB⟩:=hrel
    by_cases hlt:(k:Int) < N
    ·have hkl:k < L.length:=by rw [HN.out];omega
     obtain ⟨s,hs⟩:∃ s,L[k]?=some s:=⟨_,List.getElem?_eq_getElem hkl⟩
     obtain ⟨vp',vc',he,hv⟩:=HV2.out.below HB.out
     obtain ⟨vb,vo,hvp,hvl,hvc⟩:=hv k s hs
     have hpe:vp=some ⟨vb,vo,none⟩:=by cases he;exact hvp
     subst hpe
     have hss:=HSH.out s (List.mem_of_getElem? hs)
     have htk:L.take (k+1)=L.take k ++ [s]:=by rw [List.take_add_one,hs];rfl
     have HTK:=hZ htk
     obtain ⟨q,cap,rfl,-⟩:=HR.out.slice
     have hql:(([] ++ (L.take k).filter fun s=>(rightM m x s).isNone).map strV).length≤0+k:=by
      rw [List.length_map,List.length_append]
      have h1:=List.length_filter_le (fun s=>(rightM m x s).isNone) (L.take k)
      rw [List.length_take] at h1
      have:([]:List ByteArray).length=0:=rfl
      omega
     obtain ⟨K,hK⟩:∃ K,(([] ++ (L.take k).filter fun s=>(rightM m x s).isNone).map strV).length=K:=⟨_,rfl⟩
     rw [hK] at hql HR ⊢
     have HQL:=hZ hql
     have HK:=hZ hK
     have HS4:=hZ (HS2.out.bel HB.out)
     have hhs:=HHD.out s (List.mem_of_getElem? hs)
     obtain ⟨T,hT⟩:=rightRV_form m x s
     have hrg:=refRightB_any HS4.out (by have:=HNN.out;omega) s hhs (by omega)
     rw [hT] at hrg
     have hdl:((namedM s).getD zeroD).length=32:=named_len s
     obtain ⟨D,hD⟩:∃ D,(namedM s).getD zeroD=D:=⟨_,rfl⟩
     rw [hD] at hdl hrg
     have hI2:=dig_info2 hdl
     have hd1:=dig_one D
     have hdz:=dig_size hdl
     unfold digV at hrg
     clear hs he hv hvp htk hkl hql hK hhs hT hD hdl
     go_wp2_with fail
     refine hrg.mono ?_
     rintro e w50 ⟨rfl,hb50⟩
     obtain ⟨w5,hW5⟩:∃ W,w50.alloc (.cells (D.map byteV).toArray 33)=W:=⟨_,rfl⟩
     have hb51:Below w50.heap.size w50 w5:=by rw [← hW5];exact (Below.refl _ _).alloc (Nat.le_refl _) _
     have hb5:=hb50.trans (hb51.mono hb50.size)
     have HW5:=hZ hW5
     have hvc5:=(hb5.cell hvl).trans hvc
     clear hb50 hb51 hW5 hrg hvl
     have HB5:Hid (Below w2.heap.size w2 w5):=hZ (HB.out.trans (hb5.mono HB.out.size))
     have HR5:=hZ (HR.out.keep hb5)
     clear hb5 hvc
     cases hrt:rightM m x s with
     |some u =>
      have hf:[s].filter (fun s=>(rightM m x s).isNone)=[]:=by rw [List.filter_cons,hrt];rfl
      have HF:=hZ hf
      clear hf hrt
      go_wp2_with (first | (refine wpList_store_new rfl _ _ _ rfl _ (D.map byteV).toArray _ rfl rfl rfl hI2 hdz hd1 ?_;rw [HW5.out]))
      refine ⟨⟨k+1,by omega,by rw [Int.natCast_add];rfl,hZ ?_,HB5⟩,by simp [intOf];omega⟩
      rw [HTK.out,List.filter_append,HF.out,List.append_nil]
      exact HR5.out
     |none =>
      have hf:[s].filter (fun s=>(rightM m x s).isNone)=[s]:=by rw [List.filter_cons,hrt];rfl
      have HF:=hZ hf
      clear hf hrt
      go_wp2_with (first | (refine wpList_store_new rfl _ _ _ rfl _ (D.map byteV).toArray _ rfl rfl rfl hI2 hdz hd1 ?_;rw [HW5.out]) | (at_builtin;refine wpList_appC rfl _ _ 22 rfl w2.heap.size 9 i0 (.string ⟨#[]⟩) 16 Tryz.underlying22 hi hz0 hz1 hz2 rfl _ _ rfl (HR5.out.keep ((Below.refl _ _).alloc (Nat.le_refl _) _)) (.string s) ⟨w5.heap.size,0,none⟩ rfl (newV w5 _ _) rfl (by rw [HK.out];have:=HQL.out;have:=HNN.out;unfold maxLen;omega) (by rw [HK.out];have:=HQL.out;have:=HNN.out;omega) (by rw [World.size_alloc];have:=HB5.out.size;omega) ?_;intro v1 w7 hr7 hb7;have HR7:=hZ hr7;have HB7:Hid (Below w2.heap.size w2 w7):=hZ ((HB5.out.alloc (by have:=HB5.out.size;omega) _).trans hb7);clear hr7 hb7))
      refine ⟨⟨k+1,by omega,by rw [Int.natCast_add];rfl,hZ ?_,HB7⟩,by simp [intOf];omega⟩
      rw [HTK.out,List.filter_append,HF.out,← List.append_assoc,List.map_append]
      exact HR7.out
    ·have hbad:([] ++ (L.take k).filter fun s=>(rightM m x s).isNone)=badM m x:=by
      rw [List.take_of_length_le (by rw [HN.out];omega)]
      exact (show [] ++ L.filter _=badM m x by unfold badM;rw [if_neg HY0.out,HL.out])
     rw [hbad] at HR
     have hbl:(badM m x).length≤0+N:=by
      rw [← hbad,List.length_append]
      have h1:=List.length_filter_le (fun s=>(rightM m x s).isNone) (L.take k)
      rw [List.length_take] at h1
      have:([]:List ByteArray).length=0:=rfl
      have:=HN.out
      omega
     have hsz:∀ s∈badM m x,s.size≤200:=by
      rw [← hbad]
      intro s hs
      rcases List.mem_append.1 hs with hs | hs
      ·cases hs
      ·exact HSH.out s (List.mem_of_mem_take (List.mem_filter.1 hs).1)
     obtain ⟨BD,hBD⟩:∃ l,badM m x=l:=⟨_,rfl⟩
     rw [hBD] at HR hbl hsz
     have HBD:=hZ hBD
     have HBL:=hZ hbl
     have HSZ:=hZ hsz
     have HQ:Hid (RSto w S (fun b=>(P b∨b=w1.heap.size)∨u9.ownBlock=some b) w1.heap.size a x wr n m):=hZ (HS2.out.more HB.out _ (fun b hb=>.inl hb) (fun b hb=>hb.elim .inl (fun e=>.inr (HR.out.own b e))))
     have HMQ:Hid (SameP P w1 wr):=hZ (fun b hb=>(HS2.out.st.same HB.out b (.inl hb)).trans (HM2.out b hb))
     obtain ⟨q,cap,hu9,hcl⟩:=HR.out.slice
     rw [List.length_map] at hu9
     obtain ⟨M,hM⟩:∃ M,BD.length=M:=⟨_,rfl⟩
     rw [hM] at hu9 HBL
     have HMM:=hZ hM
     have HCL:Hid (∀ j s,BD[j]?=some s→∃ g,q=some ⟨g,0,none⟩∧wr.cell? ⟨g,j,none⟩=some (.string s)):=hZ (fun j s hj=>by
      obtain ⟨g,h1,-,h3⟩:=hcl j (strV s) (by rw [List.getElem?_map,hj];rfl)
      exact ⟨g,h1,h3⟩)
     have HUU:=hZ hu9
     subst hu9
     clear hbad hbl hsz hBD hcl hM HR
     obtain ⟨W9,hW9⟩:∃ W,W=wr:=⟨_,rfl⟩
     rw [← hW9] at HQ HMQ HCL ⊢
     clear hW9
     have hMi:(M:Int)≤1000000001:=by have:=HNN.out;have:=HBL.out;omega
     go_wp2_with fail
     go_loopw [14] (fun iv wx=>∃ (k:Nat) (mk:DM),(k:Int)≤M∧iv=.int .i64 k∧Hid (takesM BD m=takesM (BD.drop k) mk)∧Hid (RSto w S (fun b=>(P b∨b=w1.heap.size)∨(Value.slice q M cap).ownBlock=some b) w1.heap.size a x wx (n+k) mk)∧Hid (SameP (fun b=>(P b∨b=w1.heap.size)∨(Value.slice q M cap).ownBlock=some b) W9 wx)) (fun iv _=>M - (intOf iv).toNat)
     case atStart=>exact ⟨0,m,by omega,rfl,hZ rfl,HQ,hZ (fun _ _=>rfl)⟩
     case round =>
      obtain ⟨k,mk,hk,rfl,HTM,HS,HX⟩:=hrel
      by_cases hlt:(k:Int) < M
      ·have hkl:k < BD.length:=by rw [HMM.out];omega
       obtain ⟨s,hs⟩:∃ s,BD[k]?=some s:=⟨_,List.getElem?_eq_getElem hkl⟩
       obtain ⟨g,hqg,hgc⟩:=HCL.out k s hs
       have hss:=HSZ.out s (List.mem_of_getElem? hs)
       have hdr:BD.drop k=s :: BD.drop (k+1):=by
        rw [List.drop_eq_getElem_cons hkl]
        rw [List.getElem?_eq_getElem hkl] at hs
        rw [Option.some.inj hs]
       have htm:takesM BD m=seqM (mk.op (.remove s)) (takesM (BD.drop (k+1))):=by rw [HTM.out,hdr];rfl
       have HTM2:=hZ htm
       subst hqg
       have hc9:wr.cell? ⟨g,k,none⟩=some (.string s):=(cell_of_heap (HX.out g (.inr rfl))).trans hgc
       have hMn:M≤1+N:=by have:=HBL.out;omega
       have hnn:=HNN.out
       clear hs hgc hdr htm hkl
       go_wp2_with fail
       refine (rdo_any HS.out ⟨5,⟨#[]⟩,s,0⟩ ⟨#[]⟩ (show 1≤5 by decide) (show 5≤6 by decide) rfl (by omega) (by decide)).mono ?_
       intro e w8 hp
       by_cases hy:(mk.op (.remove s)).2=0
       ·obtain ⟨mj,h1⟩:∃ mj,mk.op (.remove s)=(mj,0):=⟨_,by rw [← hy]⟩
        obtain ⟨rfl,hs8,hk8⟩:=hp.eq h1
        have HS8:=hZ (HS.out.step hs8 hk8)
        have HX8:Hid (SameP (fun b=>(P b∨b=w1.heap.size)∨(Value.slice (some ⟨g,0,none⟩) M cap).ownBlock=some b) W9 w8):=hZ (fun b hb=>(hk8 b hb).trans (HX.out b hb))
        have HOP:=hZ h1
        clear hp hy hs8 hk8 h1 hc9
        go_wp2_with fail
        refine ⟨⟨k+1,mj,by omega,by rw [Int.natCast_add];rfl,hZ ?_,HS8,HX8⟩,by simp [intOf];omega⟩
        rw [HTM2.out,seqM_ok _ HOP.out]
       ·obtain ⟨y,hyy⟩:∃ y,(mk.op (.remove s)).2=y:=⟨_,rfl⟩
        rw [hyy] at hy
        obtain ⟨mj,h1⟩:∃ mj,mk.op (.remove s)=(mj,y):=⟨_,by rw [← hyy]⟩
        have hv:(y != 0)=true:=bne_iff_ne.2 hy
        obtain ⟨rfl,hs8,hk8⟩:=hp.eq h1
        have HS8:=hZ (HS.out.step hs8 hk8)
        have HX8:Hid (SameP P w1 w8):=hZ (fun b hb=>(hk8 b (.inl (.inl hb))).trans ((HX.out b (.inl (.inl hb))).trans (HMQ.out b hb)))
        have HOP:=hZ h1
        have HY:=hZ hy
        clear hp hy hs8 hk8 h1 hc9 hyy
        go_wp2_with fail
        go_ret2
        have hO:openM m x=(mj,y):=by
         rw [openM_on HOFF.out,HBD.out]
         exact seqM_no _ (show takesM BD m=(mj,y) by rw [HTM2.out,seqM_no _ HOP.out HY.out]) HY.out
        refine ⟨_,rfl,?_,HX8.out⟩
        rw [hO,HBD.out]
        refine .inr ⟨HY.out,rfl,(HS8.out.st.sub P (fun b hb=>.inl (.inl hb))).more ?_⟩
        rw [HMM.out]
        omega
      ·obtain rfl:k=M:=by omega
       have htm:takesM BD m=(mk,0):=by rw [HTM.out,List.drop_of_length_le (by rw [HMM.out];exact Nat.le_refl _)];rfl
       have HTM2:=hZ htm
       have hMn:k≤1+N:=by have:=HBL.out;omega
       have hnn:=HNN.out
       have HX9:Hid (SameP P w1 wr):=hZ (fun b hb=>(HX.out b (.inl (.inl hb))).trans (HMQ.out b hb))
       clear htm
       by_cases hk0:(0:Int) < k
       ·have hne:BD≠[]:=fun e=>by have h0:([]:List ByteArray).length=k:=e ▸ HMM.out;have h1:(0:Nat)=k:=h0;omega
        have HNE:=hZ hne
        clear hne
        go_wp2_with fail
        refine (rdo_any HS.out ⟨6,⟨#[]⟩,⟨#[]⟩,0⟩ ⟨#[]⟩ (show 1≤6 by decide) (show 6≤6 by decide) rfl (by omega) (by decide)).mono ?_
        intro e w8 hp
        by_cases hy:(mk.op .flush).2=0
        ·obtain ⟨mj,h1⟩:∃ mj,mk.op .flush=(mj,0):=⟨_,by rw [← hy]⟩
         obtain ⟨rfl,hs8,hk8⟩:=hp.eq h1
         have HS8:=hZ (HS.out.step hs8 hk8)
         have HX8:Hid (SameP P w1 w8):=hZ (fun b hb=>(hk8 b (.inl (.inl hb))).trans (HX9.out b hb))
         have HOP:=hZ h1
         clear hp hy hs8 hk8 h1
         go_wp2_with fail
         go_ret2
         have hO:openM m x=(mj,0):=by
          rw [openM_on HOFF.out,HBD.out,seqM_ok _ HTM2.out,if_neg HNE.out]
          exact HOP.out
         refine ⟨_,rfl,?_,HX8.out⟩
         rw [hO,HBD.out]
         exact .inl ⟨rfl,_,rfl,Nat.le_refl _,HS8.out.drop (by rw [HMM.out];omega) HPK.out HPG.out⟩
        ·obtain ⟨y,hyy⟩:∃ y,(mk.op .flush).2=y:=⟨_,rfl⟩
         rw [hyy] at hy
         obtain ⟨mj,h1⟩:∃ mj,mk.op .flush=(mj,y):=⟨_,by rw [← hyy]⟩
         have hv:(y != 0)=true:=bne_iff_ne.2 hy
         obtain ⟨rfl,hs8,hk8⟩:=hp.eq h1
         have HS8:=hZ (HS.out.step hs8 hk8)
         have HX8:Hid (SameP P w1 w8):=hZ (fun b hb=>(hk8 b (.inl (.inl hb))).trans (HX9.out b hb))
         have HOP:=hZ h1
         have HY:=hZ hy
         clear hp hy hs8 hk8 h1 hyy
         go_wp2_with fail
         go_ret2
         have hO:openM m x=(mj,y):=by
          rw [openM_on HOFF.out,HBD.out,seqM_ok _ HTM2.out,if_neg HNE.out]
          exact HOP.out
         refine ⟨_,rfl,?_,HX8.out⟩
         rw [hO,HBD.out]
         refine .inr ⟨HY.out,rfl,(HS8.out.st.sub P (fun b hb=>.inl (.inl hb))).more ?_⟩
         rw [HMM.out]
         omega
       ·have he:BD=[]:=List.eq_nil_of_length_eq_zero (by rw [HMM.out];omega)
        have HE:=hZ he
        clear he
        go_wp2_with fail
        go_ret2
        have hO:openM m x=(mk,0):=by
         rw [openM_on HOFF.out,HBD.out,seqM_ok _ HTM2.out,if_pos HE.out]
        refine ⟨_,rfl,?_,HX9.out⟩
        rw [hO,HBD.out]
        exact .inl ⟨rfl,_,rfl,Nat.le_refl _,HS.out.drop (by rw [HMM.out];omega) HPK.out HPG.out⟩
end Go.Proofs.YtecgikanophonaaGreatDoor
/- A disk of the program's beside one of the reference's: over St and RSt. -/
namespace Go.Proofs.YtecgikanophonaaGreatDoor
open Go Go.RowKit Go.Maps Go.Shelf
theorem DiskAt.frameS {w w':World} {a n:Nat} {m:DM} {S:Nat→Prop} (h:DiskAt w a n m S) (hb:∀ b,S b→w'.heap[b]?=w.heap[b]?):DiskAt w' a n m S:=by
 obtain ⟨bn,bs,pv,fv,loc,h⟩:=h
 exact ⟨bn,bs,pv,fv,loc,{ h with
  head:=(hb _ h.sa).trans h.head
  now:=h.now.keep (hb _ h.sn)
  safe:=h.safe.keep (hb _ h.ss)
  file:=fun i f hf=>⟨(h.file i f hf).1,(hb _ (h.file i f hf).1).trans (h.file i f hf).2⟩
  pend:=by
   obtain ⟨vs,h1,h2,h3⟩:=h.pend
   exact ⟨vs,row_keep h1 h3 (fun b _ hS _=>hb b hS),h2.keep (fun b _ _ hS _ _=>hb b hS) (fun _ x=>x) (fun _ _ _=>rfl),h3⟩
  fate:=⟨row_keep h.fate.1 h.fate.2 (fun b _ hS _=>hb b hS),h.fate.2⟩
  lt:=fun b hS=>by
   have h1:=hb b hS
   rw [Array.getElem?_eq_getElem (h.lt b hS)] at h1
   exact blk_lt h1 }⟩
theorem RefAt.frameS {w w':World} {r n:Nat} {m:DM} {S:Nat→Prop} (h:RefAt w r n m S) (hb:∀ b,S b→w'.heap[b]?=w.heap[b]?):RefAt w' r n m S:=by
 obtain ⟨⟨fv,nv,sv,pv,kv,ro,hr⟩,k2,k3⟩:=h
 refine ⟨⟨fv,nv,sv,pv,kv,ro,{ hr with
  head:=(hb _ hr.sr).trans hr.head
  files:=hr.files.keep (fun b _ hS _=>hb b hS)
  now:=hr.now.keep (fun b _ hS _=>hb b hS)
  safe:=hr.safe.keep (fun b _ hS _=>hb b hS)
  pend:=hr.pend.keep (fun b _ hS _=>hb b hS)
  keep:=hr.keep.keep (fun b cs hS _=>hb b hS) (fun _ h=>h)
  lt:=fun b hS=>by
   have h1:=hb b hS
   rw [Array.getElem?_eq_getElem (hr.lt b hS)] at h1
   exact blk_lt h1 }⟩,k2,k3⟩
def Pair (w w1:World) (P:Nat→Prop) (a n:Nat) (m:DM) (r k:Nat) (mr:DM):Prop :=
 ∃ SA SR:Nat→Prop,DiskAt w1 a n m SA∧RefAt w1 r k mr SR∧(∀ x,SA x→w.heap.size≤x∧¬ P x∧¬ SR x)∧(∀ x,SR x→w.heap.size≤x∧¬ P x)∧Below w.heap.size w w1∧∀ b,P b→b < w1.heap.size
section
variable {w w1 w':World} {P Q:Nat→Prop} {a n r k:Nat} {m mr:DM}
theorem Pair.bel (h:Pair w w1 P a n m r k mr):Below w.heap.size w w1:=by obtain ⟨SA,SR,h1,h2,h3,h4,h5,h6⟩:=h;exact h5
theorem Pair.lt (h:Pair w w1 P a n m r k mr):∀ b,P b→b < w1.heap.size:=by obtain ⟨SA,SR,h1,h2,h3,h4,h5,h6⟩:=h;exact h6
theorem Pair.ok (h:Pair w w1 P a n m r k mr):m.Ok n:=by obtain ⟨SA,SR,h1,h2,h3,h4,h5,h6⟩:=h;exact h1.ok
theorem Pair.below (h:Pair w w1 P a n m r k mr) (hb:Below w1.heap.size w1 w'):Pair w w' P a n m r k mr:=by
 obtain ⟨SA,SR,h1,h2,h3,h4,h5,h6⟩:=h
 exact ⟨SA,SR,h1.below hb,h2.below hb,h3,h4,h5.trans (hb.mono h5.size),fun b hP=>Nat.lt_of_lt_of_le (h6 b hP) hb.size⟩
theorem Pair.keeps (h:Pair w w1 P a n m r k mr) (hb:Below w1.heap.size w1 w'):Pair w w' (fun b=>P b∨(w1.heap.size≤b∧b < w'.heap.size)) a n m r k mr:=by
 obtain ⟨SA,SR,h1,h2,h3,h4,h5,h6⟩:=h
 refine ⟨SA,SR,h1.below hb,h2.below hb,fun x hx=>⟨(h3 x hx).1,?_,(h3 x hx).2.2⟩,fun x hx=>⟨(h4 x hx).1,?_⟩,h5.trans (hb.mono h5.size),?_⟩
 ·rintro (hP | ⟨hP,-⟩)
  ·exact (h3 x hx).2.1 hP
  ·exact absurd (h1.lt x hx) (by omega)
 ·rintro (hP | ⟨hP,-⟩)
  ·exact (h4 x hx).2 hP
  ·exact absurd (h2.lt x hx) (by omega)
 ·rintro b (hP | ⟨-,hP⟩)
  ·exact Nat.lt_of_lt_of_le (h6 b hP) hb.size
  ·exact hP
theorem Pair.more {n' k':Nat} (h:Pair w w1 P a n m r k mr) (hn:n≤n') (hk:k≤k'):Pair w w1 P a n' m r k' mr:=by
 obtain ⟨SA,SR,h1,h2,h3⟩:=h
 exact ⟨SA,SR,h1.more hn,h2.more hk,h3⟩
theorem Pair.st (h:Pair w w1 P a n m r k mr):∃ SR,St w (fun _=>False) (fun b=>P b∨SR b) a w1 n m∧RefAt w1 r k mr SR∧(∀ x,SR x→w.heap.size≤x∧¬ P x):=by
 obtain ⟨SA,SR,h1,h2,h3,h4,h5,h6⟩:=h
 exact ⟨SR,⟨⟨SA,h1,fun b hb=>⟨.inr (h3 b hb).1,fun hp=>hp.elim (h3 b hb).2.1 (h3 b hb).2.2⟩⟩,fun b hb=>hb.elim (h6 b) (h2.lt b),⟨h5.os,h5.tape,h5.output,h5.size,fun i hi _=>h5.block i hi⟩,fun _ hb=>hb.elim⟩,h2,h4⟩
theorem Pair.rst (h:Pair w w1 P a n m r k mr):∃ SA,RSt w (fun _=>False) (fun b=>P b∨SA b) r w1 k mr∧DiskAt w1 a n m SA∧(∀ x,SA x→w.heap.size≤x∧¬ P x):=by
 obtain ⟨SA,SR,h1,h2,h3,h4,h5,h6⟩:=h
 exact ⟨SA,⟨⟨SR,h2,fun b hb=>⟨.inr (h4 b hb).1,fun hp=>hp.elim (h4 b hb).2 (fun ha=>(h3 b ha).2.2 hb)⟩⟩,fun b hb=>hb.elim (h6 b) (h1.lt b),⟨h5.os,h5.tape,h5.output,h5.size,fun i hi _=>h5.block i hi⟩,fun _ hb=>hb.elim⟩,h1,fun x hx=>⟨(h3 x hx).1,(h3 x hx).2.1⟩⟩
theorem off_below {w w1:World} (h:Off (fun _=>False) w w1):Below w.heap.size w w1:=⟨h.os,h.tape,h.output,h.size,fun i hi=>h.block i hi (fun e=>e)⟩
theorem Pair.did {SR:Nat→Prop} {n':Nat} {m':DM} (hl:∀ b,P b→b < w1.heap.size) (hs:St w (fun _=>False) (fun b=>P b∨SR b) a w' n' m') (h2:RefAt w1 r k mr SR) (h4:∀ x,SR x→w.heap.size≤x∧¬ P x) (hk:SameP (fun b=>P b∨SR b) w1 w'):Pair w w' P a n' m' r k mr:=by
 obtain ⟨⟨SA,g1,g2⟩,g3,g4,-⟩:=hs
 exact ⟨SA,SR,g1,h2.frameS (fun b hb=>hk b (.inr hb)),fun x hx=>⟨(g2 x hx).1.elim (fun e=>e.elim) id,fun hp=>(g2 x hx).2 (.inl hp),fun hp=>(g2 x hx).2 (.inr hp)⟩,h4,off_below g4,fun b hb=>g3 b (.inl hb)⟩
theorem Pair.rdid {SA:Nat→Prop} {k':Nat} {mr':DM} (hs:RSt w (fun _=>False) (fun b=>P b∨SA b) r w' k' mr') (h1:DiskAt w1 a n m SA) (h3:∀ x,SA x→w.heap.size≤x∧¬ P x) (hk:SameP (fun b=>P b∨SA b) w1 w'):Pair w w' P a n m r k' mr':=by
 obtain ⟨⟨SR,g1,g2⟩,g3,g4,-⟩:=hs
 exact ⟨SA,SR,h1.frameS (fun b hb=>hk b (.inr hb)),g1,fun x hx=>⟨(h3 x hx).1,(h3 x hx).2,fun hr=>(g2 x hr).2 (.inr hx)⟩,fun x hx=>⟨(g2 x hx).1.elim (fun e=>e.elim) id,fun hp=>(g2 x hx).2 (.inl hp)⟩,off_below g4,fun b hb=>g3 b (.inl hb)⟩
end
end Go.Proofs.YtecgikanophonaaGreatDoor
/- BlobsPlays: what holds between the acts: both disks, and the boxes that are kept. -/
namespace Go.Proofs.YtecgikanophonaaGreatDoor
open Go Go.RowKit
structure PlayB (w:World) (a r:Nat) (W:World) (n:Nat) (m:DM) (k:Nat) (mr:DM) (Ks:List (Nat × Obj)):Prop where
 pair:∃ P,Pair w W P a n m r k mr∧P 3∧P 2∧P 0∧∀ q∈Ks,P q.1
 rt:RoundsT W
 rr:RoundsR W
 bg:BeginR W
 kept:∀ q∈Ks,W.heap[q.1]?=some q.2
section
variable {w W W':World} {a r n k:Nat} {m mr:DM} {Ks Js:List (Nat × Obj)}
theorem PlayB.toB (h:PlayB w a r W n m k mr Ks):Below w.heap.size w W:=by
 obtain ⟨P,h1,-⟩:=h.pair
 exact h1.bel
theorem PlayB.ok (h:PlayB w a r W n m k mr Ks):m.Ok n:=by
 obtain ⟨P,h1,-⟩:=h.pair
 exact h1.ok
theorem PlayB.more {n' k':Nat} (h:PlayB w a r W n m k mr Ks) (hn:n≤n') (hk:k≤k'):PlayB w a r W n' m k' mr Ks:=by
 obtain ⟨P,h1,h2⟩:=h.pair
 exact ⟨⟨P,h1.more hn hk,h2⟩,h.rt,h.rr,h.bg,h.kept⟩
theorem PlayB.sub (h:PlayB w a r W n m k mr Ks) (hs:∀ q∈Js,q∈Ks):PlayB w a r W n m k mr Js:=by
 obtain ⟨P,h1,h2,h3,h4,h5⟩:=h.pair
 exact ⟨⟨P,h1,h2,h3,h4,fun q hq=>h5 q (hs q hq)⟩,h.rt,h.rr,h.bg,fun q hq=>h.kept q (hs q hq)⟩
theorem PlayB.bel (h:PlayB w a r W n m k mr Ks) (hb:Below W.heap.size W W'):PlayB w a r W' n m k mr Ks:=by
 obtain ⟨P,h1,h2⟩:=h.pair
 exact ⟨⟨P,h1.below hb,h2⟩,h.rt.belowR hb,h.rr.bel hb,h.bg.bel hb,fun q hq=>(hb.block _ (blk_lt (h.kept q hq))).trans (h.kept q hq)⟩
theorem PlayB.keep (h:PlayB w a r W n m k mr Ks) (hb:Below W.heap.size W W') {c:Nat} {o:Obj} (h1:W.heap.size≤c) (h2:W'.heap[c]?=some o):PlayB w a r W' n m k mr ((c,o) :: Ks):=by
 obtain ⟨P,g1,g2,g3,g4,g5⟩:=h.pair
 have hlt:=blk_lt h2
 refine ⟨⟨_,g1.keeps hb,.inl g2,.inl g3,.inl g4,fun q hq=>?_⟩,h.rt.belowR hb,h.rr.bel hb,h.bg.bel hb,fun q hq=>?_⟩
 ·rcases List.mem_cons.1 hq with rfl | hq
  ·exact .inr ⟨h1,hlt⟩
  ·exact .inl (g5 q hq)
 ·rcases List.mem_cons.1 hq with rfl | hq
  ·exact h2
  ·exact (hb.block _ (blk_lt (h.kept q hq))).trans (h.kept q hq)
theorem PlayB.lift {f:FuncId} {args:Array Value} (R:Ending→Prop) {n':Nat} {m':DM} (h:PlayB w a r W n m k mr Ks)
  (hc:∀ P,St w (fun _=>False) P a W n m→P 3→(∀ q∈Ks,P q.1)→Calls Tryz.prog f args W fun e w'=>R e∧St w (fun _=>False) P a w' n' m'∧SameP P W w') :
  Calls Tryz.prog f args W fun e w'=>R e∧PlayB w a r w' n' m' k mr Ks:=by
 obtain ⟨P,g1,g2,g3,g4,g5⟩:=h.pair
 obtain ⟨SR,s1,s2,s3⟩:=g1.st
 refine (hc _ s1 (.inl g2) (fun q hq=>.inl (g5 q hq))).mono fun e w' hp=>?_
 obtain ⟨hR,t1,t2⟩:=hp
 exact ⟨hR,⟨P,Pair.did g1.lt t1 s2 s3 t2,g2,g3,g4,g5⟩,h.rt.same (t2 _ (.inl g2)) (t1.pl _ (.inl g2)),h.rr.same (t2 _ (.inl g3)) (t1.pl _ (.inl g3)),h.bg.same (t2 _ (.inl g4)) (t1.pl _ (.inl g4)),fun q hq=>(t2 _ (.inl (g5 q hq))).trans (h.kept q hq)⟩
theorem PlayB.liftR {f:FuncId} {args:Array Value} (R:Ending→Prop) {k':Nat} {mr':DM} (h:PlayB w a r W n m k mr Ks)
  (hc:∀ P,RSt w (fun _=>False) P r W k mr→P 2→P 0→(∀ q∈Ks,P q.1)→Calls Tryz.prog f args W fun e w'=>R e∧RSt w (fun _=>False) P r w' k' mr'∧SameP P W w') :
  Calls Tryz.prog f args W fun e w'=>R e∧PlayB w a r w' n m k' mr' Ks:=by
 obtain ⟨P,g1,g2,g3,g4,g5⟩:=h.pair
 obtain ⟨SA,s1,s2,s3⟩:=g1.rst
 refine (hc _ s1 (.inl g3) (.inl g4) (fun q hq=>.inl (g5 q hq))).mono fun e w' hp=>?_
 obtain ⟨hR,t1,t2⟩:=hp
 exact ⟨hR,⟨P,Pair.rdid t1 s2 s3 t2,g2,g3,g4,g5⟩,h.rt.same (t2 _ (.inl g2)) (t1.pl _ (.inl g2)),h.rr.same (t2 _ (.inl g3)) (t1.pl _ (.inl g3)),h.bg.same (t2 _ (.inl g4)) (t1.pl _ (.inl g4)),fun q hq=>(t2 _ (.inl (g5 q hq))).trans (h.kept q hq)⟩
end
end Go.Proofs.YtecgikanophonaaGreatDoor
/- BlobsPlays: operations of either disk, between the acts. -/
namespace Go.Proofs.YtecgikanophonaaGreatDoor
open Go Go.RowKit
theorem rst_do {w w1:World} {S P:Nat→Prop} {r n:Nat} {m:DM} (h:RSt w S P r w1 n m) (o:ROp) (s:ByteArray) (hk1:1≤o.kind) (hk2:o.kind≤6) (hf:o.file=0) (hn:n≤4000000000) (hs:s.size≤140737488355328) :
  Calls Tryz.prog 58 #[.pointer (some ⟨r,0,none⟩),.agg #[.int .i64 o.kind,.string o.old,.string o.name,.int .i64 0],.string s] w1 (RPost w S P r w1 n m (rcall o s)):=by
 obtain ⟨⟨S1,h1,h2⟩,h3,h4,h5⟩:=h
 have hd:=refDo_any h1 o s hk1 hk2 (room_fit h1.ok hn) (by omega) hs (by rw [hf];decide)
 unfold ropCl at hd
 rw [hf] at hd
 refine hd.mono fun e w' hp=>?_
 obtain ⟨q1,q2⟩:=RSt.post h2 h3 h4 h5 hp.2
 exact ⟨hp.1,q1,q2⟩
theorem rst_revive {w w1:World} {S P:Nat→Prop} {r n:Nat} {m:DM} (h:RSt w S P r w1 n m) :
  Calls Tryz.prog 57 #[.pointer (some ⟨r,0,none⟩)] w1 fun e w'=>e=.returned (.tuple #[])∧RSt w S P r w' n m.revive∧SameP P w1 w':=by
 obtain ⟨⟨S1,h1,h2⟩,h3,h4,h5⟩:=h
 refine (refRevive_any h1).mono fun e w' hp=>?_
 obtain ⟨q1,q2⟩:=RSt.post h2 h3 h4 h5 hp.2
 exact ⟨hp.1,q1,q2⟩
section
variable {w W W':World} {a r n k:Nat} {m mr:DM} {Ks:List (Nat × Obj)}
theorem PlayB.pcreate (h:PlayB w a r W n m k mr Ks) (s:ByteArray) (hs:s.size≤200) (hn:n≤4000000000) :
  Calls Tryz.prog 59 #[.pointer (some ⟨a,0,none⟩),.string s] W fun e W'=>e=.returned (errE (m.op (.create s)).2)∧PlayB w a r W' (n+1) (m.op (.create s)).1 k mr Ks :=
 h.lift (fun e=>e=.returned (errE (m.op (.create s)).2)) fun P hst _ _=>(st_create hst s (Nat.le_trans hs (by decide)) hn).mono fun _ _ hp=>hp
theorem PlayB.pwrite (h:PlayB w a r W n m k mr Ks) (s d:ByteArray) (hs:s.size≤200) (hd:d.size≤140737488355328) (hn:n≤4000000000) :
  Calls Tryz.prog 60 #[.pointer (some ⟨a,0,none⟩),.string s,.string d] W fun e W'=>e=.returned (errE (m.op (.write s d)).2)∧PlayB w a r W' (n+1) (m.op (.write s d)).1 k mr Ks :=
 h.lift (fun e=>e=.returned (errE (m.op (.write s d)).2)) fun P hst _ _=>(st_write hst s d (Nat.le_trans hs (by decide)) hd hn).mono fun _ _ hp=>hp
theorem PlayB.psync (h:PlayB w a r W n m k mr Ks) (s:ByteArray) (hs:s.size≤200) (hn:n≤4000000000) :
  Calls Tryz.prog 61 #[.pointer (some ⟨a,0,none⟩),.string s] W fun e W'=>e=.returned (errE (m.op (.sync s)).2)∧PlayB w a r W' (n+1) (m.op (.sync s)).1 k mr Ks :=
 h.lift (fun e=>e=.returned (errE (m.op (.sync s)).2)) fun P hst _ _=>(st_sync hst s (Nat.le_trans hs (by decide)) hn).mono fun _ _ hp=>hp
theorem PlayB.premove (h:PlayB w a r W n m k mr Ks) (s:ByteArray) (hs:s.size≤200) (hn:n≤4000000000) :
  Calls Tryz.prog 36 #[.pointer (some ⟨a,0,none⟩),.string s] W fun e W'=>e=.returned (errE (m.op (.remove s)).2)∧PlayB w a r W' (n+1) (m.op (.remove s)).1 k mr Ks :=
 h.lift (fun e=>e=.returned (errE (m.op (.remove s)).2)) fun P hst _ _=>(st_remove hst s (Nat.le_trans hs (by decide)) hn).mono fun _ _ hp=>hp
theorem PlayB.rdo (h:PlayB w a r W n m k mr Ks) (o:ROp) (s:ByteArray) (hk1:1≤o.kind) (hk2:o.kind≤6) (hf:o.file=0) (hk:k≤4000000000) (hs:s.size≤140737488355328) :
  Calls Tryz.prog 58 #[.pointer (some ⟨r,0,none⟩),.agg #[.int .i64 o.kind,.string o.old,.string o.name,.int .i64 0],.string s] W fun e W'=>e=.returned (.int .i64 (mr.op (rcall o s)).2)∧PlayB w a r W' n m (k+1) (mr.op (rcall o s)).1 Ks :=
 h.liftR (fun e=>e=.returned (.int .i64 (mr.op (rcall o s)).2)) fun P hst _ _ _=>(rst_do hst o s hk1 hk2 hf hk hs).mono fun _ _ hp=>hp
theorem PlayB.previve (h:PlayB w a r W n m k mr Ks) :
  Calls Tryz.prog 26 #[.pointer (some ⟨a,0,none⟩)] W fun e W'=>e=.returned (.tuple #[])∧PlayB w a r W' n m.revive k mr Ks :=
 h.lift (fun e=>e=.returned (.tuple #[])) fun P hst _ _=>(st_revive hst).mono fun _ _ hp=>hp
theorem PlayB.rrevive (h:PlayB w a r W n m k mr Ks) :
  Calls Tryz.prog 57 #[.pointer (some ⟨r,0,none⟩)] W fun e W'=>e=.returned (.tuple #[])∧PlayB w a r W' n m k mr.revive Ks :=
 h.liftR (fun e=>e=.returned (.tuple #[])) fun P hst _ _ _=>(rst_revive hst).mono fun _ _ hp=>hp
end
end Go.Proofs.YtecgikanophonaaGreatDoor
/- BlobsPlays: arming and striking either disk, between the acts. -/
namespace Go.Proofs.YtecgikanophonaaGreatDoor
open Go Go.RowKit
theorem GathI.rdP {W1 W2:World} {kv:Value} {ks:List Int} (h:GathI W1 W2 kv ks) (hk:∀ k∈ks,-9223372036854775808≤k∧k≤9223372036854775807) (hl:ks.length≤17592186044416) {S:Nat→Prop} (hS:∀ b,S b→kv.ownBlock≠some b):IntsRd S W2 kv ks:=by
 have hr:=h.row
 obtain ⟨p,c,rfl⟩:=row_slice hr
 rcases hr.2 with ⟨h1,h0⟩ | ⟨g,cap,cur,h1,h2,h3,h4,h5,h6,h7⟩
 ·injection h1 with e1 e2 e3
  subst e1 e3
  refine ⟨none,0,rfl,⟨by omega,Nat.zero_le _⟩,fun j k hj=>?_⟩
  have:=(List.getElem?_eq_some_iff.1 hj).1
  omega
 ·injection h1 with e1 e2 e3
  subst e1 e3
  refine ⟨_,_,rfl,⟨h4,h5⟩,fun j k hj=>⟨hk k (List.mem_of_getElem? hj),g,0,rfl,?_,blk_lt h3,.inl (fun hs=>hS g hs rfl)⟩⟩
  have hjl:=(List.getElem?_eq_some_iff.1 hj).1
  rw [Nat.zero_add,cell_of_heapN h3,← Array.getElem?_toList]
  have h8:(ks.map (Value.int .i64))[j]?=some (.int .i64 k):=by rw [List.getElem?_map,hj];rfl
  rw [← h7,List.getElem?_take,if_pos (by omega)] at h8
  exact h8
section
variable {w W W' W2:World} {a r n k:Nat} {m mr:DM} {Ks:List (Nat × Obj)} {kv:Value} {ks:List Int}
theorem PlayB.gath (h:PlayB w a r W n m k mr Ks) (hg:GathI W W2 kv ks):∃ Js:List (Nat × Obj),PlayB w a r W2 n m k mr Js∧(∀ q∈Ks,q∈Js)∧∀ b,kv.ownBlock=some b→∃ q∈Js,q.1=b:=by
 have hr:=hg.row
 obtain ⟨p,c,rfl⟩:=row_slice hr
 rcases hr.2 with ⟨h1,h0⟩ | ⟨g,cap,cur,h1,h2,h3,h4,h5,h6,h7⟩
 ·refine ⟨Ks,h.bel hg.bel,fun _ hq=>hq,fun b hb=>?_⟩
  rw [h1] at hb
  cases hb
 ·refine ⟨_,h.keep hg.bel h2 h3,fun q hq=>List.mem_cons_of_mem _ hq,fun b hb=>?_⟩
  rw [h1] at hb
  cases hb
  exact ⟨_,List.mem_cons_self ..,rfl⟩
theorem PlayB.parm (h:PlayB w a r W n m k mr Ks) (hg:GathI W W2 kv ks) (hk:∀ k∈ks,-9223372036854775808≤k∧k≤9223372036854775807) (hl:ks.length * 8≤140737488355328) (z:Int) (hz:z≤9223372036854775807) :
  Calls Tryz.prog 20 #[.pointer (some ⟨a,0,none⟩),.int .i64 z,.agg #[kv]] W2 fun e W'=>e=.returned (.tuple #[])∧PlayB w a r W' n (m.arm z ks) k mr Ks:=by
 obtain ⟨Js,h1,h2,h3⟩:=h.gath hg
 refine (h1.lift (fun e=>e=.returned (.tuple #[])) (n':=n) (m':=m.arm z ks) fun P hst _ hP=>?_).mono fun e W' hp=>⟨hp.1,hp.2.sub h2⟩
 obtain ⟨⟨S1,g1,g2⟩,g3,g4,g5⟩:=hst
 refine (arm_any g1 z kv ks (hg.rdP hk (by omega) (fun b hb e=>?_)) hl hz).mono fun e w' hp=>?_
 ·obtain ⟨q,hq,he⟩:=h3 b e
  exact (g2 b hb).2 (he ▸ hP q hq)
 ·obtain ⟨q1,q2⟩:=St.post g2 g3 g4 g5 hp.2
  exact ⟨hp.1,q1,q2⟩
theorem PlayB.pcrash (h:PlayB w a r W n m k mr Ks) (hg:GathI W W2 kv ks) (hk:∀ k∈ks,-9223372036854775808≤k∧k≤9223372036854775807) (hl:ks.length * 8≤140737488355328) (hn:n≤4000000000) :
  Calls Tryz.prog 22 #[.pointer (some ⟨a,0,none⟩),.agg #[kv]] W2 fun e W'=>e=.returned (.tuple #[])∧PlayB w a r W' n (m.crash ks) k mr Ks:=by
 obtain ⟨Js,h1,h2,h3⟩:=h.gath hg
 refine (h1.lift (fun e=>e=.returned (.tuple #[])) (n':=n) (m':=m.crash ks) fun P hst _ hP=>?_).mono fun e W' hp=>⟨hp.1,hp.2.sub h2⟩
 obtain ⟨⟨S1,g1,g2⟩,g3,g4,g5⟩:=hst
 refine (crash_any g1 kv ks (hg.rdP hk (by omega) (fun b hb e=>?_)) (by omega)).mono fun e w' hp=>?_
 ·obtain ⟨q,hq,he⟩:=h3 b e
  exact (g2 b hb).2 (he ▸ hP q hq)
 ·obtain ⟨q1,q2⟩:=St.post g2 g3 g4 g5 hp.2
  exact ⟨hp.1,q1,q2⟩
theorem PlayB.rarm (h:PlayB w a r W n m k mr Ks) (hi:IntsIn w kv ks) (hl:ks.length * 8≤140737488355328) (z:Int) (hz:z≤9223372036854775807) :
  Calls Tryz.prog 55 #[.pointer (some ⟨r,0,none⟩),.int .i64 z,kv] W fun e W'=>e=.returned (.tuple #[])∧PlayB w a r W' n m k (mr.arm z ks) Ks:=by
 have hb:=h.toB
 refine h.liftR (fun e=>e=.returned (.tuple #[])) fun P hst _ _ _=>?_
 obtain ⟨⟨S1,g1,g2⟩,g3,g4,g5⟩:=hst
 refine (refArm_any g1 z kv ks (hi.rd hb (fun b hs=>(g2 b hs).1.resolve_left id)) hl hz).mono fun e w' hp=>?_
 obtain ⟨q1,q2⟩:=RSt.post g2 g3 g4 g5 hp.2
 exact ⟨hp.1,q1,q2⟩
theorem PlayB.rcrash (h:PlayB w a r W n m k mr Ks) (hi:IntsIn w kv ks) (hk:k≤4000000000) :
  Calls Tryz.prog 56 #[.pointer (some ⟨r,0,none⟩),kv] W fun e W'=>e=.returned (.tuple #[])∧PlayB w a r W' n m k (mr.crash ks) Ks:=by
 have hb:=h.toB
 refine h.liftR (fun e=>e=.returned (.tuple #[])) fun P hst _ _ _=>?_
 obtain ⟨⟨S1,g1,g2⟩,g3,g4,g5⟩:=hst
 refine (refCrash_any g1 kv ks (hi.rd hb (fun b hs=>(g2 b hs).1.resolve_left id)) (by omega)).mono fun e w' hp=>?_
 obtain ⟨q1,q2⟩:=RSt.post g2 g3 g4 g5 hp.2
 exact ⟨hp.1,q1,q2⟩
end
end Go.Proofs.YtecgikanophonaaGreatDoor
/- Plain: names are short; the store's functions keep them so; the digests of the files rise as their names do. -/
namespace Go.Proofs.YtecgikanophonaaGreatDoor
open Go Go.RowKit
def short (t:Tab):Prop:=∀ p∈t,p.1.length≤200
def DOp.short:DOp→Prop
 |.create n _=>n.data.toList.length≤200
 |.rename _ n=>n.data.toList.length≤200
 |.remove _=>True
def DM.Short (m:DM):Prop:=short m.now∧short m.safe∧∀ o∈m.pend,o.short
theorem act_short {o:DOp} (ho:o.short) {t:Tab} (h:short t):short (o.act t):=by
 intro p hp
 cases o with
 |create n i =>
  rcases tput_mem.1 hp with rfl | ⟨hp,_⟩
  ·exact ho
  ·exact h p hp
 |rename o n =>
  simp only [DOp.act] at hp
  split at hp
  ·rcases tput_mem.1 hp with rfl | ⟨hp,_⟩
   ·exact ho
   ·exact h p (tdel_mem.1 hp).1
  ·exact h p hp
 |remove n=>exact h p (tdel_mem.1 hp).1
theorem failPend_short:∀ (l:List DOp) (ks:List Int) (t:Tab),(∀ o∈l,o.short)→short t→short (failPend l ks t)
 |[],_,_,_,h=>h
 |o :: r,ks,t,hl,h=>by
  rw [failPend]
  refine failPend_short r _ _ (fun x hx=>hl x (List.mem_cons_of_mem _ hx)) ?_
  split
  ·exact act_short (hl o (List.mem_cons_self ..)) h
  ·exact h
theorem fail_short {m:DM} (h:m.Short) (ks:List Int):(m.fail ks).Short:=by
 have:=failPend_short m.pend ks m.safe h.2.2 h.2.1
 exact ⟨this,this,fun o ho=>by cases ho⟩
theorem crash_short {m:DM} (h:m.Short) (ks:List Int):(m.crash ks).Short:=by
 unfold DM.crash
 split
 ·exact h
 ·exact fail_short h ks
theorem names_short {m:DM} (h:m.Short) {o:DOp} (ho:o.short):(m.names o).Short :=
 ⟨act_short ho h.1,h.2.1,fun x hx=>by
  rcases List.mem_append.1 hx with hx | hx
  ·exact h.2.2 x hx
  ·rw [List.mem_singleton.1 hx];exact ho⟩
theorem right_short {n:ByteArray} (h:rightB n=true):n.data.toList.length≤200:=by
 unfold rightB at h
 rw [Bool.and_eq_true] at h
 have:=of_decide_eq_true h.2
 rw [Array.length_toList]
 exact this
theorem act_shortM {m:DM} (h:m.Short) {c:DCall} (hr:m.refused c=0):(m.act c).Short:=by
 cases c with
 |create n =>
  refine names_short (m:={ m with files:=m.files ++ [⟨⟨#[]⟩,0⟩] }) h ?_
  unfold DM.refused at hr
  cases hb:rightB n with
  |true=>exact right_short hb
  |false=>simp [hb] at hr
 |write n s =>
  cases hg:m.get n with
  |none=>simp only [DM.act,hg];exact h
  |some i=>simp only [DM.act,hg];exact h
 |sync n =>
  cases hg:m.get n with
  |none=>simp only [DM.act,hg];exact h
  |some i=>simp only [DM.act,hg];exact h
 |rename o n =>
  refine names_short h ?_
  unfold DM.refused at hr
  cases hg:(m.get o).isSome with
  |false=>simp [hg] at hr
  |true =>
   cases hb:rightB n with
   |true=>exact right_short hb
   |false=>simp [hg,hb] at hr
 |remove n=>exact names_short h True.intro
 |flush=>exact ⟨h.1,h.1,fun o ho=>by cases ho⟩
theorem op_short {m:DM} (h:m.Short) (c:DCall):(m.op c).1.Short:=by
 unfold DM.op
 split
 ·exact h
 ·split
  ·exact h
  ·rename_i hr
   have hr0:m.refused c=0:=by omega
   have ht:m.tick.Short:=h
   have ha:(m.tick.act c).Short:=act_shortM ht hr0
   split
   ·refine fail_short ?_ _
    split
    ·exact ht
    ·exact ha
   ·exact ha
theorem new_short (r:Int):(DM.new r).Short:=⟨fun p hp=>(by cases hp),fun p hp=>(by cases hp),fun o ho=>(by cases ho)⟩
theorem short_name {t:Tab} (h:short t):∀ p∈t,(nameB p).size≤140737488355328:=fun p hp=>by
 have:=h p hp
 show p.1.toArray.size≤_
 rw [List.size_toArray]
 omega
theorem seq_short {p:DM × Int} {f:DM→DM × Int} (h1:p.1.Short) (h2:∀ m:DM,m.Short→(f m).1.Short):(seqM p f).1.Short:=by
 unfold seqM
 split
 ·exact h2 _ h1
 ·exact h1
theorem fixM_short {p:DM × Int} (h:p.1.Short):(fixM p).1.Short:=by
 unfold fixM
 split
 ·exact op_short (op_short h _) _
 ·exact h
theorem clear_short {m:DM} (h:m.Short):(clearM m).1.Short:=by
 unfold clearM
 split
 ·exact seq_short (op_short h _) (fun m hm=>op_short hm _)
 ·exact h
theorem lay_short {m:DM} (h:m.Short) (name t:ByteArray):(layM m name t).1.Short :=
 seq_short (clear_short h) fun _ h=>seq_short (op_short h _) fun _ h=>fixM_short (seq_short (op_short h _) fun _ h=>seq_short (op_short h _) fun _ h=>seq_short (op_short h _) fun _ h=>op_short h _)
theorem put_short {m:DM} (h:m.Short) (x:Int) (t:ByteArray):(putM m x t).1.Short:=by
 unfold putM
 split
 ·exact h
 ·split
  ·split
   ·exact h
   ·exact h
  ·split
   ·exact lay_short h _ _
   ·exact lay_short h _ _
theorem take_short {m:DM} (h:m.Short) (D:List UInt8):(takeM m D).1.Short:=seq_short (op_short h _) fun _ h=>op_short h _
theorem takes_short:∀ (l:List ByteArray) {m:DM},m.Short→(takesM l m).1.Short
 |[],_,h=>h
 |_ :: l,_,h=>seq_short (op_short h _) fun _ h=>takes_short l h
theorem open_short {m:DM} (h:m.Short) (x:Int):(openM m x).1.Short:=by
 unfold openM
 split
 ·exact h
 ·refine seq_short (takes_short _ h) fun m' hm=>?_
  split
  ·exact hm
  ·exact op_short hm _
theorem lists_short {m:DM} (h:m.Short) (hd:ByteArray):∀ s∈m.lists hd,s.size≤200:=by
 intro s hs
 unfold DM.lists at hs
 split at hs
 ·cases hs
 ·obtain ⟨p,hp,rfl⟩:=List.mem_map.1 hs
  have:=h.1 p (List.mem_filter.1 hp).1
  show p.1.toArray.size≤_
  rw [List.size_toArray]
  exact this
end Go.Proofs.YtecgikanophonaaGreatDoor
/- Plain: the digests of the files rise as their names do: what is listed is sorted. -/
namespace Go.Proofs.YtecgikanophonaaGreatDoor
open Go Go.RowKit Go.Sort
theorem bb_app (l:List UInt8) {a b:List UInt8} (h:bytesBefore (l ++ a) (l ++ b)=true):bytesBefore a b=true:=by
 induction l with
 |nil=>exact h
 |cons x l ih =>
  refine ih ?_
  rw [List.cons_append,List.cons_append] at h
  unfold bytesBefore at h
  simpa using h
theorem hx_ltR:∀ i,i < 16→∀ j,j < 16→(hx i < hx j ↔ i < j):=by decide
theorem hx_eqR {i j:Nat} (hi:i < 16) (hj:j < 16) (h:hx i=hx j):i=j:=by
 have h1:=hv_hx i hi
 rw [h,hv_hx j hj] at h1
 exact (Option.some.inj h1).symm
theorem cmp_hex:∀ d e:List UInt8,bytesBefore (hexB d) (hexB e)=true→Lib.compareBytes e d < 0→False
 |[],_,_,h2=>by
  rename_i e h1
  cases e with
  |nil=>unfold Lib.compareBytes at h2;exact absurd h2 (by decide)
  |cons y e=>unfold Lib.compareBytes at h2;exact absurd h2 (by decide)
 |x :: d,[],h1,_=>by rw [hexB_cons] at h1;unfold hexB bytesBefore at h1;cases h1
 |x :: d,y :: e,h1,h2=>by
  have hx1:=x.toNat_lt
  have hy1:=y.toNat_lt
  rw [hexB_cons,hexB_cons] at h1
  have hlt:∀ a b:UInt8,a.toNat < b.toNat→a < b:=fun a b h=>UInt8.lt_iff_toNat_lt.2 h
  have hgo:x.toNat < y.toNat→False:=fun h=>by
   unfold Lib.compareBytes at h2
   rw [if_neg (fun h3:y < x=>by have:=UInt8.lt_iff_toNat_lt.1 h3;omega),if_pos (hlt _ _ h)] at h2
   exact absurd h2 (by decide)
  unfold bytesBefore at h1
  rw [Bool.or_eq_true,Bool.and_eq_true] at h1
  rcases h1 with h1 | ⟨h1,h3⟩
  ·have:=(hx_ltR _ (by omega) _ (by omega)).1 (of_decide_eq_true h1)
   exact hgo (by omega)
  ·have e1:=hx_eqR (by omega) (by omega) (eq_of_beq h1)
   unfold bytesBefore at h3
   rw [Bool.or_eq_true,Bool.and_eq_true] at h3
   rcases h3 with h3 | ⟨h3,h4⟩
   ·have:=(hx_ltR _ (by omega) _ (by omega)).1 (of_decide_eq_true h3)
    exact hgo (by omega)
   ·have e2:=hx_eqR (by omega) (by omega) (eq_of_beq h3)
    have hxy:x=y:=UInt8.toNat_inj.1 (by omega)
    subst hxy
    unfold Lib.compareBytes at h2
    rw [if_neg (UInt8.lt_irrefl x),if_neg (UInt8.lt_irrefl x)] at h2
    exact cmp_hex d e h4 h2
theorem list_sorted {m:DM} (hr:Rising m.now) (x:Int):sortL (listM m x)=listM m x:=by
 unfold sortL
 refine List.mergeSort_of_pairwise ?_
 unfold listM
 rw [List.pairwise_map]
 have hl:(m.lists ⟨blobHead.toArray⟩).Pairwise fun p q:ByteArray=>bytesBefore p.data.toList q.data.toList=true:=by
  unfold DM.lists
  split
  ·exact List.Pairwise.nil
  ·rw [List.pairwise_map]
   exact (hr.sublist (List.filter_sublist ..)).imp fun h=>h
 refine (List.Pairwise.sublist (List.filter_sublist ..) (hl.imp_of_mem (S:=fun p q:ByteArray=>p∈m.lists ⟨blobHead.toArray⟩∧q∈m.lists ⟨blobHead.toArray⟩∧bytesBefore p.data.toList q.data.toList=true) fun h1 h2 h3=>⟨h1,h2,h3⟩)).imp_of_mem fun {p q} h1 h2 h3=>?_
 obtain ⟨g1,g2,g3⟩:=h3
 have f1:(rightM m x p).isSome=true:=(List.mem_filter.1 h1).2
 have f2:(rightM m x q).isSome=true:=(List.mem_filter.1 h2).2
 have hn:∀ s,(rightM m x s).isSome=true→s∈m.lists ⟨blobHead.toArray⟩→s=fileN (digOf s).1:=fun s hs hm=>by
  unfold rightM at hs
  cases hd:namedM s with
  |none=>rw [hd] at hs;cases hs
  |some d =>
   have h1:=(namedM_inv (lists_head hm) hd).1
   have h2:(digOf s).1=d:=by show (namedM s).getD zeroD=d;rw [hd];rfl
   rw [h2];exact h1
 rw [hn p f1 g1,hn q f2 g2,fileN_list,fileN_list] at g3
 have h5:=bb_app _ g3
 show (!(ltOf cfD) (digOf q) (digOf p))=true
 rw [Bool.not_eq_true']
 unfold ltOf cfD
 exact decide_eq_false (fun h6=>cmp_hex _ _ h5 h6)
end Go.Proofs.YtecgikanophonaaGreatDoor
/- BlobsPlays: calls of either store, between the acts. -/
namespace Go.Proofs.YtecgikanophonaaGreatDoor
open Go Go.RowKit
section
variable {w W:World} {a r n k sb qb:Nat} {x:Int} {m mr:DM} {Ks:List (Nat × Obj)}
theorem PlayB.sto (h:PlayB w a r W n m k mr Ks) (hm:(sb,storeO a x)∈Ks):∃ P,Sto w (fun _=>False) P sb a x W n m:=by
 obtain ⟨P,g1,g2,g3,g4,g5⟩:=h.pair
 obtain ⟨SR,s1,-⟩:=g1.st
 exact ⟨_,s1,h.kept _ hm,.inl (g5 _ hm),h.rt,.inl g2⟩
theorem PlayB.rsto (h:PlayB w a r W n m k mr Ks) (hm:(qb,storeR r x)∈Ks):∃ P,RSto w (fun _=>False) P qb r x W k mr:=by
 obtain ⟨P,g1,g2,g3,g4,g5⟩:=h.pair
 obtain ⟨SA,s1,-⟩:=g1.rst
 exact ⟨_,s1,h.kept _ hm,.inl (g5 _ hm),h.rr,.inl g3,h.bg,.inl g4⟩
theorem PlayB.pput (h:PlayB w a r W n m k mr Ks) (hm:(sb,storeO a x)∈Ks) (hn:n+9≤4000000000) (t:ByteArray) (ht:t.size≤140737488355328) :
  Calls Tryz.prog 10 #[.pointer (some ⟨sb,0,none⟩),.string t] W fun e W'=>e=.returned (.tuple #[digV (putM m x t).2.1,errE (putM m x t).2.2])∧PlayB w a r W' (n+9) (putM m x t).1 k mr Ks :=
 h.lift (fun e=>e=.returned (.tuple #[digV (putM m x t).2.1,errE (putM m x t).2.2])) fun P hst hg hP=>(put_any ⟨hst,h.kept _ hm,hP _ hm,h.rt,hg⟩ hn t ht).mono fun _ _ hp=>hp
theorem PlayB.ptake (h:PlayB w a r W n m k mr Ks) (hm:(sb,storeO a x)∈Ks) (hn:n+2≤4000000000) (D:List UInt8) (hD:D.length=32) :
  Calls Tryz.prog 15 #[.pointer (some ⟨sb,0,none⟩),digV D] W fun e W'=>e=.returned (errE (takeM m D).2)∧PlayB w a r W' (n+2) (takeM m D).1 k mr Ks :=
 h.lift (fun e=>e=.returned (errE (takeM m D).2)) fun P hst hg hP=>(take_any ⟨hst,h.kept _ hm,hP _ hm,h.rt,hg⟩ hn D hD).mono fun _ _ hp=>hp
theorem PlayB.pget (h:PlayB w a r W n m k mr Ks) (hm:(sb,storeO a x)∈Ks) (D:List UInt8) (hD:D.length=32) :
  Calls Tryz.prog 12 #[.pointer (some ⟨sb,0,none⟩),digV D] W fun e W'=>e=.returned (.tuple #[.string (getM m x D).1,errE (getM m x D).2])∧PlayB w a r W' n m k mr Ks:=by
 obtain ⟨P,hs⟩:=h.sto hm
 exact (st_get hs D hD).mono fun _ _ hp=>⟨hp.1,h.bel hp.2⟩
theorem PlayB.phas (h:PlayB w a r W n m k mr Ks) (hm:(sb,storeO a x)∈Ks) (D:List UInt8) (hD:D.length=32) :
  Calls Tryz.prog 16 #[.pointer (some ⟨sb,0,none⟩),digV D] W fun e W'=>e=.returned (.tuple #[.bool (hasM m x D).1,errE (hasM m x D).2])∧PlayB w a r W' n m k mr Ks:=by
 obtain ⟨P,hs⟩:=h.sto hm
 exact (st_has hs D hD).mono fun _ _ hp=>⟨hp.1,h.bel hp.2⟩
theorem PlayB.plist (h:PlayB w a r W n m k mr Ks) (hm:(sb,storeO a x)∈Ks) (hs:m.Short) (hn:n≤1000000000) :
  Calls Tryz.prog 45 #[.pointer (some ⟨sb,0,none⟩)] W fun e W'=>∃ v,e=.returned (.tuple #[v,errE (if m.off then 27 else 0)])∧OwnD W.heap.size (listM m x) v W'∧Below W.heap.size W W':=by
 obtain ⟨P,hst⟩:=h.sto hm
 refine (listB_any hst hn (lists_short hs _)).mono fun _ _ hp=>?_
 obtain ⟨v,h1,h2,h3⟩:=hp
 rw [list_sorted h.ok.now] at h2
 exact ⟨v,h1,h2,h3⟩
theorem PlayB.rput (h:PlayB w a r W n m k mr Ks) (hm:(qb,storeR r x)∈Ks) (hn:k+9≤4000000000) (t:ByteArray) (ht:t.size≤140737488351232) :
  Calls Tryz.prog 69 #[.pointer (some ⟨qb,0,none⟩),.string t] W fun e W'=>e=.returned (.tuple #[digV (putM mr x t).2.1,.int .i64 (putM mr x t).2.2])∧PlayB w a r W' n m (k+9) (putM mr x t).1 Ks :=
 h.liftR (fun e=>e=.returned (.tuple #[digV (putM mr x t).2.1,.int .i64 (putM mr x t).2.2])) fun P hst hg hg2 hP=>(refPut_any ⟨hst,h.kept _ hm,hP _ hm,h.rr,hg,h.bg,hg2⟩ hn t ht).mono fun _ _ hp=>hp
theorem PlayB.rtake (h:PlayB w a r W n m k mr Ks) (hm:(qb,storeR r x)∈Ks) (hn:k+2≤4000000000) (D:List UInt8) (hD:D.length=32) :
  Calls Tryz.prog 72 #[.pointer (some ⟨qb,0,none⟩),digV D] W fun e W'=>e=.returned (.int .i64 (takeM mr D).2)∧PlayB w a r W' n m (k+2) (takeM mr D).1 Ks :=
 h.liftR (fun e=>e=.returned (.int .i64 (takeM mr D).2)) fun P hst hg hg2 hP=>(refTake_any ⟨hst,h.kept _ hm,hP _ hm,h.rr,hg,h.bg,hg2⟩ hn D hD).mono fun _ _ hp=>hp
theorem PlayB.rget (h:PlayB w a r W n m k mr Ks) (hm:(qb,storeR r x)∈Ks) (hn:k≤4000000000) (D:List UInt8) (hD:D.length=32) :
  Calls Tryz.prog 70 #[.pointer (some ⟨qb,0,none⟩),digV D] W fun e W'=>e=.returned (.tuple #[.string (getM mr x D).1,.int .i64 (getM mr x D).2])∧PlayB w a r W' n m k mr Ks:=by
 obtain ⟨P,hs⟩:=h.rsto hm
 exact (refGet_any hs hn D hD).mono fun _ _ hp=>⟨hp.1,h.bel hp.2⟩
theorem PlayB.rhas (h:PlayB w a r W n m k mr Ks) (hm:(qb,storeR r x)∈Ks) (hn:k≤4000000000) (D:List UInt8) (hD:D.length=32) :
  Calls Tryz.prog 71 #[.pointer (some ⟨qb,0,none⟩),digV D] W fun e W'=>e=.returned (.tuple #[.bool (hasM mr x D).1,.int .i64 (hasM mr x D).2])∧PlayB w a r W' n m k mr Ks:=by
 obtain ⟨P,hs⟩:=h.rsto hm
 exact (refHas_any hs hn D hD).mono fun _ _ hp=>⟨hp.1,h.bel hp.2⟩
theorem PlayB.rlist (h:PlayB w a r W n m k mr Ks) (hm:(qb,storeR r x)∈Ks) (hs:mr.Short) (hn:k≤1000000000) :
  Calls Tryz.prog 73 #[.pointer (some ⟨qb,0,none⟩)] W fun e W'=>∃ v,e=.returned (.tuple #[v,.int .i64 (if mr.off then 27 else 0)])∧OwnD W.heap.size (listM mr x) v W'∧Below W.heap.size W W':=by
 obtain ⟨P,hst⟩:=h.rsto hm
 exact refListB_any hst hn (short_name hs.1) (lists_short hs _)
end
end Go.Proofs.YtecgikanophonaaGreatDoor
/- Plain: Open does not make a disk's tables longer. -/
namespace Go.Proofs.YtecgikanophonaaGreatDoor
open Go Go.RowKit
def DOp.adds:DOp→Nat
 |.remove _=>0
 |_=>1
def addsP (l:List DOp):Nat:=(l.map DOp.adds).sum
theorem act_adds (o:DOp) (t:Tab):(o.act t).length≤t.length+o.adds:=by
 cases o with
 |create k i=>exact tput_len _ _ _
 |remove k=>exact tdel_len _ _
 |rename a b =>
  simp only [DOp.act]
  split
  ·refine Nat.le_trans (tput_len _ _ _) ?_
   have:=tdel_len t a.data.toList
   show _≤t.length+1
   omega
  ·exact Nat.le_add_right _ _
theorem failPend_adds:∀ (l:List DOp) (ks:List Int) (t:Tab),(failPend l ks t).length≤t.length+addsP l
 |[],_,_=>Nat.le_refl _
 |o :: r,ks,t=>by
  rw [failPend]
  refine Nat.le_trans (failPend_adds r _ _) ?_
  have h:=act_adds o t
  have e:addsP (o :: r)=o.adds+addsP r:=by unfold addsP;rw [List.map_cons,List.sum_cons]
  rw [e]
  split
  ·omega
  ·omega
def FitN (m:DM) (n:Nat):Prop:=m.now.length≤n∧m.safe.length+addsP m.pend≤n
theorem fail_fit {m:DM} {n:Nat} (h:FitN m n) (ks:List Int):FitN (m.fail ks) n∧(m.fail ks).pend=[]:=by
 have h1:=failPend_adds m.pend ks m.safe
 refine ⟨⟨Nat.le_trans h1 h.2,?_⟩,rfl⟩
 ·show (failPend m.pend ks m.safe).length+addsP []≤n
  exact Nat.le_trans h1 h.2
theorem addsP_app (l:List DOp) (o:DOp):addsP (l ++ [o])=addsP l+o.adds:=by unfold addsP;rw [List.map_append,List.sum_append];rfl
theorem names_fit {m:DM} {n:Nat} (h:FitN m n) (o:DOp):FitN (m.names o) (n+o.adds):=by
 refine ⟨?_,?_⟩
 ·show (o.act m.now).length≤_
  have:=act_adds o m.now
  have:=h.1
  omega
 ·show m.safe.length+addsP (m.pend ++ [o])≤_
  rw [addsP_app]
  have:=h.2
  omega
def DCall.adds:DCall→Nat
 |.create _=>1
 |.rename _ _=>1
 |_=>0
theorem FitN.more {m:DM} {n n':Nat} (h:FitN m n) (hn:n≤n'):FitN m n':=⟨Nat.le_trans h.1 hn,Nat.le_trans h.2 hn⟩
theorem act_fit {m:DM} {n:Nat} (h:FitN m n) (c:DCall):FitN (m.act c) (n+c.adds):=by
 cases c with
 |create s=>exact names_fit (m:={ m with files:=m.files ++ [⟨⟨#[]⟩,0⟩] }) h _
 |write s t =>
  rw [dact_write]
  split
  ·exact h
  ·exact h
 |sync s =>
  rw [dact_sync]
  split
  ·exact h
  ·exact h
 |rename a b=>exact names_fit h _
 |remove s=>exact names_fit h _
 |flush=>exact ⟨h.1,by show m.now.length+addsP []≤_;exact h.1⟩
theorem op_fit {m:DM} {n:Nat} (h:FitN m n) (c:DCall):FitN (m.op c).1 (n+c.adds):=by
 unfold DM.op
 split
 ·exact h.more (Nat.le_add_right _ _)
 ·split
  ·exact h.more (Nat.le_add_right _ _)
  ·have ht:FitN m.tick n:=h
   have ha:FitN (m.tick.act c) (n+c.adds):=act_fit ht c
   split
   ·refine (fail_fit ?_ _).1
    split
    ·exact ht.more (Nat.le_add_right _ _)
    ·exact ha
   ·exact ha
theorem seq_fit {p:DM × Int} {f:DM→DM × Int} {n n':Nat} (h1:FitN p.1 n) (hn:n≤n') (h2:∀ m:DM,FitN m n→FitN (f m).1 n'):FitN (seqM p f).1 n':=by
 unfold seqM
 split
 ·exact h2 _ h1
 ·exact h1.more hn
theorem takes_fit {n:Nat}:∀ (l:List ByteArray) {m:DM},FitN m n→FitN (takesM l m).1 n
 |[],_,h=>h
 |s :: l,_,h=>seq_fit (op_fit h (.remove s)) (Nat.le_refl _) fun _ h=>takes_fit l h
theorem open_fit {m:DM} {n:Nat} (h:FitN m n) (x:Int):FitN (openM m x).1 n:=by
 unfold openM
 split
 ·exact h
 ·refine seq_fit (takes_fit _ h) (Nat.le_refl _) fun m' hm=>?_
  split
  ·exact hm
  ·exact op_fit hm .flush
theorem take_fit {m:DM} {n:Nat} (h:FitN m n) (D:List UInt8):FitN (takeM m D).1 n:=seq_fit (op_fit h (.remove _)) (Nat.le_refl _) fun _ h=>op_fit h .flush
theorem fixM_fit {p:DM × Int} {n:Nat} (h:FitN p.1 n):FitN (fixM p).1 n:=by
 unfold fixM
 split
 ·exact op_fit (op_fit h (.remove handN)) .flush
 ·exact h
theorem clear_fit {m:DM} {n:Nat} (h:FitN m n):FitN (clearM m).1 n:=by
 unfold clearM
 split
 ·exact seq_fit (op_fit h (.remove handN)) (Nat.le_refl _) fun _ h=>op_fit h .flush
 ·exact h
theorem lay_fit {m:DM} {n:Nat} (h:FitN m n) (name t:ByteArray):FitN (layM m name t).1 (n+2) :=
 seq_fit (clear_fit h) (Nat.le_add_right _ _) fun _ h=>seq_fit (op_fit h (.create handN)) (Nat.le_succ _) fun _ h=>fixM_fit (seq_fit (op_fit h (.write handN t)) (Nat.le_succ _) fun _ h=>seq_fit (op_fit h (.sync handN)) (Nat.le_succ _) fun _ h=>seq_fit (op_fit h (.rename handN name)) (Nat.le_refl _) fun _ h=>op_fit h .flush)
theorem put_fit {m:DM} {n:Nat} (h:FitN m n) (x:Int) (t:ByteArray):FitN (putM m x t).1 (n+2):=by
 unfold putM
 split
 ·exact h.more (Nat.le_add_right _ _)
 ·split
  ·split
   ·exact h.more (Nat.le_add_right _ _)
   ·exact h.more (Nat.le_add_right _ _)
  ·split
   ·exact lay_fit h _ _
   ·exact lay_fit h _ _
theorem crash_fit {m:DM} {n:Nat} (h:FitN m n) (ks:List Int):FitN (m.crash ks) n:=by
 unfold DM.crash
 split
 ·exact h
 ·exact (fail_fit h ks).1
theorem bad_len (m:DM) (x:Int):(badM m x).length≤1+m.now.length:=by
 unfold badM
 rw [List.length_append]
 have h1:(m.lists ⟨blobHead.toArray⟩).length≤m.now.length:=by
  unfold DM.lists
  split
  ·exact Nat.zero_le _
  ·rw [List.length_map]
   exact List.length_filter_le _ _
 have h2:=List.length_filter_le (fun n=>(rightM m x n).isNone) (m.lists ⟨blobHead.toArray⟩)
 have h3:(if (m.reads handN).2=0 then [handN] else []).length≤1:=by
  split
  ·exact Nat.le_refl _
  ·exact Nat.zero_le _
 omega
end Go.Proofs.YtecgikanophonaaGreatDoor
/- BlobsPlays: either Open, between the acts. -/
namespace Go.Proofs.YtecgikanophonaaGreatDoor
open Go Go.RowKit
section
variable {w W:World} {a r n k N:Nat} {x:Int} {m mr:DM} {Ks:List (Nat × Obj)}
theorem PlayB.popen (h:PlayB w a r W n m k mr Ks) (hs:m.Short) (hf:FitN m N) (hx:1≤x∧x≤32) (hn:n≤1000000000) :
  Calls Tryz.prog 8 #[.pointer (some ⟨a,0,none⟩),.int .i64 x] W fun e W' =>
   ((openM m x).2=0∧∃ sb,e=.returned (.tuple #[.pointer (some ⟨sb,0,none⟩),.nilIface])∧PlayB w a r W' (n+N+2) (openM m x).1 k mr ((sb,storeO a x) :: Ks)) ∨
   ((openM m x).2≠0∧e=.returned (.tuple #[.pointer none,errE (openM m x).2])∧PlayB w a r W' (n+N+2) (openM m x).1 k mr Ks):=by
 have hb:n+(badM m x).length+1≤n+N+2:=by have h1:=bad_len m x;have:=hf.1;omega
 obtain ⟨P,g1,g2,g3,g4,g5⟩:=h.pair
 obtain ⟨SR,s1,s2,s3⟩:=g1.st
 refine (open_any s1 h.rt (.inl g2) hx hn (lists_short hs _)).mono fun e W' hp=>?_
 obtain ⟨v,rfl,hv,t2⟩:=hp
 rcases hv with ⟨h0,sb,rfl,hsb,hst⟩ | ⟨h0,u,rfl,rfl,hst⟩
 ·have hbx:=hst.box
  have hrt:=hst.rnd
  obtain ⟨⟨SA,q1,q2⟩,q3,q4,-⟩:=hst.st
  have hpr:Pair w W' (fun b=>P b∨b=sb) a (n+N+2) (openM m x).1 r k mr:=by
   refine ⟨SA,SR,q1.more hb,s2.frameS (fun b hb=>t2 b (.inr hb)),fun y hy=>⟨(q2 y hy).1.elim (fun e=>e.elim) id,fun hp=>(q2 y hy).2 (hp.elim (fun h=>.inl (.inl h)) .inr),fun hr=>(q2 y hy).2 (.inl (.inr hr))⟩,fun y hy=>⟨(s3 y hy).1,fun hp=>hp.elim (s3 y hy).2 (fun e=>?_)⟩,off_below q4,fun b hb=>q3 b (hb.elim (fun h=>.inl (.inl h)) .inr)⟩
   have:=s2.lt y hy
   omega
  refine .inl ⟨h0,sb,rfl,⟨_,hpr,.inl g2,.inl g3,.inl g4,fun q hq=>?_⟩,hrt,h.rr.same (t2 _ (.inl g3)) (q3 _ (.inl (.inl g3))),h.bg.same (t2 _ (.inl g4)) (q3 _ (.inl (.inl g4))),fun q hq=>?_⟩
  ·rcases List.mem_cons.1 hq with rfl | hq
   ·exact .inr rfl
   ·exact .inl (g5 q hq)
  ·rcases List.mem_cons.1 hq with rfl | hq
   ·exact hbx
   ·exact (t2 _ (.inl (g5 q hq))).trans (h.kept q hq)
 ·exact .inr ⟨h0,rfl,⟨P,Pair.did g1.lt (hst.more hb) s2 s3 t2,g2,g3,g4,g5⟩,h.rt.same (t2 _ (.inl g2)) (hst.pl _ (.inl g2)),h.rr.same (t2 _ (.inl g3)) (hst.pl _ (.inl g3)),h.bg.same (t2 _ (.inl g4)) (hst.pl _ (.inl g4)),fun q hq=>(t2 _ (.inl (g5 q hq))).trans (h.kept q hq)⟩
theorem PlayB.ropen (h:PlayB w a r W n m k mr Ks) (hs:mr.Short) (hf:FitN mr N) (hx:1≤x∧x≤32) (hn:k≤1000000000) :
  Calls Tryz.prog 30 #[.pointer (some ⟨r,0,none⟩),.int .i64 x] W fun e W' =>
   ((openM mr x).2=0∧∃ qb,e=.returned (.tuple #[.pointer (some ⟨qb,0,none⟩),.int .i64 0])∧PlayB w a r W' n m (k+N+2) (openM mr x).1 ((qb,storeR r x) :: Ks)) ∨
   ((openM mr x).2≠0∧e=.returned (.tuple #[.pointer none,.int .i64 (openM mr x).2])∧PlayB w a r W' n m (k+N+2) (openM mr x).1 Ks):=by
 have hb:k+(badM mr x).length+1≤k+N+2:=by have h1:=bad_len mr x;have:=hf.1;omega
 obtain ⟨P,g1,g2,g3,g4,g5⟩:=h.pair
 obtain ⟨SA,s1,s2,s3⟩:=g1.rst
 refine (refOpen_any s1 h.rr (.inl g3) h.bg (.inl g4) (short_name hs.1) hx hn (lists_short hs _)).mono fun e W' hp=>?_
 obtain ⟨v,rfl,hv,t2⟩:=hp
 rcases hv with ⟨h0,qb,rfl,hsb,hst⟩ | ⟨h0,rfl,hst⟩
 ·have hbx:=hst.box
  have hrt:=hst.rnd
  have hbg:=hst.beg
  obtain ⟨⟨SR,q1,q2⟩,q3,q4,-⟩:=hst.st
  have hpr:Pair w W' (fun b=>P b∨b=qb) a n m r (k+N+2) (openM mr x).1:=by
   refine ⟨SA,SR,s2.frameS (fun b hb=>t2 b (.inr hb)),q1.more hb,fun y hy=>⟨(s3 y hy).1,fun hp=>hp.elim (s3 y hy).2 (fun e=>?_),fun hr=>(q2 y hr).2 (.inl (.inr hy))⟩,fun y hy=>⟨(q2 y hy).1.elim (fun e=>e.elim) id,fun hp=>(q2 y hy).2 (hp.elim (fun h=>.inl (.inl h)) .inr)⟩,off_below q4,fun b hb=>q3 b (hb.elim (fun h=>.inl (.inl h)) .inr)⟩
   have:=s2.lt y hy
   omega
  refine .inl ⟨h0,qb,rfl,⟨_,hpr,.inl g2,.inl g3,.inl g4,fun q hq=>?_⟩,h.rt.same (t2 _ (.inl g2)) (q3 _ (.inl (.inl g2))),hrt,hbg,fun q hq=>?_⟩
  ·rcases List.mem_cons.1 hq with rfl | hq
   ·exact .inr rfl
   ·exact .inl (g5 q hq)
  ·rcases List.mem_cons.1 hq with rfl | hq
   ·exact hbx
   ·exact (t2 _ (.inl (g5 q hq))).trans (h.kept q hq)
 ·exact .inr ⟨h0,rfl,⟨P,Pair.rdid (hst.more hb) s2 s3 t2,g2,g3,g4,g5⟩,h.rt.same (t2 _ (.inl g2)) (hst.pl _ (.inl g2)),h.rr.same (t2 _ (.inl g3)) (hst.pl _ (.inl g3)),h.bg.same (t2 _ (.inl g4)) (hst.pl _ (.inl g4)),fun q hq=>(t2 _ (.inl (g5 q hq))).trans (h.kept q hq)⟩
end
end Go.Proofs.YtecgikanophonaaGreatDoor
/- Plain: the store's errors are codes; what an act makes of a disk. -/
namespace Go.Proofs.YtecgikanophonaaGreatDoor
open Go Go.RowKit
def Code (x:Int):Prop:=x=0∨(1≤x∧x≤32)
theorem code_of (k:Int) (h:(decide (0≤k) && decide (k≤32))=true):Code k:=by
 rw [Bool.and_eq_true,decide_eq_true_eq,decide_eq_true_eq] at h
 unfold Code
 omega
theorem refused_code (m:DM) (c:DCall):Code (m.refused c):=by
 cases c with
 |create n=>unfold DM.refused;(repeat' split) <;> exact code_of _ rfl
 |write n s=>unfold DM.refused;(repeat' split) <;> exact code_of _ rfl
 |sync n=>unfold DM.refused;(repeat' split) <;> exact code_of _ rfl
 |rename o n=>unfold DM.refused;(repeat' split) <;> exact code_of _ rfl
 |remove n=>unfold DM.refused;(repeat' split) <;> exact code_of _ rfl
 |flush=>exact code_of _ rfl
theorem op_code (m:DM) (c:DCall):Code (m.op c).2:=by
 unfold DM.op
 split
 ·exact code_of _ rfl
 ·split
  ·exact refused_code m c
  ·split
   ·exact code_of _ rfl
   ·exact code_of _ rfl
theorem reads_code (m:DM) (s:ByteArray):Code (m.reads s).2:=by
 unfold DM.reads
 split
 ·exact code_of _ rfl
 ·split
  ·exact code_of _ rfl
  ·exact code_of _ rfl
theorem seq_code {p:DM × Int} {f:DM→DM × Int} (h1:Code p.2) (h2:∀ m,Code (f m).2):Code (seqM p f).2:=by
 unfold seqM
 split
 ·exact h2 _
 ·exact h1
theorem fix_code {p:DM × Int} (h:Code p.2):Code (fixM p).2:=by
 unfold fixM
 split
 ·exact code_of _ rfl
 ·exact h
theorem clear_code (m:DM):Code (clearM m).2:=by
 unfold clearM
 split
 ·exact seq_code (op_code _ _) fun m=>op_code _ _
 ·exact code_of _ rfl
theorem lay_code (m:DM) (name t:ByteArray):Code (layM m name t).2 :=
 seq_code (clear_code m) fun _=>seq_code (op_code _ _) fun _=>fix_code (seq_code (op_code _ _) fun _=>seq_code (op_code _ _) fun _=>seq_code (op_code _ _) fun _=>op_code _ _)
theorem put_code (m:DM) (x:Int) (t:ByteArray):Code (putM m x t).2.2:=by
 unfold putM
 split
 ·exact code_of _ rfl
 ·split
  ·split
   ·exact code_of _ rfl
   ·exact code_of _ rfl
  ·split
   ·exact code_of _ rfl
   ·exact lay_code _ _ _
theorem get_code (m:DM) (x:Int) (D:List UInt8):Code (getM m x D).2:=by
 unfold getM
 split
 ·exact reads_code _ _
 ·split
  ·exact code_of _ rfl
  ·exact code_of _ rfl
theorem has_code (m:DM) (x:Int) (D:List UInt8):Code (hasM m x D).2:=by
 unfold hasM
 split
 ·exact code_of _ rfl
 ·exact get_code _ _ _
theorem take_code (m:DM) (D:List UInt8):Code (takeM m D).2:=seq_code (op_code _ _) fun _=>op_code _ _
theorem takes_code:∀ (l:List ByteArray) (m:DM),Code (takesM l m).2
 |[],_=>code_of _ rfl
 |_ :: l,_=>seq_code (op_code _ _) fun m=>takes_code l m
theorem open_code (m:DM) (x:Int):Code (openM m x).2:=by
 unfold openM
 split
 ·exact code_of _ rfl
 ·refine seq_code (takes_code _ _) fun m'=>?_
  split
  ·exact code_of _ rfl
  ·exact op_code _ _
theorem putM_lenB (m:DM) (x:Int) (t:ByteArray):(putM m x t).2.1.length=32:=by
 have h:=shaU_len x t
 unfold putM
 split
 ·rfl
 ·split
  ·split
   ·exact h
   ·rfl
  ·split
   ·exact h
   ·rfl
def filesM (m:DM) (x kd:Int) (t:ByteArray) (N:Int) (ks:List Int):DM :=
 if kd=5 then m.arm N ks else if kd=6 then m.crash ks else if kd=7 then m.revive
 else if kd=9 then ((m.op (.create (foreignM x t N))).1.op (.write (foreignM x t N) t)).1
 else if kd=10 then (m.op (.sync (foreignM x t N))).1 else if kd=11 then (m.op (.remove (foreignM x t N))).1 else m
def storeM (m:DM) (x kd:Int) (t:ByteArray) (N:Int):DM :=
 if kd=0 then (putM m x t).1 else if kd=4 then (takeM m (askM x t N)).1 else m
structure TabP (m:DM) (N:Nat):Prop where
 short:m.Short
 fit:FitN m N
theorem TabP.more {m:DM} {N N':Nat} (h:TabP m N) (hn:N≤N'):TabP m N':=⟨h.short,h.fit.more hn⟩
theorem TabP.op {m:DM} {N:Nat} (h:TabP m N) (c:DCall):TabP (m.op c).1 (N+1):=⟨op_short h.short c,(op_fit h.fit c).more (by cases c <;> first | exact Nat.le_refl _ | exact Nat.le_succ _)⟩
theorem TabP.files {m:DM} {N:Nat} (h:TabP m N) (x kd:Int) (t:ByteArray) (z:Int) (ks:List Int):TabP (filesM m x kd t z ks) (N+2):=by
 have h2:=h.more (Nat.le_add_right N 2)
 unfold filesM
 split
 ·exact ⟨h2.short,h2.fit⟩
 split
 ·exact ⟨crash_short h2.short ks,crash_fit h2.fit ks⟩
 split
 ·exact ⟨h2.short,h2.fit⟩
 split
 ·exact (h.op _).op _
 split
 ·exact (h.op _).more (Nat.le_succ _)
 split
 ·exact (h.op _).more (Nat.le_succ _)
 ·exact h2
theorem TabP.store {m:DM} {N:Nat} (h:TabP m N) (x kd:Int) (t:ByteArray) (z:Int):TabP (storeM m x kd t z) (N+2):=by
 unfold storeM
 split
 ·exact ⟨put_short h.short x t,put_fit h.fit x t⟩
 split
 ·exact ⟨take_short h.short _,(take_fit h.fit _).more (Nat.le_add_right _ _)⟩
 ·exact h.more (Nat.le_add_right _ _)
theorem TabP.opens {m:DM} {N:Nat} (h:TabP m N) (x:Int):TabP (openM m x).1 N:=⟨open_short h.short x,open_fit h.fit x⟩
theorem TabP.new (r:Int):TabP (DM.new r) 0:=⟨new_short r,⟨Nat.le_refl _,Nat.le_refl _⟩⟩
end Go.Proofs.YtecgikanophonaaGreatDoor
/- stratalaw23.alike: two disks of one model have the same files. -/
namespace Go.Proofs.YtecgikanophonaaGreatDoor
open Go Go.RowKit
theorem lists_leB {m:DM} {n:Nat} (h:m.Ok n) (s:ByteArray):(m.lists s).length≤n:=by
 unfold DM.lists
 split
 ·exact Nat.zero_le _
 ·rw [List.length_map]
  exact Nat.le_trans (List.length_filter_le _ _) h.nowN
theorem reads_atB {m:DM} (ho:m.off=false) (hr:Rising m.now) {j:Nat} {p:Bs × Nat} (hp:m.now[j]?=some p):m.reads (nameB p)=(m.files[p.2]!.data,0):=by
 have h1:tget m.now (nameB p).data.toList=some p.2:=tget_of_mem hr (List.mem_of_getElem? hp)
 unfold DM.reads DM.get
 rw [ho,h1]
 rfl
theorem lists_readB {m:DM} {n:Nat} (h:m.Ok n) (hs:m.Short) (t:ByteArray):∀ s∈m.lists t,(m.reads s).2=0∧s.size≤200:=by
 intro s hm
 unfold DM.lists at hm
 cases ho:m.off with
 |true=>rw [ho] at hm;cases hm
 |false =>
  rw [ho] at hm
  obtain ⟨p,hp,rfl⟩:=List.mem_map.1 hm
  have hp:=(List.mem_filter.1 hp).1
  obtain ⟨j,hj⟩:=List.getElem?_of_mem hp
  rw [reads_atB ho h.now hj]
  refine ⟨rfl,?_⟩
  have:=hs.1 p hp
  show p.1.toArray.size≤_
  rw [List.size_toArray]
  exact this
theorem alikeB_any {w w1:World} {P:Nat→Prop} {a n r k:Nat} {m:DM} (h:Pair w w1 P a n m r k m) (hs:m.Short) (hG:ErrT w1) (hn:n≤1000000000) (hk:k≤1000000000) :
  Calls Tryz.prog 31 #[.pointer (some ⟨a,0,none⟩),.pointer (some ⟨r,0,none⟩)] w1 fun e w'=>e=.returned (.bool true)∧Below w1.heap.size w1 w':=by
 obtain ⟨SA,SR,h1,h2,-⟩:=h
 have hroomN:=room_fit h1.ok (show n≤4000000000 by omega)
 have hroomK:k * m.room≤4611686018427387904:=room_fit h2.ok (by omega)
 have HD:=hZ h1
 have HR:=hZ h2
 have HG:=hZ hG
 have hnl:=lists_leB h1.ok ⟨#[]⟩
 have HS:=hZ (short_name hs.1)
 have hls:=lists_readB HD.out.ok hs ⟨#[]⟩
 have hrl:=refList_any h2 ⟨#[]⟩ (by omega) HS.out (by show 0≤_;omega)
 have hlc:=fun W (hb:Below w1.heap.size w1 W)=>list_any (HD.out.below hb) ⟨#[]⟩ (by omega)
 obtain ⟨x,hx⟩:∃ x:Int,(if m.off=true then 27 else 0)=x:=⟨_,rfl⟩
 have hx2:x=0∨(1≤x∧x≤32):=by rw [← hx];split <;> omega
 rw [hx] at hlc hrl
 generalize m.lists ⟨#[]⟩=L0 at hlc hrl hnl hls
 obtain ⟨N,hN⟩:∃ N,L0.length=N:=⟨_,rfl⟩
 have HL8:=hZ (show L0.length≤8000000000000 by omega)
 have HLR:=hZ hls
 have HLC:=hZ hlc
 have HX:=hZ hx2
 have HN:=hZ hN
 have hNi:(N:Int)≤1000000000:=by omega
 have HNR:=hZ (show n * m.room≤4611686018427387904∧k * m.room≤4611686018427387904 from ⟨hroomN,hroomK⟩)
 have HKK:=hZ hk
 clear hs hls hlc hx hx2 hN hnl hroomN hroomK h1 h2 hG hn hk
 go_enter Tryz.func31,Tryz.ntmps31
 go_wp2_with fail
 refine hrl.mono ?_
 rintro e w2 ⟨u,rfl,hg,hb2⟩
 obtain ⟨up,uc,rfl⟩:=hg.rd.len
 have hgr:=hg.rd
 rw [HN.out] at hgr ⊢
 have HU2:=hZ hgr
 have HB2:=hZ hb2
 clear hgr hg hb2 hrl
 go_wp2_with fail
 refine (HLC.out w2 HB2.out).mono ?_
 rintro e w3 ⟨v,rfl,hv,hb3⟩
 obtain ⟨vp,vc,rfl⟩:=hv.rd.len
 have hvr:=hv.rd
 rw [HN.out] at hvr ⊢
 have HV:=hZ hvr
 have HU:=hZ (HU2.out.below hb3)
 have HB3:=hZ (HB2.out.trans (hb3.mono HB2.out.size))
 clear hvr hv hb3 HLC
 go_wp2_with fail
 refine (plain_E x HX.out x w3 (HG.out.below HB3.out HG.out.2)).mono ?_
 rintro e w4 ⟨rfl,hb4⟩
 rw [beq_self_eq_true]
 have HV4:=hZ (HV.out.below hb4)
 have HU4:=hZ (HU.out.below hb4)
 have HB4:=hZ (HB3.out.trans (hb4.mono HB3.out.size))
 clear hb4
 go_wp2_with fail
 refine (same_texts w4 (.slice vp N vc) (.slice up N uc) L0 L0 HV4.out HU4.out HL8.out).mono ?_
 rintro e w5 ⟨rfl,hb5⟩
 have hsm:sameT L0 L0=true:=by unfold sameT;exact decide_eq_true rfl
 rw [hsm]
 have HU5:=hZ (HU4.out.below hb5)
 have HB5:=hZ (HB4.out.trans (hb5.mono HB4.out.size))
 clear hb5 hsm
 go_wp2_with fail
 go_loopw [9] (fun iv wr=>∃ i:Nat,i≤N∧iv=.int .i64 i∧Hid (Below w5.heap.size w5 wr)) (fun iv _=>N - (intOf iv).toNat)
 case atStart=>exact ⟨0,Nat.zero_le _,rfl,hZ (Below.refl _ _)⟩
 case round =>
  obtain ⟨i,hi,rfl,hb⟩:=hrel
  by_cases hlt:(i:Int) < (N:Int)
  ·obtain ⟨t,ht⟩:∃ t,L0[i]?=some t:=⟨_,List.getElem?_eq_getElem (i:=i) (by have:=HN.out;omega)⟩
   obtain ⟨vp',vc',ev,hv⟩:=HU5.out
   cases ev
   obtain ⟨vb,vo,rfl,hvl,hvc⟩:=hv i t ht
   have hbw:=HB5.out.trans (hb.out.mono HB5.out.size)
   have d0:wr.cell? ⟨vb,vo+i,none⟩=some (.string t):=(hb.out.cell (p:=⟨vb,vo+i,none⟩) hvl).trans hvc
   have hr:=HLR.out t (List.mem_of_getElem? ht)
   have hrr:=refRead_any (HR.out.below hbw) t (by have:=HKK.out;omega)
   rw [hr.1] at hrr
   have hrd:∀ W,Below wr.heap.size wr W→Calls Tryz.prog 34 #[.pointer (some ⟨a,0,none⟩),.string t] W fun e w'=>e=.returned (.tuple #[.string (m.reads t).1,.nilIface])∧W=w':=fun W hw=>by
    have h1:=read_any (HD.out.below (hbw.trans (hw.mono hbw.size))) t (by unfold maxLen;omega)
    rw [hr.1] at h1
    exact h1
   have HRD:=hZ hrd
   have HLT:=hZ (show vb < wr.heap.size from Nat.lt_of_lt_of_le hvl hb.out.size)
   generalize (m.reads t).1=d at HRD hrr
   clear ht hv hvl hvc hr hrd hbw
   go_wp2_with fail
   refine hrr.mono ?_
   rintro e w6 ⟨rfl,q,rfl⟩
   have d1:(wr.drewN q).cell? ⟨vb,vo+i,none⟩=some (.string t):=d0
   have hbq:Below wr.heap.size wr (wr.drewN q):=⟨rfl,rfl,rfl,Nat.le_refl _,fun _ _=>rfl⟩
   have HBQ:=hZ (hb.out.trans (hbq.mono hb.out.size))
   have hrd2:=HRD.out _ hbq
   clear hbq hrr
   go_wp2_with fail
   refine hrd2.mono ?_
   rintro e w7 ⟨rfl,rfl⟩
   clear hrd2
   have hdd:(d.toList == d.toList)=true:=beq_self_eq_true _
   go_wp2_with fail
   refine ⟨⟨i+1,by omega,by rw [Int.natCast_add];rfl,HBQ⟩,by simp [intOf];omega⟩
  ·have hbw:=HB5.out.trans (hb.out.mono HB5.out.size)
   have hus:=used_any (HD.out.below hbw) HNR.out.1
   have hru:=fun W (hw:Below w1.heap.size w1 W)=>refUsed_any (HR.out.below hw) HNR.out.2 (by have:=HKK.out;omega)
   have HBW:=hZ hbw
   have HRU:=hZ hru
   clear hbw hru
   go_wp2_with fail
   refine hus.mono ?_
   rintro e w6 ⟨rfl,hb6⟩
   have HB6:=hZ (HBW.out.trans (hb6.mono HBW.out.size))
   clear hb6 hus
   go_wp2_with fail
   refine (HRU.out _ HB6.out).mono ?_
   rintro e w7 ⟨rfl,q,rfl⟩
   go_wp2_with fail
   go_ret
   exact ⟨by simp,⟨HB6.out.os,HB6.out.tape,HB6.out.output,HB6.out.size,HB6.out.block⟩⟩
end Go.Proofs.YtecgikanophonaaGreatDoor
/- BlobsPlays: the beginning; the law's own boxes are written. -/
namespace Go.Proofs.YtecgikanophonaaGreatDoor
open Go Go.RowKit
section
variable {w W W1 W2:World} {a r n k:Nat} {m mr:DM} {Ks:List (Nat × Obj)}
theorem PlayB.set (h:PlayB w a r W n m k mr Ks) {b:Nat} {o o':Obj} (hm:(b,o)∈Ks) (hw:w.heap.size≤b) (g1:3 < w.heap.size) (g2:2 < w.heap.size) (g3:0 < w.heap.size) (Js:List (Nat × Obj)) (hJ:∀ q∈Js,q=(b,o')∨(q∈Ks∧q.1≠b)):PlayB w a r (setBlk W b o') n m k mr Js:=by
 obtain ⟨P,⟨SA,SR,h1,h2,h3,h4,h5,h6⟩,p1,p2,p3,p4⟩:=h.pair
 have hP:P b:=p4 _ hm
 have hlt:=blk_lt (h.kept _ hm)
 refine ⟨⟨P,⟨SA,SR,h1.frameS (fun c hc=>setBlk_other (fun e=>(h3 c hc).2.1 (e ▸ hP))),h2.frameS (fun c hc=>setBlk_other (fun e=>(h4 c hc).2 (e ▸ hP))),h3,h4,h5.setBlk hw,fun c hc=>by rw [setBlk_size];exact h6 c hc⟩,p1,p2,p3,fun q hq=>?_⟩,h.rt.same (setBlk_other (by omega)) (by rw [setBlk_size];exact h.rt.2),h.rr.same (setBlk_other (by omega)) (by rw [setBlk_size];exact h.rr.2),h.bg.same (setBlk_other (by omega)) (by rw [setBlk_size];exact h.bg.2),fun q hq=>?_⟩
 ·rcases hJ q hq with rfl | ⟨hq,-⟩
  ·exact hP
  ·exact p4 q hq
 ·rcases hJ q hq with rfl | ⟨hq,hne⟩
  ·exact setBlk_heap hlt
  ·exact (setBlk_other hne).trans (h.kept q hq)
theorem PlayB.start (hT:RoundsT w) (hR:RoundsR w) (hB:BeginR w) {rm:Int} (hd:DiskAt W1 a 0 (DM.new rm) (fun b=>w.heap.size≤b∧b < W1.heap.size)) (hb1:Below w.heap.size w W1) (hr:RefAt W2 r 0 (DM.new rm) (fun b=>W1.heap.size≤b∧b < W2.heap.size)) (hb2:Below W1.heap.size W1 W2):PlayB w a r W2 0 (DM.new rm) 0 (DM.new rm) []:=by
 have hz:=hb1.size
 have hb:=hb1.trans (hb2.mono hz)
 exact ⟨⟨fun b=>b < w.heap.size,⟨_,_,hd.below hb2,hr,fun x hx=>⟨hx.1,Nat.not_lt.2 hx.1,fun hp=>Nat.not_lt.2 hp.1 hx.2⟩,fun x hx=>⟨Nat.le_trans hz hx.1,Nat.not_lt.2 (Nat.le_trans hz hx.1)⟩,hb,fun b hb3=>Nat.lt_of_lt_of_le hb3 hb.size⟩,hT.2,hR.2,hB.2,fun q hq=>by cases hq⟩,hT.belowR hb,hR.bel hb,hB.bel hb,fun q hq=>by cases hq⟩
end
end Go.Proofs.YtecgikanophonaaGreatDoor
/- BlobsPlays: acts among the arguments; the law's boxes; a region that gathers numbers and hands them on. -/
namespace Go.Proofs.YtecgikanophonaaGreatDoor
open Go Go.RowKit
structure ActM where
 kind:Int
 text:ByteArray
 num:Int
 keep:List Int
def ActM.cells (m:ActM) (kv:Value):Array Value:=#[.int .i64 m.kind,.string m.text,.int .i64 m.num,kv]
def bigI (x:Int):Prop:=-9223372036854775808≤x∧x≤9223372036854775807
def ActM.Fits (m:ActM):Prop:=bigI m.kind∧bigI m.num∧m.text.size≤140737488351232∧m.keep.length * 8≤140737488351232
def ActsAt (w:World) (v:Value) (l:List ActM):Prop :=
 ∃ p cap,v=.slice p l.length cap∧∀ i m,l[i]?=some m→∃ b off kv,p=some ⟨b,off,none⟩∧b < w.heap.size∧(∀ j,j < 4→w.cell? ⟨b,off+(i * 4+j),none⟩=(m.cells kv)[j]?)∧IntsIn w kv m.keep
theorem IntsIn.bounds {w:World} {kv:Value} {ks:List Int} (h:IntsIn w kv ks):∀ k∈ks,-9223372036854775808≤k∧k≤9223372036854775807:=fun k hk=>by
 obtain ⟨j,hj,hjk⟩:=List.getElem_of_mem hk
 obtain ⟨p,cap,-,-,h3⟩:=h
 exact (h3 j k (by rw [List.getElem?_eq_getElem hj,hjk])).1
theorem IntsIn.slice {w:World} {kv:Value} {ks:List Int} (h:IntsIn w kv ks):∃ p c,kv=.slice p ks.length c:=by
 obtain ⟨p,cap,h1,-,-⟩:=h
 exact ⟨p,cap,h1⟩
def actP (k:Int) (t:ByteArray) (n:Int) (v:Value):Obj:=.cells #[.int .i64 k,.string t,.int .i64 n,v] 52 (0,0)
def worldO (a:Nat) (sp:Option Addr) (r:Nat) (qp:Option Addr):Obj:=.cells #[.pointer (some ⟨a,0,none⟩),.pointer sp,.pointer (some ⟨r,0,none⟩),.pointer qp] 68 (0,0)
def digO3 (D:List UInt8):Obj:=.cells (D.map byteV).toArray 33 (0,0)
theorem PlayB.cel {w W:World} {a r n k:Nat} {m mr:DM} {Ks:List (Nat × Obj)} (h:PlayB w a r W n m k mr Ks) {b:Nat} {c:Array Value} {t:TypeId} (hm:(b,.cells c t (0,0))∈Ks) (i:Nat):W.cell? ⟨b,i,none⟩=c[i]?:=cell_of_heapN (h.kept _ hm)
theorem PlayB.wcel {w W:World} {a r n k a' r':Nat} {m mr:DM} {Ks:List (Nat × Obj)} {sp qp:Option Addr} (h:PlayB w a r W n m k mr Ks) (wb:Nat) (hm:(wb,worldO a' sp r' qp)∈Ks):W.cell? ⟨wb,0,none⟩=some (.pointer (some ⟨a',0,none⟩))∧W.cell? ⟨wb,1,none⟩=some (.pointer sp)∧W.cell? ⟨wb,2,none⟩=some (.pointer (some ⟨r',0,none⟩))∧W.cell? ⟨wb,3,none⟩=some (.pointer qp) :=
 ⟨h.cel hm 0,h.cel hm 1,h.cel hm 2,h.cel hm 3⟩
theorem PlayB.acel {w W:World} {a r n k:Nat} {m mr:DM} {Ks:List (Nat × Obj)} {x y:Int} {s:ByteArray} {v:Value} (h:PlayB w a r W n m k mr Ks) (ab:Nat) (hm:(ab,actP x s y v)∈Ks):W.cell? ⟨ab,0,none⟩=some (.int .i64 x)∧W.cell? ⟨ab,1,none⟩=some (.string s)∧W.cell? ⟨ab,2,none⟩=some (.int .i64 y)∧W.cell? ⟨ab,3,none⟩=some v :=
 ⟨h.cel hm 0,h.cel hm 1,h.cel hm 2,h.cel hm 3⟩
theorem mem1 {α:Type} {a b:α} {l:List α}:b∈a :: b :: l:=List.mem_cons_of_mem _ (List.mem_cons_self ..)
structure ArmG (c f:Nat) (ds:List (List Nat)) (w5:World) (KL:Nat) (ks:List Int) (F:World→Prop) (L:Nat→Bool) (γ:Option Addr × Nat) (W:World):Prop where
 bel:L f=false→Below w5.heap.size w5 W
 row:L c=true→L f=false→GathI w5 W (.slice γ.1 KL γ.2) ks
 fin:L f=true→F W
 all:L f=true→∀ j,j < f→L j=true
 cl:∀ i,L i=true→∀ j∈ds.getD i [],L j=true
section
variable {c f:Nat} {ds:List (List Nat)} {w5 W W':World} {KL:Nat} {ks:List Int} {F:World→Prop} {L:Nat→Bool} {γ:Option Addr × Nat}
theorem ArmG.off (h:ArmG c f ds w5 KL ks F L γ W) {i:Nat} (hL:L i=false) (hi:i < f):L f=false:=by
 cases hx:L f with
 |false=>rfl
 |true=>rw [h.all hx i hi] at hL;cases hL
theorem cl_upd (h:∀ i,L i=true→∀ j∈ds.getD i [],L j=true) (k:Nat) (hd:∀ j∈ds.getD k [],L j=true):∀ i,updL L k i=true→∀ j∈ds.getD i [],updL L k j=true:=fun i hi j hj=>by
 by_cases e:i=k
 ·subst e;exact updL_keep (hd j hj)
 ·exact updL_keep (h i (updL_of hi e) j hj)
theorem ArmG.upd (h:ArmG c f ds w5 KL ks F L γ W) (k:Nat) (h1:k≠c) (h2:k≠f) (hd:∀ j∈ds.getD k [],L j=true):ArmG c f ds w5 KL ks F (updL L k) γ W:=by
 have e1:updL L k c=L c:=updL_ne h1.symm
 have e2:updL L k f=L f:=updL_ne h2.symm
 exact ⟨fun a=>h.bel (e2 ▸ a),fun a b=>h.row (e1 ▸ a) (e2 ▸ b),fun a=>h.fin (e2 ▸ a),fun a j hj=>updL_keep (h.all (e2 ▸ a) j hj),cl_upd h.cl k hd⟩
theorem ArmG.called (h:ArmG c f ds w5 KL ks F L γ W) (hcf:c < f) (hL:L c=false) (hd:∀ j∈ds.getD c [],L j=true) {u:Option Addr} {q:Nat} (hg:GathI W W' (.slice u KL q) ks):ArmG c f ds w5 KL ks F (updL L c) (u,q) W':=by
 have h7:=h.off hL hcf
 have e2:updL L c f=L f:=updL_ne (by omega)
 have hb:=h.bel h7
 have hb2:=hb.trans (hg.bel.mono hb.size)
 have hro:W'.ownsRow w5.heap.size 3 1 (.slice u KL q) ks.length (ks.map (Value.int .i64)):=by
  refine ⟨hg.row.1,?_⟩
  rcases hg.row.2 with h1 | ⟨g,cap,cur,h1,h2,h3⟩
  ·exact .inl h1
  ·exact .inr ⟨g,cap,cur,h1,Nat.le_trans hb.size h2,h3⟩
 refine ⟨fun _=>hb2,fun _ _=>⟨hro,hb2⟩,fun a=>?_,fun a=>?_,cl_upd h.cl c hd⟩
 ·rw [e2,h7] at a;cases a
 ·rw [e2,h7] at a;cases a
theorem ArmG.done (h:ArmG c f ds w5 KL ks F L γ W) (hd:∀ j∈ds.getD f [],L j=true) (hall:∀ j,j < f→L j=true) (hf:F W'):ArmG c f ds w5 KL ks F (updL L f) γ W':=by
 refine ⟨fun a=>?_,fun _ a=>?_,fun _=>hf,fun _ j hj=>updL_keep (hall j hj),cl_upd h.cl f hd⟩
 ·rw [updL_self] at a;cases a
 ·rw [updL_self] at a;cases a
end
end Go.Proofs.YtecgikanophonaaGreatDoor
/- stratalaw23's world.files: what is done to the disks. Printed by wip/g35.py. -/
namespace Go.Proofs.YtecgikanophonaaGreatDoor
open Go Go.RowKit
theorem files_any {w W:World} {a r n k q:Nat} {sp:Option Addr} {x:Int} {m:DM} {Ks:List (Nat × Obj)} (h:PlayB w a r W n m k m Ks) (hq:(q,storeR r x)∈Ks) (hG:ErrT w) (hn:n+2≤1000000000) (hk:k+2≤1000000000)
  (kd0 num:Int) (txt:ByteArray) (keep:List Int) (f1:bigI kd0) (f2:bigI num) (f3:txt.size≤140737488351232) (f4:keep.length * 8≤140737488351232) (kp:Option Addr) (KL kc:Nat) (hkv:IntsIn w (.slice kp KL kc) keep) (hkl:keep.length=KL)
  (hkd:pick kd0 12=5∨pick kd0 12=6∨pick kd0 12=7∨pick kd0 12=9∨pick kd0 12=10∨pick kd0 12=11) :
  Calls Tryz.prog 29 #[.agg #[.pointer (some ⟨a,0,none⟩),.pointer sp,.pointer (some ⟨r,0,none⟩),.pointer (some ⟨q,0,none⟩)],.agg #[.int .i64 kd0,.string txt,.int .i64 num,.slice kp KL kc]] W fun e W'=>e=.returned (.bool true)∧PlayB w a r W' (n+2) (filesM m x (pick kd0 12) txt num keep) (k+2) (filesM m x (pick kd0 12) txt num keep) Ks:=by
 obtain ⟨f1a,f1b⟩:=f1
 obtain ⟨f2a,f2b⟩:=f2
 have HF3:=hZ f3
 have HF4:=hZ f4
 have HG:=hZ hG
 have HKI:=hZ hkv
 have HKB:=hZ hkv.bounds
 have HKL:=hZ hkl
 have HNK:=hZ (show n+2≤1000000000∧k+2≤1000000000 from ⟨hn,hk⟩)
 have hpk:=fun W=>pick_any kd0 12 W (by decide) (by decide) f1a f1b
 obtain ⟨kd,hkd2⟩:∃ z,pick kd0 12=z:=⟨_,rfl⟩
 rw [hkd2] at hpk hkd ⊢
 have HPK:=hZ hpk
 have HKD:=hZ hkd
 obtain ⟨W0,hW0⟩:∃ W0,(W.alloc (.cells #[.pointer (some ⟨a,0,none⟩),.pointer sp,.pointer (some ⟨r,0,none⟩),.pointer (some ⟨q,0,none⟩)] 68)).alloc (.cells #[.int .i64 kd0,.string txt,.int .i64 num,.slice kp KL kc] 52)=W0:=⟨_,rfl⟩
 obtain ⟨wb,hwb⟩:∃ b,W.heap.size=b:=⟨_,rfl⟩
 obtain ⟨ab,hab⟩:∃ b,wb+1=b:=⟨_,rfl⟩
 have hp1:=h.keep (W':=W.alloc (worldO a sp r (some ⟨q,0,none⟩))) ((Below.refl _ _).alloc (Nat.le_refl _) _) (Nat.le_refl _) (heap_new _ _)
 have hp2:=hp1.keep (W':=(W.alloc (worldO a sp r (some ⟨q,0,none⟩))).alloc (actP kd0 txt num (.slice kp KL kc))) ((Below.refl _ _).alloc (Nat.le_refl _) _) (Nat.le_refl _) (heap_new _ _)
 rw [World.size_alloc,hwb,hab] at hp2
 have hp0:PlayB w a r W0 n m k m ((ab,actP kd0 txt num (.slice kp KL kc)) :: (wb,worldO a sp r (some ⟨q,0,none⟩)) :: Ks):=by rw [← hW0];exact hp2
 obtain ⟨Js,hJs⟩:∃ Js,(ab,actP kd0 txt num (.slice kp KL kc)) :: (wb,worldO a sp r (some ⟨q,0,none⟩)) :: Ks=Js:=⟨_,rfl⟩
 have HP0:=hZ hp0
 have HQ:Hid ((q,storeR r x)∈Ks):=hZ hq
 clear h hp1 hp2 hp0 hkd hpk hkd2 hG hkv hkl hn hk f3 f4 hq
 obtain ⟨b0,-,b2,-⟩:=HP0.out.wcel wb mem1
 obtain ⟨a0,a1,a2,a3⟩:=HP0.out.acel ab (List.mem_cons_self ..)
 have q1:=HP0.out.cel (b:=q) (c:=#[.pointer (some ⟨r,0,none⟩),.int .i64 x]) (t:=70) (by have h9:=HQ.out;unfold storeR at h9;simp [h9]) 1
 have b3:=HP0.out.cel (b:=wb) (c:=#[.pointer (some ⟨a,0,none⟩),.pointer sp,.pointer (some ⟨r,0,none⟩),.pointer (some ⟨q,0,none⟩)]) (t:=68) (by simp [worldO]) 3
 simp only [List.getElem?_toArray,List.getElem?_cons_zero,List.getElem?_cons_succ] at q1 b3
 have HAW:Hid (∀ V,Below W0.heap.size W0 V→V.cell? ⟨ab,0,none⟩=some (.int .i64 kd0)∧V.cell? ⟨ab,1,none⟩=some (.string txt)∧V.cell? ⟨ab,2,none⟩=some (.int .i64 num)∧V.cell? ⟨ab,3,none⟩=some (.slice kp KL kc)∧V.cell? ⟨wb,3,none⟩=some (.pointer (some ⟨q,0,none⟩))∧V.cell? ⟨q,1,none⟩=some (.int .i64 x)):=hZ (fun V hV=>by
  have l1:=blk_lt (HP0.out.kept (ab,actP kd0 txt num (.slice kp KL kc)) (by simp))
  have l2:=blk_lt (HP0.out.kept (wb,worldO a sp r (some ⟨q,0,none⟩)) (by simp))
  have l3:=blk_lt (HP0.out.kept (q,storeR r x) (by have h9:=HQ.out;simp [h9]))
  exact ⟨(hV.cell (p:=⟨ab,0,none⟩) l1).trans a0,(hV.cell (p:=⟨ab,1,none⟩) l1).trans a1,(hV.cell (p:=⟨ab,2,none⟩) l1).trans a2,(hV.cell (p:=⟨ab,3,none⟩) l1).trans a3,(hV.cell (p:=⟨wb,3,none⟩) l2).trans b3,(hV.cell (p:=⟨q,1,none⟩) l3).trans q1⟩)
 have HW0:=hZ hW0
 rw [hJs] at HP0
 have HJS:=hZ hJs
 clear b0 b2 a0 a1 a2 a3 q1 b3 hJs
 go_enter Tryz.func29,Tryz.ntmps29
 go_wp2_with fail
 have hI0:Below W0.heap.size W0 W0.drew:=⟨rfl,rfl,rfl,Nat.le_refl _,fun _ _=>rfl⟩
 refine wp_region_inv (fun V=>Below W0.heap.size W0 V) 6 (by kernel_rfl) (by kernel_rfl) hI0 ?_
 simp only [List.take_succ_cons,List.take_zero,List.drop_succ_cons,List.drop_zero]
 refine ⟨_,yi_still rfl (fun V hI=>by obtain ⟨a0,a1,a2,a3,b3,q1⟩:=HAW.out V hI;go_simp;rfl),?_⟩
 refine ⟨_,yi_still rfl (fun V hI=>by go_simp;rfl),?_⟩
 refine ⟨_,yi_still rfl (fun V hI=>by obtain ⟨a0,a1,a2,a3,b3,q1⟩:=HAW.out V hI;go_simp;rfl),?_⟩
 refine ⟨_,yi_still rfl (fun V hI=>by go_simp;rfl),?_⟩
 refine ⟨_,yi_still rfl (fun V hI=>by go_simp;rfl),?_⟩
 refine ⟨_,yi_still rfl (fun V hI=>by obtain ⟨a0,a1,a2,a3,b3,q1⟩:=HAW.out V hI;go_simp;rfl),?_⟩
 rintro W3 hI3
 change wpList _ _ _ _ _ W3
 simp only [Act.put,List.setIfInBounds_toArray,List.set_cons_succ,List.set_cons_zero]
 have hp3:=HP0.out.bel hI3
 have hfo:=foreign_any x kd0 num txt (.slice kp KL kc) W3 rfl ⟨f2a,f2b⟩ hp3.rr hp3.bg (by have:=HF3.out;omega)
 have HP3:=hZ hp3
 have hfs:=foreignM_size x txt num
 obtain ⟨F,hF⟩:∃ F,foreignM x txt num=F:=⟨_,rfl⟩
 rw [hF] at hfo hfs
 have HF:=hZ hF
 have HFS:=hZ hfs
 clear hI0 hI3 hp3 hF hfs
 go_wp2_with fail
 refine hfo.mono ?_
 rintro e w3 ⟨rfl,hb⟩
 have HP4:=hZ (HP3.out.bel hb)
 rw [← HJS.out] at HP4
 clear hb hfo
 obtain ⟨b0,-,b2,-⟩:=HP4.out.wcel wb mem1
 obtain ⟨a0,a1,a2,a3⟩:=HP4.out.acel ab (List.mem_cons_self ..)
 go_wp2_with fail
 refine (HPK.out _).mono ?_
 rintro e w4 ⟨rfl,rfl⟩
 clear b0 b2 a0 a1 a2 a3 HPK
 by_cases h5:kd=5
 ·subst h5
  have hfm:filesM m x 5 txt num keep=m.arm num keep:=rfl
  have HFM:=hZ hfm
  have hr1:=HP4.out.rarm HKI.out (by have:=HF4.out;omega) num f2b
  clear hfm
  obtain ⟨b0,-,b2,-⟩:=HP4.out.wcel wb mem1
  obtain ⟨a0,a1,a2,a3⟩:=HP4.out.acel ab (List.mem_cons_self ..)
  go_wp2_with fail
  refine hr1.mono ?_
  rintro e W7 ⟨rfl,hp7⟩
  have HP7:=hZ hp7
  clear hp7 hr1
  clear b0 b2 a0 a1 a2 a3
  obtain ⟨b0,-,b2,-⟩:=HP7.out.wcel wb mem1
  obtain ⟨a0,a1,a2,a3⟩:=HP7.out.acel ab (List.mem_cons_self ..)
  have HCwb0:=hZ b0
  have HCab2:=hZ a2
  have HCab3:=hZ a3
  have HWB:Hid (wb < W7.heap.size):=hZ (blk_lt (HP7.out.kept (wb,worldO a sp r (some ⟨q,0,none⟩)) (by simp)))
  have HAB:Hid (ab < W7.heap.size):=hZ (blk_lt (HP7.out.kept (ab,actP kd0 txt num (.slice kp KL kc)) (by simp)))
  clear b0 b2 a0 a1 a2 a3
  go_wp2_with fail
  have hI0:ArmG 6 8 [[],[0],[],[2],[],[4],[5],[6],[1,3,7,6]] W7 KL keep (fun W=>PlayB w a r W n (m.arm num keep) k (m.arm num keep) ((ab,actP kd0 txt num (.slice kp KL kc)) :: (wb,worldO a sp r (some ⟨q,0,none⟩)) :: Ks)) (fun _=>false) (none,0) W7.drew:=⟨fun _=>⟨rfl,rfl,rfl,Nat.le_refl _,fun _ _=>rfl⟩,fun h=>(by cases h),fun h=>(by cases h),fun h=>(by cases h),fun _ h=>(by cases h)⟩
  refine wp_region_flowG (fun γ:Option Addr × Nat=>[.pointer (some ⟨wb,0,none⟩),.pointer (some ⟨a,0,none⟩),.pointer (some ⟨ab,2,none⟩),.int .i64 num,.pointer (some ⟨ab,3,none⟩),.slice kp KL kc,.slice γ.1 KL γ.2,.agg #[.slice γ.1 KL γ.2],.tuple #[]]) (ArmG 6 8 [[],[0],[],[2],[],[4],[5],[6],[1,3,7,6]] W7 KL keep (fun W=>PlayB w a r W n (m.arm num keep) k (m.arm num keep) ((ab,actP kd0 txt num (.slice kp KL kc)) :: (wb,worldO a sp r (some ⟨q,0,none⟩)) :: Ks)))
   [[],[0],[],[2],[],[4],[5],[6],[1,3,7,6]] 124 (none,0) mixedD rfl (by kernel_rfl) (fun _=>rfl) hI0 ?_ ?_
  ·refine ⟨?_,?_,?_,?_,?_,?_,?_,?_,?_,rfl⟩
   all_goals intro L γ W ev hL hd hW hc hf hg he h0
   ·have e2:ev (.tmp 2)=.pointer (some ⟨wb,0,none⟩):=h0 2 rfl
    clear he h0 hc hf hg
    exact flS rfl (by go_simp <;> rfl) (hW.upd 0 (by decide) (by decide) hd) rfl
   ·have e33:ev (.tmp 33)=.pointer (some ⟨wb,0,none⟩):=he 0 (by decide) _ 33 rfl rfl
    have cc:W.cell? ⟨wb,0,none⟩=some (.pointer (some ⟨a,0,none⟩)):=((hW.bel (hW.off hL (by decide))).cell (p:=⟨wb,0,none⟩) HWB.out).trans HCwb0.out
    clear he h0 hc hf hg
    exact flS rfl (by go_simp <;> rfl) (hW.upd 1 (by decide) (by decide) hd) rfl
   ·have e3:ev (.tmp 3)=.pointer (some ⟨ab,0,none⟩):=h0 3 rfl
    clear he h0 hc hf hg
    exact flS rfl (by go_simp <;> rfl) (hW.upd 2 (by decide) (by decide) hd) rfl
   ·have e35:ev (.tmp 35)=.pointer (some ⟨ab,2,none⟩):=he 2 (by decide) _ 35 rfl rfl
    have cc:W.cell? ⟨ab,2,none⟩=some (.int .i64 num):=((hW.bel (hW.off hL (by decide))).cell (p:=⟨ab,2,none⟩) HAB.out).trans HCab2.out
    clear he h0 hc hf hg
    exact flS rfl (by go_simp <;> rfl) (hW.upd 3 (by decide) (by decide) hd) rfl
   ·have e3:ev (.tmp 3)=.pointer (some ⟨ab,0,none⟩):=h0 3 rfl
    clear he h0 hc hf hg
    exact flS rfl (by go_simp <;> rfl) (hW.upd 4 (by decide) (by decide) hd) rfl
   ·have e37:ev (.tmp 37)=.pointer (some ⟨ab,3,none⟩):=he 4 (by decide) _ 37 rfl rfl
    have cc:W.cell? ⟨ab,3,none⟩=some (.slice kp KL kc):=((hW.bel (hW.off hL (by decide))).cell (p:=⟨ab,3,none⟩) HAB.out).trans HCab3.out
    clear he h0 hc hf hg
    exact flS rfl (by go_simp <;> rfl) (hW.upd 5 (by decide) (by decide) hd) rfl
   ·have e38:ev (.tmp 38)=.slice kp KL kc:=he 5 (by decide) _ 38 rfl rfl
    clear he h0 hc hg
    have hb:=hW.bel (hW.off hL (by decide))
    have hki:IntsRd (fun _=>False) W (.slice kp KL kc) keep:=HKI.out.rd (HP7.out.toB.trans (hb.mono HP7.out.toB.size)) (fun _ h=>h.elim)
    refine .inl ⟨rfl,.inr (.inr ⟨21,#[.slice kp KL kc],W,(by have hff:=hf 21;clear hf;go_simp <;> rfl),?_⟩)⟩
    refine (copyInts_any hki (by have:=HF4.out;omega)).mono ?_
    rintro e w' ⟨u,rfl,hg⟩
    obtain ⟨up,uc,rfl⟩:=row_slice hg.row
    have hg2:GathI W w' (.slice up KL uc) keep:=by have h9:=hg;rw [HKL.out] at h9;exact h9
    refine ⟨_,rfl,(up,uc),hW.called (by decide) hL hd hg2,by show Value.slice up KL uc=_;rw [HKL.out],fun j hj=>?_⟩
    have hj2:j≠6∧j≠7:=⟨fun e=>(by subst e;rw [hL] at hj;cases hj),fun e=>(by subst e;have h9:=hW.cl 7 hj 6 (by decide);rw [hL] at h9;cases h9)⟩
    match j,hj2 with
    |0,_ | 1,_ | 2,_ | 3,_ | 4,_ | 5,_ | 8,_=>rfl
    |6,h=>exact absurd rfl h.1
    |7,h=>exact absurd rfl h.2
    |n+9,_=>rfl
   ·have e39:ev (.tmp 39)=.slice γ.1 KL γ.2:=he 6 (by decide) _ 39 rfl rfl
    clear he h0 hc hf hg
    exact flS rfl (by go_simp <;> rfl) (hW.upd 7 (by decide) (by decide) hd) rfl
   ·have e34:ev (.tmp 34)=.pointer (some ⟨a,0,none⟩):=he 1 (by decide) _ 34 rfl rfl
    have e36:ev (.tmp 36)=.int .i64 num:=he 3 (by decide) _ 36 rfl rfl
    have e40:ev (.tmp 40)=.agg #[.slice γ.1 KL γ.2]:=he 7 (by decide) _ 40 rfl rfl
    clear he h0 hc hg
    have q7:L 7=true:=hd 7 (by decide)
    have q6:L 6=true:=hW.cl 7 q7 6 (by decide)
    have q5:L 5=true:=hW.cl 6 q6 5 (by decide)
    have q4:L 4=true:=hW.cl 5 q5 4 (by decide)
    have q3:L 3=true:=hd 3 (by decide)
    have q2:L 2=true:=hW.cl 3 q3 2 (by decide)
    have q1:L 1=true:=hd 1 (by decide)
    have q0:L 0=true:=hW.cl 1 q1 0 (by decide)
    have hall:∀ j,j < 8→L j=true:=fun j hj=>by
     rcases (show j=0∨j=1∨j=2∨j=3∨j=4∨j=5∨j=6∨j=7 by omega) with rfl | rfl | rfl | rfl | rfl | rfl | rfl | rfl
     ·exact q0
     ·exact q1
     ·exact q2
     ·exact q3
     ·exact q4
     ·exact q5
     ·exact q6
     ·exact q7
    have hrow:=hW.row q6 hL
    refine .inl ⟨rfl,.inr (.inr ⟨20,#[.pointer (some ⟨a,0,none⟩),.int .i64 num,.agg #[.slice γ.1 KL γ.2]],W,(by have hff:=hf 20;clear hf;go_simp <;> rfl),?_⟩)⟩
    refine (HP7.out.parm hrow HKB.out (by have:=HF4.out;omega) num f2b).mono ?_
    rintro e w' ⟨rfl,hp6⟩
    exact ⟨_,rfl,.still (hW.done hd hall hp6) rfl⟩
  intro γ L w8 hL hW
  have HP8:=hZ (hW.fin (hL 8 (by decide)))
  clear hL hW hI0
  simp only [putAll,Act.put,List.setIfInBounds_toArray,List.set_cons_succ,List.set_cons_zero]
  go_wp2_with fail
  go_ret
  exact ⟨rfl,by rw [HFM.out];exact (HP8.out.more (by omega) (by omega)).sub (fun q hq=>by simp [hq])⟩
 ·by_cases h6:kd=6
  ·subst h6
   have hfm:filesM m x 6 txt num keep=m.crash keep:=rfl
   have HFM:=hZ hfm
   have hr1:=HP4.out.rcrash HKI.out (by have:=HNK.out;omega)
   clear hfm
   obtain ⟨b0,-,b2,-⟩:=HP4.out.wcel wb mem1
   obtain ⟨a0,a1,a2,a3⟩:=HP4.out.acel ab (List.mem_cons_self ..)
   go_wp2_with fail
   refine hr1.mono ?_
   rintro e W7 ⟨rfl,hp7⟩
   have HP7:=hZ hp7
   clear hp7 hr1
   clear b0 b2 a0 a1 a2 a3
   obtain ⟨b0,-,b2,-⟩:=HP7.out.wcel wb mem1
   obtain ⟨a0,a1,a2,a3⟩:=HP7.out.acel ab (List.mem_cons_self ..)
   have HCwb0:=hZ b0
   have HCab2:=hZ a2
   have HCab3:=hZ a3
   have HWB:Hid (wb < W7.heap.size):=hZ (blk_lt (HP7.out.kept (wb,worldO a sp r (some ⟨q,0,none⟩)) (by simp)))
   have HAB:Hid (ab < W7.heap.size):=hZ (blk_lt (HP7.out.kept (ab,actP kd0 txt num (.slice kp KL kc)) (by simp)))
   clear b0 b2 a0 a1 a2 a3
   go_wp2_with fail
   have hI0:ArmG 4 6 [[],[0],[],[2],[3],[4],[1,5,4]] W7 KL keep (fun W=>PlayB w a r W n (m.crash keep) k (m.crash keep) ((ab,actP kd0 txt num (.slice kp KL kc)) :: (wb,worldO a sp r (some ⟨q,0,none⟩)) :: Ks)) (fun _=>false) (none,0) W7.drew:=⟨fun _=>⟨rfl,rfl,rfl,Nat.le_refl _,fun _ _=>rfl⟩,fun h=>(by cases h),fun h=>(by cases h),fun h=>(by cases h),fun _ h=>(by cases h)⟩
   refine wp_region_flowG (fun γ:Option Addr × Nat=>[.pointer (some ⟨wb,0,none⟩),.pointer (some ⟨a,0,none⟩),.pointer (some ⟨ab,3,none⟩),.slice kp KL kc,.slice γ.1 KL γ.2,.agg #[.slice γ.1 KL γ.2],.tuple #[]]) (ArmG 4 6 [[],[0],[],[2],[3],[4],[1,5,4]] W7 KL keep (fun W=>PlayB w a r W n (m.crash keep) k (m.crash keep) ((ab,actP kd0 txt num (.slice kp KL kc)) :: (wb,worldO a sp r (some ⟨q,0,none⟩)) :: Ks)))
    [[],[0],[],[2],[3],[4],[1,5,4]] 124 (none,0) mixedD rfl (by kernel_rfl) (fun _=>rfl) hI0 ?_ ?_
   ·refine ⟨?_,?_,?_,?_,?_,?_,?_,rfl⟩
    all_goals intro L γ W ev hL hd hW hc hf hg he h0
    ·have e2:ev (.tmp 2)=.pointer (some ⟨wb,0,none⟩):=h0 2 rfl
     clear he h0 hc hf hg
     exact flS rfl (by go_simp <;> rfl) (hW.upd 0 (by decide) (by decide) hd) rfl
    ·have e49:ev (.tmp 49)=.pointer (some ⟨wb,0,none⟩):=he 0 (by decide) _ 49 rfl rfl
     have cc:W.cell? ⟨wb,0,none⟩=some (.pointer (some ⟨a,0,none⟩)):=((hW.bel (hW.off hL (by decide))).cell (p:=⟨wb,0,none⟩) HWB.out).trans HCwb0.out
     clear he h0 hc hf hg
     exact flS rfl (by go_simp <;> rfl) (hW.upd 1 (by decide) (by decide) hd) rfl
    ·have e3:ev (.tmp 3)=.pointer (some ⟨ab,0,none⟩):=h0 3 rfl
     clear he h0 hc hf hg
     exact flS rfl (by go_simp <;> rfl) (hW.upd 2 (by decide) (by decide) hd) rfl
    ·have e51:ev (.tmp 51)=.pointer (some ⟨ab,3,none⟩):=he 2 (by decide) _ 51 rfl rfl
     have cc:W.cell? ⟨ab,3,none⟩=some (.slice kp KL kc):=((hW.bel (hW.off hL (by decide))).cell (p:=⟨ab,3,none⟩) HAB.out).trans HCab3.out
     clear he h0 hc hf hg
     exact flS rfl (by go_simp <;> rfl) (hW.upd 3 (by decide) (by decide) hd) rfl
    ·have e52:ev (.tmp 52)=.slice kp KL kc:=he 3 (by decide) _ 52 rfl rfl
     clear he h0 hc hg
     have hb:=hW.bel (hW.off hL (by decide))
     have hki:IntsRd (fun _=>False) W (.slice kp KL kc) keep:=HKI.out.rd (HP7.out.toB.trans (hb.mono HP7.out.toB.size)) (fun _ h=>h.elim)
     refine .inl ⟨rfl,.inr (.inr ⟨21,#[.slice kp KL kc],W,(by have hff:=hf 21;clear hf;go_simp <;> rfl),?_⟩)⟩
     refine (copyInts_any hki (by have:=HF4.out;omega)).mono ?_
     rintro e w' ⟨u,rfl,hg⟩
     obtain ⟨up,uc,rfl⟩:=row_slice hg.row
     have hg2:GathI W w' (.slice up KL uc) keep:=by have h9:=hg;rw [HKL.out] at h9;exact h9
     refine ⟨_,rfl,(up,uc),hW.called (by decide) hL hd hg2,by show Value.slice up KL uc=_;rw [HKL.out],fun j hj=>?_⟩
     have hj2:j≠4∧j≠5:=⟨fun e=>(by subst e;rw [hL] at hj;cases hj),fun e=>(by subst e;have h9:=hW.cl 5 hj 4 (by decide);rw [hL] at h9;cases h9)⟩
     match j,hj2 with
     |0,_ | 1,_ | 2,_ | 3,_ | 6,_=>rfl
     |4,h=>exact absurd rfl h.1
     |5,h=>exact absurd rfl h.2
     |n+7,_=>rfl
    ·have e53:ev (.tmp 53)=.slice γ.1 KL γ.2:=he 4 (by decide) _ 53 rfl rfl
     clear he h0 hc hf hg
     exact flS rfl (by go_simp <;> rfl) (hW.upd 5 (by decide) (by decide) hd) rfl
    ·have e50:ev (.tmp 50)=.pointer (some ⟨a,0,none⟩):=he 1 (by decide) _ 50 rfl rfl
     have e54:ev (.tmp 54)=.agg #[.slice γ.1 KL γ.2]:=he 5 (by decide) _ 54 rfl rfl
     clear he h0 hc hg
     have q5:L 5=true:=hd 5 (by decide)
     have q4:L 4=true:=hW.cl 5 q5 4 (by decide)
     have q3:L 3=true:=hW.cl 4 q4 3 (by decide)
     have q2:L 2=true:=hW.cl 3 q3 2 (by decide)
     have q1:L 1=true:=hd 1 (by decide)
     have q0:L 0=true:=hW.cl 1 q1 0 (by decide)
     have hall:∀ j,j < 6→L j=true:=fun j hj=>by
      rcases (show j=0∨j=1∨j=2∨j=3∨j=4∨j=5 by omega) with rfl | rfl | rfl | rfl | rfl | rfl
      ·exact q0
      ·exact q1
      ·exact q2
      ·exact q3
      ·exact q4
      ·exact q5
     have hrow:=hW.row q4 hL
     refine .inl ⟨rfl,.inr (.inr ⟨22,#[.pointer (some ⟨a,0,none⟩),.agg #[.slice γ.1 KL γ.2]],W,(by have hff:=hf 22;clear hf;go_simp <;> rfl),?_⟩)⟩
     refine (HP7.out.pcrash hrow HKB.out (by have:=HF4.out;omega) (by have:=HNK.out;omega)).mono ?_
     rintro e w' ⟨rfl,hp6⟩
     exact ⟨_,rfl,.still (hW.done hd hall hp6) rfl⟩
   intro γ L w8 hL hW
   have HP8:=hZ (hW.fin (hL 6 (by decide)))
   clear hL hW hI0
   simp only [putAll,Act.put,List.setIfInBounds_toArray,List.set_cons_succ,List.set_cons_zero]
   go_wp2_with fail
   go_ret
   exact ⟨rfl,by rw [HFM.out];exact (HP8.out.more (by omega) (by omega)).sub (fun q hq=>by simp [hq])⟩
  ·by_cases h7:kd=7
   ·subst h7
    have hfm:filesM m x 7 txt num keep=m.revive:=rfl
    have HFM:=hZ hfm
    have hr1:=HP4.out.rrevive
    clear hfm
    obtain ⟨b0,-,b2,-⟩:=HP4.out.wcel wb mem1
    obtain ⟨a0,a1,a2,a3⟩:=HP4.out.acel ab (List.mem_cons_self ..)
    go_wp2_with fail
    refine hr1.mono ?_
    rintro e w5 ⟨rfl,hp5⟩
    have HP5:=hZ hp5
    clear hp5 hr1
    clear b0 b2 a0 a1 a2 a3
    have hp1:=HP5.out.previve
    obtain ⟨b0,-,b2,-⟩:=HP5.out.wcel wb mem1
    obtain ⟨a0,a1,a2,a3⟩:=HP5.out.acel ab (List.mem_cons_self ..)
    go_wp2_with fail
    refine hp1.mono ?_
    rintro e w6 ⟨rfl,hp6⟩
    have HP8:=hZ hp6
    clear hp6 hp1
    clear b0 b2 a0 a1 a2 a3
    go_wp2_with fail
    go_ret
    exact ⟨rfl,by rw [HFM.out];exact (HP8.out.more (by omega) (by omega)).sub (fun q hq=>by simp [hq])⟩
   ·by_cases h9:kd=9
    ·subst h9
     obtain ⟨M1,hM1⟩:∃ M,(m.op (.create F)).1=M:=⟨_,rfl⟩
     obtain ⟨z1,hz1⟩:∃ z,(m.op (.create F)).2=z:=⟨_,rfl⟩
     obtain ⟨M2,hM2⟩:∃ M,(M1.op (.write F txt)).1=M:=⟨_,rfl⟩
     obtain ⟨z2,hz2⟩:∃ z,(M1.op (.write F txt)).2=z:=⟨_,rfl⟩
     have hc1:Code z1:=by rw [← hz1];exact op_code _ _
     have hc2:Code z2:=by rw [← hz2];exact op_code _ _
     have hfm:filesM m x 9 txt num keep=M2:=by rw [← hM2,← hM1,← HF.out];rfl
     have hr1:=HP4.out.rdo ⟨1,⟨#[]⟩,F,0⟩ ⟨#[]⟩ (by show (1:Int)≤_;exact (by decide:(1:Int)≤1)) (by show _≤(6:Int);exact (by decide:(1:Int)≤6)) rfl (by have:=HNK.out;omega) (by decide)
     rw [show rcall ⟨1,⟨#[]⟩,F,0⟩ ⟨#[]⟩=.create F from rfl,hM1,hz1] at hr1
     have HC1:=hZ hc1
     have HC2:=hZ hc2
     have HFM:=hZ hfm
     have HM1:=hZ hM1
     have HZ1:=hZ hz1
     have HM2:=hZ hM2
     have HZ2:=hZ hz2
     clear hc1 hc2 hfm hM1 hz1 hM2 hz2
     obtain ⟨b0,-,b2,-⟩:=HP4.out.wcel wb mem1
     obtain ⟨a0,a1,a2,a3⟩:=HP4.out.acel ab (List.mem_cons_self ..)
     go_wp2_with fail
     refine hr1.mono ?_
     rintro e w5 ⟨rfl,hp5⟩
     have HP5:=hZ hp5
     clear hp5 hr1
     clear b0 b2 a0 a1 a2 a3
     have hr2:=HP5.out.rdo ⟨2,⟨#[]⟩,F,0⟩ txt (by show (1:Int)≤_;exact (by decide:(1:Int)≤2)) (by show _≤(6:Int);exact (by decide:(2:Int)≤6)) rfl (by have:=HNK.out;omega) (by have:=HF3.out;omega)
     rw [show rcall ⟨2,⟨#[]⟩,F,0⟩ txt=.write F txt from rfl,HM2.out,HZ2.out] at hr2
     obtain ⟨b0,-,b2,-⟩:=HP5.out.wcel wb mem1
     obtain ⟨a0,a1,a2,a3⟩:=HP5.out.acel ab (List.mem_cons_self ..)
     go_wp2_with fail
     refine hr2.mono ?_
     rintro e w6 ⟨rfl,hp6⟩
     have HP6:=hZ hp6
     clear hp6 hr2
     clear b0 b2 a0 a1 a2 a3
     have hp1:=HP6.out.pcreate F HFS.out (by have:=HNK.out;omega)
     rw [HM1.out,HZ1.out] at hp1
     obtain ⟨b0,-,b2,-⟩:=HP6.out.wcel wb mem1
     obtain ⟨a0,a1,a2,a3⟩:=HP6.out.acel ab (List.mem_cons_self ..)
     go_wp2_with fail
     refine hp1.mono ?_
     rintro e w7 ⟨rfl,hp7⟩
     have HP7:=hZ hp7
     clear hp7 hp1
     clear b0 b2 a0 a1 a2 a3
     have hp2:=HP7.out.pwrite F txt HFS.out (by have:=HF3.out;omega) (by have:=HNK.out;omega)
     rw [HM2.out,HZ2.out] at hp2
     obtain ⟨b0,-,b2,-⟩:=HP7.out.wcel wb mem1
     obtain ⟨a0,a1,a2,a3⟩:=HP7.out.acel ab (List.mem_cons_self ..)
     go_wp2_with fail
     refine hp2.mono ?_
     rintro e w8 ⟨rfl,hp8⟩
     have HP8:=hZ hp8
     clear hp8 hp2
     clear b0 b2 a0 a1 a2 a3
     have hpl:=plain_E z1 HC1.out z1 w8 (HG.out.below HP8.out.toB HG.out.2)
     rw [beq_self_eq_true] at hpl
     go_wp2_with fail
     refine hpl.mono ?_
     rintro e w9 ⟨rfl,hb9⟩
     have HP9:=hZ (HP8.out.bel hb9)
     clear hb9 hpl
     have hpl:=plain_E z2 HC2.out z2 w9 (HG.out.below HP9.out.toB HG.out.2)
     rw [beq_self_eq_true] at hpl
     go_wp2_with fail
     refine hpl.mono ?_
     rintro e w10 ⟨rfl,hb10⟩
     have HPX:=hZ (HP9.out.bel hb10)
     clear hb10 hpl
     go_wp2_with fail
     go_ret
     exact ⟨rfl,by rw [HFM.out];exact (HPX.out.more (by omega) (by omega)).sub (fun q hq=>by simp [hq])⟩
    ·by_cases h10:kd=10
     ·subst h10
      obtain ⟨M1,hM1⟩:∃ M,(m.op (.sync F)).1=M:=⟨_,rfl⟩
      obtain ⟨z1,hz1⟩:∃ z,(m.op (.sync F)).2=z:=⟨_,rfl⟩
      have hc1:Code z1:=by rw [← hz1];exact op_code _ _
      have hfm:filesM m x 10 txt num keep=M1:=by rw [← hM1,← HF.out];rfl
      have hr1:=HP4.out.rdo ⟨3,⟨#[]⟩,F,0⟩ ⟨#[]⟩ (by show (1:Int)≤_;exact (by decide:(1:Int)≤3)) (by show _≤(6:Int);exact (by decide:(3:Int)≤6)) rfl (by have:=HNK.out;omega) (by decide)
      rw [show rcall ⟨3,⟨#[]⟩,F,0⟩ ⟨#[]⟩=.sync F from rfl,hM1,hz1] at hr1
      have HC1:=hZ hc1
      have HFM:=hZ hfm
      have HM1:=hZ hM1
      have HZ1:=hZ hz1
      clear hc1 hfm hM1 hz1
      obtain ⟨b0,-,b2,-⟩:=HP4.out.wcel wb mem1
      obtain ⟨a0,a1,a2,a3⟩:=HP4.out.acel ab (List.mem_cons_self ..)
      go_wp2_with fail
      refine hr1.mono ?_
      rintro e w5 ⟨rfl,hp5⟩
      have HP5:=hZ hp5
      clear hp5 hr1
      clear b0 b2 a0 a1 a2 a3
      have hp1:=HP5.out.psync F HFS.out (by have:=HNK.out;omega)
      rw [HM1.out,HZ1.out] at hp1
      obtain ⟨b0,-,b2,-⟩:=HP5.out.wcel wb mem1
      obtain ⟨a0,a1,a2,a3⟩:=HP5.out.acel ab (List.mem_cons_self ..)
      go_wp2_with fail
      refine hp1.mono ?_
      rintro e w6 ⟨rfl,hp6⟩
      have HP6:=hZ hp6
      clear hp6 hp1
      clear b0 b2 a0 a1 a2 a3
      have hpl:=plain_E z1 HC1.out z1 w6 (HG.out.below HP6.out.toB HG.out.2)
      rw [beq_self_eq_true] at hpl
      go_wp2_with fail
      refine hpl.mono ?_
      rintro e w8 ⟨rfl,hb8⟩
      have HP8:=hZ (HP6.out.bel hb8)
      clear hb8 hpl
      go_wp2_with fail
      go_ret
      exact ⟨rfl,by rw [HFM.out];exact (HP8.out.more (by omega) (by omega)).sub (fun q hq=>by simp [hq])⟩
     ·have h11:kd=11:=by have:=HKD.out;omega
      subst h11
      obtain ⟨M1,hM1⟩:∃ M,(m.op (.remove F)).1=M:=⟨_,rfl⟩
      obtain ⟨z1,hz1⟩:∃ z,(m.op (.remove F)).2=z:=⟨_,rfl⟩
      have hc1:Code z1:=by rw [← hz1];exact op_code _ _
      have hfm:filesM m x 11 txt num keep=M1:=by rw [← hM1,← HF.out];rfl
      have hr1:=HP4.out.rdo ⟨5,⟨#[]⟩,F,0⟩ ⟨#[]⟩ (by show (1:Int)≤_;exact (by decide:(1:Int)≤5)) (by show _≤(6:Int);exact (by decide:(5:Int)≤6)) rfl (by have:=HNK.out;omega) (by decide)
      rw [show rcall ⟨5,⟨#[]⟩,F,0⟩ ⟨#[]⟩=.remove F from rfl,hM1,hz1] at hr1
      have HC1:=hZ hc1
      have HFM:=hZ hfm
      have HM1:=hZ hM1
      have HZ1:=hZ hz1
      clear hc1 hfm hM1 hz1
      obtain ⟨b0,-,b2,-⟩:=HP4.out.wcel wb mem1
      obtain ⟨a0,a1,a2,a3⟩:=HP4.out.acel ab (List.mem_cons_self ..)
      go_wp2_with fail
      refine hr1.mono ?_
      rintro e w5 ⟨rfl,hp5⟩
      have HP5:=hZ hp5
      clear hp5 hr1
      clear b0 b2 a0 a1 a2 a3
      have hp1:=HP5.out.premove F HFS.out (by have:=HNK.out;omega)
      rw [HM1.out,HZ1.out] at hp1
      obtain ⟨b0,-,b2,-⟩:=HP5.out.wcel wb mem1
      obtain ⟨a0,a1,a2,a3⟩:=HP5.out.acel ab (List.mem_cons_self ..)
      go_wp2_with fail
      refine hp1.mono ?_
      rintro e w6 ⟨rfl,hp6⟩
      have HP6:=hZ hp6
      clear hp6 hp1
      clear b0 b2 a0 a1 a2 a3
      have hpl:=plain_E z1 HC1.out z1 w6 (HG.out.below HP6.out.toB HG.out.2)
      rw [beq_self_eq_true] at hpl
      go_wp2_with fail
      refine hpl.mono ?_
      rintro e w8 ⟨rfl,hb8⟩
      have HP8:=hZ (HP6.out.bel hb8)
      clear hb8 hpl
      go_wp2_with fail
      go_ret
      exact ⟨rfl,by rw [HFM.out];exact (HP8.out.more (by omega) (by omega)).sub (fun q hq=>by simp [hq])⟩
end Go.Proofs.YtecgikanophonaaGreatDoor
/- stratalaw23's world.store: the calls of the store. Printed by wip/g36.py. -/
namespace Go.Proofs.YtecgikanophonaaGreatDoor
open Go Go.RowKit
theorem OwnD.base {B B':Nat} {l:List Dg} {v:Value} {w:World} (h:OwnD B l v w) (hB:B'≤B):OwnD B' l v w:=by
 refine ⟨h.1,?_⟩
 rcases h.2 with h2 | ⟨g,cap,cur,h1,h2,h3⟩
 ·exact .inl h2
 ·exact .inr ⟨g,cap,cur,h1,Nat.le_trans hB h2,h3⟩
theorem wpList_eqlD {ops:Array Oper} {rest:List Oper} {op:Oper} {a:Act} {w:World} {Q:Exit→Act→World→Prop} (hgd:op.guard=none) (x y:Operand) (ty:TypeId) (ho:op.op=.binOp .eql 33 x y ty) {d e:List UInt8} (hd:d.length=32) (he:e.length=32)
  (hx:a.eval x=.agg (d.map byteV).toArray) (hy:a.eval y=.agg (e.map byteV).toArray) (h:wpList Tryz.prog ops Q rest (a.put op.dst (.bool (d == e))) w):wpList Tryz.prog ops Q (op :: rest) a w:=by
 refine wpList_plain hgd fun K hK=>?_
 have hq:=dig_eql w hd he
 have ht:Tryz.prog.eqGuardType Tryz.prog.depth 33=false:=by kernel_rfl
 have hg:(eqGuard .eql 33 x y (.agg (d.map byteV).toArray) (.agg (e.map byteV).toArray)).run Tryz.prog w=.ok () w:=by
  unfold eqGuard
  have hpr:∀ W:World,(Sem.program Sem.pure).run Tryz.prog W=.ok Tryz.prog W:=fun _=>rfl
  simp [Sem.run_bind,program,hpr,ht,Result.andThen]
 unfold Oper.wp execOp
 simp only [ho,hx,hy,hg,hq,Sem.run_bind,Sem.run_pure,Result.andThen_ok]
 exact hK _ _ h
theorem listM_len {m:DM} {n:Nat} (h:m.Ok n) (x:Int):(listM m x).length≤n:=by
 unfold listM
 rw [List.length_map]
 exact Nat.le_trans (List.length_filter_le _ _) (lists_leB h _)
theorem store_any {w W:World} {a r n k q sb:Nat} {x:Int} {m:DM} {Ks:List (Nat × Obj)} (h:PlayB w a r W n m k m Ks) (hs:(sb,storeO a x)∈Ks) (hq:(q,storeR r x)∈Ks) (hsh:m.Short) (hG:ErrT w) (hn:n+9≤1000000000) (hk:k+9≤1000000000)
  (kd0 num:Int) (txt:ByteArray) (f1:bigI kd0) (f2:bigI num) (f3:txt.size≤140737488351232) (kp:Option Addr) (KL kc:Nat)
  (hkd:pick kd0 12=0∨pick kd0 12=1∨pick kd0 12=2∨pick kd0 12=3∨pick kd0 12=4) :
  Calls Tryz.prog 33 #[.agg #[.pointer (some ⟨a,0,none⟩),.pointer (some ⟨sb,0,none⟩),.pointer (some ⟨r,0,none⟩),.pointer (some ⟨q,0,none⟩)],.agg #[.int .i64 kd0,.string txt,.int .i64 num,.slice kp KL kc]] W fun e W'=>e=.returned (.bool true)∧PlayB w a r W' (n+9) (storeM m x (pick kd0 12) txt num) (k+9) (storeM m x (pick kd0 12) txt num) Ks:=by
 obtain ⟨f1a,f1b⟩:=f1
 obtain ⟨f2a,f2b⟩:=f2
 have HF3:=hZ f3
 have HG:=hZ hG
 have HSH:=hZ hsh
 have HNK:=hZ (show n+9≤1000000000∧k+9≤1000000000 from ⟨hn,hk⟩)
 have hpk:=fun W=>pick_any kd0 12 W (by decide) (by decide) f1a f1b
 obtain ⟨kd,hkd2⟩:∃ z,pick kd0 12=z:=⟨_,rfl⟩
 rw [hkd2] at hpk hkd ⊢
 have HPK:=hZ hpk
 have HKD:=hZ hkd
 obtain ⟨W0,hW0⟩:∃ W0,(W.alloc (.cells #[.pointer (some ⟨a,0,none⟩),.pointer (some ⟨sb,0,none⟩),.pointer (some ⟨r,0,none⟩),.pointer (some ⟨q,0,none⟩)] 68)).alloc (.cells #[.int .i64 kd0,.string txt,.int .i64 num,.slice kp KL kc] 52)=W0:=⟨_,rfl⟩
 obtain ⟨wb,hwb⟩:∃ b,W.heap.size=b:=⟨_,rfl⟩
 obtain ⟨ab,hab⟩:∃ b,wb+1=b:=⟨_,rfl⟩
 have hp1:=h.keep (W':=W.alloc (worldO a (some ⟨sb,0,none⟩) r (some ⟨q,0,none⟩))) ((Below.refl _ _).alloc (Nat.le_refl _) _) (Nat.le_refl _) (heap_new _ _)
 have hp2:=hp1.keep (W':=(W.alloc (worldO a (some ⟨sb,0,none⟩) r (some ⟨q,0,none⟩))).alloc (actP kd0 txt num (.slice kp KL kc))) ((Below.refl _ _).alloc (Nat.le_refl _) _) (Nat.le_refl _) (heap_new _ _)
 rw [World.size_alloc,hwb,hab] at hp2
 have hp0:PlayB w a r W0 n m k m ((ab,actP kd0 txt num (.slice kp KL kc)) :: (wb,worldO a (some ⟨sb,0,none⟩) r (some ⟨q,0,none⟩)) :: Ks):=by rw [← hW0];exact hp2
 have HP0:=hZ hp0
 have HQ:Hid ((q,storeR r x)∈Ks):=hZ hq
 have HS:Hid ((sb,storeO a x)∈Ks):=hZ hs
 clear h hp1 hp2 hp0 hkd hpk hkd2 hG hn hk f3 hq hs hsh
 have b3:=HP0.out.cel (b:=wb) (c:=#[.pointer (some ⟨a,0,none⟩),.pointer (some ⟨sb,0,none⟩),.pointer (some ⟨r,0,none⟩),.pointer (some ⟨q,0,none⟩)]) (t:=68) (by simp [worldO]) 3
 have a0:=HP0.out.cel (b:=ab) (c:=#[.int .i64 kd0,.string txt,.int .i64 num,.slice kp KL kc]) (t:=52) (by simp [actP]) 0
 have a1:=HP0.out.cel (b:=ab) (c:=#[.int .i64 kd0,.string txt,.int .i64 num,.slice kp KL kc]) (t:=52) (by simp [actP]) 1
 have a2:=HP0.out.cel (b:=ab) (c:=#[.int .i64 kd0,.string txt,.int .i64 num,.slice kp KL kc]) (t:=52) (by simp [actP]) 2
 have a3:=HP0.out.cel (b:=ab) (c:=#[.int .i64 kd0,.string txt,.int .i64 num,.slice kp KL kc]) (t:=52) (by simp [actP]) 3
 have q1:=HP0.out.cel (b:=q) (c:=#[.pointer (some ⟨r,0,none⟩),.int .i64 x]) (t:=70) (by have h9:=HQ.out;unfold storeR at h9;simp [h9]) 1
 simp only [List.getElem?_toArray,List.getElem?_cons_zero,List.getElem?_cons_succ] at q1 b3 a0 a1 a2 a3
 have HAW:Hid (∀ V,Below W0.heap.size W0 V→V.cell? ⟨ab,0,none⟩=some (.int .i64 kd0)∧V.cell? ⟨ab,1,none⟩=some (.string txt)∧V.cell? ⟨ab,2,none⟩=some (.int .i64 num)∧V.cell? ⟨ab,3,none⟩=some (.slice kp KL kc)∧V.cell? ⟨wb,3,none⟩=some (.pointer (some ⟨q,0,none⟩))∧V.cell? ⟨q,1,none⟩=some (.int .i64 x)):=hZ (fun V hV=>by
  have l1:=blk_lt (HP0.out.kept (ab,actP kd0 txt num (.slice kp KL kc)) (by simp))
  have l2:=blk_lt (HP0.out.kept (wb,worldO a (some ⟨sb,0,none⟩) r (some ⟨q,0,none⟩)) (by simp))
  have l3:=blk_lt (HP0.out.kept (q,storeR r x) (by have h9:=HQ.out;simp [h9]))
  exact ⟨(hV.cell (p:=⟨ab,0,none⟩) l1).trans a0,(hV.cell (p:=⟨ab,1,none⟩) l1).trans a1,(hV.cell (p:=⟨ab,2,none⟩) l1).trans a2,(hV.cell (p:=⟨ab,3,none⟩) l1).trans a3,(hV.cell (p:=⟨wb,3,none⟩) l2).trans b3,(hV.cell (p:=⟨q,1,none⟩) l3).trans q1⟩)
 obtain ⟨D,hD⟩:∃ D,askM x txt num=D:=⟨_,rfl⟩
 have hDl:D.length=32:=by rw [← hD];exact askM_len _ _ _
 have hask:∀ V,Below W0.heap.size W0 V→Calls Tryz.prog 68 #[.agg #[.int .i64 kd0,.string txt,.int .i64 num,.slice kp KL kc],.int .i64 x] V fun e w'=>e=.returned (.agg (D.map byteV).toArray)∧Below V.heap.size V w':=fun V hV=>by
  have h9:=asked_any x kd0 num txt (.slice kp KL kc) V ⟨f2a,f2b⟩ (HP0.out.bel hV).rr (HP0.out.bel hV).bg HF3.out
  rw [hD] at h9
  exact h9
 have HASK:=hZ hask
 have HD:=hZ hD
 have HDL:=hZ hDl
 have hI:=dig_info HDL.out
 have hI2:=dig_info2 HDL.out
 have hd1:=dig_one D
 have hdz:=dig_size HDL.out
 have hU:=dig_und
 clear b3 a0 a1 a2 a3 q1 hask hD hDl
 go_enter Tryz.func33,Tryz.ntmps33
 go_wp2_with fail
 have hI0:Below W0.heap.size W0 W0.drew:=⟨rfl,rfl,rfl,Nat.le_refl _,fun _ _=>rfl⟩
 refine wp_region_make (fun V=>Below W0.heap.size W0 V) (fun b V=>Below W0.heap.size W0 V∧W0.heap.size≤b∧V.heap[b]?=some (.cells z32 33 (0,0))) 7 (fun b=>.pointer (some ⟨b,0,none⟩)) 8 (fun _ _ hB=>hB.1) (by kernel_rfl) (by kernel_rfl) hI0 ?_
 simp only [List.take_succ_cons,List.take_zero,List.drop_succ_cons,List.drop_zero]
 refine .inr ⟨by decide,_,yg_still rfl (fun V hI=>by obtain ⟨a0,a1,a2,a3,b3,q1⟩:=HAW.out V hI;go_simp;rfl),?_⟩
 refine .inr ⟨by decide,_,yg_still rfl (fun V hI=>by go_simp;rfl),?_⟩
 refine .inr ⟨by decide,_,yg_still rfl (fun V hI=>by obtain ⟨a0,a1,a2,a3,b3,q1⟩:=HAW.out V hI;go_simp;rfl),?_⟩
 refine .inr ⟨by decide,_,yg_still rfl (fun V hI=>by go_simp;rfl),?_⟩
 refine .inr ⟨by decide,_,yg_still rfl (fun V hI=>by go_simp;rfl),?_⟩
 refine .inr ⟨by decide,_,yg_still rfl (fun V hI=>by obtain ⟨a0,a1,a2,a3,b3,q1⟩:=HAW.out V hI;go_simp;rfl),?_⟩
 refine .inr ⟨by decide,_,yg_call rfl (fun V hI=>by go_simp) (fun V hI=>(HASK.out V hI).mono fun e W' ⟨he,hb⟩=>⟨he,hI.trans (hb.mono hI.size),fun b hB=>⟨hB.1.trans (hb.mono hB.1.size),hB.2.1,(hb.block b (blk_lt hB.2.2)).trans hB.2.2⟩⟩),?_⟩
 refine .inl ⟨rfl,⟨rfl,fun V hI=>.inl ⟨V.heap.size,V.alloc (.cells #[.int .u8 0,.int .u8 0,.int .u8 0,.int .u8 0,.int .u8 0,.int .u8 0,.int .u8 0,.int .u8 0,.int .u8 0,.int .u8 0,.int .u8 0,.int .u8 0,.int .u8 0,.int .u8 0,.int .u8 0,.int .u8 0,.int .u8 0,.int .u8 0,.int .u8 0,.int .u8 0,.int .u8 0,.int .u8 0,.int .u8 0,.int .u8 0,.int .u8 0,.int .u8 0,.int .u8 0,.int .u8 0,.int .u8 0,.int .u8 0,.int .u8 0,.int .u8 0] 33),(by go_simp <;> rfl),hI.alloc hI.size _,hI.size,heap_new _ _⟩⟩,?_⟩
 rintro xb W3 hI3
 change wpList _ _ _ _ _ W3
 simp only [Act.put,List.setIfInBounds_toArray,List.set_cons_succ,List.set_cons_zero]
 obtain ⟨hb3,hxb,hx3⟩:=hI3
 obtain ⟨w5,hw5⟩:∃ W,setBlk W3 xb (digO3 D)=W:=⟨_,rfl⟩
 have hb5:Below W0.heap.size W0 w5:=by rw [← hw5];exact hb3.setBlk hxb
 have hx5:w5.heap[xb]?=some (digO3 D):=by rw [← hw5];exact setBlk_heap (blk_lt hx3)
 have HX3:=hZ hx3
 have HW5:Hid (setBlk W3 xb (.cells (D.map byteV).toArray 33 (0,0))=w5):=hZ hw5
 have HP5:=hZ (HP0.out.keep hb5 hxb hx5)
 clear hI0 hb3 hxb hx3 hb5 hx5 hw5 HASK HAW
 obtain ⟨-,b1,-,b3⟩:=HP5.out.wcel (a':=a) (sp:=some ⟨sb,0,none⟩) (r':=r) (qp:=some ⟨q,0,none⟩) wb (by simp)
 obtain ⟨a0,a1,-,-⟩:=HP5.out.acel (x:=kd0) (s:=txt) (y:=num) (v:=.slice kp KL kc) ab (by simp)
 go_wp2_with (first | (refine wpList_store_row rfl _ _ _ rfl xb (D.map byteV).toArray rfl rfl 33 z32 HX3.out hI2 hdz hd1 ?_;rw [setRow_setBlk HX3.out,HW5.out]))
 refine (HPK.out _).mono ?_
 rintro e w4 ⟨rfl,rfl⟩
 clear b1 b3 a0 a1 HPK
 by_cases h0:kd=0
 ·subst h0
  obtain ⟨M,hM⟩:∃ M,(putM m x txt).1=M:=⟨_,rfl⟩
  obtain ⟨E,hE⟩:∃ E,(putM m x txt).2.1=E:=⟨_,rfl⟩
  obtain ⟨z,hz⟩:∃ z,(putM m x txt).2.2=z:=⟨_,rfl⟩
  have hcz:Code z:=by rw [← hz];exact put_code _ _ _
  have hEl:E.length=32:=by rw [← hE];exact putM_lenB _ _ _
  have hsm:storeM m x 0 txt num=M:=by rw [← hM];rfl
  have hr1:=HP5.out.rput (qb:=q) (x:=x) (by have h9:=HQ.out;simp [h9]) (by have:=HNK.out;omega) txt HF3.out
  rw [hM,hE,hz] at hr1
  unfold digV at hr1
  have HSM:=hZ hsm
  have HCZ:=hZ hcz
  have HEL:=hZ hEl
  have HM:=hZ hM
  have HE:=hZ hE
  have HZ:=hZ hz
  have hIE:=dig_info HEL.out
  have hIE2:=dig_info2 HEL.out
  have hE1:=dig_one E
  have hEz:=dig_size HEL.out
  clear hcz hEl hsm hM hE hz
  obtain ⟨-,b1,-,b3⟩:=HP5.out.wcel (a':=a) (sp:=some ⟨sb,0,none⟩) (r':=r) (qp:=some ⟨q,0,none⟩) wb (by simp)
  obtain ⟨a0,a1,-,-⟩:=HP5.out.acel (x:=kd0) (s:=txt) (y:=num) (v:=.slice kp KL kc) ab (by simp)
  go_wp2_with fail
  refine hr1.mono ?_
  rintro e w6 ⟨rfl,hp6⟩
  obtain ⟨W7,hW7⟩:∃ W,w6.alloc (.cells (E.map byteV).toArray 33)=W:=⟨_,rfl⟩
  have hb7:Below w6.heap.size w6 W7:=by rw [← hW7];exact (Below.refl _ _).alloc (Nat.le_refl _) _
  have hx7:W7.heap[w6.heap.size]?=some (digO3 E):=by rw [← hW7];exact heap_new _ _
  have HP7:=hZ (hp6.keep hb7 (Nat.le_refl _) hx7)
  have HW7:=hZ hW7
  clear hp6 hb7 hx7 hW7 hr1
  clear b1 b3 a0 a1
  have hp1:=HP7.out.pput (sb:=sb) (x:=x) (by have h9:=HS.out;simp [h9]) (by have:=HNK.out;omega) txt (by have:=HF3.out;omega)
  rw [HM.out,HE.out,HZ.out] at hp1
  unfold digV at hp1
  obtain ⟨-,b1,-,b3⟩:=HP7.out.wcel (a':=a) (sp:=some ⟨sb,0,none⟩) (r':=r) (qp:=some ⟨q,0,none⟩) wb (by simp)
  obtain ⟨a0,a1,-,-⟩:=HP7.out.acel (x:=kd0) (s:=txt) (y:=num) (v:=.slice kp KL kc) ab (by simp)
  go_wp2_with (first | (refine wpList_store_new rfl _ _ _ rfl _ (E.map byteV).toArray _ rfl rfl rfl hIE2 hEz hE1 ?_;rw [HW7.out]))
  refine hp1.mono ?_
  rintro e w8 ⟨rfl,hp8⟩
  obtain ⟨W9,hW9⟩:∃ W,w8.alloc (.cells (E.map byteV).toArray 33)=W:=⟨_,rfl⟩
  have hb9:Below w8.heap.size w8 W9:=by rw [← hW9];exact (Below.refl _ _).alloc (Nat.le_refl _) _
  have hx9:W9.heap[w8.heap.size]?=some (digO3 E):=by rw [← hW9];exact heap_new _ _
  have HRG8:=hZ (dig_range hx9)
  have HRG6:=hZ (dig_range ((hb9.block _ (blk_lt (hp8.kept (w6.heap.size,digO3 E) (by simp)))).trans (hp8.kept (w6.heap.size,digO3 E) (by simp))))
  have HP9:=hZ (hp8.bel hb9)
  have HW9:=hZ hW9
  have hpl:=plain_E z HCZ.out z W9 (HG.out.below HP9.out.toB HG.out.2)
  rw [beq_self_eq_true] at hpl
  have hee:(E == E)=true:=beq_self_eq_true _
  clear hp8 hb9 hx9 hW9 hp1
  clear b1 b3 a0 a1
  go_wp2_with (first | (refine wpList_store_new rfl _ _ _ rfl _ (E.map byteV).toArray _ rfl rfl rfl hIE2 hEz hE1 ?_;rw [HW9.out]) | refine wpList_load_mid rfl _ _ rfl w8.heap.size 0 rfl (E.map byteV) _ HRG8.out hU rfl hIE ?_ | (refine wpList_load_mid rfl _ _ rfl w6.heap.size 0 rfl (E.map byteV) _ HRG6.out hU rfl hIE ?_;simp only [Act.put,List.setIfInBounds_toArray,List.set_cons_succ,List.set_cons_zero];refine wpList_eqlD rfl _ _ _ rfl HEL.out HEL.out rfl rfl ?_;simp only [Act.put,List.setIfInBounds_toArray,List.set_cons_succ,List.set_cons_zero];rw [hee];clear hee hI2 hd1 hdz hU hIE hIE2 hE1 hEz))
  refine hpl.mono ?_
  rintro e w10 ⟨rfl,hb10⟩
  have HPX:=hZ (HP9.out.bel hb10)
  clear hb10 hpl
  go_wp2_with fail
  go_ret
  exact ⟨rfl,by rw [HSM.out];exact (HPX.out.more (by omega) (by omega)).sub (fun q hq=>by simp [hq])⟩
 ·by_cases h1:kd=1
  ·subst h1
   obtain ⟨s,hs⟩:∃ s,(getM m x D).1=s:=⟨_,rfl⟩
   obtain ⟨z,hz⟩:∃ z,(getM m x D).2=z:=⟨_,rfl⟩
   have hcz:Code z:=by rw [← hz];exact get_code _ _ _
   have hsm:storeM m x 1 txt num=m:=rfl
   have hr1:=HP5.out.rget (qb:=q) (x:=x) (by have h9:=HQ.out;simp [h9]) (by have:=HNK.out;omega) D HDL.out
   rw [hs,hz] at hr1
   unfold digV at hr1
   have HSM:=hZ hsm
   have HCZ:=hZ hcz
   have HSV:=hZ hs
   have HZ:=hZ hz
   clear hcz hsm hs hz
   obtain ⟨-,b1,-,b3⟩:=HP5.out.wcel (a':=a) (sp:=some ⟨sb,0,none⟩) (r':=r) (qp:=some ⟨q,0,none⟩) wb (by simp)
   obtain ⟨a0,a1,-,-⟩:=HP5.out.acel (x:=kd0) (s:=txt) (y:=num) (v:=.slice kp KL kc) ab (by simp)
   have HRG:=hZ (dig_range (HP5.out.kept (xb,digO3 D) (by simp)))
   go_wp2_with (first | refine wpList_load_mid rfl _ _ rfl xb 0 rfl (D.map byteV) _ HRG.out hU rfl hI ?_)
   refine hr1.mono ?_
   rintro e w6 ⟨rfl,hp6⟩
   have HP6:=hZ hp6
   clear hp6 hr1 HRG
   clear b1 b3 a0 a1
   have hp1:=HP6.out.pget (sb:=sb) (x:=x) (by have h9:=HS.out;simp [h9]) D HDL.out
   rw [HSV.out,HZ.out] at hp1
   unfold digV at hp1
   obtain ⟨-,b1,-,b3⟩:=HP6.out.wcel (a':=a) (sp:=some ⟨sb,0,none⟩) (r':=r) (qp:=some ⟨q,0,none⟩) wb (by simp)
   obtain ⟨a0,a1,-,-⟩:=HP6.out.acel (x:=kd0) (s:=txt) (y:=num) (v:=.slice kp KL kc) ab (by simp)
   have HRG:=hZ (dig_range (HP6.out.kept (xb,digO3 D) (by simp)))
   go_wp2_with (first | refine wpList_load_mid rfl _ _ rfl xb 0 rfl (D.map byteV) _ HRG.out hU rfl hI ?_)
   refine hp1.mono ?_
   rintro e w8 ⟨rfl,hp8⟩
   have HP9:=hZ hp8
   have hpl:=plain_E z HCZ.out z w8 (HG.out.below HP9.out.toB HG.out.2)
   rw [beq_self_eq_true] at hpl
   have hdd:(s.toList == s.toList)=true:=beq_self_eq_true _
   clear hp8 hp1 HRG
   clear b1 b3 a0 a1
   go_wp2_with fail
   refine hpl.mono ?_
   rintro e w10 ⟨rfl,hb10⟩
   have HPX:=hZ (HP9.out.bel hb10)
   clear hb10 hpl
   go_wp2_with fail
   go_ret
   exact ⟨rfl,by rw [HSM.out];exact (HPX.out.more (by omega) (by omega)).sub (fun q hq=>by simp [hq])⟩
  ·by_cases h2:kd=2
   ·subst h2
    obtain ⟨s,hs⟩:∃ s,(hasM m x D).1=s:=⟨_,rfl⟩
    obtain ⟨z,hz⟩:∃ z,(hasM m x D).2=z:=⟨_,rfl⟩
    have hcz:Code z:=by rw [← hz];exact has_code _ _ _
    have hsm:storeM m x 2 txt num=m:=rfl
    have hr1:=HP5.out.rhas (qb:=q) (x:=x) (by have h9:=HQ.out;simp [h9]) (by have:=HNK.out;omega) D HDL.out
    rw [hs,hz] at hr1
    unfold digV at hr1
    have HSM:=hZ hsm
    have HCZ:=hZ hcz
    have HSV:=hZ hs
    have HZ:=hZ hz
    clear hcz hsm hs hz
    obtain ⟨-,b1,-,b3⟩:=HP5.out.wcel (a':=a) (sp:=some ⟨sb,0,none⟩) (r':=r) (qp:=some ⟨q,0,none⟩) wb (by simp)
    obtain ⟨a0,a1,-,-⟩:=HP5.out.acel (x:=kd0) (s:=txt) (y:=num) (v:=.slice kp KL kc) ab (by simp)
    have HRG:=hZ (dig_range (HP5.out.kept (xb,digO3 D) (by simp)))
    go_wp2_with (first | refine wpList_load_mid rfl _ _ rfl xb 0 rfl (D.map byteV) _ HRG.out hU rfl hI ?_)
    refine hr1.mono ?_
    rintro e w6 ⟨rfl,hp6⟩
    have HP6:=hZ hp6
    clear hp6 hr1 HRG
    clear b1 b3 a0 a1
    have hp1:=HP6.out.phas (sb:=sb) (x:=x) (by have h9:=HS.out;simp [h9]) D HDL.out
    rw [HSV.out,HZ.out] at hp1
    unfold digV at hp1
    obtain ⟨-,b1,-,b3⟩:=HP6.out.wcel (a':=a) (sp:=some ⟨sb,0,none⟩) (r':=r) (qp:=some ⟨q,0,none⟩) wb (by simp)
    obtain ⟨a0,a1,-,-⟩:=HP6.out.acel (x:=kd0) (s:=txt) (y:=num) (v:=.slice kp KL kc) ab (by simp)
    have HRG:=hZ (dig_range (HP6.out.kept (xb,digO3 D) (by simp)))
    go_wp2_with (first | refine wpList_load_mid rfl _ _ rfl xb 0 rfl (D.map byteV) _ HRG.out hU rfl hI ?_)
    refine hp1.mono ?_
    rintro e w8 ⟨rfl,hp8⟩
    have HP9:=hZ hp8
    have hpl:=plain_E z HCZ.out z w8 (HG.out.below HP9.out.toB HG.out.2)
    rw [beq_self_eq_true] at hpl
    have hdd:(s == s)=true:=beq_self_eq_true _
    clear hp8 hp1 HRG
    clear b1 b3 a0 a1
    go_wp2_with fail
    refine hpl.mono ?_
    rintro e w10 ⟨rfl,hb10⟩
    have HPX:=hZ (HP9.out.bel hb10)
    clear hb10 hpl
    go_wp2_with fail
    go_ret
    exact ⟨rfl,by rw [HSM.out];exact (HPX.out.more (by omega) (by omega)).sub (fun q hq=>by simp [hq])⟩
   ·by_cases h4:kd=4
    ·subst h4
     obtain ⟨M,hM⟩:∃ M,(takeM m D).1=M:=⟨_,rfl⟩
     obtain ⟨z,hz⟩:∃ z,(takeM m D).2=z:=⟨_,rfl⟩
     have hcz:Code z:=by rw [← hz];exact take_code _ _
     have hsm:storeM m x 4 txt num=M:=by rw [← hM,← HD.out];rfl
     have hr1:=HP5.out.rtake (qb:=q) (x:=x) (by have h9:=HQ.out;simp [h9]) (by have:=HNK.out;omega) D HDL.out
     rw [hM,hz] at hr1
     unfold digV at hr1
     have HSM:=hZ hsm
     have HCZ:=hZ hcz
     have HM:=hZ hM
     have HZ:=hZ hz
     clear hcz hsm hM hz
     obtain ⟨-,b1,-,b3⟩:=HP5.out.wcel (a':=a) (sp:=some ⟨sb,0,none⟩) (r':=r) (qp:=some ⟨q,0,none⟩) wb (by simp)
     obtain ⟨a0,a1,-,-⟩:=HP5.out.acel (x:=kd0) (s:=txt) (y:=num) (v:=.slice kp KL kc) ab (by simp)
     have HRG:=hZ (dig_range (HP5.out.kept (xb,digO3 D) (by simp)))
     go_wp2_with (first | refine wpList_load_mid rfl _ _ rfl xb 0 rfl (D.map byteV) _ HRG.out hU rfl hI ?_)
     refine hr1.mono ?_
     rintro e w6 ⟨rfl,hp6⟩
     have HP6:=hZ hp6
     clear hp6 hr1 HRG
     clear b1 b3 a0 a1
     have hp1:=HP6.out.ptake (sb:=sb) (x:=x) (by have h9:=HS.out;simp [h9]) (by have:=HNK.out;omega) D HDL.out
     rw [HM.out,HZ.out] at hp1
     unfold digV at hp1
     obtain ⟨-,b1,-,b3⟩:=HP6.out.wcel (a':=a) (sp:=some ⟨sb,0,none⟩) (r':=r) (qp:=some ⟨q,0,none⟩) wb (by simp)
     obtain ⟨a0,a1,-,-⟩:=HP6.out.acel (x:=kd0) (s:=txt) (y:=num) (v:=.slice kp KL kc) ab (by simp)
     have HRG:=hZ (dig_range (HP6.out.kept (xb,digO3 D) (by simp)))
     go_wp2_with (first | refine wpList_load_mid rfl _ _ rfl xb 0 rfl (D.map byteV) _ HRG.out hU rfl hI ?_)
     refine hp1.mono ?_
     rintro e w8 ⟨rfl,hp8⟩
     have HP9:=hZ hp8
     have hpl:=plain_E z HCZ.out z w8 (HG.out.below HP9.out.toB HG.out.2)
     rw [beq_self_eq_true] at hpl
     clear hp8 hp1 HRG
     clear b1 b3 a0 a1
     go_wp2_with fail
     refine hpl.mono ?_
     rintro e w10 ⟨rfl,hb10⟩
     have HPX:=hZ (HP9.out.bel hb10)
     clear hb10 hpl
     go_wp2_with fail
     go_ret
     exact ⟨rfl,by rw [HSM.out];exact (HPX.out.more (by omega) (by omega)).sub (fun q hq=>by simp [hq])⟩
    ·have h3:kd=3:=by have:=HKD.out;omega
     subst h3
     have hsm:storeM m x 3 txt num=m:=rfl
     have HSM:=hZ hsm
     have hll:=listM_len (m:=m) HP5.out.ok x
     obtain ⟨z,hz⟩:∃ z:Int,(if m.off=true then 27 else 0)=z:=⟨_,rfl⟩
     have hcz:Code z:=by rw [← hz];unfold Code;split <;> omega
     have HCZ:=hZ hcz
     have hr1:=HP5.out.rlist (qb:=q) (x:=x) (by have h9:=HQ.out;simp [h9]) HSH.out (by have:=HNK.out;omega)
     rw [hz] at hr1
     have hp1:=fun V (hb:Below w5.heap.size w5 V)=>(HP5.out.bel hb).plist (sb:=sb) (x:=x) (by have h9:=HS.out;simp [h9]) HSH.out (by have:=HNK.out;omega)
     rw [hz] at hp1
     have HPL:=hZ hp1
     obtain ⟨L,hL⟩:∃ L,listM m x=L:=⟨_,rfl⟩
     rw [hL] at hr1 HPL hll
     obtain ⟨N,hN⟩:∃ N,L.length=N:=⟨_,rfl⟩
     have HN:=hZ hN
     have HLL:Hid (L.length≤1000000000):=hZ (by have:=HNK.out;omega)
     clear hsm hcz hz hp1 hL hN hll
     obtain ⟨-,b1,-,b3⟩:=HP5.out.wcel (a':=a) (sp:=some ⟨sb,0,none⟩) (r':=r) (qp:=some ⟨q,0,none⟩) wb (by simp)
     obtain ⟨a0,a1,-,-⟩:=HP5.out.acel (x:=kd0) (s:=txt) (y:=num) (v:=.slice kp KL kc) ab (by simp)
     go_wp2_with fail
     refine hr1.mono ?_
     rintro e w6 ⟨v0,rfl,ho0,hb6⟩
     obtain ⟨p0,c0,rfl⟩:=row_slice ho0
     rw [HN.out]
     have HP6:=hZ (HP5.out.bel hb6)
     have HB6:=hZ hb6
     have HO0:=hZ ho0
     clear ho0 hb6 hr1
     clear b1 b3 a0 a1
     obtain ⟨-,b1,-,b3⟩:=HP6.out.wcel (a':=a) (sp:=some ⟨sb,0,none⟩) (r':=r) (qp:=some ⟨q,0,none⟩) wb (by simp)
     obtain ⟨a0,a1,-,-⟩:=HP6.out.acel (x:=kd0) (s:=txt) (y:=num) (v:=.slice kp KL kc) ab (by simp)
     have hp2:=HPL.out w6 HB6.out
     go_wp2_with fail
     refine hp2.mono ?_
     rintro e w7 ⟨v1,rfl,ho1,hb7⟩
     obtain ⟨p1,c1,rfl⟩:=row_slice ho1
     rw [HN.out]
     have HP7:=hZ (HP6.out.bel hb7)
     have HB7:=hZ (HB6.out.trans (hb7.mono HB6.out.size))
     have HB67:=hZ hb7
     have HO1:=hZ ho1
     clear ho1 hb7 hp2
     clear b1 b3 a0 a1
     obtain ⟨-,b1,-,b3⟩:=HP7.out.wcel (a':=a) (sp:=some ⟨sb,0,none⟩) (r':=r) (qp:=some ⟨q,0,none⟩) wb (by simp)
     obtain ⟨a0,a1,-,-⟩:=HP7.out.acel (x:=kd0) (s:=txt) (y:=num) (v:=.slice kp KL kc) ab (by simp)
     have hp2:=HPL.out w7 HB7.out
     go_wp2_with fail
     refine hp2.mono ?_
     rintro e w8 ⟨v2,rfl,ho2,hb8⟩
     obtain ⟨p2,c2,rfl⟩:=row_slice ho2
     rw [HN.out]
     have HP8:=hZ (HP7.out.bel hb8)
     have HB68:=hZ (HB67.out.trans (hb8.mono HB67.out.size))
     have HO18:=hZ (OwnD.below HO1.out hb8)
     have HO2:=hZ ho2
     have HBZ:=hZ hb8.size
     have HE8:=hZ (HG.out.below HP8.out.toB HG.out.2)
     clear ho2 hb8 hp2
     clear b1 b3 a0 a1
     have hpl:=plain_E z HCZ.out z w8 HE8.out
     rw [beq_self_eq_true] at hpl
     go_wp2_with fail
     refine hpl.mono ?_
     rintro e w9 ⟨rfl,hb9⟩
     have HB9:=hZ hb9
     clear hb9 hpl
     have hpl:=plain_E z HCZ.out z w9 (HE8.out.below HB9.out HE8.out.2)
     rw [beq_self_eq_true] at hpl
     go_wp2_with fail
     refine hpl.mono ?_
     rintro e w10 ⟨rfl,hb10⟩
     have HB10:=hZ (HB9.out.trans (hb10.mono HB9.out.size))
     clear hb10 hpl
     have hsd:=sameD_any (OwnD.below HO18.out HB10.out) (OwnD.below HO0.out (HB68.out.trans (HB10.out.mono HB68.out.size))) HLL.out
     rw [HN.out] at hsd
     go_wp2_with fail
     refine hsd.mono ?_
     rintro e w11 ⟨rfl,hb11⟩
     have HB11:=hZ (HB10.out.trans (hb11.mono HB10.out.size))
     clear hb11 hsd
     have hsd:=sameD_any (OwnD.below HO2.out HB11.out) (OwnD.below HO0.out (HB68.out.trans (HB11.out.mono HB68.out.size))) HLL.out
     rw [HN.out] at hsd
     go_wp2_with fail
     refine hsd.mono ?_
     rintro e w12 ⟨rfl,hb12⟩
     have HB12:=hZ (HB11.out.trans (hb12.mono HB11.out.size))
     clear hb12 hsd
     have hba:Below w8.heap.size w8 (w12.alloc (.cells #[.slice p1 N c1,.slice p2 N c2] 31)):=HB12.out.alloc HB12.out.size _
     have ho1:=OwnD.below HO18.out hba
     have ho2:=OwnD.below HO2.out hba
     rw [HN.out] at ho1 ho2
     have hw67:w6.heap.size≤w7.heap.size:=HB67.out.size
     have h12:∀ b,(Value.slice p1 N c1).ownBlock=some b→(Value.slice p2 N c2).ownBlock≠some b:=fun b h1 h2=>by
      have q1:=HO1.out
      rw [HN.out] at q1
      have:=(OwnG.block q1 h1).2.1
      have:=(OwnG.block ho2 h2).1
      omega
     have hA:=apartD_any #[.slice p1 N c1,.slice p2 N c2] w12.heap.size 2 w6.heap.size (fun _=>L) _ ⟨heap_new w12 _,fun k v hk=>by
       match k,hk with
       |0,hk=>cases hk;exact ho1
       |1,hk=>cases hk;exact OwnD.base ho2 hw67
       |k+2,hk=>simp at hk,Below.refl _ _,by
       have h2:=HB68.out.size;have h5:=hba.size
       exact Nat.le_trans h2 h5⟩ (fun j k v u b hj hk hne hb=>by
       match j,k,hj,hk,hne with
       |0,0,_,_,hne=>exact absurd rfl hne
       |1,1,_,_,hne=>exact absurd rfl hne
       |0,1,hj,hk,_=>cases hj;cases hk;exact h12 b hb
       |1,0,hj,hk,_=>cases hj;cases hk;exact fun h=>h12 b h hb
       |j+2,_,hj,_,_=>simp at hj
       |0,k+2,_,hk,_=>simp at hk
       |1,k+2,_,hk,_=>simp at hk) (by
       have h2:=HB68.out.size;have h5:=HB12.out.size
       exact Nat.le_trans h2 h5) (Nat.zero_lt_succ _) (by show 2≤1000;decide) (by show 2≤2;decide) (by decide) (fun _=>HLL.out)
     have HA:=hZ hA
     have HBA:Hid (Below w6.heap.size w6 (w12.alloc (.cells #[.slice p1 N c1,.slice p2 N c2] 31))):=hZ (HB68.out.trans (hba.mono HB68.out.size))
     clear hA ho1 ho2 h12 hba hw67
     go_wp2_with fail
     refine HA.out.mono ?_
     rintro e w14 ⟨rfl,hb14⟩
     have HB14:Hid (Below w6.heap.size w6 w14):=hZ (HBA.out.trans hb14)
     have HP14:=hZ (HP6.out.bel HB14.out)
     clear hb14 HA HBA
     obtain ⟨-,b1,-,b3⟩:=HP14.out.wcel (a':=a) (sp:=some ⟨sb,0,none⟩) (r':=r) (qp:=some ⟨q,0,none⟩) wb (by simp)
     obtain ⟨a0,a1,-,-⟩:=HP14.out.acel (x:=kd0) (s:=txt) (y:=num) (v:=.slice kp KL kc) ab (by simp)
     have hp2:=HPL.out w14 (HB6.out.trans (HB14.out.mono HB6.out.size))
     go_wp2_with fail
     refine hp2.mono ?_
     rintro e w15 ⟨v3,rfl,ho3,hb15⟩
     obtain ⟨p3,c3,rfl⟩:=row_slice ho3
     rw [HN.out]
     have HP15:=hZ (HP14.out.bel hb15)
     have hsd:=sameD_any ho3 (OwnD.below HO0.out (HB14.out.trans (hb15.mono HB14.out.size))) HLL.out
     rw [HN.out] at hsd
     clear ho3 hb15 hp2
     clear b1 b3 a0 a1
     go_wp2_with fail
     refine hsd.mono ?_
     rintro e w16 ⟨rfl,hb16⟩
     have HPX:=hZ (HP15.out.bel hb16)
     clear hb16 hsd
     go_wp2_with fail
     go_ret
     exact ⟨rfl,by rw [HSM.out];exact (HPX.out.more (by omega) (by omega)).sub (fun q hq=>by simp [hq])⟩
end Go.Proofs.YtecgikanophonaaGreatDoor
/- Both Opens at a width that is none. -/
namespace Go.Proofs.YtecgikanophonaaGreatDoor
open Go Go.RowKit
theorem openBad_any (a:Nat) (x:Int) (w:World) (hx:x < 1∨32 < x) :
  Calls Tryz.prog 8 #[.pointer (some ⟨a,0,none⟩),.int .i64 x] w fun e w'=>e=.returned (.tuple #[.pointer none,errE 1])∧w=w':=by
 by_cases h1:x < 1
 ·clear hx
  go_enter Tryz.func8,Tryz.ntmps8
  go_wp2_with fail
  go_ret2
  exact ⟨rfl,rfl⟩
 ·have h2:32 < x:=hx.elim (fun h=>absurd h h1) id
  clear hx
  go_enter Tryz.func8,Tryz.ntmps8
  go_wp2_with fail
  go_ret2
  exact ⟨rfl,rfl⟩
theorem refOpenBad_any (r:Nat) (x:Int) (w:World) (hx:x < 1∨32 < x) :
  Calls Tryz.prog 30 #[.pointer (some ⟨r,0,none⟩),.int .i64 x] w fun e w'=>e=.returned (.tuple #[.pointer none,.int .i64 1])∧w=w':=by
 by_cases h1:x < 1
 ·clear hx
  go_enter Tryz.func30,Tryz.ntmps30
  go_wp2_with fail
  go_ret2
  exact ⟨rfl,rfl⟩
 ·have h2:32 < x:=hx.elim (fun h=>absurd h h1) id
  clear hx
  go_enter Tryz.func30,Tryz.ntmps30
  go_wp2_with fail
  go_ret2
  exact ⟨rfl,rfl⟩
end Go.Proofs.YtecgikanophonaaGreatDoor
