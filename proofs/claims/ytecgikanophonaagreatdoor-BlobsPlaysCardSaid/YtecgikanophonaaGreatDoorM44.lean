/- Texts of the seat, one behind the other: DigR, BlobN, SameD, MarkD, ApartD. -/
import Derived.Test.YtecgikanophonaaGreatDoorM37
import Derived.Test.YtecgikanophonaaGreatDoorM42
import Derived.Great.FillDense
import Derived.Test.YtecgikanophonaaGreatDoorM40
import Derived.Test.YtecgikanophonaaGreatDoorM43
import Derived.Test.YtecgikanophonaaGreatDoorM12
set_option maxRecDepth 100000
set_option maxHeartbeats 25600000
/- Rows of digests: small facts (they stand in GetsR and Gets too: never import both). -/
namespace Go.Proofs.YtecgikanophonaaGreatDoor
open Go Go.RowKit
theorem row_same {W W':World} {base:Nat} {e:TypeId} {size n:Nat} {v:Value} {xs:List Value} (h:W.ownsRow base e size v n xs) (hk:∀ b,v.ownBlock=some b→W'.heap[b]?=W.heap[b]?):W'.ownsRow base e size v n xs:=by
 refine ⟨h.1,?_⟩
 rcases h.2 with h | ⟨g,cap,cur,h1,h2,h3,h4⟩
 ·exact .inl h
 ·exact .inr ⟨g,cap,cur,h1,h2,(hk g (by rw [h1];rfl)).trans h3,h4⟩
theorem row_blk {W:World} {base:Nat} {e:TypeId} {size n:Nat} {v:Value} {xs:List Value} (h:W.ownsRow base e size v n xs) {b:Nat} (hb:v.ownBlock=some b):base≤b∧b < W.heap.size∧∃ cur,W.heap[b]?=some (.cells cur e (0,0)):=by
 rcases h.2 with ⟨rfl,-⟩ | ⟨g,cap,cur,h1,h2,h3,h4⟩
 ·cases hb
 ·rw [h1] at hb
  cases hb
  exact ⟨h2,blk_lt h3,cur,h3⟩
theorem row_slice {W:World} {base:Nat} {e:TypeId} {size n:Nat} {v:Value} {xs:List Value} (h:W.ownsRow base e size v n xs):∃ p c,v=.slice p n c:=by
 rcases h.2 with ⟨rfl,h0⟩ | ⟨g,cap,cur,h1,-⟩
 ·exact ⟨none,0,by rw [h0]⟩
 ·exact ⟨_,cap,h1⟩
theorem infoD:(Tryz.prog.info? 33).map (fun i=>(i.size,i.bytes))=some (32,32):=by kernel_rfl
theorem zeroDg:(Tryz.prog.info? 33).bind (·.zero)=some (.agg z32):=by kernel_rfl
theorem dig_parts:∃ i,Tryz.prog.info? 33=some i∧i.zero=some (.agg z32)∧i.size=32∧i.bytes=32:=by
 have h1:=infoD
 have h2:=zeroDg
 cases hi:Tryz.prog.info? 33 with
 |none=>rw [hi] at h1;cases h1
 |some i =>
  rw [hi] at h1 h2
  have h3:=Option.some.inj h1
  exact ⟨i,rfl,h2,(Prod.mk.inj h3).1,(Prod.mk.inj h3).2⟩
theorem newDg (w:World) (d:List UInt8):∀ (j:Nat) (u:Value),(d.map byteV)[j]?=some u→(w.alloc (.cells (d.map byteV).toArray 33)).cell? ((⟨w.heap.size,0,none⟩:Addr).add j)=some u:=fun j u h=>by
 rw [show ((⟨w.heap.size,0,none⟩:Addr).add j)=⟨w.heap.size,j,none⟩ by simp [Addr.add];intro e;exact e.symm,cell_of_heapN (heap_new w _),List.getElem?_toArray]
 exact h
theorem fold_dig {D:List UInt8} (h:D.length=32) (z:Array Value) (hz:z.size=32):List.foldl (fun cs x=>cs.setIfInBounds x.snd x.fst) z (List.map byteV D).zipIdx=(List.map byteV D).toArray:=by
 have hl:(List.map byteV D).length=32:=by rw [List.length_map,h]
 have hf:=Go.Great.foldl_set 0 (List.map byteV D) 0 z
 simp only [Nat.zero_add] at hf
 have h4:∀ k,(List.foldl (fun cs x=>cs.setIfInBounds x.snd x.fst) z (List.map byteV D).zipIdx)[k]?=(List.map byteV D)[k]?:=fun k=>by
  have h3:=hf.2 k
  rw [hl,hz] at h3
  rw [h3]
  by_cases hk:k < 32
  ·rw [if_pos ⟨Nat.zero_le _,hk,hk⟩,Nat.sub_zero]
  ·rw [if_neg (fun h=>hk h.2.1),List.getElem?_eq_none (by rw [hl];omega),Array.getElem?_eq_none (by rw [hz];omega)]
 refine Array.ext_getElem? fun k=>?_
 exact (h4 k).trans (List.getElem?_toArray ..).symm
theorem app_below {W W':World} {base:Nat} {e:TypeId} {size n:Nat} {v v':Value} {xs:List Value} (h:W.ownsRow base e size v n xs) (hl:(v'.ownBlock=v.ownBlock∧W.grownBy W' v.ownBlock)∨(v'.ownBlock=some W.heap.size∧W.grownBy W' none)) (hz:base≤W.heap.size):Below base W W':=by
 rcases hl with ⟨-,hg⟩ | ⟨-,hg⟩
 ·exact ⟨hg.os,hg.tape,hg.output,hg.size,fun k hk=>hg.block k (by omega) (fun e=>by have:=(row_blk h e.symm).1;omega)⟩
 ·exact ⟨hg.os,hg.tape,hg.output,hg.size,fun k hk=>hg.block k (by omega) (fun e=>by cases e)⟩
end Go.Proofs.YtecgikanophonaaGreatDoor
/- Contract of blobs' List. -/
namespace Go.Proofs.YtecgikanophonaaGreatDoor
open Go Go.RowKit Go.Sort
abbrev OwnD (base:Nat) (l:List Dg) (v:Value) (w:World):Prop:=OwnG 33 32 clD base l v w
theorem OwnD.below {base:Nat} {l:List Dg} {v:Value} {w w':World} (h:OwnD base l v w) (hb:Below w.heap.size w w'):OwnD base l v w':=row_same h (fun b hv=>hb.block b (row_blk h hv).2.1)
theorem OwnD.row {base K:Nat} {l:List Dg} {v:Value} {w:World} (h:OwnD base l v w) (hl:l.length=K):w.ownsRow base 33 32 v K (flatG clD l):=hl ▸ h
theorem sortL_nil:sortL []=[]:=by unfold sortL;exact List.mergeSort_nil
def ListPost (w1:World) (m:DM) (x:Int) (e:Ending) (w':World):Prop :=
 ∃ v,e=.returned (.tuple #[v,errE (if m.off then 27 else 0)])∧OwnD w1.heap.size (sortL (listM m x)) v w'∧Below w1.heap.size w1 w'
theorem listM_off {m:DM} (x:Int) (h:m.off=true):listM m x=[]:=by
 unfold listM DM.lists
 rw [if_pos h]
 rfl
theorem listB_any {w w1:World} {S P:Nat→Prop} {sb a n:Nat} {x:Int} {m:DM} (h:Sto w S P sb a x w1 n m) (hn:n≤1000000000) (hsh:∀ s∈m.lists ⟨blobHead.toArray⟩,s.size≤200) :
  Calls Tryz.prog 45 #[.pointer (some ⟨sb,0,none⟩)] w1 (ListPost w1 m x):=by
 obtain ⟨i0,hi,hz0,hz1,hz2⟩:=dig_parts
 have HS1:=hZ h
 have hlN:(m.lists ⟨blobHead.toArray⟩).length≤n:=by
  unfold DM.lists
  split
  ·exact Nat.zero_le _
  ·rw [List.length_map]
   exact Nat.le_trans (List.length_filter_le _ _) h.st.ok.nowN
 have hls:=st_list h.st ⟨#[98,108,111,98,115,47]⟩ (by omega)
 have hlq:m.lists ⟨blobHead.toArray⟩=m.lists ⟨#[98,108,111,98,115,47]⟩:=rfl
 rw [← hlq] at hls
 have hLM:listM m x=((m.lists ⟨blobHead.toArray⟩).filter fun n=>(rightM m x n).isSome).map digOf:=rfl
 have hbox:w1.cell? ⟨sb,0,none⟩=some (.pointer (some ⟨a,0,none⟩)):=by rw [cell_of_heapN h.box];rfl
 obtain ⟨L,hL⟩:∃ L,m.lists ⟨blobHead.toArray⟩=L:=⟨_,rfl⟩
 rw [hL] at hls hlN hsh hLM
 have HLM:=hZ hLM
 have HSH:=hZ hsh
 obtain ⟨N,hN⟩:∃ N,L.length=N:=⟨_,rfl⟩
 have HN:=hZ hN
 rw [hN] at hlN
 have HNN:Hid (N≤n∧n≤1000000000):=hZ ⟨hlN,hn⟩
 clear h hsh hlN hL hN hn hlq hLM
 unfold ListPost
 cases hoff:m.off with
 |true =>
  rw [hoff] at hls
  have HOFF:=hZ hoff
  clear hoff
  have hlsw:Calls Tryz.prog 25 #[.pointer (some ⟨a,0,none⟩),.string ⟨#[98,108,111,98,115,47]⟩] w1 fun e w'=>∃ v,e=.returned (.tuple #[v,.iface 76 (.int .i64 27)])∧OwnTexts w1.heap.size w' v L∧Below w1.heap.size w1 w':=hls
  clear hls
  go_enter Tryz.func45,Tryz.ntmps45
  go_wp2_with fail
  refine hlsw.mono ?_
  rintro e w2 ⟨v,rfl,-,hb2⟩
  have HB2:=hZ hb2
  clear hb2 hlsw hbox
  go_wp2_with fail
  go_ret2
  refine ⟨_,rfl,?_,HB2.out⟩
  rw [listM_off x HOFF.out,sortL_nil]
  exact ⟨rfl,.inl ⟨rfl,rfl⟩⟩
 |false =>
  rw [hoff] at hls
  clear hoff
  have hlsw:Calls Tryz.prog 25 #[.pointer (some ⟨a,0,none⟩),.string ⟨#[98,108,111,98,115,47]⟩] w1 fun e w'=>∃ v,e=.returned (.tuple #[v,.nilIface])∧OwnTexts w1.heap.size w' v L∧Below w1.heap.size w1 w':=hls
  clear hls
  go_enter Tryz.func45,Tryz.ntmps45
  go_wp2_with fail
  refine hlsw.mono ?_
  rintro e w2 ⟨v,rfl,hv,hb2⟩
  obtain ⟨vp,vc,rfl⟩:=hv.rd.len
  rw [HN.out] at hv ⊢
  have HV2:=hZ hv.rd
  have HB2:=hZ hb2
  have HS2:=hZ (HS1.out.bel hb2)
  have hNi:(N:Int)≤1000000000:=by have:=HNN.out;omega
  clear hb2 hlsw hv HS1 hbox
  go_wp2_with fail
  go_loopw [6,26] (fun v iv wr=>∃ (k K:Nat),(k:Int)≤N∧(K:Int)≤k∧iv=.int .i64 k∧(∃ vp vc,v=.slice vp K vc)∧Hid ((((L.take k).filter fun s=>(rightM m x s).isSome).map digOf).length=K)∧Hid (OwnD w2.heap.size (((L.take k).filter fun s=>(rightM m x s).isSome).map digOf) v wr)∧Hid (Below w2.heap.size w2 wr)) (fun _ iv _=>N - (intOf iv).toNat)
  case atStart=>exact ⟨0,0,by omega,by omega,rfl,⟨_,_,rfl⟩,hZ rfl,hZ ⟨rfl,.inl ⟨rfl,rfl⟩⟩,hZ (Below.refl _ _)⟩
  case round =>
   obtain ⟨k,K,hk,hKk,rfl,⟨up,uc,rfl⟩,HK,HR,HB⟩:=hrel
   by_cases hlt:(k:Int) < N
   ·have hkl:k < L.length:=by rw [HN.out];omega
    obtain ⟨s,hs⟩:∃ s,L[k]?=some s:=⟨_,List.getElem?_eq_getElem hkl⟩
    obtain ⟨vp',vc',he,hv⟩:=HV2.out.below HB.out
    obtain ⟨vb,vo,hvp,hvl,hvc⟩:=hv k s hs
    have hpe:vp=some ⟨vb,vo,none⟩:=by cases he;exact hvp
    subst hpe
    have hss:=HSH.out s (List.mem_of_getElem? hs)
    have htk:L.take (k+1)=L.take k ++ [s]:=by rw [List.take_add_one,hs];rfl
    have HTK:=hZ htk
    obtain ⟨l,hl⟩:∃ l,((L.take k).filter fun s=>(rightM m x s).isSome).map digOf=l:=⟨_,rfl⟩
    have HL:=hZ hl
    rw [hl] at HK HR
    have hss3:s.size≤140737488355328:=by omega
    have hnm:=fun W=>named_any s hss3 W
    have hdl:((namedM s).getD zeroD).length=32:=named_len s
    obtain ⟨D,hD⟩:∃ D,(namedM s).getD zeroD=D:=⟨_,rfl⟩
    have HDO:Hid (∀ h:D.length=32,digOf s=⟨D,h⟩):=hZ (fun h=>Subtype.ext hD)
    unfold namedV at hnm
    rw [hD] at hdl hnm
    have HDL:=hZ hdl
    obtain ⟨ob,hob⟩:∃ b,(namedM s).isSome=b:=⟨_,rfl⟩
    rw [hob] at hnm
    unfold digV at hnm
    have HNM:=hZ hnm
    clear hs he hv hvp hvl htk hkl hl hnm hdl hD hob hss
    have HS4:=hZ (HS2.out.bel HB.out)
    go_wp2_with fail
    refine (st_right HS4.out s hss3).mono ?_
    rintro e w5 ⟨⟨t,rfl,-⟩,hb5⟩
    have HB5:Hid (Below w2.heap.size w2 w5):=hZ (HB.out.trans (hb5.mono HB.out.size))
    have HR5:=hZ (HR.out.below hb5)
    clear hb5 hvc
    cases hrt:rightM m x s with
    |none =>
     have hf:[s].filter (fun s=>(rightM m x s).isSome)=[]:=by rw [List.filter_cons,hrt];rfl
     have HF:=hZ hf
     clear hf hrt
     go_wp2_with fail
     have he:((L.take (k+1)).filter fun s=>(rightM m x s).isSome).map digOf=l:=by rw [HTK.out,List.filter_append,HF.out,List.append_nil];exact HL.out
     refine ⟨⟨k+1,K,by omega,by omega,by rw [Int.natCast_add];rfl,⟨_,_,rfl⟩,hZ ?_,hZ ?_,HB5⟩,by simp [intOf];omega⟩
     ·rw [he];exact HK.out
     ·rw [he];exact HR5.out
    |some u =>
     have hf:[s].filter (fun s=>(rightM m x s).isSome)=[s]:=by rw [List.filter_cons,hrt];rfl
     have HF:=hZ hf
     have hdl32:=HDL.out
     have hfd:=fold_dig HDL.out
     have hI:=dig_info HDL.out
     have hI2:=dig_info2 HDL.out
     have hd1:=dig_one D
     have hdz:=dig_size HDL.out
     have hU:=dig_und
     have hDo:∀ u∈D.map byteV,u.oneCell'=true:=fun u hu=>by obtain ⟨x,_,rfl⟩:=List.mem_map.1 hu;rfl
     clear hf hrt
     go_wp2_with (first | (go_at_call 77;refine (HNM.out _).mono ?_;rintro e w6 ⟨rfl,hb6⟩;have HB6:Hid (Below w2.heap.size w2 w6):=hZ (HB5.out.trans (hb6.mono HB5.out.size));have HR6:=hZ (HR5.out.below hb6);clear hb6) | (refine wpList_store_new rfl _ _ _ rfl _ (D.map byteV).toArray _ rfl rfl rfl hI2 hdz hd1 ?_;(obtain ⟨W5,hW5⟩:∃ W,w6.alloc (.cells (D.map byteV).toArray 33)=W:=⟨_,rfl⟩;have hb7:Below w6.heap.size w6 W5:=(by rw [← hW5];exact (Below.refl _ _).alloc (Nat.le_refl _) _);have hx5:W5.heap[w6.heap.size]?=some (.cells (D.map byteV).toArray 33 (0,0)):=(by rw [← hW5];exact heap_new _ _);have HB7:Hid (Below w2.heap.size w2 W5):=hZ (HB6.out.trans (hb7.mono HB6.out.size));have HR7:=hZ (HR6.out.below hb7);have HRG5:=hZ (dig_range hx5);rw [hW5];clear hW5 hb7 hx5)) | refine wpList_load_mid rfl _ _ rfl w6.heap.size 0 rfl (D.map byteV) _ HRG5.out hU rfl hI ?_ | (at_builtin;go_must (refine wpList_app_to rfl _ _ 31 rfl w2.heap.size 33 i0 (.agg z32) 32 32 Tryz.underlying31 hi hz0 hz1 hz2 rfl (by decide) (.slice up K uc) K _ rfl ((HR7.out.below ((Below.refl W5.heap.size W5).alloc (Nat.le_refl _) (.cells (D.map byteV).toArray 33))).row HK.out) ⟨W5.heap.size,0,none⟩ 1 1 (D.map byteV) rfl (by rw [List.length_map,hdl32]) (newDg W5 D) hDo (by decide) (by unfold maxLen;omega) (by omega) (Nat.le_trans HB7.out.size (by rw [World.size_alloc];omega)) ?_);intro v6 W6 ho6 hl6;have HO6:=hZ ho6;have HL6:=hZ hl6;(obtain ⟨p6,c6,rfl⟩:=row_slice ho6);clear ho6 hl6))
     have he:((L.take (k+1)).filter fun s=>(rightM m x s).isSome).map digOf=l ++ [⟨D,hdl32⟩]:=by rw [HTK.out,List.filter_append,HF.out,List.map_append,HL.out,← HDO.out];rfl
     have hb9:Below w2.heap.size w2 W6:=(HB7.out.alloc (by have:=HB7.out.size;omega) _).trans (app_below ((HR7.out.below ((Below.refl W5.heap.size W5).alloc (Nat.le_refl _) (.cells (D.map byteV).toArray 33))).row HK.out) HL6.out (Nat.le_trans HB7.out.size (by rw [World.size_alloc];omega)))
     refine ⟨⟨k+1,K+1,by omega,by omega,by rw [Int.natCast_add];rfl,⟨_,_,rfl⟩,hZ ?_,hZ ?_,hZ hb9⟩,by simp [intOf];omega⟩
     ·rw [he,List.length_append,HK.out];rfl
     ·rw [he]
      exact OwnG.app (by rw [HK.out];exact HO6.out)
   ·obtain rfl:k=N:=by omega
    have hall:((L.take k).filter fun s=>(rightM m x s).isSome).map digOf=listM m x:=by rw [List.take_of_length_le (by rw [HN.out];exact Nat.le_refl _)];exact HLM.out.symm
    rw [hall] at HK HR
    have hsr:=sort_row HR.out HB.out.size HK.out (by have:=HNN.out;omega)
    go_wp2_with fail
    refine hsr.mono ?_
    rintro e w9 ⟨rfl,ho,hb⟩
    have HO:=hZ ho
    have HB9:=hZ hb
    clear ho hb hsr
    go_wp2_with fail
    go_ret2
    exact ⟨_,rfl,own_base HO.out HB2.out.size,HB2.out.trans ((HB.out.trans HB9.out).mono HB2.out.size)⟩
end Go.Proofs.YtecgikanophonaaGreatDoor
/- strataref0.SameDigests at two rows of the same digests. -/
namespace Go.Proofs.YtecgikanophonaaGreatDoor
open Go Go.RowKit
theorem row_digS {W:World} {base n i:Nat} {v:Value} {l:List Dg} {x:Dg} (h:W.ownsRow base 33 32 v n (flatG clD l)) (hn:l.length=n) (hx:l[i]?=some x):∃ g cap,v=.slice (some ⟨g,0,none⟩) n cap∧g < W.heap.size∧W.rangeAt g (i * 32) (x.1.map byteV):=by
 have ho:OwnG 33 32 clD base l v W:=by unfold OwnG;rw [hn];exact h
 rcases ho.reads clD_size with ⟨rfl,rfl⟩ | ⟨g,cap,cur,h1,-,-,h4,h5⟩
 ·cases hx
 ·refine ⟨g,cap,by rw [h1,hn],blk_lt h4,fun j u hj=>?_⟩
  have hj32:j < 32:=by have:=(List.getElem?_eq_some_iff.1 hj).1;rw [List.length_map,x.2] at this;exact this
  rw [cell_of_heapN h4,h5 i x hx j hj32]
  show (encD x).toArray[j]?=_
  rw [List.getElem?_toArray]
  exact hj
theorem sameD_any {w:World} {b1 b2:Nat} {v1 v2:Value} {l:List Dg} (h1:OwnD b1 l v1 w) (h2:OwnD b2 l v2 w) (hl:l.length≤1000000000) :
  Calls Tryz.prog 74 #[v1,v2] w fun e w'=>e=.returned (.bool true)∧Below w.heap.size w w':=by
 obtain ⟨N,hN⟩:∃ N,l.length=N:=⟨_,rfl⟩
 have r1:=h1.row hN
 have r2:=h2.row hN
 obtain ⟨p,lc,rfl⟩:=row_slice r1
 obtain ⟨p2,lc2,rfl⟩:=row_slice r2
 have R1:=hZ r1
 have R2:=hZ r2
 have HN:=hZ hN
 have hNi:(N:Int)≤1000000000:=by omega
 have hU:=dig_und
 clear h1 h2 r1 r2 hN hl
 go_enter Tryz.func74,Tryz.ntmps74
 go_wp2_with fail
 go_loopw [5] (fun iv wr=>∃ k:Nat,(k:Int)≤N∧iv=.int .i64 k∧Hid (Below w.heap.size w wr)) (fun iv _=>N - (intOf iv).toNat)
 case atStart=>exact ⟨0,by omega,rfl,hZ (Below.refl _ _)⟩
 case round =>
  obtain ⟨k,hk,rfl,HB⟩:=hrel
  by_cases hlt:(k:Int) < N
  ·have hkl:k < l.length:=by rw [HN.out];omega
   obtain ⟨x,hx⟩:∃ x,l[k]?=some x:=⟨_,List.getElem?_eq_getElem hkl⟩
   obtain ⟨g,lc',e1,hg1,hr1⟩:=row_digS R1.out HN.out hx
   obtain ⟨g2,lc2',e2,hg2,hr2⟩:=row_digS R2.out HN.out hx
   cases e1
   cases e2
   obtain ⟨E,hE⟩:=x
   have HEL:=hZ hE
   have hIE:=dig_info hE
   have HGL:=hZ (Nat.lt_of_lt_of_le hg1 HB.out.size)
   have HGL2:=hZ (Nat.lt_of_lt_of_le hg2 HB.out.size)
   have HGR:Hid (wr.rangeAt g (k * 32) (E.map byteV)):=hZ (fun j u hj=>(HB.out.cell (p:=⟨g,k * 32+j,none⟩) hg1).trans (hr1 j u hj))
   have HGR2:Hid (wr.rangeAt g2 (k * 32) (E.map byteV)):=hZ (fun j u hj=>(HB.out.cell (p:=⟨g2,k * 32+j,none⟩) hg2).trans (hr2 j u hj))
   have hkN:k < N:=by omega
   clear hx hkl hr1 hr2 hg1 hg2
   go_wp2_with fail
   have hI0:Below wr.heap.size wr wr.drew:=⟨rfl,rfl,rfl,Nat.le_refl _,fun _ _=>rfl⟩
   refine wp_region_flowG (fun _:Unit=>[.slice (some ⟨g,0,none⟩) N lc,.int .i64 k,.pointer (some ⟨g,k * 32,none⟩),.agg (E.map byteV).toArray,.slice (some ⟨g2,0,none⟩) N lc2,.int .i64 k,.pointer (some ⟨g2,k * 32,none⟩),.agg (E.map byteV).toArray,.bool (!(E == E))]) (fun _ _ W=>Below wr.heap.size wr W)
    [[],[],[0,1],[2],[],[],[4,5],[6],[3,7]] 26 () mixedD rfl (by kernel_rfl) (fun _=>rfl) hI0 ?_ ?_
   ·refine ⟨?_,?_,?_,?_,?_,?_,?_,?_,?_,rfl⟩
    all_goals intro L γ W ev hL hd hW hc hf hg he h0
    ·have e0:ev (.tmp 0)=.slice (some ⟨g,0,none⟩) N lc:=h0 0 rfl
     clear he h0 hc hf hg
     exact flS rfl (by go_simp <;> rfl) (hW) rfl
    ·have e5:ev (.tmp 5)=.int .i64 k:=h0 5 rfl
     clear he h0 hc hf hg
     exact flS rfl (by go_simp <;> rfl) (hW) rfl
    ·have e17:ev (.tmp 17)=.slice (some ⟨g,0,none⟩) N lc:=he 0 (by decide) _ 17 rfl rfl
     have e18:ev (.tmp 18)=.int .i64 k:=he 1 (by decide) _ 18 rfl rfl
     clear he h0 hc hf hg
     exact flS rfl (by go_simp <;> rfl) (hW) rfl
    ·have e19:ev (.tmp 19)=.pointer (some ⟨g,k * 32,none⟩):=he 2 (by decide) _ 19 rfl rfl
     clear he h0 hc hg
     have hlv:=run_loadVar_mid (P:=Tryz.prog) W g (k * 32) 33 (E.map byteV) _ (fun j u hj=>(hW.cell (p:=⟨g,k * 32+j,none⟩) HGL.out).trans (HGR.out j u hj)) hU rfl hIE
     refine .inl ⟨rfl,.inl ⟨_,W,?_,.still (hW) rfl⟩⟩
     unfold execOp
     simp only [e19,Instr.loadAt,Instr.sureAddr,Sem.run_bind,Sem.run_pure,Result.andThen_ok,hlv]
     try rfl
    ·have e1:ev (.tmp 1)=.slice (some ⟨g2,0,none⟩) N lc2:=h0 1 rfl
     clear he h0 hc hf hg
     exact flS rfl (by go_simp <;> rfl) (hW) rfl
    ·have e5:ev (.tmp 5)=.int .i64 k:=h0 5 rfl
     clear he h0 hc hf hg
     exact flS rfl (by go_simp <;> rfl) (hW) rfl
    ·have e21:ev (.tmp 21)=.slice (some ⟨g2,0,none⟩) N lc2:=he 4 (by decide) _ 21 rfl rfl
     have e22:ev (.tmp 22)=.int .i64 k:=he 5 (by decide) _ 22 rfl rfl
     clear he h0 hc hf hg
     exact flS rfl (by go_simp <;> rfl) (hW) rfl
    ·have e23:ev (.tmp 23)=.pointer (some ⟨g2,k * 32,none⟩):=he 6 (by decide) _ 23 rfl rfl
     clear he h0 hc hg
     have hlv:=run_loadVar_mid (P:=Tryz.prog) W g2 (k * 32) 33 (E.map byteV) _ (fun j u hj=>(hW.cell (p:=⟨g2,k * 32+j,none⟩) HGL2.out).trans (HGR2.out j u hj)) hU rfl hIE
     refine .inl ⟨rfl,.inl ⟨_,W,?_,.still (hW) rfl⟩⟩
     unfold execOp
     simp only [e23,Instr.loadAt,Instr.sureAddr,Sem.run_bind,Sem.run_pure,Result.andThen_ok,hlv]
     try rfl
    ·have e20:ev (.tmp 20)=.agg (E.map byteV).toArray:=he 3 (by decide) _ 20 rfl rfl
     have e24:ev (.tmp 24)=.agg (E.map byteV).toArray:=he 7 (by decide) _ 24 rfl rfl
     clear he h0 hc hg
     have hq:=dig_in W HEL.out HEL.out
     refine .inl ⟨rfl,.inl ⟨_,W,(by go_simp <;> rfl),.still (hW) rfl⟩⟩
   intro γ L w3 hL hW
   have HB3:Hid (Below w.heap.size w w3):=hZ (HB.out.trans (hW.mono HB.out.size))
   clear hL hW hI0
   simp only [putAll,Act.put,List.setIfInBounds_toArray,List.set_cons_succ,List.set_cons_zero]
   have hee:(!(E == E))=false:=by simp
   rw [hee]
   go_wp2_with fail
   exact ⟨⟨k+1,by omega,by rw [Int.natCast_add];rfl,HB3⟩,by simp [intOf];omega⟩
  ·go_wp2_with fail
   go_ret
   exact ⟨rfl,HB.out⟩
end Go.Proofs.YtecgikanophonaaGreatDoor
/- stratakit.markDigests: the digest of a mark. -/
namespace Go.Proofs.YtecgikanophonaaGreatDoor
open Go Go.RowKit
def byteQ (x:Int):UInt8:=(x % 256).toNat.toUInt8
theorem byteQ_int (x:Int):byteV (byteQ x)=.int .u8 (x % 256):=by
 unfold byteV byteQ
 rw [Nat.toUInt8,UInt8.toNat_ofNat']
 congr 1
 omega
def markL (k i:Int):List UInt8:=[35,byteQ k,byteQ (k / 256),byteQ i,byteQ (i / 256),7,7] ++ List.replicate 25 0
theorem markL_len (k i:Int):(markL k i).length=32:=rfl
def markD (k i:Int):Dg:=⟨markL k i,rfl⟩
theorem markL_cells (k i:Int):((markL k i).map byteV).toArray=#[.int .u8 35,.int .u8 (k % 256),.int .u8 (k / 256 % 256),.int .u8 (i % 256),.int .u8 (i / 256 % 256),.int .u8 7,.int .u8 7,.int .u8 0,.int .u8 0,.int .u8 0,.int .u8 0,.int .u8 0,.int .u8 0,.int .u8 0,.int .u8 0,.int .u8 0,.int .u8 0,.int .u8 0,.int .u8 0,.int .u8 0,.int .u8 0,.int .u8 0,.int .u8 0,.int .u8 0,.int .u8 0,.int .u8 0,.int .u8 0,.int .u8 0,.int .u8 0,.int .u8 0,.int .u8 0,.int .u8 0]:=by
 show (List.map byteV [35,byteQ k,byteQ (k / 256),byteQ i,byteQ (i / 256),7,7,0,0,0,0,0,0,0,0,0,0,0,0,0,0,0,0,0,0,0,0,0,0,0,0,0]).toArray=_
 simp only [List.map_cons,List.map_nil,byteQ_int]
 rfl
theorem markDg_any (k i:Int) (w:World) (hk0:0≤k) (hk:k≤1000) (hi0:0≤i) (hi:i≤8000000000) :
  Calls Tryz.prog 152 #[.int .i64 k,.int .i64 i] w fun e w'=>e=.returned (digV (markL k i))∧Below w.heap.size w w':=by
 have hm:=markL_cells k i
 rw [show k / 256 % 256=k / 256 by omega] at hm
 have HM:=hZ hm
 obtain ⟨W0,hW0⟩:∃ W,w.alloc (.cells z32 33)=W:=⟨_,rfl⟩
 have hx0:W0.heap[w.heap.size]?=some (.cells z32 33 (0,0)):=by rw [← hW0];exact heap_new _ _
 have hb0:Below w.heap.size w W0:=by rw [← hW0];exact (Below.refl _ _).alloc (Nat.le_refl _) _
 have hW1:w.alloc (.cells #[.int .u8 0,.int .u8 0,.int .u8 0,.int .u8 0,.int .u8 0,.int .u8 0,.int .u8 0,.int .u8 0,.int .u8 0,.int .u8 0,.int .u8 0,.int .u8 0,.int .u8 0,.int .u8 0,.int .u8 0,.int .u8 0,.int .u8 0,.int .u8 0,.int .u8 0,.int .u8 0,.int .u8 0,.int .u8 0,.int .u8 0,.int .u8 0,.int .u8 0,.int .u8 0,.int .u8 0,.int .u8 0,.int .u8 0,.int .u8 0,.int .u8 0,.int .u8 0] 33)=W0:=hW0
 have HX0:=hZ hx0
 have HB0:=hZ hb0
 have hU:=dig_und
 have hI2:=dig_info2 (markL_len k i)
 have hd1:=dig_one (markL k i)
 have hdz:=dig_size (markL_len k i)
 clear hm hW0 hx0 hb0
 go_enter Tryz.func152,Tryz.ntmps152
 go_wp2_with (first | (refine wpList_store_row rfl _ _ _ rfl w.heap.size ((markL k i).map byteV).toArray rfl (by rw [HM.out];rfl) 33 z32 HX0.out hI2 hdz hd1 ?_;rw [setRow_setBlk HX0.out]))
 have GG:Hid ((setBlk W0 w.heap.size (.cells ((markL k i).map byteV).toArray 33 (0,0))).heap[w.heap.size]?=some (.cells ((markL k i).map byteV).toArray 33 (0,0))):=hZ (setBlk_heap (blk_lt HX0.out))
 refine bodyPost_ret (v:=digV (markL k i)) (results_cell_row (fn:=Tryz.f152) rfl _ _ w.heap.size 33 _ (0,0) _ rfl GG.out hU rfl hI2) rfl ⟨rfl,HB0.out.setBlk (Nat.le_refl _)⟩
theorem markDs_any (k i:Int) (w:World) (hk0:0≤k) (hk:k≤1000) (hi0:0≤i) (hi:i≤8000000000) :
  Calls Tryz.prog 124 #[.int .i64 k,.int .i64 i] w fun e w'=>e=.returned (digV (markL k i))∧Below w.heap.size w w':=by
 have hm:=fun W=>markDg_any k i W hk0 hk hi0 hi
 unfold digV at hm
 have hI2:=dig_info2 (markL_len k i)
 have hd1:=dig_one (markL k i)
 have hdz:=dig_size (markL_len k i)
 obtain ⟨W0,hW0⟩:∃ W,w.alloc (.cells z32 33)=W:=⟨_,rfl⟩
 have hx0:W0.heap[w.heap.size]?=some (.cells z32 33 (0,0)):=by rw [← hW0];exact heap_new _ _
 have hb0:Below w.heap.size w W0:=by rw [← hW0];exact (Below.refl _ _).alloc (Nat.le_refl _) _
 have hW1:w.alloc (.cells #[.int .u8 0,.int .u8 0,.int .u8 0,.int .u8 0,.int .u8 0,.int .u8 0,.int .u8 0,.int .u8 0,.int .u8 0,.int .u8 0,.int .u8 0,.int .u8 0,.int .u8 0,.int .u8 0,.int .u8 0,.int .u8 0,.int .u8 0,.int .u8 0,.int .u8 0,.int .u8 0,.int .u8 0,.int .u8 0,.int .u8 0,.int .u8 0,.int .u8 0,.int .u8 0,.int .u8 0,.int .u8 0,.int .u8 0,.int .u8 0,.int .u8 0,.int .u8 0] 33)=W0:=hW0
 have HX0:=hZ hx0
 have HB0:=hZ hb0
 have hU:=dig_und
 have HM:=hZ hm
 clear hm hW0 hx0 hb0
 go_enter Tryz.func124,Tryz.ntmps124
 go_wp2_with fail
 refine (HM.out _).mono ?_
 rintro e w1 ⟨rfl,hb⟩
 have HX1:Hid (w1.heap[w.heap.size]?=some (.cells z32 33 (0,0))):=hZ ((hb.block _ (blk_lt HX0.out)).trans HX0.out)
 have HB1:=hZ (HB0.out.trans (hb.mono HB0.out.size))
 clear hb
 go_wp2_with (first | (refine wpList_store_row rfl _ _ _ rfl w.heap.size ((markL k i).map byteV).toArray rfl rfl 33 z32 HX1.out hI2 hdz hd1 ?_;rw [setRow_setBlk HX1.out]))
 have GG:Hid ((setBlk w1 w.heap.size (.cells ((markL k i).map byteV).toArray 33 (0,0))).heap[w.heap.size]?=some (.cells ((markL k i).map byteV).toArray 33 (0,0))):=hZ (setBlk_heap (blk_lt HX1.out))
 refine bodyPost_ret (v:=digV (markL k i)) (results_cell_row (fn:=Tryz.f124) rfl _ _ w.heap.size 33 _ (0,0) _ rfl GG.out hU rfl hI2) rfl ⟨rfl,HB1.out.setBlk (Nat.le_refl _)⟩
end Go.Proofs.YtecgikanophonaaGreatDoor
/- Contract of ApartDigests. Printed by wip/g34.py. -/
namespace Go.Proofs.YtecgikanophonaaGreatDoor
open Go.RowKit
def mkD (k n:Nat):List Dg:=(List.range n).map fun i=>markD k (i:Nat)
theorem mkD_len (k n:Nat):(mkD k n).length=n:=by unfold mkD;rw [List.length_map,List.length_range]
theorem mkD_succ (k n:Nat):mkD k (n+1)=mkD k n ++ [markD k (n:Nat)]:=by unfold mkD;rw [List.range_succ,List.map_append];rfl
theorem mkD_at {k n i:Nat} (h:i < n):(mkD k n)[i]?=some (markD k (i:Nat)):=by unfold mkD;rw [List.getElem?_map,List.getElem?_range h];rfl
theorem mkD_pre (k n i:Nat):∃ zs,mkD k (n+i)=mkD k n ++ zs:=by
 induction i with
 |zero=>exact ⟨[],by rw [Nat.add_zero,List.append_nil]⟩
 |succ i ih =>
  obtain ⟨zs,h⟩:=ih
  exact ⟨zs ++ [markD k ((n+i:Nat))],by rw [← Nat.add_assoc,mkD_succ,h,List.append_assoc]⟩
theorem clD_list (d:Dg):(clD d).toList=d.1.map byteV:=rfl
theorem infoSD:(Tryz.prog.info? 31).map (fun i=>(i.zero,i.size,i.bytes))=some (some (.slice none 0 0),1,24):=by kernel_rfl
abbrev ApDA:=ApA 33 31 32 clD
abbrev ApDC:=ApC 33 31 32 clD
abbrev ApDO:=ApO 33 31 32 clD
abbrev ApDR:=ApR 33 31 32 clD
theorem setCells_put {g:Nat} {t:TypeId}:∀ (vs:List Value) (o:Nat) (cur:Array Value) (w:World),w.heap[g]?=some (.cells cur t (0,0))→w.setCells g o vs=setBlk w g (.cells (curPut cur o vs) t (0,0))
 |[],_,_,_,h=>(setBlk_self h).symm
 |v :: r,o,cur,w,h=>by
  rw [World.setCells,setCell_blk h,setCells_put r (o+1) _ _ (setBlk_heap (blk_lt h)),setBlk_setBlk]
  rfl
theorem there_put {w:World} {g o n:Nat} {cur:Array Value} {t:TypeId} (h:w.heap[g]?=some (.cells cur t (0,0))) (hs:o+n≤cur.size):w.there g o n:=fun j hj=>by
 refine ⟨?_,frozen_blk h⟩
 rw [cell_of_heapN h,Array.getElem?_eq_getElem (show o+j < cur.size by omega)]
 rfl
theorem own_cellD {w:World} {B S n:Nat} {v:Value} {xs:List Value} {g cap k:Nat} {x:Value} (h:w.ownsRow B S 1 v n xs) (hv:v=.slice (some ⟨g,0,none⟩) n cap) (hx:xs[k]?=some x):w.cell? ⟨g,k,none⟩=some x:=by
 subst hv
 have:=h.cells (g:=g) rfl k x hx
 rw [show ((⟨g,0,none⟩:Addr).add k)=⟨g,k,none⟩ by simp [Addr.add];intro e;exact e.symm] at this
 exact this
theorem cell_ltD {W:World} {b i:Nat} {v:Value} (h:W.cell? ⟨b,i,none⟩=some v):b < W.heap.size:=by
 unfold World.cell? at h
 split at h
 ·rename_i hh
  exact blk_lt hh
 ·cases h
theorem row_rangeD {W:World} {g i:Nat} {x:Dg} (h:∀ j,j < 32→W.cell? ⟨g,i * 32+j,none⟩=(clD x)[j]?):W.rangeAt g (i * 32) (x.1.map byteV):=fun j u hj=>by
 have hj32:j < 32:=by have:=(List.getElem?_eq_some_iff.1 hj).1;rw [List.length_map,x.2] at this;exact this
 rw [h j hj32]
 show (encD x).toArray[j]?=_
 rw [List.getElem?_toArray]
 exact hj
theorem apartD_any (vs:Array Value) (LB cap base:Nat) (f:Nat→List Dg) (w:World) (hA:ApDA base LB vs w f w) (hap:Apart vs) (hLB:base≤LB) (hN0:0 < vs.size) (hN:vs.size≤1000) (hc1:vs.size≤cap) (hc2:cap≤9223372036854775807) (hlen:∀ k,(f k).length≤1000000000) :
  Calls Tryz.prog 75 #[.slice (some ⟨LB,0,none⟩) vs.size cap] w fun e w'=>e=.returned (.bool true)∧Below base w w':=by
 obtain ⟨i0,hi,hz0,hz1,hz2⟩:=dig_parts
 obtain ⟨j0,ki,kz0,kz1,kz2⟩:=info_parts infoSD
 have hU:=dig_und
 obtain ⟨N,hNe⟩:∃ N,vs.size=N:=⟨_,rfl⟩
 rw [hNe] at hN0 hN hc1 ⊢
 have HNE:=hZ hNe
 have HA:=hZ hA
 have HAP:=hZ hap
 have HLEN:=hZ hlen
 have HLB:=hZ hLB
 have hN1:(N:Int)≤1000:=by omega
 have HBS:=hZ hA.hb0
 clear hNe hA hap hlen hLB hN
 go_enter Tryz.func75,Tryz.ntmps75
 go_wp2_with fail
 go_loopw [3] (fun kv wr=>∃ (k:Nat) (f':Nat→List Dg),(k:Int)≤(N:Int)∧kv=.int .i64 k∧Hid (ApDA base LB vs w f' wr)∧Hid (∀ j,(f' j).length=(f j).length)∧Hid (∀ j i,j < k→i < (f j).length→(f' j)[i]?=some (markD j (i:Nat)))) (fun kv _=>N - (intOf kv).toNat)
 case atStart=>exact ⟨0,f,by omega,rfl,HA.out,fun _=>rfl,fun j i hj=>absurd hj (by omega)⟩
 case round =>
  obtain ⟨k,f',hk,rfl,hst,hl,hmk⟩:=hrel
  obtain ⟨wo,rfl⟩:∃ wo:World,wo=wr:=⟨_,rfl⟩
  by_cases hlt:(k:Int) < (N:Int)
  ·obtain ⟨v,hv⟩:∃ v,vs[k]?=some v:=⟨_,Array.getElem?_eq_getElem (i:=k) (by have:=HNE.out;omega)⟩
   obtain ⟨p,cp,rfl,hcp,hcp2⟩:=((hst.out.own k v hv).reads clD_size).slice
   rw [hl.out k] at hv hcp
   have hn:=HLEN.out k
   obtain ⟨n,hne⟩:∃ n,(f k).length=n:=⟨_,rfl⟩
   rw [hne] at hv hcp hn
   have HN:=hZ hne
   have HV:=hZ hv
   have hn2:(n:Int)≤1000000000:=by omega
   have hcp3:(n:Int)≤(cp:Int):=by omega
   have hcp4:(cp:Int)≤9223372036854775807:=by unfold maxLen at hcp2;omega
   clear hne hv hcp hcp2 hn
   go_wp2_with fail
   go_loopw [4] (fun iv wr2=>∃ (i:Nat) (f2:Nat→List Dg),(i:Int)≤(n:Int)∧iv=.int .i64 i∧Hid (ApDA base LB vs w f2 wr2)∧Hid (∀ j,(f2 j).length=(f j).length)∧Hid (∀ j t,(j < k∨(j=k∧t < i))→t < (f j).length→(f2 j)[t]?=some (markD j (t:Nat)))) (fun iv _=>n - (intOf iv).toNat)
   case atStart=>exact ⟨0,f',by omega,rfl,hst,hl,fun j t h1 h2=>hmk.out j t (by omega) h2⟩
   case round =>
    obtain ⟨i,f2,hi2,rfl,hst2,hl2,hmk2⟩:=hrel
    have cls:wr.cell? ⟨LB,k,none⟩=some (.slice p n cp):=(cell_of_heapN hst2.out.ls).trans HV.out
    by_cases hlt2:(i:Int) < (n:Int)
    ·have hfl:(f2 k).length=n:=(hl2.out k).trans HN.out
     obtain ⟨x,hx⟩:∃ x,(f2 k)[i]?=some x:=⟨_,List.getElem?_eq_getElem (i:=i) (by omega)⟩
     obtain ⟨g,cp',he,-,-,-,hrow⟩:=((hst2.out.own k _ HV.out).reads clD_size).at hx
     obtain ⟨rfl,-,rfl⟩:=Value.slice.inj he
     clear he hrow
     have HX:=hZ hx
     have HFL:=hZ hfl
     have hmkc:=fun W=>markDs_any k i W (by omega) (by omega) (by omega) (by omega)
     have HMKC:=hZ hmkc
     have hgI:=hst2.out.keep ((Below.refl _ wr).drew)
     have hcls:∀ W,ApDA base LB vs w f2 W→W.cell? ⟨LB,k,none⟩=some (.slice (some ⟨g,0,none⟩) n cp):=fun W hI=>(cell_of_heapN hI.ls).trans HV.out
     have HCLS:=hZ hcls
     clear hx hfl hmkc hcls
     go_wp2_with fail
     refine wp_region_inv (ApDA base LB vs w f2) 9 (by kernel_rfl) (by kernel_rfl) hgI ?_
     clear hgI cls
     simp only [List.take_succ_cons,List.take_zero,List.drop_succ_cons,List.drop_zero]
     refine ⟨_,yi_still rfl (fun W hI=>by go_simp;rfl),?_⟩
     refine ⟨_,yi_still rfl (fun W hI=>by go_simp;rfl),?_⟩
     refine ⟨_,yi_still rfl (fun W hI=>by go_simp;rfl),?_⟩
     refine ⟨_,yi_still rfl (fun W hI=>by have cls:=HCLS.out W hI;go_simp;rfl),?_⟩
     refine ⟨_,yi_still rfl (fun W hI=>by go_simp;rfl),?_⟩
     refine ⟨_,yi_still rfl (fun W hI=>by go_simp;rfl),?_⟩
     refine ⟨_,yi_still rfl (fun W hI=>by go_simp;rfl),?_⟩
     refine ⟨_,yi_call rfl (fun W hI=>by go_simp) (fun W hI=>(HMKC.out W).mono fun e W' ⟨he,hb⟩=>⟨he,hI.keep hb⟩),?_⟩
     refine ⟨_,yi_still rfl (fun W hI=>by go_simp;rfl),?_⟩
     rintro W7 hI7
     change wpList _ _ _ _ _ W7
     simp only [Act.put,List.setIfInBounds_toArray,List.set_cons_succ,List.set_cons_zero]
     obtain ⟨cur,hcur,hsz,hst3⟩:=ApA.store (i:=i) (x:=markD k (i:Nat)) clD_size (by decide) HAP.out hI7 HV.out (by rw [HFL.out];omega)
     rw [clD_list] at hst3
     obtain ⟨M,hM⟩:∃ M,markL k (i:Nat)=M:=⟨_,rfl⟩
     have hMD:Hid (∀ h:M.length=32,markD k (i:Nat)=⟨M,h⟩):=hZ (fun h=>Subtype.ext hM)
     have hml:M.length=32:=by rw [← hM];exact markL_len _ _
     unfold digV
     rw [show (markD k (i:Nat)).1=markL k (i:Nat) from rfl] at hst3
     rw [hM] at hst3 ⊢
     have hsc:=setCells_put (List.map byteV M) (i * 32) cur W7 hcur
     have hth:=there_put (n:=32) hcur hsz
     have hI2:=dig_info2 hml
     have hM1:=dig_one M
     have hMz:=dig_size hml
     have HCUR:=hZ hcur
     have HST3:=hZ hst3
     have HSC:=hZ hsc
     have HTH:=hZ hth
     have HMM:=hMD
     clear hcur hsz hst3 hM hI7 hsc hth hMD
     go_wp2_with (first | (refine wpList_store_mid rfl _ _ _ rfl g (i * 32) (List.map byteV M).toArray rfl rfl (by rw [List.size_toArray,List.length_map,hml];exact HTH.out) hI2 hM1 ?_))
     all_goals
      rw [HSC.out]
      refine ⟨⟨i+1,fun j=>if j=k then (f2 k).set i (markD k (i:Nat)) else f2 j,by omega,by rw [Int.natCast_add];rfl,HST3,fun j=>?_,fun j t h1 h2=>?_⟩,by simp [intOf];omega⟩
      ·show (if j=k then (f2 k).set i (markD k (i:Nat)) else f2 j).length=_
       by_cases e:j=k
       ·rw [if_pos e,List.length_set,hl2.out,e]
       ·rw [if_neg e,hl2.out]
      ·show (if j=k then (f2 k).set i (markD k (i:Nat)) else f2 j)[t]?=_
       by_cases e:j=k
       ·subst e
        rw [if_pos rfl,List.getElem?_set]
        by_cases e2:i=t
        ·subst e2
         rw [if_pos rfl,if_pos (by rw [HFL.out];omega)]
        ·rw [if_neg e2]
         exact hmk2.out j t (by omega) h2
       ·rw [if_neg e]
        exact hmk2.out j t (by omega) h2
    ·go_wp2_with fail
     case roundEnd =>
      exact ⟨⟨k+1,f2,by omega,by rw [Int.natCast_add];rfl,hst2,hl2,fun j t h1 h2=>hmk2.out j t (by
       have hn:=HN.out
       by_cases e:j=k
       ·rw [e] at h2;omega
       ·omega) h2⟩,by simp [intOf];omega⟩
  ·have hfe:∀ j,j < N→f' j=mkD j (f j).length:=fun j hj=>by
    refine List.ext_getElem? fun t=>?_
    by_cases ht:t < (f j).length
    ·rw [hmk.out j t (by omega) ht,mkD_at ht]
    ·rw [List.getElem?_eq_none (by rw [hl.out];omega),List.getElem?_eq_none (by rw [mkD_len];omega)]
   obtain ⟨a,ha⟩:∃ a:Nat→List Dg,a=fun j=>mkD j (f j).length:=⟨_,rfl⟩
   obtain ⟨c,hcd⟩:∃ c:Nat→List Dg,c=fun j=>mkD j ((f j).length+64):=⟨_,rfl⟩
   have hA2:ApDA base LB vs w a wo:=⟨hst.out.ls,fun j v hv=>by
    have hj:=(Array.getElem?_eq_some_iff.1 hv).1
    have:=hst.out.own j v hv
    rw [hfe j (by have:=HNE.out;omega)] at this
    rw [ha]
    exact this,hst.out.bel,hst.out.hb0⟩
   have HO:=hZ (ApO.start (base2:=wo.heap.size) (c:=c) hA2 clD_size)
   have HA2:=hZ ha
   have HC2:=hZ hcd
   have HB2:=hZ (show LB < wo.heap.size∧base≤wo.heap.size from ⟨blk_lt hst.out.ls,Nat.le_trans HBS.out hst.out.bel.size⟩)
   obtain ⟨base2,hb2⟩:∃ b,wo.heap.size=b:=⟨_,rfl⟩
   rw [hb2] at HO HB2
   have HB0:=hZ (show base2≤wo.heap.size by omega)
   clear hfe hA2 hst hl hmk ha hcd hb2
   go_wp2_with fail
   go_loopw [5,6] (fun uv kv wr=>∃ (k:Nat) (G:List Value),(k:Int)≤(N:Int)∧kv=.int .i64 k∧Hid (G.length=k)∧Hid (base2≤wr.heap.size)∧Hid (ApDO base base2 LB vs w a c k G uv wr)) (fun _ kv _=>N - (intOf kv).toNat)
   case atStart=>exact ⟨0,[],by omega,rfl,rfl,HB0,HO⟩
   case round =>
    obtain ⟨k,G,hk,rfl,hG,hbz,hst⟩:=hrel
    obtain ⟨wp,rfl⟩:∃ wp:World,wp=wr:=⟨_,rfl⟩
    by_cases hlt:(k:Int) < (N:Int)
    ·obtain ⟨v,hv⟩:∃ v,vs[k]?=some v:=⟨_,Array.getElem?_eq_getElem (i:=k) (by have:=HNE.out;omega)⟩
     obtain ⟨p,cp,hve,hcp,hcp2⟩:=(hst.out.rd k v hv).slice
     have hn:=HLEN.out k
     obtain ⟨n,hne⟩:∃ n,(f k).length=n:=⟨_,rfl⟩
     have hal:a k=mkD k n:=by rw [HA2.out,← hne]
     rw [hal,mkD_len] at hve hcp
     rw [hne] at hn
     subst hve
     have HV:=hZ hv
     have HAL:=hZ hal
     have HNN:=hZ hne
     have hn2:(n:Int)≤1000000000:=by omega
     have hcp3:(n:Int)≤(cp:Int):=by omega
     have hcp4:(cp:Int)≤9223372036854775807:=by unfold maxLen at hcp2;omega
     have cls:wp.cell? ⟨LB,k,none⟩=some (.slice p n cp):=(cell_of_heapN hst.out.ls).trans hv
     have hst0:=hst.out.enter HAP.out hv
     rw [hal] at hst0
     have HST0:=hZ hst0
     clear hv hcp hcp2 hn hne hal hst0
     go_wp2_with fail
     clear cls
     go_loopw [7,8] (fun gv iv wr=>∃ (i:Nat),(i:Int)≤64∧iv=.int .i64 i∧Hid (base2≤wr.heap.size)∧Hid (ApDC base base2 LB vs w a c k G u5 (mkD k (n+i)) gv wr)) (fun _ iv _=>64 - (intOf iv).toNat)
     case atStart=>exact ⟨0,by omega,rfl,hbz,HST0⟩
     case round =>
      obtain ⟨i,hi2,rfl,hbz2,hst2⟩:=hrel
      by_cases hlt2:(i:Int) < 64
      ·have cls:wr.cell? ⟨LB,k,none⟩=some (.slice p n cp):=(cell_of_heapN hst2.out.ls).trans HV.out
       have hmkc:=fun W=>markDs_any k ((n:Int)+(i:Int)) W (by omega) (by omega) (by omega) (by omega)
       obtain ⟨M,hM⟩:∃ M,markL k ((n:Int)+(i:Int))=M:=⟨_,rfl⟩
       have hml:M.length=32:=by rw [← hM];exact markL_len _ _
       have hMD:markD k ((n:Int)+(i:Int))=⟨M,hml⟩:=Subtype.ext hM
       rw [hM] at hmkc
       unfold digV at hmkc
       have hfd:=fold_dig hml
       have hMo:∀ u∈M.map byteV,u.oneCell'=true:=fun u hu=>by obtain ⟨x,_,rfl⟩:=List.mem_map.1 hu;rfl
       have HM:=hZ hMD
       have HMKC:=hZ hmkc
       clear hmkc hM hMD
       go_wp2_with fail
       refine (HMKC.out _).mono ?_
       rintro e w1 ⟨rfl,hb1⟩
       have HST3:=hZ (hst2.out.keep hb1)
       have HZ1:=hZ (Nat.le_trans hbz2.out hb1.size)
       have hcur:=HST3.out.cur
       unfold OwnG at hcur
       rw [mkD_len] at hcur
       have HCUR:=hZ hcur
       have HBZ:=hZ (show base≤w1.heap.size from Nat.le_trans HBS.out (Nat.le_trans HST3.out.bel.size (Nat.le_refl _)))
       clear hb1 hcur cls HMKC
       go_wp2_with (first
        |(at_builtin;refine wpList_app_to rfl _ _ 31 rfl base 33 i0 (.agg z32) 32 32 Tryz.underlying31 hi hz0 hz1 hz2 rfl (by decide) _ _ _ rfl (HCUR.out.alloc _) ⟨w1.heap.size,0,none⟩ 1 1 (M.map byteV) rfl (by rw [List.length_map,hml]) (newDg w1 M) hMo (by decide) (by unfold maxLen;omega) (by omega) (by have:=HBZ.out;rw [World.size_alloc];omega) ?_;intro v' w2 hown' hgrow)
        |fail)
       case roundEnd =>
        obtain ⟨zs,hzs⟩:=mkD_pre k n i
        have h3:=ApC.app (x:=⟨M,hml⟩) clD_size (by decide) (HST3.out.keep ((Below.refl _ w1).alloc (Nat.le_refl _) _)) HV.out (by rw [hzs,HAL.out]) (by rw [mkD_len];exact hown') hgrow
        have e:mkD k (n+i) ++ [⟨M,hml⟩]=mkD k (n+(i+1)):=by rw [← Nat.add_assoc,mkD_succ,← HM.out,Int.natCast_add]
        rw [e] at h3
        have hz2:base2≤w2.heap.size:=by
         have:=HZ1.out
         rcases hgrow with ⟨_,hg⟩ | ⟨_,hg⟩
         ·have:=hg.size;rw [World.size_alloc] at this;omega
         ·have:=hg.size;rw [World.size_alloc] at this;omega
        exact ⟨⟨i+1,by omega,by rw [Int.natCast_add];rfl,hz2,h3⟩,by simp [intOf];omega⟩
      ·obtain rfl:i=64:=by omega
       obtain ⟨p7,c7,hu7,-,-⟩:=(hst2.out.cur.reads clD_size).slice
       rw [mkD_len] at hu7
       subst hu7
       have hgs:=hst2.out.gs
       rw [hG.out] at hgs
       have HGS:=hZ hgs
       clear hgs
       go_wp2_with (first
        |(at_builtin;refine wpList_append_own _ rfl _ _ 143 rfl base2 31 j0 (.slice none 0 0) 1 24 Tryz.underlying143 ki kz0 kz1 kz2 rfl (by decide) _ _ _ rfl (HGS.out.alloc _) ⟨wr.heap.size,0,none⟩ 1 1 [.slice p7 (n+64) c7] rfl rfl (cell_one_new wr _ _) (by intro u hu;rw [List.mem_singleton.1 hu];rfl) (by unfold maxLen;omega) (by omega) (by have:=hbz2.out;rw [World.size_alloc];omega) ?_;intro v' w2 hown' hgrow _)
        |fail)
       case roundEnd =>
        have h4:=ApC.leave (by decide) HB2.out.1 HB2.out.2 (hst2.out.keep ((Below.refl _ wr).alloc (Nat.le_refl _) _)) hG.out (by rw [HC2.out,← HNN.out]) (by rw [hG.out];exact hown') hgrow
        refine ⟨⟨k+1,_,by omega,by rw [Int.natCast_add];rfl,(by show _=_;rw [List.length_append,hG.out];rfl),?_,h4⟩,by simp [intOf];omega⟩
        have:=hgrow.size
        have:=hbz2.out
        rw [World.size_alloc] at *
        show base2≤_
        omega
    ·obtain rfl:k=N:=by omega
     have HR:=hZ (hst.out.done clD_size)
     have hgs:=hst.out.gs
     rw [hG.out] at hgs
     obtain ⟨gb,gc,rfl,hgc1,hgc2⟩:∃ gb gc,u5=.slice (some ⟨gb,0,none⟩) k gc∧(k:Int)≤(gc:Int)∧(gc:Int)≤9223372036854775807:=by
      rcases hgs.2 with ⟨_,h0⟩ | ⟨g,cap,cur,h1,_,_,h4,h5,_⟩
      ·omega
      ·exact ⟨g,cap,h1,by omega,by unfold maxLen at h5;omega⟩
     clear hgs
     go_wp2_with fail
     go_loopw [9] (fun kv wr=>∃ (q:Nat),(q:Int)≤(k:Int)∧kv=.int .i64 q∧Hid (ApDR base base2 LB vs w a c G (.slice (some ⟨gb,0,none⟩) k gc) wr)) (fun kv _=>k - (intOf kv).toNat)
     case atStart=>exact ⟨0,by omega,rfl,HR⟩
     case round =>
      obtain ⟨q,hq,rfl,hst3⟩:=hrel
      obtain ⟨wq,rfl⟩:∃ wq:World,wq=wr:=⟨_,rfl⟩
      by_cases hltq:(q:Int) < (k:Int)
      ·obtain ⟨v,hv⟩:∃ v,vs[q]?=some v:=⟨_,Array.getElem?_eq_getElem (i:=q) (by have:=HNE.out;omega)⟩
       obtain ⟨x,hx⟩:∃ x,G[q]?=some x:=⟨_,List.getElem?_eq_getElem (i:=q) (by have:=hG.out;omega)⟩
       obtain ⟨p,cp,hve,hcp,hcp2⟩:=(hst3.out.rd q v hv).slice
       obtain ⟨p2,cp2,hxe,hcq,hcq2⟩:=(hst3.out.rdC q x hx).slice
       have hn:=HLEN.out q
       obtain ⟨n,hne⟩:∃ n,(f q).length=n:=⟨_,rfl⟩
       have hal:a q=mkD q n:=by rw [HA2.out,← hne]
       have hcl:c q=mkD q (n+64):=by rw [HC2.out,← hne]
       rw [hal,mkD_len] at hve hcp
       rw [hcl,mkD_len] at hxe hcq
       rw [hne] at hn
       subst hve
       subst hxe
       have HV:=hZ hv
       have HX:=hZ hx
       have HAL:=hZ hal
       have HCL:=hZ hcl
       have hn2:(n:Int)≤1000000000:=by omega
       have hcp3:(n:Int)≤(cp:Int):=by omega
       have hcp4:(cp:Int)≤9223372036854775807:=by unfold maxLen at hcp2;omega
       have hcq3:(n:Int)+64≤(cp2:Int):=by omega
       have hcq4:(cp2:Int)≤9223372036854775807:=by unfold maxLen at hcq2;omega
       have hqk:q < k:=by omega
       clear hv hx hcp hcp2 hn hne hal hcl hcq hcq2
       go_wp2_with fail
       go_loopw [10] (fun iv wr=>∃ (i:Nat),(i:Int)≤(n:Int)+64∧iv=.int .i64 i∧Hid (ApDR base base2 LB vs w a c G (.slice (some ⟨gb,0,none⟩) k gc) wr)) (fun iv _=>n+64 - (intOf iv).toNat)
       case atStart=>exact ⟨0,by omega,rfl,hst3⟩
       case round =>
        obtain ⟨i,hi2,rfl,hst4⟩:=hrel
        have hgc:wr.cell? ⟨gb,q,none⟩=some (.slice p2 (n+64) cp2):=own_cellD hst4.out.gs (by rw [hG.out]) HX.out
        by_cases hlti:(i:Int) < (n:Int)+64
        ·have hmkc:=fun W=>markDs_any q i W (by omega) (by omega) (by omega) (by omega)
         obtain ⟨E,hE⟩:∃ E,markL q (i:Nat)=E:=⟨_,rfl⟩
         have hEL:E.length=32:=by rw [← hE];exact markL_len _ _
         have hED:markD q (i:Nat)=⟨E,hEL⟩:=Subtype.ext hE
         rw [hE] at hmkc
         unfold digV at hmkc
         have HM:=hZ hED
         have HMKC:=hZ hmkc
         have HEL:=hZ hEL
         have hI2:=dig_info2 HEL.out
         have hdz:=dig_size HEL.out
         have hd1:=dig_one E
         have hIE:=dig_info HEL.out
         clear hmkc hE hED
         go_wp2_with fail
         refine (HMKC.out _).mono ?_
         rintro e w1 ⟨rfl,hb1⟩
         have HST4:=hZ (hst4.out.keep hb1)
         clear hb1 HMKC hgc
         obtain ⟨w3,hw3⟩:∃ W,w1.alloc (.cells (E.map byteV).toArray 33)=W:=⟨_,rfl⟩
         have hb3:Below w1.heap.size w1 w3:=by rw [← hw3];exact (Below.refl _ _).alloc (Nat.le_refl _) _
         have hx3:w3.heap[w1.heap.size]?=some (.cells (E.map byteV).toArray 33 (0,0)):=by rw [← hw3];exact heap_new _ _
         have HST5:=hZ (HST4.out.keep hb3)
         have HR0:=hZ (dig_range hx3)
         have HR0L:=hZ (blk_lt hx3)
         have HW3:=hZ hw3
         clear hb3 hx3 hw3
         go_wp2_with (first | (refine wpList_store_new rfl _ _ _ rfl _ (E.map byteV).toArray _ rfl rfl rfl hI2 hdz hd1 ?_;rw [HW3.out]))
         obtain ⟨ob,hob⟩:∃ b,w1.heap.size=b:=⟨_,rfl⟩
         rw [hob] at HR0 HR0L ⊢
         clear hob
         have HGC:Hid (w3.cell? ⟨gb,q,none⟩=some (.slice p2 (n+64) cp2)):=hZ (own_cellD HST5.out.gs (by rw [hG.out]) HX.out)
         have HLC:Hid (w3.cell? ⟨LB,q,none⟩=some (.slice p n cp)):=hZ ((cell_of_heapN HST5.out.ls).trans HV.out)
         have HGCL:=hZ (cell_ltD HGC.out)
         have HLCL:=hZ (cell_ltD HLC.out)
         obtain ⟨h,cp',he,-,-,hhl,hrow⟩:=(HST5.out.rdC q _ HX.out).at (i:=i) (x:=⟨E,HEL.out⟩) (by rw [HCL.out,mkD_at (by omega),HM.out])
         obtain ⟨rfl,-,-⟩:=Value.slice.inj he
         have HR1L:=hZ hhl
         have HR1:=hZ (row_rangeD hrow)
         have hI0:Below w3.heap.size w3 w3.drew:=⟨rfl,rfl,rfl,Nat.le_refl _,fun _ _=>rfl⟩
         clear he hrow hhl
         by_cases hin:(i:Int) < (n:Int)
         ·obtain ⟨g,cp3,he,-,-,hgl,hrow2⟩:=(HST5.out.rd q _ HV.out).at (i:=i) (x:=⟨E,HEL.out⟩) (by rw [HAL.out,mkD_at (by omega),HM.out])
          obtain ⟨rfl,-,-⟩:=Value.slice.inj he
          have HR2L:=hZ hgl
          have HR2:=hZ (row_rangeD hrow2)
          clear he hrow2 hgl
          refine wp_region_flowG (fun _:Unit=>[.slice (some ⟨gb,0,none⟩) k gc,.int .i64 q,.pointer (some ⟨gb,q,none⟩),.slice (some ⟨h,0,none⟩) (n+64) cp2,.int .i64 i,.pointer (some ⟨h,i * 32,none⟩),.agg (E.map byteV).toArray,.agg (E.map byteV).toArray,.bool false,.bool false,.int .i64 i,.slice (some ⟨LB,0,none⟩) k cap,.int .i64 q,.pointer (some ⟨LB,q,none⟩),.slice (some ⟨g,0,none⟩) n cp,.int .i64 n,.bool true,.bool true,.slice (some ⟨LB,0,none⟩) k cap,.int .i64 q,.pointer (some ⟨LB,q,none⟩),.slice (some ⟨g,0,none⟩) n cp,.int .i64 i,.pointer (some ⟨g,i * 32,none⟩),.agg (E.map byteV).toArray,.agg (E.map byteV).toArray,.bool false,.bool false,.bool false]) (fun _ _ W=>Below w3.heap.size w3 W)
           [[],[],[0,1],[2],[],[3,4],[5],[],[6,7],[8],[9],[9],[9],[11,12,9],[13,9],[14,9],[10,15,9],[16,9,9],[17],[17],[18,19,17],[20,17],[17],[21,22,17],[23,17],[17],[24,25,17],[17,26,9],[9,27]] 113 () mixedD rfl (by kernel_rfl) (fun _=>rfl) hI0 ?_ ?_
          ·refine ⟨?_,?_,?_,?_,?_,?_,?_,?_,?_,?_,?_,?_,?_,?_,?_,?_,?_,?_,?_,?_,?_,?_,?_,?_,?_,?_,?_,?_,?_,rfl⟩
           all_goals intro L γ W ev hL hd hW hc hf hg he h0
           ·have e5:ev (.tmp 5)=.slice (some ⟨gb,0,none⟩) k gc:=h0 5 rfl
            clear he h0 hc hf hg
            exact flS rfl (by go_simp <;> rfl) (hW) rfl
           ·have e9:ev (.tmp 9)=.int .i64 q:=h0 9 rfl
            clear he h0 hc hf hg
            exact flS rfl (by go_simp <;> rfl) (hW) rfl
           ·have e84:ev (.tmp 84)=.slice (some ⟨gb,0,none⟩) k gc:=he 0 (by decide) _ 84 rfl rfl
            have e85:ev (.tmp 85)=.int .i64 q:=he 1 (by decide) _ 85 rfl rfl
            clear he h0 hc hf hg
            exact flS rfl (by go_simp <;> rfl) (hW) rfl
           ·have e86:ev (.tmp 86)=.pointer (some ⟨gb,q,none⟩):=he 2 (by decide) _ 86 rfl rfl
            have cc:W.cell? ⟨gb,q,none⟩=some (.slice (some ⟨h,0,none⟩) (n+64) cp2):=(hW.cell (p:=⟨gb,q,none⟩) HGCL.out).trans HGC.out
            clear he h0 hc hf hg
            exact flS rfl (by go_simp <;> rfl) (hW) rfl
           ·have e10:ev (.tmp 10)=.int .i64 i:=h0 10 rfl
            clear he h0 hc hf hg
            exact flS rfl (by go_simp <;> rfl) (hW) rfl
           ·have e87:ev (.tmp 87)=.slice (some ⟨h,0,none⟩) (n+64) cp2:=he 3 (by decide) _ 87 rfl rfl
            have e88:ev (.tmp 88)=.int .i64 i:=he 4 (by decide) _ 88 rfl rfl
            clear he h0 hc hf hg
            exact flS rfl (by go_simp <;> rfl) (hW) rfl
           ·have e89:ev (.tmp 89)=.pointer (some ⟨h,i * 32,none⟩):=he 5 (by decide) _ 89 rfl rfl
            clear he h0 hc hg
            have hlv:=run_loadVar_mid (P:=Tryz.prog) W h (i * 32) 33 (E.map byteV) _ (fun j u hj=>(hW.cell (p:=⟨h,i * 32+j,none⟩) HR1L.out).trans (HR1.out j u hj)) hU rfl hIE
            refine .inl ⟨rfl,.inl ⟨_,W,?_,.still (hW) rfl⟩⟩
            unfold execOp
            simp only [e89,Instr.loadAt,Instr.sureAddr,Sem.run_bind,Sem.run_pure,Result.andThen_ok,hlv]
            try rfl
           ·have e11:ev (.tmp 11)=.pointer (some ⟨ob,0,none⟩):=h0 11 rfl
            clear he h0 hc hg
            have hlv:=run_loadVar_mid (P:=Tryz.prog) W ob 0 33 (E.map byteV) _ (fun j u hj=>(hW.cell (p:=⟨ob,0+j,none⟩) HR0L.out).trans (HR0.out j u hj)) hU rfl hIE
            refine .inl ⟨rfl,.inl ⟨_,W,?_,.still (hW) rfl⟩⟩
            unfold execOp
            simp only [e11,Instr.loadAt,Instr.sureAddr,Sem.run_bind,Sem.run_pure,Result.andThen_ok,hlv]
            try rfl
           ·have e90:ev (.tmp 90)=.agg (E.map byteV).toArray:=he 6 (by decide) _ 90 rfl rfl
            have e91:ev (.tmp 91)=.agg (E.map byteV).toArray:=he 7 (by decide) _ 91 rfl rfl
            clear he h0 hc hg
            have hq:=dig_in W HEL.out HEL.out
            have hee:(E == E)=true:=beq_self_eq_true _
            rw [hee] at hq
            refine .inl ⟨rfl,.inl ⟨_,W,(by go_simp <;> rfl),.still (hW) rfl⟩⟩
           ·have e92:ev (.tmp 92)=.bool false:=he 8 (by decide) _ 92 rfl rfl
            clear he h0 hc hf hg
            exact flS rfl (by go_simp <;> rfl) (hW) rfl
           ·have e10:ev (.tmp 10)=.int .i64 i:=h0 10 rfl
            clear he h0 hc hf hg
            exact flS rfl (by go_simp <;> rfl) (hW) rfl
           ·have e0:ev (.tmp 0)=.slice (some ⟨LB,0,none⟩) k cap:=h0 0 rfl
            clear he h0 hc hf hg
            exact flS rfl (by go_simp <;> rfl) (hW) rfl
           ·have e9:ev (.tmp 9)=.int .i64 q:=h0 9 rfl
            clear he h0 hc hf hg
            exact flS rfl (by go_simp <;> rfl) (hW) rfl
           ·have e95:ev (.tmp 95)=.slice (some ⟨LB,0,none⟩) k cap:=he 11 (by decide) _ 95 rfl rfl
            have e96:ev (.tmp 96)=.int .i64 q:=he 12 (by decide) _ 96 rfl rfl
            clear he h0 hc hf hg
            exact flS rfl (by go_simp <;> rfl) (hW) rfl
           ·have e97:ev (.tmp 97)=.pointer (some ⟨LB,q,none⟩):=he 13 (by decide) _ 97 rfl rfl
            have cc:W.cell? ⟨LB,q,none⟩=some (.slice (some ⟨g,0,none⟩) n cp):=(hW.cell (p:=⟨LB,q,none⟩) HLCL.out).trans HLC.out
            clear he h0 hc hf hg
            exact flS rfl (by go_simp <;> rfl) (hW) rfl
           ·have e98:ev (.tmp 98)=.slice (some ⟨g,0,none⟩) n cp:=he 14 (by decide) _ 98 rfl rfl
            clear he h0 hc hf hg
            exact flS rfl (by go_simp <;> rfl) (hW) rfl
           ·have e94:ev (.tmp 94)=.int .i64 i:=he 10 (by decide) _ 94 rfl rfl
            have e99:ev (.tmp 99)=.int .i64 n:=he 15 (by decide) _ 99 rfl rfl
            clear he h0 hc hf hg
            exact flS rfl (by go_simp <;> rfl) (hW) rfl
           ·have e100:ev (.tmp 100)=.bool true:=he 16 (by decide) _ 100 rfl rfl
            clear he h0 hc hf hg
            exact flS rfl (by go_simp <;> rfl) (hW) rfl
           ·have e0:ev (.tmp 0)=.slice (some ⟨LB,0,none⟩) k cap:=h0 0 rfl
            clear he h0 hc hf hg
            exact flS rfl (by go_simp <;> rfl) (hW) rfl
           ·have e9:ev (.tmp 9)=.int .i64 q:=h0 9 rfl
            clear he h0 hc hf hg
            exact flS rfl (by go_simp <;> rfl) (hW) rfl
           ·have e102:ev (.tmp 102)=.slice (some ⟨LB,0,none⟩) k cap:=he 18 (by decide) _ 102 rfl rfl
            have e103:ev (.tmp 103)=.int .i64 q:=he 19 (by decide) _ 103 rfl rfl
            clear he h0 hc hf hg
            exact flS rfl (by go_simp <;> rfl) (hW) rfl
           ·have e104:ev (.tmp 104)=.pointer (some ⟨LB,q,none⟩):=he 20 (by decide) _ 104 rfl rfl
            have cc:W.cell? ⟨LB,q,none⟩=some (.slice (some ⟨g,0,none⟩) n cp):=(hW.cell (p:=⟨LB,q,none⟩) HLCL.out).trans HLC.out
            clear he h0 hc hf hg
            exact flS rfl (by go_simp <;> rfl) (hW) rfl
           ·have e10:ev (.tmp 10)=.int .i64 i:=h0 10 rfl
            clear he h0 hc hf hg
            exact flS rfl (by go_simp <;> rfl) (hW) rfl
           ·have e105:ev (.tmp 105)=.slice (some ⟨g,0,none⟩) n cp:=he 21 (by decide) _ 105 rfl rfl
            have e106:ev (.tmp 106)=.int .i64 i:=he 22 (by decide) _ 106 rfl rfl
            clear he h0 hc hf hg
            exact flS rfl (by go_simp <;> rfl) (hW) rfl
           ·have e107:ev (.tmp 107)=.pointer (some ⟨g,i * 32,none⟩):=he 23 (by decide) _ 107 rfl rfl
            clear he h0 hc hg
            have hlv:=run_loadVar_mid (P:=Tryz.prog) W g (i * 32) 33 (E.map byteV) _ (fun j u hj=>(hW.cell (p:=⟨g,i * 32+j,none⟩) HR2L.out).trans (HR2.out j u hj)) hU rfl hIE
            refine .inl ⟨rfl,.inl ⟨_,W,?_,.still (hW) rfl⟩⟩
            unfold execOp
            simp only [e107,Instr.loadAt,Instr.sureAddr,Sem.run_bind,Sem.run_pure,Result.andThen_ok,hlv]
            try rfl
           ·have e11:ev (.tmp 11)=.pointer (some ⟨ob,0,none⟩):=h0 11 rfl
            clear he h0 hc hg
            have hlv:=run_loadVar_mid (P:=Tryz.prog) W ob 0 33 (E.map byteV) _ (fun j u hj=>(hW.cell (p:=⟨ob,0+j,none⟩) HR0L.out).trans (HR0.out j u hj)) hU rfl hIE
            refine .inl ⟨rfl,.inl ⟨_,W,?_,.still (hW) rfl⟩⟩
            unfold execOp
            simp only [e11,Instr.loadAt,Instr.sureAddr,Sem.run_bind,Sem.run_pure,Result.andThen_ok,hlv]
            try rfl
           ·have e108:ev (.tmp 108)=.agg (E.map byteV).toArray:=he 24 (by decide) _ 108 rfl rfl
            have e109:ev (.tmp 109)=.agg (E.map byteV).toArray:=he 25 (by decide) _ 109 rfl rfl
            clear he h0 hc hg
            have hq:=dig_in W HEL.out HEL.out
            have hee:(E == E)=true:=beq_self_eq_true _
            rw [hee] at hq
            refine .inl ⟨rfl,.inl ⟨_,W,(by go_simp <;> rfl),.still (hW) rfl⟩⟩
           ·have e101:ev (.tmp 101)=.bool true:=he 17 (by decide) _ 101 rfl rfl
            have e110:ev (.tmp 110)=.bool false:=he 26 (by decide) _ 110 rfl rfl
            have hcf:=hc (.bool false)
            clear he h0 hc hf hg
            exact flS rfl (by go_simp <;> rfl) (hW) rfl
           ·have e93:ev (.tmp 93)=.bool false:=he 9 (by decide) _ 93 rfl rfl
            have e111:ev (.tmp 111)=.bool false:=he 27 (by decide) _ 111 rfl rfl
            clear he h0 hc hf hg
            exact flS rfl (by go_simp <;> rfl) (hW) rfl
          intro γ L w4 hL hW
          have HST6:=hZ (HST5.out.keep hW)
          clear hL hW hI0
          simp only [putAll,Act.put,List.setIfInBounds_toArray,List.set_cons_succ,List.set_cons_zero]
          go_wp2_with fail
          exact ⟨⟨i+1,by omega,by rw [Int.natCast_add];rfl,HST6⟩,by simp [intOf];omega⟩
         ·have hin2:¬ (i:Int) < (n:Int):=hin
          refine wp_region_flowG (fun _:Unit=>[.slice (some ⟨gb,0,none⟩) k gc,.int .i64 q,.pointer (some ⟨gb,q,none⟩),.slice (some ⟨h,0,none⟩) (n+64) cp2,.int .i64 i,.pointer (some ⟨h,i * 32,none⟩),.agg (E.map byteV).toArray,.agg (E.map byteV).toArray,.bool false,.bool false,.int .i64 i,.slice (some ⟨LB,0,none⟩) k cap,.int .i64 q,.pointer (some ⟨LB,q,none⟩),.slice p n cp,.int .i64 n,.bool false,.bool false,undef,undef,undef,undef,undef,undef,undef,undef,undef,.bool false,.bool false]) (fun _ _ W=>Below w3.heap.size w3 W)
           [[],[],[0,1],[2],[],[3,4],[5],[],[6,7],[8],[9],[9],[9],[11,12,9],[13,9],[14,9],[10,15,9],[16,9,9],[17],[17],[18,19,17],[20,17],[17],[21,22,17],[23,17],[17],[24,25,17],[17,26,9],[9,27]] 113 () mixedD rfl (by kernel_rfl) (fun _=>rfl) hI0 ?_ ?_
          ·refine ⟨?_,?_,?_,?_,?_,?_,?_,?_,?_,?_,?_,?_,?_,?_,?_,?_,?_,?_,?_,?_,?_,?_,?_,?_,?_,?_,?_,?_,?_,rfl⟩
           all_goals intro L γ W ev hL hd hW hc hf hg he h0
           ·have e5:ev (.tmp 5)=.slice (some ⟨gb,0,none⟩) k gc:=h0 5 rfl
            clear he h0 hc hf hg
            exact flS rfl (by go_simp <;> rfl) (hW) rfl
           ·have e9:ev (.tmp 9)=.int .i64 q:=h0 9 rfl
            clear he h0 hc hf hg
            exact flS rfl (by go_simp <;> rfl) (hW) rfl
           ·have e84:ev (.tmp 84)=.slice (some ⟨gb,0,none⟩) k gc:=he 0 (by decide) _ 84 rfl rfl
            have e85:ev (.tmp 85)=.int .i64 q:=he 1 (by decide) _ 85 rfl rfl
            clear he h0 hc hf hg
            exact flS rfl (by go_simp <;> rfl) (hW) rfl
           ·have e86:ev (.tmp 86)=.pointer (some ⟨gb,q,none⟩):=he 2 (by decide) _ 86 rfl rfl
            have cc:W.cell? ⟨gb,q,none⟩=some (.slice (some ⟨h,0,none⟩) (n+64) cp2):=(hW.cell (p:=⟨gb,q,none⟩) HGCL.out).trans HGC.out
            clear he h0 hc hf hg
            exact flS rfl (by go_simp <;> rfl) (hW) rfl
           ·have e10:ev (.tmp 10)=.int .i64 i:=h0 10 rfl
            clear he h0 hc hf hg
            exact flS rfl (by go_simp <;> rfl) (hW) rfl
           ·have e87:ev (.tmp 87)=.slice (some ⟨h,0,none⟩) (n+64) cp2:=he 3 (by decide) _ 87 rfl rfl
            have e88:ev (.tmp 88)=.int .i64 i:=he 4 (by decide) _ 88 rfl rfl
            clear he h0 hc hf hg
            exact flS rfl (by go_simp <;> rfl) (hW) rfl
           ·have e89:ev (.tmp 89)=.pointer (some ⟨h,i * 32,none⟩):=he 5 (by decide) _ 89 rfl rfl
            clear he h0 hc hg
            have hlv:=run_loadVar_mid (P:=Tryz.prog) W h (i * 32) 33 (E.map byteV) _ (fun j u hj=>(hW.cell (p:=⟨h,i * 32+j,none⟩) HR1L.out).trans (HR1.out j u hj)) hU rfl hIE
            refine .inl ⟨rfl,.inl ⟨_,W,?_,.still (hW) rfl⟩⟩
            unfold execOp
            simp only [e89,Instr.loadAt,Instr.sureAddr,Sem.run_bind,Sem.run_pure,Result.andThen_ok,hlv]
            try rfl
           ·have e11:ev (.tmp 11)=.pointer (some ⟨ob,0,none⟩):=h0 11 rfl
            clear he h0 hc hg
            have hlv:=run_loadVar_mid (P:=Tryz.prog) W ob 0 33 (E.map byteV) _ (fun j u hj=>(hW.cell (p:=⟨ob,0+j,none⟩) HR0L.out).trans (HR0.out j u hj)) hU rfl hIE
            refine .inl ⟨rfl,.inl ⟨_,W,?_,.still (hW) rfl⟩⟩
            unfold execOp
            simp only [e11,Instr.loadAt,Instr.sureAddr,Sem.run_bind,Sem.run_pure,Result.andThen_ok,hlv]
            try rfl
           ·have e90:ev (.tmp 90)=.agg (E.map byteV).toArray:=he 6 (by decide) _ 90 rfl rfl
            have e91:ev (.tmp 91)=.agg (E.map byteV).toArray:=he 7 (by decide) _ 91 rfl rfl
            clear he h0 hc hg
            have hq:=dig_in W HEL.out HEL.out
            have hee:(E == E)=true:=beq_self_eq_true _
            rw [hee] at hq
            refine .inl ⟨rfl,.inl ⟨_,W,(by go_simp <;> rfl),.still (hW) rfl⟩⟩
           ·have e92:ev (.tmp 92)=.bool false:=he 8 (by decide) _ 92 rfl rfl
            clear he h0 hc hf hg
            exact flS rfl (by go_simp <;> rfl) (hW) rfl
           ·have e10:ev (.tmp 10)=.int .i64 i:=h0 10 rfl
            clear he h0 hc hf hg
            exact flS rfl (by go_simp <;> rfl) (hW) rfl
           ·have e0:ev (.tmp 0)=.slice (some ⟨LB,0,none⟩) k cap:=h0 0 rfl
            clear he h0 hc hf hg
            exact flS rfl (by go_simp <;> rfl) (hW) rfl
           ·have e9:ev (.tmp 9)=.int .i64 q:=h0 9 rfl
            clear he h0 hc hf hg
            exact flS rfl (by go_simp <;> rfl) (hW) rfl
           ·have e95:ev (.tmp 95)=.slice (some ⟨LB,0,none⟩) k cap:=he 11 (by decide) _ 95 rfl rfl
            have e96:ev (.tmp 96)=.int .i64 q:=he 12 (by decide) _ 96 rfl rfl
            clear he h0 hc hf hg
            exact flS rfl (by go_simp <;> rfl) (hW) rfl
           ·have e97:ev (.tmp 97)=.pointer (some ⟨LB,q,none⟩):=he 13 (by decide) _ 97 rfl rfl
            have cc:W.cell? ⟨LB,q,none⟩=some (.slice p n cp):=(hW.cell (p:=⟨LB,q,none⟩) HLCL.out).trans HLC.out
            clear he h0 hc hf hg
            exact flS rfl (by go_simp <;> rfl) (hW) rfl
           ·have e98:ev (.tmp 98)=.slice p n cp:=he 14 (by decide) _ 98 rfl rfl
            clear he h0 hc hf hg
            exact flS rfl (by go_simp <;> rfl) (hW) rfl
           ·have e94:ev (.tmp 94)=.int .i64 i:=he 10 (by decide) _ 94 rfl rfl
            have e99:ev (.tmp 99)=.int .i64 n:=he 15 (by decide) _ 99 rfl rfl
            clear he h0 hc hf hg
            exact flS rfl (by go_simp <;> rfl) (hW) rfl
           ·have e100:ev (.tmp 100)=.bool false:=he 16 (by decide) _ 100 rfl rfl
            clear he h0 hc hf hg
            exact flS rfl (by go_simp <;> rfl) (hW) rfl
           ·exact .inr ⟨rfl,.still (hW) rfl⟩
           ·exact .inr ⟨rfl,.still (hW) rfl⟩
           ·exact .inr ⟨rfl,.still (hW) rfl⟩
           ·exact .inr ⟨rfl,.still (hW) rfl⟩
           ·exact .inr ⟨rfl,.still (hW) rfl⟩
           ·exact .inr ⟨rfl,.still (hW) rfl⟩
           ·exact .inr ⟨rfl,.still (hW) rfl⟩
           ·exact .inr ⟨rfl,.still (hW) rfl⟩
           ·exact .inr ⟨rfl,.still (hW) rfl⟩
           ·have e101:ev (.tmp 101)=.bool false:=he 17 (by decide) _ 101 rfl rfl
            have e110:ev (.tmp 110)=undef:=he 26 (by decide) _ 110 rfl rfl
            have hcf:=hc (.bool false)
            clear he h0 hc hf hg
            exact flS rfl (by go_simp <;> rfl) (hW) rfl
           ·have e93:ev (.tmp 93)=.bool false:=he 9 (by decide) _ 93 rfl rfl
            have e111:ev (.tmp 111)=.bool false:=he 27 (by decide) _ 111 rfl rfl
            clear he h0 hc hf hg
            exact flS rfl (by go_simp <;> rfl) (hW) rfl
          intro γ L w4 hL hW
          have HST6:=hZ (HST5.out.keep hW)
          clear hL hW hI0
          simp only [putAll,Act.put,List.setIfInBounds_toArray,List.set_cons_succ,List.set_cons_zero]
          go_wp2_with fail
          exact ⟨⟨i+1,by omega,by rw [Int.natCast_add];rfl,HST6⟩,by simp [intOf];omega⟩
        ·go_wp2_with fail
         case roundEnd =>
          exact ⟨⟨q+1,by omega,by rw [Int.natCast_add];rfl,hst4⟩,by simp [intOf];omega⟩
      ·go_wp2_with fail
       go_ret
       exact ⟨rfl,hst3.out.bel⟩
end Go.Proofs.YtecgikanophonaaGreatDoor
