/- Texts of the seat, one behind the other: RfList, RfOpen, RfWorks. -/
import Derived.Test.YtdkedmngeahjiaaGreatDoorRfG
import Derived.Test.YtdkedmngeahjiaaGreatDoorRfRow
import Derived.Test.YtdkedmngeahjiaaGreatDoorM33
import Derived.Test.YtdkedmngeahjiaaGreatDoorM38
set_option maxRecDepth 100000
set_option maxHeartbeats 25600000
/- Contract of refs' List. -/
namespace Go.Proofs.YtdkedmngeahjiaaGreatDoor
open Go Go.RowKit
def clP (p:List UInt8 × ByteArray):Array Value:=#[lV p.1,.string p.2]
abbrev OwnP (base:Nat) (l:List (List UInt8 × ByteArray)) (v:Value) (w:World):Prop:=OwnG 83 2 clP base l v w
theorem OwnP.below {base:Nat} {l:List (List UInt8 × ByteArray)} {v:Value} {w w':World} (h:OwnP base l v w) (hb:Below w.heap.size w w'):OwnP base l v w':=row_same h (fun b hv=>hb.block b (row_blk h hv).2.1)
theorem OwnP.row {base K:Nat} {l:List (List UInt8 × ByteArray)} {v:Value} {w:World} (h:OwnP base l v w) (hl:l.length=K):w.ownsRow base 83 2 v K (flatG clP l):=hl ▸ h
theorem OwnP.base {base b:Nat} {l:List (List UInt8 × ByteArray)} {v:Value} {w:World} (h:OwnP base l v w) (hb:b≤base):OwnP b l v w:=by
 refine ⟨h.1,?_⟩
 rcases h.2 with h2 | ⟨g,cap,cur,h1,h2,h3⟩
 ·exact .inl h2
 ·exact .inr ⟨g,cap,cur,h1,Nat.le_trans hb h2,h3⟩
theorem infoP:(Tryz.prog.info? 83).map (fun i=>(i.zero,i.size,i.bytes))=some (some (.agg #[.string ⟨#[]⟩,.string ⟨#[]⟩]),2,32):=by kernel_rfl
theorem newP (w:World) (x y:Value) (t:TypeId):∀ (j:Nat) (u:Value),[x,y][j]?=some u→(w.alloc (.cells #[x,y] t)).cell? ((⟨w.heap.size,0,none⟩:Addr).add j)=some u:=fun j u h=>by
 rw [show ((⟨w.heap.size,0,none⟩:Addr).add j)=⟨w.heap.size,j,none⟩ by simp [Addr.add];intro e;exact e.symm,cell_of_heapN (heap_new w _)]
 rw [← h,← List.getElem?_toArray]
theorem onesP (x y:ByteArray):∀ u∈[Value.string x,Value.string y],u.oneCell'=true:=fun u hu=>by
 rcases List.mem_cons.1 hu with rfl | hu
 ·rfl
 ·rw [List.mem_singleton.1 hu];rfl
theorem reads_listed {m:DM} (hr:Rising m.now) (hoff:m.off=false) {hd s:ByteArray} (h:s∈m.lists hd):(m.reads s).2=0:=by
 unfold DM.lists at h
 rw [if_neg (by rw [hoff];decide)] at h
 obtain ⟨p,hp,rfl⟩:=List.mem_map.1 h
 have h1:tget m.now (nameB p).data.toList=some p.2:=tget_of_mem hr (List.mem_filter.1 hp).1
 unfold DM.reads DM.get
 rw [if_neg (by rw [hoff];decide),h1]
theorem namesM_len {m:DM}:∀ {L:List ByteArray} {l:List (List UInt8 × ByteArray)},namesM m L=some l→l.length≤L.length
 |[],l,h=>by cases h;exact Nat.le_refl _
 |n :: r,l,h=>by
  unfold namesM at h
  split at h
  ·split at h
   ·rename_i l' h1
    cases h
    have:=namesM_len h1
    rw [List.length_cons,List.length_cons]
    omega
   ·cases h
  ·have:=namesM_len h
   rw [List.length_cons]
   omega
def RListPost (w1:World) (r:List (List UInt8 × ByteArray) × Int) (e:Ending) (w':World):Prop :=
 ∃ v t,e=.returned (.tuple #[v,wrapE t r.2])∧OwnP w1.heap.size r.1 v w'∧Below w1.heap.size w1 w'
theorem rlist_any {w w1:World} {S P:Nat→Prop} {rb a n:Nat} {m:DM} (h:Rf w S P rb a w1 n m) (hn:n≤1000000000) (hsh:∀ s∈m.lists ⟨refHead.toArray⟩,s.size≤200) :
  Calls Tryz.prog 39 #[.pointer (some ⟨rb,0,none⟩)] w1 (RListPost w1 (listR m)):=by
 obtain ⟨i0,hi,hz0,hz1,hz2⟩:=info_parts infoP
 have HS1:=hZ h
 have hlN:(m.lists ⟨refHead.toArray⟩).length≤n:=by
  unfold DM.lists
  split
  ·exact Nat.zero_le _
  ·rw [List.length_map]
   exact Nat.le_trans (List.length_filter_le _ _) h.st.ok.nowN
 have hls:=st_list h.st ⟨#[114,101,102,115,47]⟩ (by omega)
 have hlq:m.lists ⟨refHead.toArray⟩=m.lists ⟨#[114,101,102,115,47]⟩:=rfl
 rw [← hlq] at hls
 have hLM:listR m=if m.off then ([],(27:Int)) else match namesM m (m.lists ⟨refHead.toArray⟩) with
  |some l=>(l,(0:Int))
  |none=>([],(30:Int)):=rfl
 have hrl:m.off=false→∀ s∈m.lists ⟨refHead.toArray⟩,(m.reads s).2=0:=fun ho s hs=>reads_listed h.st.ok.now ho hs
 have hbox:=h.cell
 obtain ⟨L,hL⟩:∃ L,m.lists ⟨refHead.toArray⟩=L:=⟨_,rfl⟩
 rw [hL] at hls hlN hsh hLM hrl
 obtain ⟨R,hR⟩:∃ R,listR m=R:=⟨_,rfl⟩
 rw [hR] at hLM ⊢
 have HLM:=hZ hLM
 have HSH:=hZ hsh
 have HRL:=hZ hrl
 obtain ⟨N,hN⟩:∃ N,L.length=N:=⟨_,rfl⟩
 have HN:=hZ hN
 rw [hN] at hlN
 have HNN:Hid (N≤n∧n≤1000000000):=hZ ⟨hlN,hn⟩
 clear h hsh hlN hL hN hn hlq hLM hR hrl
 cases hoff:m.off with
 |true =>
  rw [hoff] at hls
  have HOFF:=hZ hoff
  clear hoff
  have hlsw:Calls Tryz.prog 17 #[.pointer (some ⟨a,0,none⟩),.string ⟨#[114,101,102,115,47]⟩] w1 fun e w'=>∃ v,e=.returned (.tuple #[v,.iface 71 (.int .i64 27)])∧OwnTexts w1.heap.size w' v L∧Below w1.heap.size w1 w':=hls
  have htl:=fun W:World=>told_any whatL 27 W
  rw [show errE 27=.iface 71 (.int .i64 27) from rfl] at htl
  unfold whatL at htl
  clear hls
  go_enter Tryz.func39,Tryz.ntmps39
  go_wp2_with fail
  refine hlsw.mono ?_
  rintro e w2 ⟨v,rfl,-,hb2⟩
  have HB2:=hZ hb2
  clear hb2 hlsw hbox
  go_wp2_with (go_at_call 34;refine (htl _).mono ?_;rintro e w3 ⟨rfl,rfl⟩)
  go_ret2
  have hO:R=([],27):=by rw [HLM.out,HOFF.out];rfl
  rw [hO]
  exact ⟨_,whatL,rfl,⟨rfl,.inl ⟨rfl,rfl⟩⟩,HB2.out⟩
 |false =>
  rw [hoff] at hls
  have HOFF:=hZ hoff
  clear hoff
  have hlsw:Calls Tryz.prog 17 #[.pointer (some ⟨a,0,none⟩),.string ⟨#[114,101,102,115,47]⟩] w1 fun e w'=>∃ v,e=.returned (.tuple #[v,.nilIface])∧OwnTexts w1.heap.size w' v L∧Below w1.heap.size w1 w':=hls
  clear hls
  have HLM2:Hid (R=match namesM m L with
   |some l=>(l,(0:Int))
   |none=>([],(30:Int))):=hZ (by rw [HLM.out,HOFF.out];rfl)
  have htl:=fun W:World=>told_any whatL 30 W
  rw [show errE 30=.iface 71 (.int .i64 30) from rfl] at htl
  unfold whatL at htl
  have HTL:=hZ htl
  have hI32:=dig_info2 (d:=zeroD) rfl
  have hsz:=dig_size (d:=zeroD) rfl
  have h1z:=dig_one zeroD
  clear htl HLM
  go_enter Tryz.func39,Tryz.ntmps39
  go_wp2_with fail
  refine hlsw.mono ?_
  rintro e w2 ⟨v,rfl,hv,hb2⟩
  obtain ⟨vp,vc,rfl⟩:=hv.rd.len
  rw [HN.out] at hv ⊢
  have HV2:=hZ hv.rd
  have HB2:=hZ hb2
  have HS2:=hZ (HS1.out.bel hb2)
  have hNi:(N:Int)≤1000000000:=by have:=HNN.out;omega
  clear hb2 hlsw hv HS1 hbox
  go_wp2_with fail
  go_loopw [6,29] (fun v iv wr=>∃ (k K:Nat) (l:List (List UInt8 × ByteArray)),(k:Int)≤N∧(K:Int)≤k∧iv=.int .i64 k∧(∃ vp vc,v=.slice vp K vc)∧Hid (l.length=K)∧Hid (namesM m L=(namesM m (L.drop k)).map (l ++ ·))∧Hid (OwnP w2.heap.size l v wr)∧Hid (Below w2.heap.size w2 wr)) (fun _ iv _=>N - (intOf iv).toNat)
  case atStart=>exact ⟨0,0,[],by omega,by omega,rfl,⟨_,_,rfl⟩,hZ rfl,hZ (by rw [List.drop_zero];cases namesM m L <;> rfl),hZ ⟨rfl,.inl ⟨rfl,rfl⟩⟩,hZ (Below.refl _ _)⟩
  case round =>
   obtain ⟨k,K,l,hk,hKk,rfl,⟨up,uc,rfl⟩,HK,HNM,HR,HB⟩:=hrel
   by_cases hlt:(k:Int) < N
   ·have hkl:k < L.length:=by rw [HN.out];omega
    obtain ⟨s,hs⟩:∃ s,L[k]?=some s:=⟨_,List.getElem?_eq_getElem hkl⟩
    obtain ⟨vp',vc',he,hv⟩:=HV2.out.below HB.out
    obtain ⟨vb,vo,hvp,hvl,hvc⟩:=hv k s hs
    have hpe:vp=some ⟨vb,vo,none⟩:=by cases he;exact hvp
    subst hpe
    have hss:=HSH.out s (List.mem_of_getElem? hs)
    have hy:=HRL.out HOFF.out s (List.mem_of_getElem? hs)
    have hdr:L.drop k=s :: L.drop (k+1):=by
     rw [List.drop_eq_getElem_cons hkl]
     rw [List.getElem?_eq_getElem hkl] at hs
     rw [Option.some.inj hs]
    have HDR:=hZ hdr
    have hre:=fun W:World=>rest_any s (show ((s.size:Nat):Int)≤140737488355328 by omega) W
    unfold lV at hre
    clear hs he hv hvp hvl hkl hdr
    have HS4:=hZ (HS2.out.bel HB.out)
    have c4:=HS4.out.cell
    cases hrs:restM s with
    |false =>
     have hnx:namesM m (L.drop k)=namesM m (L.drop (k+1)):=by rw [HDR.out,namesM,if_neg (by rw [hrs];decide)]
     have HNX:=hZ hnx
     rw [hrs] at hre
     clear hrs hnx hy
     go_wp2_with (go_at_call 43;refine (hre _).mono ?_;rintro e w5 ⟨rfl,hb5⟩;have HB5:Hid (Below w2.heap.size w2 w5):=hZ (HB.out.trans (hb5.mono HB.out.size));have HR5:=hZ (HR.out.below hb5);clear hb5)
     exact ⟨⟨k+1,K,l,by omega,by omega,by rw [Int.natCast_add];rfl,⟨_,_,rfl⟩,HK,hZ (by rw [HNM.out,HNX.out]),HR5,HB5⟩,by simp [intOf];omega⟩
    |true =>
     have hrd:=fun W (hst:St w S P a W n m)=>st_read hst s (show s.size≤maxLen by unfold maxLen;omega)
     obtain ⟨T,hT⟩:∃ T,(m.reads s).1=T:=⟨_,rfl⟩
     rw [hT,hy,show errE 0=.nilIface from rfl] at hrd
     have HRD:=hZ hrd
     have hpa:=fun W:World=>parse_dig T W
     have hnx:namesM m (L.drop k)=match parseD T,namesM m (L.drop (k+1)) with
      |some _,some l=>some ((tailM s,T) :: l)
      |_,_=>none:=by rw [HDR.out,namesM,if_pos hrs,hT];cases parseD T <;> cases namesM m (L.drop (k+1)) <;> rfl
     rw [hrs] at hre
     clear hrd hT hy hrs
     cases hp:parseD T with
     |none =>
      rw [hp] at hpa hnx
      have HNX:Hid (namesM m (L.drop k)=none):=hZ hnx
      have hpa2:∀ W:World,Calls Tryz.prog 42 #[.string T] W fun e w'=>e=.returned (.tuple #[.agg (zeroD.map byteV).toArray,.iface 71 (.int .i64 4)])∧Below W.heap.size W w':=hpa
      clear hpa hp hnx
      go_wp2_with (go_at_call 43;refine (hre _).mono ?_;rintro e w5 ⟨rfl,hb5⟩;have HB5:Hid (Below w2.heap.size w2 w5):=hZ (HB.out.trans (hb5.mono HB.out.size));have HS5:=hZ (HS4.out.bel hb5);have c5:=HS5.out.cell;clear hb5)
      refine (HRD.out _ HS5.out.st).mono ?_
      rintro e w6 ⟨rfl,rfl⟩
      go_wp2_with (first | (go_at_call 42;refine (hpa2 _).mono ?_;rintro e w7 ⟨rfl,hb7⟩;have HB7:Hid (Below w2.heap.size w2 w7):=hZ (HB5.out.trans (hb7.mono HB5.out.size));clear hb7) | (refine wpList_store_new rfl _ _ _ rfl _ (zeroD.map byteV).toArray _ rfl rfl rfl hI32 hsz h1z ?_;(obtain ⟨W5,hW5⟩:∃ W,w7.alloc (.cells (zeroD.map byteV).toArray 33)=W:=⟨_,rfl⟩;have HB8:Hid (Below w2.heap.size w2 W5):=hZ (by rw [← hW5];exact HB7.out.alloc HB7.out.size _);rw [hW5];clear hW5)) | (go_at_call 34;refine (HTL.out _).mono ?_;rintro e w9 ⟨rfl,rfl⟩))
      go_ret2
      have hO:R=([],30):=by rw [HLM2.out,HNM.out,HNX.out];rfl
      rw [hO]
      exact ⟨_,whatL,rfl,⟨rfl,.inl ⟨rfl,rfl⟩⟩,HB2.out.trans (HB8.out.mono HB2.out.size)⟩
     |some D =>
      have hDl:=(parseD_inv hp).2
      rw [hp] at hpa hnx
      have HNX:Hid (namesM m (L.drop k)=(namesM m (L.drop (k+1))).map ((tailM s,T) :: ·)):=hZ (by rw [hnx];cases namesM m (L.drop (k+1)) <;> rfl)
      have hpa2:∀ W:World,Calls Tryz.prog 42 #[.string T] W fun e w'=>e=.returned (.tuple #[.agg (D.map byteV).toArray,.nilIface])∧Below W.heap.size W w':=hpa
      have hI2:=dig_info2 hDl
      have hd1:=dig_one D
      have hdz:=dig_size hDl
      clear hpa hp hnx hDl
      go_wp2_with (go_at_call 43;refine (hre _).mono ?_;rintro e w5 ⟨rfl,hb5⟩;have HB5:Hid (Below w2.heap.size w2 w5):=hZ (HB.out.trans (hb5.mono HB.out.size));have HS5:=hZ (HS4.out.bel hb5);have HR5:=hZ (HR.out.below hb5);have c5:=HS5.out.cell;clear hb5)
      refine (HRD.out _ HS5.out.st).mono ?_
      rintro e w6 ⟨rfl,rfl⟩
      go_wp2_with (first | (go_at_call 42;refine (hpa2 _).mono ?_;rintro e w7 ⟨rfl,hb7⟩;have HB7:Hid (Below w2.heap.size w2 w7):=hZ (HB5.out.trans (hb7.mono HB5.out.size));have HR7:=hZ (HR5.out.below hb7);clear hb7) | (refine wpList_store_new rfl _ _ _ rfl _ (D.map byteV).toArray _ rfl rfl rfl hI2 hdz hd1 ?_;(obtain ⟨W5,hW5⟩:∃ W,w7.alloc (.cells (D.map byteV).toArray 33)=W:=⟨_,rfl⟩;have hb8:Below w7.heap.size w7 W5:=(by rw [← hW5];exact (Below.refl _ _).alloc (Nat.le_refl _) _);have HB8:Hid (Below w2.heap.size w2 W5):=hZ (HB7.out.trans (hb8.mono HB7.out.size));have HR8:=hZ (HR7.out.below hb8);rw [hW5];clear hW5 hb8)) | (at_builtin;go_must (refine wpList_app_to rfl _ _ 79 rfl w2.heap.size 83 i0 (.agg #[.string ⟨#[]⟩,.string ⟨#[]⟩]) 2 32 Tryz.underlying79 hi hz0 hz1 hz2 rfl (by decide) (.slice up K uc) K _ rfl ((HR8.out.below ((Below.refl W5.heap.size W5).alloc (Nat.le_refl _) (.cells #[.string ⟨(tailM s).toArray⟩,.string T] 83))).row HK.out) ⟨W5.heap.size,0,none⟩ 1 1 [.string ⟨(tailM s).toArray⟩,.string T] rfl rfl (newP W5 _ _ _) (onesP _ _) (by decide) (by unfold maxLen;omega) (by omega) (Nat.le_trans HB8.out.size (by rw [World.size_alloc];omega)) ?_);intro v6 W6 ho6 hl6;have HO6:=hZ ho6;have HL6:=hZ hl6;(obtain ⟨p6,c6,rfl⟩:=row_slice ho6);clear ho6 hl6))
      have hb9:Below w2.heap.size w2 W6:=(HB8.out.alloc (by have:=HB8.out.size;omega) _).trans (app_below ((HR8.out.below ((Below.refl W5.heap.size W5).alloc (Nat.le_refl _) (.cells #[.string ⟨(tailM s).toArray⟩,.string T] 83))).row HK.out) HL6.out (Nat.le_trans HB8.out.size (by rw [World.size_alloc];omega)))
      refine ⟨⟨k+1,K+1,l ++ [(tailM s,T)],by omega,by omega,by rw [Int.natCast_add];rfl,⟨_,_,rfl⟩,hZ ?_,hZ ?_,hZ ?_,hZ hb9⟩,by simp [intOf];omega⟩
      ·rw [List.length_append,HK.out];rfl
      ·rw [HNM.out,HNX.out]
       cases namesM m (L.drop (k+1)) with
       |none=>rfl
       |some r=>exact congrArg some (List.append_assoc l [(tailM s,T)] r).symm
      ·exact OwnG.app (by rw [HK.out];exact HO6.out)
   ·obtain rfl:k=N:=by omega
    have hall:namesM m L=some l:=by rw [HNM.out,List.drop_of_length_le (by rw [HN.out];exact Nat.le_refl _)];exact congrArg some (List.append_nil l)
    have hO:R=(l,0):=by rw [HLM2.out,hall]
    have HO:=hZ hO
    clear hall hO
    go_wp2_with fail
    go_ret2
    rw [HO.out]
    exact ⟨_,whatL,rfl,HR.out.base HB2.out.size,HB2.out.trans (HB.out.mono HB2.out.size)⟩
end Go.Proofs.YtdkedmngeahjiaaGreatDoor
/- Contract of refs.Open. -/
namespace Go.Proofs.YtdkedmngeahjiaaGreatDoor
open Go Go.RowKit
theorem openR_on {m:DM} (h:m.off=false):openR m=seqM (takesM (badR m) m) fun m'=>if badR m=[] then (m',0) else m'.op .flush:=if_neg (by rw [h];decide)
theorem RowC.own {base:Nat} {l:List Value} {v:Value} {w:World} (h:RowC base l v w) (b:Nat) (hb:v.ownBlock=some b):base≤b∧b < w.heap.size:=by
 rcases h with ⟨rfl,-⟩ | ⟨g,cap,rfl,h2,h3,-⟩
 ·cases hb
 ·cases hb
  exact ⟨h2,h3⟩
theorem reads_two {m:DM} (h:m.off=false) (n:ByteArray):(m.reads n).2=0∨(m.reads n).2=10:=by
 unfold DM.reads
 rw [if_neg (by rw [h];decide)]
 split
 ·exact .inl rfl
 ·exact .inr rfl
def ROpenPost (w:World) (S P:Nat→Prop) (a n N:Nat) (w1:World) (r:DM × Int) (e:Ending) (w':World):Prop :=
 ∃ v,e=.returned v∧((r.2=0∧∃ rb,v=.tuple #[.pointer (some ⟨rb,0,none⟩),.nilIface]∧w1.heap.size≤rb∧Rf w S (fun b=>P b∨b=rb) rb a w' (n+N+1) r.1) ∨
  (r.2≠0∧∃ u t,v=.tuple #[.pointer none,u]∧u=wrapE t r.2∧St w S P a w' (n+N+1) r.1))∧SameP P w1 w'
theorem refO_box {w w1:World} {S P:Nat→Prop} {a n n':Nat} {m:DM} (h:St w S P a w1 n m) (hn:n≤n'):Rf w S (fun b=>P b∨b=w1.heap.size) w1.heap.size a (w1.alloc (refsO a)) n' m :=
 ⟨(h.bel ((Below.refl _ _).alloc (Nat.le_refl _) _) _ (fun b hb=>by
  rcases hb with hb | rfl
  ·exact .inl hb
  ·exact .inr ⟨Nat.le_refl _,by rw [World.size_alloc];omega⟩)).more hn,heap_new _ _,.inr rfl⟩
theorem ropen_nil (w:World):Calls Tryz.prog 13 #[.pointer none] w fun e w'=>e=.returned (.tuple #[.pointer none,wrapE whatO 1])∧w=w':=by
 have htl:=fun W:World=>told_any whatO 1 W
 rw [show errE 1=.iface 71 (.int .i64 1) from rfl] at htl
 unfold whatO at htl
 go_enter Tryz.func13,Tryz.ntmps13
 go_wp2_with (go_at_call 34;refine (htl _).mono ?_;rintro e w3 ⟨rfl,rfl⟩)
 go_ret2
 exact ⟨rfl,rfl⟩
theorem ropen0 {w1:World} {S P:Nat→Prop} {a n:Nat} {m:DM} (h:St w1 S P a w1 n m) (hn:n≤1000000000) (hsh:∀ s∈m.lists ⟨refHead.toArray⟩,s.size≤200) :
  Calls Tryz.prog 13 #[.pointer (some ⟨a,0,none⟩)] w1 (ROpenPost w1 S P a n (badR m).length w1 (openR m)):=by
 obtain ⟨i0,hi,hz0,hz1,hz2⟩:=info_parts infoS
 have HS1:=hZ h
 have hlN:(m.lists ⟨refHead.toArray⟩).length≤n:=by
  unfold DM.lists
  split
  ·exact Nat.zero_le _
  ·rw [List.length_map]
   exact Nat.le_trans (List.length_filter_le _ _) h.ok.nowN
 have hrl:m.off=false→∀ s∈m.lists ⟨refHead.toArray⟩,(m.reads s).2=0:=fun ho s hs=>reads_listed h.ok.now ho hs
 have hls:=st_list h ⟨#[114,101,102,115,47]⟩ (by omega)
 have hlq:m.lists ⟨refHead.toArray⟩=m.lists ⟨#[114,101,102,115,47]⟩:=rfl
 rw [← hlq] at hls
 obtain ⟨L,hL⟩:∃ L,m.lists ⟨refHead.toArray⟩=L:=⟨_,rfl⟩
 rw [hL] at hls hlN hsh hrl
 have HL:=hZ hL
 have HSH:=hZ hsh
 have HRL:=hZ hrl
 obtain ⟨N,hN⟩:∃ N,L.length=N:=⟨_,rfl⟩
 have HN:=hZ hN
 rw [hN] at hlN
 have HNN:Hid (N≤n∧n≤1000000000):=hZ ⟨hlN,hn⟩
 have HTL:=hZ (fun (y:Int) (W:World)=>told_any whatO y W)
 unfold whatO at HTL
 clear h hsh hlN hL hN hn hlq hrl
 cases hoff:m.off with
 |true =>
  rw [hoff] at hls
  have HOFF:=hZ hoff
  clear hoff
  have hlsw:Calls Tryz.prog 17 #[.pointer (some ⟨a,0,none⟩),.string ⟨#[114,101,102,115,47]⟩] w1 fun e w'=>∃ v,e=.returned (.tuple #[v,.iface 71 (.int .i64 27)])∧OwnTexts w1.heap.size w' v L∧Below w1.heap.size w1 w':=hls
  have htl:=HTL.out 27
  rw [show errE 27=.iface 71 (.int .i64 27) from rfl] at htl
  clear hls
  go_enter Tryz.func13,Tryz.ntmps13
  go_wp2_with fail
  refine hlsw.mono ?_
  rintro e w2 ⟨v,rfl,-,hb2⟩
  have HS2:=hZ (HS1.out.bel hb2 P (fun b hb=>.inl hb))
  have HM2:Hid (SameP P w1 w2):=hZ (HS1.out.same hb2)
  clear hb2 hlsw
  go_wp2_with (go_at_call 34;refine (htl _).mono ?_;rintro e w3 ⟨rfl,rfl⟩)
  go_ret2
  have hO:openR m=(m,27):=if_pos HOFF.out
  refine ⟨_,rfl,?_,HM2.out⟩
  rw [hO]
  exact .inr ⟨(show (27:Int)≠0 by decide),_,whatO,rfl,rfl,HS2.out.more (by omega)⟩
 |false =>
  rw [hoff] at hls
  have HOFF:=hZ hoff
  clear hoff
  have hlsw:Calls Tryz.prog 17 #[.pointer (some ⟨a,0,none⟩),.string ⟨#[114,101,102,115,47]⟩] w1 fun e w'=>∃ v,e=.returned (.tuple #[v,.nilIface])∧OwnTexts w1.heap.size w' v L∧Below w1.heap.size w1 w':=hls
  clear hls
  obtain ⟨r,hr⟩:∃ r,(m.reads handR).1=r:=⟨_,rfl⟩
  have hrd:=fun W (hs:St w1 S P a W n m)=>st_read hs handR (by decide)
  rcases reads_two HOFF.out handR with hy0 | hy0
  ·rw [hy0,hr,show errE 0=.nilIface from rfl] at hrd
   have HY0:=hZ hy0
   unfold handR at hrd
   clear hr hy0
   go_enter Tryz.func13,Tryz.ntmps13
   go_wp2_with fail
   refine hlsw.mono ?_
   rintro e w2 ⟨v,rfl,hv,hb2⟩
   obtain ⟨vp,vc,rfl⟩:=hv.rd.len
   rw [HN.out] at hv ⊢
   have HV2:=hZ hv.rd
   have HS2:=hZ (HS1.out.bel hb2 P (fun b hb=>.inl hb))
   have HM2:Hid (SameP P w1 w2):=hZ (HS1.out.same hb2)
   clear hb2 hlsw hv HS1
   go_wp2_with fail
   refine (hrd _ HS2.out).mono ?_
   rintro e w3 ⟨rfl,rfl⟩
   clear hrd
   have hbn:(0:Nat)+1≤140737488355328:=by decide
   go_wp2_with (at_builtin;refine wpList_appC rfl _ _ 31 rfl w2.heap.size 9 i0 (.string ⟨#[]⟩) 16 Tryz.underlying31 hi hz0 hz1 hz2 rfl [] _ rfl (RowC.nil _ _) (.string handR) ⟨w2.heap.size,0,none⟩ rfl (new1V w2 _ _) rfl (by decide) (by decide) (by rw [World.size_alloc];have:=(Below.refl w2.heap.size w2).size;omega) ?_;intro v1 w7 hr7 hb7;have HR7:=hZ hr7;have HB7:Hid (Below w2.heap.size w2 w7):=hZ (((Below.refl w2.heap.size w2).alloc (by have:=(Below.refl w2.heap.size w2).size;omega) _).trans hb7);clear hr7 hb7)
   have HR9:Hid (RowC w2.heap.size (([handR]:List ByteArray).map strV) v1 w7):=HR7
   have HB9:=HB7
   clear hbn HR7 HB7
   have hNi:(N:Int)≤1000000000:=by have:=HNN.out;omega
   go_wp2_with fail
   go_loopw [6,52] (fun v iv wr=>∃ k:Nat,(k:Int)≤N∧iv=.int .i64 k∧Hid (RowC w2.heap.size (([handR] ++ (L.take k).filter fun s=>!rightR m s).map strV) v wr)∧Hid (Below w2.heap.size w2 wr)) (fun _ iv _=>N - (intOf iv).toNat)
   case atStart=>exact ⟨0,by omega,rfl,hZ (by rw [List.take_zero,List.filter_nil,List.append_nil];exact HR9.out),HB9⟩
   case round =>
    obtain ⟨k,hk,rfl,HR,HB⟩:=hrel
    by_cases hlt:(k:Int) < N
    ·have hkl:k < L.length:=by rw [HN.out];omega
     obtain ⟨s,hs⟩:∃ s,L[k]?=some s:=⟨_,List.getElem?_eq_getElem hkl⟩
     obtain ⟨vp',vc',he,hv⟩:=HV2.out.below HB.out
     obtain ⟨vb,vo,hvp,hvl,hvc⟩:=hv k s hs
     have hpe:vp=some ⟨vb,vo,none⟩:=by cases he;exact hvp
     subst hpe
     have hss:=HSH.out s (List.mem_of_getElem? hs)
     have hy:=HRL.out HOFF.out s (List.mem_of_getElem? hs)
     have htk:L.take (k+1)=L.take k ++ [s]:=by rw [List.take_add_one,hs];rfl
     have HTK:=hZ htk
     obtain ⟨q,cap,rfl,-⟩:=HR.out.slice
     have hql:(([handR] ++ (L.take k).filter fun s=>!rightR m s).map strV).length≤1+k:=by
      rw [List.length_map,List.length_append]
      have h1:=List.length_filter_le (fun s=>!rightR m s) (L.take k)
      rw [List.length_take] at h1
      have:([handR]:List ByteArray).length=1:=rfl
      omega
     obtain ⟨K,hK⟩:∃ K,(([handR] ++ (L.take k).filter fun s=>!rightR m s).map strV).length=K:=⟨_,rfl⟩
     rw [hK] at hql HR ⊢
     have HQL:=hZ hql
     have HK:=hZ hK
     have hre:=fun W:World=>rest_any s (show ((s.size:Nat):Int)≤140737488355328 by omega) W
     unfold lV at hre
     have hrd:=fun W (hst:St w1 S P a W n m)=>st_read hst s (show s.size≤maxLen by unfold maxLen;omega)
     obtain ⟨T,hT⟩:∃ T,(m.reads s).1=T:=⟨_,rfl⟩
     rw [hT,hy,show errE 0=.nilIface from rfl] at hrd
     have HRD:=hZ hrd
     have hpa:=fun W:World=>parse_dig T W
     have hrr:rightR m s=(restM s && (parseD T).isSome):=by unfold rightR;rw [hT]
     obtain ⟨RS,hRS⟩:∃ b,restM s=b:=⟨_,rfl⟩
     rw [hRS] at hre hrr
     obtain ⟨T1,hT1⟩:∃ T:ByteArray,(⟨(tailM s).toArray⟩:ByteArray)=T:=⟨_,rfl⟩
     rw [hT1] at hre
     clear hs he hv hvp hvl htk hkl hql hK hrd hT hy hT1 hRS
     have HS4:=hZ (HS2.out.bel HB.out P (fun b hb=>.inl hb))
     have hpp:∃ (D:List UInt8) (e:Value),parseV (parseD T)=.tuple #[.agg (D.map byteV).toArray,e]∧D.length=32∧(((parseD T).isSome=true∧e=.nilIface)∨((parseD T).isSome=false∧e=.iface 71 (.int .i64 4))):=by
      cases hp:parseD T with
      |none=>exact ⟨zeroD,_,rfl,rfl,.inr ⟨rfl,rfl⟩⟩
      |some D=>exact ⟨D,_,rfl,(parseD_inv hp).2,.inl ⟨rfl,rfl⟩⟩
     obtain ⟨D,ev,hpv,-,hev⟩:=hpp
     rw [hpv] at hpa
     generalize (parseD T).isSome=PS at hev hrr
     have HRR:=hZ hrr
     clear hrr hpv
     rcases hev with ⟨rfl,rfl⟩ | ⟨rfl,rfl⟩ <;> cases RS
     all_goals
      have hvv:True:=trivial
      go_wp2_with fail
      refine (HRD.out _ HS4.out).mono ?_
      rintro e w5 ⟨rfl,rfl⟩
      go_wp2_with (first | (go_at_call 42;refine (hpa _).mono ?_;rintro e w6 ⟨rfl,hb6⟩;have HB6:Hid (Below w2.heap.size w2 w6):=hZ (HB.out.trans (hb6.mono HB.out.size));have HR6:=hZ (HR.out.keep hb6);clear hb6) | (go_at_call 43;refine (hre _).mono ?_;rintro e w7 ⟨rfl,hb7⟩;have HB7:Hid (Below w2.heap.size w2 w7):=hZ (HB6.out.trans (hb7.mono HB6.out.size));have HR7:=hZ (HR6.out.keep hb7);clear hb7) | (at_builtin;refine wpList_appC rfl _ _ 31 rfl w2.heap.size 9 i0 (.string ⟨#[]⟩) 16 Tryz.underlying31 hi hz0 hz1 hz2 rfl _ _ rfl (HR7.out.keep ((Below.refl _ _).alloc (Nat.le_refl _) _)) (.string s) ⟨w7.heap.size,0,none⟩ rfl (new1V w7 _ _) rfl (by rw [HK.out];have:=HQL.out;have:=HNN.out;unfold maxLen;omega) (by rw [HK.out];have:=HQL.out;have:=HNN.out;omega) (by rw [World.size_alloc];have:=HB7.out.size;omega) ?_;intro v1 w8 hr8 hb8;have HR8:=hZ hr8;have HB8:Hid (Below w2.heap.size w2 w8):=hZ ((HB7.out.alloc (by have:=HB7.out.size;omega) _).trans hb8);clear hr8 hb8))
      first
       |(have hf:[s].filter (fun s=>!rightR m s)=[s]:=by rw [List.filter_cons,HRR.out];rfl
         refine ⟨⟨k+1,by omega,by rw [Int.natCast_add];rfl,hZ ?_,HB8⟩,by simp [intOf];omega⟩
         rw [HTK.out,List.filter_append,hf,← List.append_assoc,List.map_append]
         exact HR8.out)
       |(have hf:[s].filter (fun s=>!rightR m s)=[]:=by rw [List.filter_cons,HRR.out];rfl
         refine ⟨⟨k+1,by omega,by rw [Int.natCast_add];rfl,hZ ?_,HB7⟩,by simp [intOf];omega⟩
         rw [HTK.out,List.filter_append,hf,List.append_nil]
         exact HR7.out)
    ·have hbad:([handR] ++ (L.take k).filter fun s=>!rightR m s)=badR m:=by
      rw [List.take_of_length_le (by rw [HN.out];omega)]
      exact (show [handR] ++ L.filter _=badR m by unfold badR;rw [if_pos HY0.out,HL.out])
     rw [hbad] at HR
     have hbl:(badR m).length≤1+N:=by
      rw [← hbad,List.length_append]
      have h1:=List.length_filter_le (fun s=>!rightR m s) (L.take k)
      rw [List.length_take] at h1
      have:([handR]:List ByteArray).length=1:=rfl
      have:=HN.out
      omega
     have hsz:∀ s∈badR m,s.size≤200:=by
      rw [← hbad]
      intro s hs
      rcases List.mem_append.1 hs with hs | hs
      ·rw [List.mem_singleton.1 hs];decide
      ·exact HSH.out s (List.mem_of_mem_take (List.mem_filter.1 hs).1)
     obtain ⟨BD,hBD⟩:∃ l,badR m=l:=⟨_,rfl⟩
     rw [hBD] at HR hbl hsz
     have HBD:=hZ hBD
     have HBL:=hZ hbl
     have HSZ:=hZ hsz
     have HQ:Hid (St w1 S (fun b=>P b∨u6.ownBlock=some b) a wr n m):=hZ (HS2.out.bel HB.out _ (fun b hb=>hb.elim .inl (fun e=>.inr (HR.out.own b e))))
     have HMQ:Hid (SameP P w1 wr):=hZ (fun b hb=>(HS2.out.same HB.out b hb).trans (HM2.out b hb))
     obtain ⟨q,cap,hu9,hcl⟩:=HR.out.slice
     rw [List.length_map] at hu9
     obtain ⟨M,hM⟩:∃ M,BD.length=M:=⟨_,rfl⟩
     rw [hM] at hu9 HBL
     have HMM:=hZ hM
     have HCL:Hid (∀ j s,BD[j]?=some s→∃ g,q=some ⟨g,0,none⟩∧wr.cell? ⟨g,j,none⟩=some (.string s)):=hZ (fun j s hj=>by
      obtain ⟨g,h1,-,h3⟩:=hcl j (strV s) (by rw [List.getElem?_map,hj];rfl)
      exact ⟨g,h1,h3⟩)
     subst hu9
     clear hbad hbl hsz hBD hcl hM HR
     obtain ⟨W9,hW9⟩:∃ W,W=wr:=⟨_,rfl⟩
     rw [← hW9] at HQ HMQ HCL ⊢
     clear hW9
     have hMi:(M:Int)≤1000000001:=by have:=HNN.out;have:=HBL.out;omega
     go_wp2_with fail
     go_loopw [89] (fun iv wx=>∃ (k:Nat) (mk:DM),(k:Int)≤M∧iv=.int .i64 k∧Hid (takesM BD m=takesM (BD.drop k) mk)∧Hid (St w1 S (fun b=>P b∨(Value.slice q M cap).ownBlock=some b) a wx (n+k) mk)∧Hid (SameP (fun b=>P b∨(Value.slice q M cap).ownBlock=some b) W9 wx)) (fun iv _=>M - (intOf iv).toNat)
     case atStart=>exact ⟨0,m,by omega,rfl,hZ rfl,HQ,hZ (fun _ _=>rfl)⟩
     case round =>
      obtain ⟨k,mk,hk,rfl,HTM,HS,HX⟩:=hrel
      by_cases hlt:(k:Int) < M
      ·have hkl:k < BD.length:=by rw [HMM.out];omega
       obtain ⟨s,hs⟩:∃ s,BD[k]?=some s:=⟨_,List.getElem?_eq_getElem hkl⟩
       obtain ⟨g,hqg,hgc⟩:=HCL.out k s hs
       have hss:=HSZ.out s (List.mem_of_getElem? hs)
       have hdr:BD.drop k=s :: BD.drop (k+1):=by
        rw [List.drop_eq_getElem_cons hkl]
        rw [List.getElem?_eq_getElem hkl] at hs
        rw [Option.some.inj hs]
       have htm:takesM BD m=seqM (mk.op (.remove s)) (takesM (BD.drop (k+1))):=by rw [HTM.out,hdr];rfl
       have HTM2:=hZ htm
       subst hqg
       have hc9:wr.cell? ⟨g,k,none⟩=some (.string s):=(cell_of_heap (HX.out g (.inr rfl))).trans hgc
       have hMn:M≤1+N:=by have:=HBL.out;omega
       have hnn:=HNN.out
       clear hs hgc hdr htm hkl
       go_wp2_with fail
       refine (st_remove HS.out s (Nat.le_trans hss (by decide)) (by omega)).mono ?_
       intro e w8 hp
       by_cases hy:(mk.op (.remove s)).2=0
       ·obtain ⟨mj,h1⟩:∃ mj,mk.op (.remove s)=(mj,0):=⟨_,by rw [← hy]⟩
        obtain ⟨rfl,hs8,hk8⟩:=hp.eq h1 (show errE 0=.nilIface from rfl)
        have HS8:=hZ hs8
        have HX8:Hid (SameP (fun b=>P b∨(Value.slice (some ⟨g,0,none⟩) M cap).ownBlock=some b) W9 w8):=hZ (fun b hb=>(hk8 b hb).trans (HX.out b hb))
        have HOP:=hZ h1
        clear hp hy hs8 hk8 h1 hc9
        go_wp2_with fail
        refine ⟨⟨k+1,mj,by omega,by rw [Int.natCast_add];rfl,hZ ?_,HS8,HX8⟩,by simp [intOf];omega⟩
        rw [HTM2.out,seqM_ok _ HOP.out]
       ·obtain ⟨y,hyy⟩:∃ y,(mk.op (.remove s)).2=y:=⟨_,rfl⟩
        rw [hyy] at hy
        obtain ⟨mj,h1⟩:∃ mj,mk.op (.remove s)=(mj,y):=⟨_,by rw [← hyy]⟩
        obtain ⟨rfl,hs8,hk8⟩:=hp.eq h1 (errE_no hy)
        have HS8:=hZ hs8
        have HX8:Hid (SameP P w1 w8):=hZ (fun b hb=>(hk8 b (.inl hb)).trans ((HX.out b (.inl hb)).trans (HMQ.out b hb)))
        have HOP:=hZ h1
        have HY:=hZ hy
        have htl:=HTL.out y
        rw [errE_no hy] at htl
        clear hp hy hs8 hk8 h1 hc9 hyy
        go_wp2_with (go_at_call 34;refine (htl _).mono ?_;rintro e w9 ⟨rfl,rfl⟩)
        go_ret2
        have hO:openR m=(mj,y):=by
         rw [openR_on HOFF.out,HBD.out]
         exact seqM_no _ (show takesM BD m=(mj,y) by rw [HTM2.out,seqM_no _ HOP.out HY.out]) HY.out
        refine ⟨_,rfl,?_,HX8.out⟩
        rw [hO,HBD.out]
        refine .inr ⟨HY.out,_,whatO,rfl,rfl,(HS8.out.sub P (fun b hb=>.inl hb)).more ?_⟩
        rw [HMM.out]
        omega
      ·obtain rfl:k=M:=by omega
       have htm:takesM BD m=(mk,0):=by rw [HTM.out,List.drop_of_length_le (by rw [HMM.out];exact Nat.le_refl _)];rfl
       have HTM2:=hZ htm
       have hMn:k≤1+N:=by have:=HBL.out;omega
       have hnn:=HNN.out
       have HX9:Hid (SameP P w1 wr):=hZ (fun b hb=>(HX.out b (.inl hb)).trans (HMQ.out b hb))
       clear htm
       by_cases hk0:(0:Int) < k
       ·have hne:BD≠[]:=fun e=>by have h0:([]:List ByteArray).length=k:=e ▸ HMM.out;have h1:(0:Nat)=k:=h0;omega
        have HNE:=hZ hne
        clear hne
        go_wp2_with fail
        refine (st_flush HS.out (by omega)).mono ?_
        intro e w8 hp
        by_cases hy:(mk.op .flush).2=0
        ·obtain ⟨mj,h1⟩:∃ mj,mk.op .flush=(mj,0):=⟨_,by rw [← hy]⟩
         obtain ⟨rfl,hs8,hk8⟩:=hp.eq h1 (show errE 0=.nilIface from rfl)
         have HS8:=hZ (hs8.sub P (fun b hb=>.inl hb))
         have HX8:Hid (SameP P w1 w8):=hZ (fun b hb=>(hk8 b (.inl hb)).trans (HX9.out b hb))
         have HOP:=hZ h1
         clear hp hy hs8 hk8 h1
         go_wp2_with fail
         go_ret2
         have hO:openR m=(mj,0):=by
          rw [openR_on HOFF.out,HBD.out,seqM_ok _ HTM2.out,if_neg HNE.out]
          exact HOP.out
         refine ⟨_,rfl,?_,fun b hb=>(HS8.out.same ((Below.refl _ _).alloc (Nat.le_refl _) _) b hb).trans (HX8.out b hb)⟩
         rw [hO,HBD.out]
         exact .inl ⟨rfl,_,rfl,HS8.out.size,refO_box HS8.out (by rw [HMM.out];omega)⟩
        ·obtain ⟨y,hyy⟩:∃ y,(mk.op .flush).2=y:=⟨_,rfl⟩
         rw [hyy] at hy
         obtain ⟨mj,h1⟩:∃ mj,mk.op .flush=(mj,y):=⟨_,by rw [← hyy]⟩
         obtain ⟨rfl,hs8,hk8⟩:=hp.eq h1 (errE_no hy)
         have HS8:=hZ hs8
         have HX8:Hid (SameP P w1 w8):=hZ (fun b hb=>(hk8 b (.inl hb)).trans (HX9.out b hb))
         have HOP:=hZ h1
         have HY:=hZ hy
         have htl:=HTL.out y
         rw [errE_no hy] at htl
         clear hp hy hs8 hk8 h1 hyy
         go_wp2_with (go_at_call 34;refine (htl _).mono ?_;rintro e w9 ⟨rfl,rfl⟩)
         go_ret2
         have hO:openR m=(mj,y):=by
          rw [openR_on HOFF.out,HBD.out,seqM_ok _ HTM2.out,if_neg HNE.out]
          exact HOP.out
         refine ⟨_,rfl,?_,HX8.out⟩
         rw [hO,HBD.out]
         refine .inr ⟨HY.out,_,whatO,rfl,rfl,(HS8.out.sub P (fun b hb=>.inl hb)).more ?_⟩
         rw [HMM.out]
         omega
       ·have he:BD=[]:=List.eq_nil_of_length_eq_zero (by rw [HMM.out];omega)
        have HE:=hZ he
        have HS8:=hZ (HS.out.sub P (fun b hb=>.inl hb))
        clear he
        go_wp2_with fail
        go_ret2
        have hO:openR m=(mk,0):=by
         rw [openR_on HOFF.out,HBD.out,seqM_ok _ HTM2.out,if_pos HE.out]
        refine ⟨_,rfl,?_,fun b hb=>(HS8.out.same ((Below.refl _ _).alloc (Nat.le_refl _) _) b hb).trans (HX9.out b hb)⟩
        rw [hO,HBD.out]
        exact .inl ⟨rfl,_,rfl,HS8.out.size,refO_box HS8.out (by rw [HMM.out];omega)⟩
  ·rw [hy0,hr,show errE 10=.iface 71 (.int .i64 10) from rfl] at hrd
   have HY0:=hZ hy0
   have hie:=fun W:World=>is_E 10 10 (by decide) W
   rw [show errE 10=.iface 71 (.int .i64 10) from rfl,show errV 10=.iface 71 (.int .i64 10) from rfl,show ((10:Int) == 10)=true from rfl] at hie
   unfold handR at hrd
   clear hr hy0
   go_enter Tryz.func13,Tryz.ntmps13
   go_wp2_with fail
   refine hlsw.mono ?_
   rintro e w2 ⟨v,rfl,hv,hb2⟩
   obtain ⟨vp,vc,rfl⟩:=hv.rd.len
   rw [HN.out] at hv ⊢
   have HV2:=hZ hv.rd
   have HS2:=hZ (HS1.out.bel hb2 P (fun b hb=>.inl hb))
   have HM2:Hid (SameP P w1 w2):=hZ (HS1.out.same hb2)
   clear hb2 hlsw hv HS1
   go_wp2_with fail
   refine (hrd _ HS2.out).mono ?_
   rintro e w3 ⟨rfl,rfl⟩
   clear hrd
   go_wp2_with (go_at_call 41;refine (hie _).mono ?_;rintro e w4 ⟨rfl,rfl⟩)
   have HR9:Hid (RowC w2.heap.size (([]:List ByteArray).map strV) (.slice none 0 0) w2):=hZ (RowC.nil _ _)
   have HB9:Hid (Below w2.heap.size w2 w2):=hZ (Below.refl _ _)
   have hNi:(N:Int)≤1000000000:=by have:=HNN.out;omega
   go_wp2_with fail
   go_loopw [6,52] (fun v iv wr=>∃ k:Nat,(k:Int)≤N∧iv=.int .i64 k∧Hid (RowC w2.heap.size (([] ++ (L.take k).filter fun s=>!rightR m s).map strV) v wr)∧Hid (Below w2.heap.size w2 wr)) (fun _ iv _=>N - (intOf iv).toNat)
   case atStart=>exact ⟨0,by omega,rfl,hZ (by rw [List.take_zero,List.filter_nil,List.append_nil];exact HR9.out),HB9⟩
   case round =>
    obtain ⟨k,hk,rfl,HR,HB⟩:=hrel
    by_cases hlt:(k:Int) < N
    ·have hkl:k < L.length:=by rw [HN.out];omega
     obtain ⟨s,hs⟩:∃ s,L[k]?=some s:=⟨_,List.getElem?_eq_getElem hkl⟩
     obtain ⟨vp',vc',he,hv⟩:=HV2.out.below HB.out
     obtain ⟨vb,vo,hvp,hvl,hvc⟩:=hv k s hs
     have hpe:vp=some ⟨vb,vo,none⟩:=by cases he;exact hvp
     subst hpe
     have hss:=HSH.out s (List.mem_of_getElem? hs)
     have hy:=HRL.out HOFF.out s (List.mem_of_getElem? hs)
     have htk:L.take (k+1)=L.take k ++ [s]:=by rw [List.take_add_one,hs];rfl
     have HTK:=hZ htk
     obtain ⟨q,cap,rfl,-⟩:=HR.out.slice
     have hql:(([] ++ (L.take k).filter fun s=>!rightR m s).map strV).length≤0+k:=by
      rw [List.length_map,List.length_append]
      have h1:=List.length_filter_le (fun s=>!rightR m s) (L.take k)
      rw [List.length_take] at h1
      have:([]:List ByteArray).length=0:=rfl
      omega
     obtain ⟨K,hK⟩:∃ K,(([] ++ (L.take k).filter fun s=>!rightR m s).map strV).length=K:=⟨_,rfl⟩
     rw [hK] at hql HR ⊢
     have HQL:=hZ hql
     have HK:=hZ hK
     have hre:=fun W:World=>rest_any s (show ((s.size:Nat):Int)≤140737488355328 by omega) W
     unfold lV at hre
     have hrd:=fun W (hst:St w1 S P a W n m)=>st_read hst s (show s.size≤maxLen by unfold maxLen;omega)
     obtain ⟨T,hT⟩:∃ T,(m.reads s).1=T:=⟨_,rfl⟩
     rw [hT,hy,show errE 0=.nilIface from rfl] at hrd
     have HRD:=hZ hrd
     have hpa:=fun W:World=>parse_dig T W
     have hrr:rightR m s=(restM s && (parseD T).isSome):=by unfold rightR;rw [hT]
     obtain ⟨RS,hRS⟩:∃ b,restM s=b:=⟨_,rfl⟩
     rw [hRS] at hre hrr
     obtain ⟨T1,hT1⟩:∃ T:ByteArray,(⟨(tailM s).toArray⟩:ByteArray)=T:=⟨_,rfl⟩
     rw [hT1] at hre
     clear hs he hv hvp hvl htk hkl hql hK hrd hT hy hT1 hRS
     have HS4:=hZ (HS2.out.bel HB.out P (fun b hb=>.inl hb))
     have hpp:∃ (D:List UInt8) (e:Value),parseV (parseD T)=.tuple #[.agg (D.map byteV).toArray,e]∧D.length=32∧(((parseD T).isSome=true∧e=.nilIface)∨((parseD T).isSome=false∧e=.iface 71 (.int .i64 4))):=by
      cases hp:parseD T with
      |none=>exact ⟨zeroD,_,rfl,rfl,.inr ⟨rfl,rfl⟩⟩
      |some D=>exact ⟨D,_,rfl,(parseD_inv hp).2,.inl ⟨rfl,rfl⟩⟩
     obtain ⟨D,ev,hpv,-,hev⟩:=hpp
     rw [hpv] at hpa
     generalize (parseD T).isSome=PS at hev hrr
     have HRR:=hZ hrr
     clear hrr hpv
     rcases hev with ⟨rfl,rfl⟩ | ⟨rfl,rfl⟩ <;> cases RS
     all_goals
      have hvv:True:=trivial
      go_wp2_with fail
      refine (HRD.out _ HS4.out).mono ?_
      rintro e w5 ⟨rfl,rfl⟩
      go_wp2_with (first | (go_at_call 42;refine (hpa _).mono ?_;rintro e w6 ⟨rfl,hb6⟩;have HB6:Hid (Below w2.heap.size w2 w6):=hZ (HB.out.trans (hb6.mono HB.out.size));have HR6:=hZ (HR.out.keep hb6);clear hb6) | (go_at_call 43;refine (hre _).mono ?_;rintro e w7 ⟨rfl,hb7⟩;have HB7:Hid (Below w2.heap.size w2 w7):=hZ (HB6.out.trans (hb7.mono HB6.out.size));have HR7:=hZ (HR6.out.keep hb7);clear hb7) | (at_builtin;refine wpList_appC rfl _ _ 31 rfl w2.heap.size 9 i0 (.string ⟨#[]⟩) 16 Tryz.underlying31 hi hz0 hz1 hz2 rfl _ _ rfl (HR7.out.keep ((Below.refl _ _).alloc (Nat.le_refl _) _)) (.string s) ⟨w7.heap.size,0,none⟩ rfl (new1V w7 _ _) rfl (by rw [HK.out];have:=HQL.out;have:=HNN.out;unfold maxLen;omega) (by rw [HK.out];have:=HQL.out;have:=HNN.out;omega) (by rw [World.size_alloc];have:=HB7.out.size;omega) ?_;intro v1 w8 hr8 hb8;have HR8:=hZ hr8;have HB8:Hid (Below w2.heap.size w2 w8):=hZ ((HB7.out.alloc (by have:=HB7.out.size;omega) _).trans hb8);clear hr8 hb8))
      first
       |(have hf:[s].filter (fun s=>!rightR m s)=[s]:=by rw [List.filter_cons,HRR.out];rfl
         refine ⟨⟨k+1,by omega,by rw [Int.natCast_add];rfl,hZ ?_,HB8⟩,by simp [intOf];omega⟩
         rw [HTK.out,List.filter_append,hf,← List.append_assoc,List.map_append]
         exact HR8.out)
       |(have hf:[s].filter (fun s=>!rightR m s)=[]:=by rw [List.filter_cons,HRR.out];rfl
         refine ⟨⟨k+1,by omega,by rw [Int.natCast_add];rfl,hZ ?_,HB7⟩,by simp [intOf];omega⟩
         rw [HTK.out,List.filter_append,hf,List.append_nil]
         exact HR7.out)
    ·have hbad:([] ++ (L.take k).filter fun s=>!rightR m s)=badR m:=by
      rw [List.take_of_length_le (by rw [HN.out];omega)]
      exact (show [] ++ L.filter _=badR m by unfold badR;rw [if_neg (by rw [HY0.out];decide),HL.out])
     rw [hbad] at HR
     have hbl:(badR m).length≤0+N:=by
      rw [← hbad,List.length_append]
      have h1:=List.length_filter_le (fun s=>!rightR m s) (L.take k)
      rw [List.length_take] at h1
      have:([]:List ByteArray).length=0:=rfl
      have:=HN.out
      omega
     have hsz:∀ s∈badR m,s.size≤200:=by
      rw [← hbad]
      intro s hs
      rcases List.mem_append.1 hs with hs | hs
      ·cases hs
      ·exact HSH.out s (List.mem_of_mem_take (List.mem_filter.1 hs).1)
     obtain ⟨BD,hBD⟩:∃ l,badR m=l:=⟨_,rfl⟩
     rw [hBD] at HR hbl hsz
     have HBD:=hZ hBD
     have HBL:=hZ hbl
     have HSZ:=hZ hsz
     have HQ:Hid (St w1 S (fun b=>P b∨u6.ownBlock=some b) a wr n m):=hZ (HS2.out.bel HB.out _ (fun b hb=>hb.elim .inl (fun e=>.inr (HR.out.own b e))))
     have HMQ:Hid (SameP P w1 wr):=hZ (fun b hb=>(HS2.out.same HB.out b hb).trans (HM2.out b hb))
     obtain ⟨q,cap,hu9,hcl⟩:=HR.out.slice
     rw [List.length_map] at hu9
     obtain ⟨M,hM⟩:∃ M,BD.length=M:=⟨_,rfl⟩
     rw [hM] at hu9 HBL
     have HMM:=hZ hM
     have HCL:Hid (∀ j s,BD[j]?=some s→∃ g,q=some ⟨g,0,none⟩∧wr.cell? ⟨g,j,none⟩=some (.string s)):=hZ (fun j s hj=>by
      obtain ⟨g,h1,-,h3⟩:=hcl j (strV s) (by rw [List.getElem?_map,hj];rfl)
      exact ⟨g,h1,h3⟩)
     subst hu9
     clear hbad hbl hsz hBD hcl hM HR
     obtain ⟨W9,hW9⟩:∃ W,W=wr:=⟨_,rfl⟩
     rw [← hW9] at HQ HMQ HCL ⊢
     clear hW9
     have hMi:(M:Int)≤1000000001:=by have:=HNN.out;have:=HBL.out;omega
     go_wp2_with fail
     go_loopw [89] (fun iv wx=>∃ (k:Nat) (mk:DM),(k:Int)≤M∧iv=.int .i64 k∧Hid (takesM BD m=takesM (BD.drop k) mk)∧Hid (St w1 S (fun b=>P b∨(Value.slice q M cap).ownBlock=some b) a wx (n+k) mk)∧Hid (SameP (fun b=>P b∨(Value.slice q M cap).ownBlock=some b) W9 wx)) (fun iv _=>M - (intOf iv).toNat)
     case atStart=>exact ⟨0,m,by omega,rfl,hZ rfl,HQ,hZ (fun _ _=>rfl)⟩
     case round =>
      obtain ⟨k,mk,hk,rfl,HTM,HS,HX⟩:=hrel
      by_cases hlt:(k:Int) < M
      ·have hkl:k < BD.length:=by rw [HMM.out];omega
       obtain ⟨s,hs⟩:∃ s,BD[k]?=some s:=⟨_,List.getElem?_eq_getElem hkl⟩
       obtain ⟨g,hqg,hgc⟩:=HCL.out k s hs
       have hss:=HSZ.out s (List.mem_of_getElem? hs)
       have hdr:BD.drop k=s :: BD.drop (k+1):=by
        rw [List.drop_eq_getElem_cons hkl]
        rw [List.getElem?_eq_getElem hkl] at hs
        rw [Option.some.inj hs]
       have htm:takesM BD m=seqM (mk.op (.remove s)) (takesM (BD.drop (k+1))):=by rw [HTM.out,hdr];rfl
       have HTM2:=hZ htm
       subst hqg
       have hc9:wr.cell? ⟨g,k,none⟩=some (.string s):=(cell_of_heap (HX.out g (.inr rfl))).trans hgc
       have hMn:M≤1+N:=by have:=HBL.out;omega
       have hnn:=HNN.out
       clear hs hgc hdr htm hkl
       go_wp2_with fail
       refine (st_remove HS.out s (Nat.le_trans hss (by decide)) (by omega)).mono ?_
       intro e w8 hp
       by_cases hy:(mk.op (.remove s)).2=0
       ·obtain ⟨mj,h1⟩:∃ mj,mk.op (.remove s)=(mj,0):=⟨_,by rw [← hy]⟩
        obtain ⟨rfl,hs8,hk8⟩:=hp.eq h1 (show errE 0=.nilIface from rfl)
        have HS8:=hZ hs8
        have HX8:Hid (SameP (fun b=>P b∨(Value.slice (some ⟨g,0,none⟩) M cap).ownBlock=some b) W9 w8):=hZ (fun b hb=>(hk8 b hb).trans (HX.out b hb))
        have HOP:=hZ h1
        clear hp hy hs8 hk8 h1 hc9
        go_wp2_with fail
        refine ⟨⟨k+1,mj,by omega,by rw [Int.natCast_add];rfl,hZ ?_,HS8,HX8⟩,by simp [intOf];omega⟩
        rw [HTM2.out,seqM_ok _ HOP.out]
       ·obtain ⟨y,hyy⟩:∃ y,(mk.op (.remove s)).2=y:=⟨_,rfl⟩
        rw [hyy] at hy
        obtain ⟨mj,h1⟩:∃ mj,mk.op (.remove s)=(mj,y):=⟨_,by rw [← hyy]⟩
        obtain ⟨rfl,hs8,hk8⟩:=hp.eq h1 (errE_no hy)
        have HS8:=hZ hs8
        have HX8:Hid (SameP P w1 w8):=hZ (fun b hb=>(hk8 b (.inl hb)).trans ((HX.out b (.inl hb)).trans (HMQ.out b hb)))
        have HOP:=hZ h1
        have HY:=hZ hy
        have htl:=HTL.out y
        rw [errE_no hy] at htl
        clear hp hy hs8 hk8 h1 hc9 hyy
        go_wp2_with (go_at_call 34;refine (htl _).mono ?_;rintro e w9 ⟨rfl,rfl⟩)
        go_ret2
        have hO:openR m=(mj,y):=by
         rw [openR_on HOFF.out,HBD.out]
         exact seqM_no _ (show takesM BD m=(mj,y) by rw [HTM2.out,seqM_no _ HOP.out HY.out]) HY.out
        refine ⟨_,rfl,?_,HX8.out⟩
        rw [hO,HBD.out]
        refine .inr ⟨HY.out,_,whatO,rfl,rfl,(HS8.out.sub P (fun b hb=>.inl hb)).more ?_⟩
        rw [HMM.out]
        omega
      ·obtain rfl:k=M:=by omega
       have htm:takesM BD m=(mk,0):=by rw [HTM.out,List.drop_of_length_le (by rw [HMM.out];exact Nat.le_refl _)];rfl
       have HTM2:=hZ htm
       have hMn:k≤1+N:=by have:=HBL.out;omega
       have hnn:=HNN.out
       have HX9:Hid (SameP P w1 wr):=hZ (fun b hb=>(HX.out b (.inl hb)).trans (HMQ.out b hb))
       clear htm
       by_cases hk0:(0:Int) < k
       ·have hne:BD≠[]:=fun e=>by have h0:([]:List ByteArray).length=k:=e ▸ HMM.out;have h1:(0:Nat)=k:=h0;omega
        have HNE:=hZ hne
        clear hne
        go_wp2_with fail
        refine (st_flush HS.out (by omega)).mono ?_
        intro e w8 hp
        by_cases hy:(mk.op .flush).2=0
        ·obtain ⟨mj,h1⟩:∃ mj,mk.op .flush=(mj,0):=⟨_,by rw [← hy]⟩
         obtain ⟨rfl,hs8,hk8⟩:=hp.eq h1 (show errE 0=.nilIface from rfl)
         have HS8:=hZ (hs8.sub P (fun b hb=>.inl hb))
         have HX8:Hid (SameP P w1 w8):=hZ (fun b hb=>(hk8 b (.inl hb)).trans (HX9.out b hb))
         have HOP:=hZ h1
         clear hp hy hs8 hk8 h1
         go_wp2_with fail
         go_ret2
         have hO:openR m=(mj,0):=by
          rw [openR_on HOFF.out,HBD.out,seqM_ok _ HTM2.out,if_neg HNE.out]
          exact HOP.out
         refine ⟨_,rfl,?_,fun b hb=>(HS8.out.same ((Below.refl _ _).alloc (Nat.le_refl _) _) b hb).trans (HX8.out b hb)⟩
         rw [hO,HBD.out]
         exact .inl ⟨rfl,_,rfl,HS8.out.size,refO_box HS8.out (by rw [HMM.out];omega)⟩
        ·obtain ⟨y,hyy⟩:∃ y,(mk.op .flush).2=y:=⟨_,rfl⟩
         rw [hyy] at hy
         obtain ⟨mj,h1⟩:∃ mj,mk.op .flush=(mj,y):=⟨_,by rw [← hyy]⟩
         obtain ⟨rfl,hs8,hk8⟩:=hp.eq h1 (errE_no hy)
         have HS8:=hZ hs8
         have HX8:Hid (SameP P w1 w8):=hZ (fun b hb=>(hk8 b (.inl hb)).trans (HX9.out b hb))
         have HOP:=hZ h1
         have HY:=hZ hy
         have htl:=HTL.out y
         rw [errE_no hy] at htl
         clear hp hy hs8 hk8 h1 hyy
         go_wp2_with (go_at_call 34;refine (htl _).mono ?_;rintro e w9 ⟨rfl,rfl⟩)
         go_ret2
         have hO:openR m=(mj,y):=by
          rw [openR_on HOFF.out,HBD.out,seqM_ok _ HTM2.out,if_neg HNE.out]
          exact HOP.out
         refine ⟨_,rfl,?_,HX8.out⟩
         rw [hO,HBD.out]
         refine .inr ⟨HY.out,_,whatO,rfl,rfl,(HS8.out.sub P (fun b hb=>.inl hb)).more ?_⟩
         rw [HMM.out]
         omega
       ·have he:BD=[]:=List.eq_nil_of_length_eq_zero (by rw [HMM.out];omega)
        have HE:=hZ he
        have HS8:=hZ (HS.out.sub P (fun b hb=>.inl hb))
        clear he
        go_wp2_with fail
        go_ret2
        have hO:openR m=(mk,0):=by
         rw [openR_on HOFF.out,HBD.out,seqM_ok _ HTM2.out,if_pos HE.out]
        refine ⟨_,rfl,?_,fun b hb=>(HS8.out.same ((Below.refl _ _).alloc (Nat.le_refl _) _) b hb).trans (HX9.out b hb)⟩
        rw [hO,HBD.out]
        exact .inl ⟨rfl,_,rfl,HS8.out.size,refO_box HS8.out (by rw [HMM.out];omega)⟩
theorem St.under {w w1 w':World} {S S1 Q:Nat→Prop} {a n':Nat} {m':DM} (h2:∀ b,S1 b→(S b∨w.heap.size≤b)) (h4:Off S w w1) (h5:∀ b,S b→b < w.heap.size) (h:St w1 S1 Q a w' n' m'):St w S Q a w' n' m':=by
 obtain ⟨⟨S2,hd,g2⟩,g3,g4,g5⟩:=h
 have hz:=h4.size
 refine ⟨⟨S2,hd,fun b hb=>⟨?_,(g2 b hb).2⟩⟩,g3,h4.trans g4 (fun i hi hs=>?_),h5⟩
 ·rcases (g2 b hb).1 with h | h
  ·exact h2 b h
  ·exact .inr (by omega)
 ·rcases h2 i hs with h | h
  ·exact h
  ·omega
theorem ropen_any {w w1:World} {S P:Nat→Prop} {a n:Nat} {m:DM} (h:St w S P a w1 n m) (hn:n≤1000000000) (hsh:∀ s∈m.lists ⟨refHead.toArray⟩,s.size≤200) :
  Calls Tryz.prog 13 #[.pointer (some ⟨a,0,none⟩)] w1 (ROpenPost w S P a n (badR m).length w1 (openR m)):=by
 obtain ⟨⟨S1,hd,h2⟩,h3,h4,h5⟩:=h
 have hs:St w1 S1 P a w1 n m:=St.start hd (fun b hb=>⟨h3 b hb,fun hs=>(h2 b hs).2 hb⟩)
 refine (ropen0 hs hn hsh).mono ?_
 rintro e w' ⟨v,rfl,hr,hk⟩
 refine ⟨v,rfl,?_,hk⟩
 rcases hr with ⟨h0,rb,h6,h7,h8⟩ | ⟨h0,u,t,h6,h7,h8⟩
 ·exact .inl ⟨h0,rb,h6,h7,⟨h8.st.under (fun b hb=>(h2 b hb).1) h4 h5,h8.box,h8.pb⟩⟩
 ·exact .inr ⟨h0,u,t,h6,h7,h8.under (fun b hb=>(h2 b hb).1) h4 h5⟩
end Go.Proofs.YtdkedmngeahjiaaGreatDoor
/- Contract of stratalaw24.works. -/
namespace Go.Proofs.YtdkedmngeahjiaaGreatDoor
open Go Go.RowKit
theorem St.toB {w w1:World} {P:Nat→Prop} {a n:Nat} {m:DM} (h:St w (fun _=>False) P a w1 n m):Below w.heap.size w w1:=h.off.toBelow (fun _ hf=>hf.elim) (Nat.le_refl _)
theorem st_new (w w1:World) (hb:Below w.heap.size w w1) (r:Int) (h1:-9223372036854775808≤r) (h2:r≤9223372036854775807) :
  Calls Tryz.prog 12 #[.int .i64 r] w1 fun e w'=>∃ a,e=.returned (.pointer (some ⟨a,0,none⟩))∧St w (fun _=>False) (fun b=>b < w1.heap.size) a w' 0 (DM.new r)∧Below w1.heap.size w1 w':=by
 refine (new_any w1 r h1 h2).mono ?_
 rintro e w' ⟨a,rfl,hd,hb2⟩
 have hz:=hb.size
 exact ⟨a,rfl,⟨⟨_,hd,fun b hb3=>⟨.inr (Nat.le_trans hz hb3.1),fun h=>by have:=hb3.1;omega⟩⟩,fun b hb3=>Nat.lt_of_lt_of_le hb3 hb2.size,(Off.refl _ w).below (hb.trans (hb2.mono hz)) (Nat.le_refl _),fun _ hf=>hf.elim⟩,hb2⟩
def x12:List UInt8:=1 :: 2 :: List.replicate 30 0
def aL:List UInt8:=[97,58,108,97,116,101,115,116]
def wM0:DM:=DM.new 1000
def wM1:DM:=(setF wM0 [97] x12).1
def wM2:DM:=(delF wM1 [97]).1
theorem wf1:(setF wM0 [97] x12).2=0:=by decide +kernel
theorem wf2:getF wM1 aL=(x12,0):=by decide +kernel
theorem wf3:listR wM1=([(aL,textD x12)],0):=by decide +kernel
theorem wf4:(delF wM1 [97]).2=0:=by decide +kernel
theorem wf5:getF wM2 [97]=(zeroD,10):=by decide +kernel
theorem wf6:∀ s∈wM1.lists ⟨refHead.toArray⟩,s.size≤200:=by decide +kernel
theorem wf7:openR wM0=(wM0,0):=by rfl
theorem RfPost.eq {w w1 w':World} {S P:Nat→Prop} {a n:Nat} {r:DM × Int} {m:DM} {e:Ending} (hp:RfPost w S P a n w1 r e w') (h1:r.1=m) (h2:r.2=0):e=.returned .nilIface∧St w S P a w' n m∧SameP P w1 w':=by
 obtain ⟨⟨t,ht⟩,h3,h4⟩:=hp
 rw [h2] at ht
 rw [h1] at h3
 exact ⟨ht,h3,h4⟩
theorem works24_any (w:World) (hG:ErrT w) :
  Calls Tryz.prog 11 #[] w fun e w'=>e=.returned (.bool true)∧Below w.heap.size w w':=by
 have HG:=hZ hG
 clear hG
 have hI:=dig_info (d:=x12) rfl
 have hI2:=dig_info2 (d:=x12) rfl
 have h1:=dig_one x12
 have hz:=dig_size (d:=x12) rfl
 have hU:=dig_und
 have hIz:=dig_info (d:=zeroD) rfl
 have hIz2:=dig_info2 (d:=zeroD) rfl
 have h1z:=dig_one zeroD
 have hzz:=dig_size (d:=zeroD) rfl
 go_enter Tryz.func11,Tryz.ntmps11
 go_wp2_with fail
 refine (st_new w w (Below.refl _ _) 1000 (by decide) (by decide)).mono ?_
 rintro e w1 ⟨a,rfl,hst,hb1⟩
 have HST:=hZ hst
 clear hst hb1
 go_wp2_with fail
 refine (ropen_any HST.out (by decide) (fun s hs=>by cases hs)).mono ?_
 rintro e w2 ⟨v,rfl,h,hk⟩
 rw [show openR (DM.new 1000)=(wM0,0) from wf7] at h
 rcases h with ⟨-,rb,rfl,hsb,hrf⟩ | ⟨hne,-⟩
 case inr=>exact absurd rfl hne
 have HR2:=hZ hrf
 have HB2:=hZ hrf.st.toB
 clear hk HST hsb hrf
 go_wp2_with fail
 refine (ropen_nil _).mono ?_
 rintro e w3 ⟨rfl,rfl⟩
 have hpl:=plain_ref whatO 1 (.inr ⟨by decide,by decide⟩) 1 w2 (HG.out.below HB2.out HG.out.2)
 rw [wrapE_no whatO (show (1:Int)≠0 by decide)] at hpl ⊢
 rw [show ((1:Int) == 1)=true from rfl] at hpl
 go_wp2_with (first | (go_at_call 10;refine hpl.mono ?_;rintro e w4 ⟨rfl,hb4⟩;have HR4:=hZ (HR2.out.bel hb4);clear hb4 hpl HR2 HB2) | (refine wpList_store_new rfl _ _ _ rfl _ (x12.map byteV).toArray _ rfl rfl rfl hI2 hz h1 ?_;(obtain ⟨W5,hW5⟩:∃ W,w4.alloc (.cells (x12.map byteV).toArray 33)=W:=⟨_,rfl⟩;have hb5:Below w4.heap.size w4 W5:=(by rw [← hW5];exact (Below.refl _ _).alloc (Nat.le_refl _) _);have hx5:W5.heap[w4.heap.size]?=some (.cells (x12.map byteV).toArray 33 (0,0)):=(by rw [← hW5];exact heap_new _ _);have HX5:=hZ hx5;have HR5:=hZ (HR4.out.more hb5 (fun b=>(b < w.heap.size∨b=rb)∨b=w4.heap.size) (fun b hb=>.inl hb) (fun b hb=>hb.elim .inl (fun e=>.inr ⟨by omega,by have:=blk_lt hx5;omega⟩)));have HRG5:=hZ (dig_range hx5);rw [hW5];clear hW5 hb5 hx5 HR4)) | refine wpList_load_mid rfl _ _ rfl w4.heap.size 0 rfl (x12.map byteV) _ HRG5.out hU rfl hI ?_)
 refine (set_any HR5.out (by decide) ⟨#[97]⟩ (by decide) x12 rfl).mono ?_
 intro e w6 hp
 obtain ⟨rfl,hs6,hk6⟩:=hp.eq (m:=wM1) rfl wf1
 have HR6:=hZ (HR5.out.step hs6 hk6)
 have HX6:Hid (w6.heap[w4.heap.size]?=some (.cells (x12.map byteV).toArray 33 (0,0))):=hZ ((hk6 _ (.inr rfl)).trans HX5.out)
 clear hp hs6 hk6 HRG5 HR5 HX5
 go_wp2_with fail
 refine (rget_any HR6.out ⟨aL.toArray⟩ (by decide)).mono ?_
 rintro e w7 ⟨⟨t,rfl⟩,hb7⟩
 rw [show getF wM1 (⟨aL.toArray⟩:ByteArray).data.toList=(x12,0) from wf2]
 rw [show wrapE t (x12,(0:Int)).2=.nilIface from rfl]
 have HR7:=hZ (HR6.out.bel hb7)
 have HX7:Hid (w7.heap[w4.heap.size]?=some (.cells (x12.map byteV).toArray 33 (0,0))):=hZ ((hb7.block _ (blk_lt HX6.out)).trans HX6.out)
 clear hb7 HR6 HX6
 unfold digV
 go_wp2_with (refine wpList_store_new rfl _ _ _ rfl _ (x12.map byteV).toArray _ rfl rfl rfl hI2 hz h1 ?_;(obtain ⟨W8,hW8⟩:∃ W,w7.alloc (.cells (x12.map byteV).toArray 33)=W:=⟨_,rfl⟩;have hb8:Below w7.heap.size w7 W8:=(by rw [← hW8];exact (Below.refl _ _).alloc (Nat.le_refl _) _);have hx8:W8.heap[w7.heap.size]?=some (.cells (x12.map byteV).toArray 33 (0,0)):=(by rw [← hW8];exact heap_new _ _);have HX8:=hZ hx8;have HY8:Hid (W8.heap[w4.heap.size]?=some (.cells (x12.map byteV).toArray 33 (0,0))):=hZ ((hb8.block _ (blk_lt HX7.out)).trans HX7.out);have HR8:=hZ (HR7.out.bel hb8);rw [hW8];clear hW8 hb8 hx8 HR7 HX7))
 refine (rlist_any HR8.out (by decide) wf6).mono ?_
 rintro e w9 ⟨v,t2,rfl,hown,hb9⟩
 rw [wf3] at hown
 rw [show wrapE t2 (listR wM1).2=.nilIface from by rw [wf3];rfl]
 have HR9:=hZ (HR8.out.bel hb9)
 have HX9:=hZ (dig_range ((hb9.block _ (blk_lt HX8.out)).trans HX8.out))
 have HY9:=hZ (dig_range ((hb9.block _ (blk_lt HY8.out)).trans HY8.out))
 obtain ⟨g,cp,rfl,hc0,hc1⟩:∃ g cp,v=.slice (some ⟨g,0,none⟩) 1 cp∧w9.cell? ⟨g,0,none⟩=some (lV aL)∧w9.cell? ⟨g,1,none⟩=some (.string (textD x12)):=by
  rcases hown.2 with ⟨-,h⟩ | ⟨g,cap,cur,rfl,h2,h3,h4,h5,h6,h7⟩
  ·cases h
  ·have hq:∀ j,j < 2→cur[j]?=([lV aL,.string (textD x12)]:List Value)[j]?:=fun j hj=>by
    have:=congrArg (fun l:List Value=>l[j]?) h7
    rw [← Array.getElem?_toList]
    simp only [List.getElem?_take] at this
    rw [if_pos (show j < ([(aL,textD x12)]:List (List UInt8 × ByteArray)).length * 2 by show j < 1 * 2;omega)] at this
    exact this
   exact ⟨g,cap,rfl,by rw [cell_of_heapN h3];exact hq 0 (by decide),by rw [cell_of_heapN h3];exact hq 1 (by decide)⟩
 obtain ⟨t71,ht71⟩:∃ t,textD x12=t:=⟨_,rfl⟩
 have hsz:(t71.size:Int)=71:=by rw [← ht71];decide
 rw [ht71] at hc1
 unfold lV at hc0
 obtain ⟨aT,haT⟩:∃ t:ByteArray,(⟨aL.toArray⟩:ByteArray)=t:=⟨_,rfl⟩
 have haq:(aT.toList == [97,58,108,97,116,101,115,116])=true:=by rw [← haT,Lib.toList_data];rfl
 have haq2:aT=⟨#[97,58,108,97,116,101,115,116]⟩:=by rw [← haT];rfl
 rw [haT] at hc0
 have hdd:(!(x12 == x12))=false:=by decide
 clear hown hb9 HR8 HX8 HY8 ht71 haT
 subst haq2
 go_wp2_with (first | refine wpList_load_midG rfl _ _ rfl w7.heap.size 0 rfl (x12.map byteV) _ HX9.out hU rfl hI ?_ | (refine wpList_load_midG rfl _ _ rfl w4.heap.size 0 rfl (x12.map byteV) _ HY9.out hU rfl hI ?_;simp only [Act.put,List.setIfInBounds_toArray,List.set_cons_succ,List.set_cons_zero];refine wpList_neqDG rfl _ _ _ rfl (d:=x12) (e:=x12) rfl rfl rfl rfl ?_;simp only [Act.put,List.setIfInBounds_toArray,List.set_cons_succ,List.set_cons_zero];rw [hdd]))
 refine (del_any HR9.out (by decide) ⟨#[97]⟩ (by decide)).mono ?_
 intro e w10 hp
 obtain ⟨rfl,hs10,hk10⟩:=hp.eq (m:=wM2) rfl wf4
 have HR10:=hZ (HR9.out.step hs10 hk10)
 clear hp hs10 hk10 HR9 hc0 hc1 HX9 HY9
 go_wp2_with fail
 refine (rget_any HR10.out ⟨#[97]⟩ (by decide)).mono ?_
 rintro e w11 ⟨⟨t3,rfl⟩,hb11⟩
 rw [show getF wM2 (⟨#[97]⟩:ByteArray).data.toList=(zeroD,10) from wf5]
 rw [show wrapE t3 (zeroD,(10:Int)).2=.iface 132 (.agg #[.string t3,.iface 71 (.int .i64 10)]) from rfl]
 have HR11:=hZ (HR10.out.bel hb11)
 have HB11:=hZ HR11.out.st.toB
 have hpl:∀ W,Below w11.heap.size w11 W→Calls Tryz.prog 10 #[.iface 132 (.agg #[.string t3,.iface 71 (.int .i64 10)]),.int .i64 10] W fun e w'=>e=.returned (.bool true)∧Below W.heap.size W w':=fun W hb=>plain_ref t3 10 (.inr ⟨by decide,by decide⟩) 10 W ((HG.out.below HB11.out HG.out.2).below hb (Nat.lt_of_lt_of_le HG.out.2 HB11.out.size))
 unfold digV
 clear hb11 HR10
 go_wp2_with (first | (refine wpList_store_new rfl _ _ _ rfl _ (zeroD.map byteV).toArray _ rfl rfl rfl hIz2 hzz h1z ?_;(obtain ⟨W12,hW12⟩:∃ W,w11.alloc (.cells (zeroD.map byteV).toArray 33)=W:=⟨_,rfl⟩;have hb12:Below w11.heap.size w11 W12:=(by rw [← hW12];exact (Below.refl _ _).alloc (Nat.le_refl _) _);have HB12:=hZ hb12;rw [hW12];clear hW12 hb12)) | (go_at_call 10;refine (hpl _ HB12.out).mono ?_;rintro e w13 ⟨rfl,hb13⟩;have HB13:=hZ ((HB11.out.trans (HB12.out.mono HB11.out.size)).trans (hb13.mono (Nat.le_trans HB11.out.size HB12.out.size)));clear hb13))
 go_ret
 exact ⟨rfl,HB13.out⟩
end Go.Proofs.YtdkedmngeahjiaaGreatDoor
