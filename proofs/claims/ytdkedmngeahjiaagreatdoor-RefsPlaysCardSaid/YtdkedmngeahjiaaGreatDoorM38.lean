/- Texts of the seat, one behind the other: RfSet, RfGet, RfOps. -/
import Derived.Test.YtdkedmngeahjiaaGreatDoorRfG
import Derived.Test.YtdkedmngeahjiaaGreatDoorDigB
import Derived.Test.YtdkedmngeahjiaaGreatDoorM12
import Derived.Test.YtdkedmngeahjiaaGreatDoorM27
set_option maxRecDepth 100000
set_option maxHeartbeats 25600000
/- Contract of refs' Set. -/
namespace Go.Proofs.YtdkedmngeahjiaaGreatDoor
open Go Go.RowKit
theorem updL_keep {L:Nat→Bool} {i k:Nat} (h:L k=true):updL L i k=true:=by
 by_cases e:k=i
 ·subst e;exact updL_self
 ·rw [updL_ne e];exact h
structure RemW (w:World) (S P:Nat→Prop) (a n':Nat) (m':DM) (W1:World) (L:Nat→Bool) (_:Unit) (W:World):Prop where
 lo:L 6=false→Below W1.heap.size W1 W
 hi:L 6=true→St w S P a W n' m'∧SameP P W1 W
 dep:L 6=true→L 3=true∧L 4=true∧L 5=true
 dep5:L 5=true→L 4=true
section
variable {w:World} {S P:Nat→Prop} {a n':Nat} {m':DM} {W1 W W':World} {L:Nat→Bool} {γ:Unit}
theorem RemW.upd {i:Nat} (h:RemW w S P a n' m' W1 L γ W) (h6:i≠6) (h5:i≠5) (_:i=i):RemW w S P a n' m' W1 (updL L i) γ W:=by
 have e6:updL L i 6=L 6:=updL_ne (fun e=>h6 e.symm)
 have e5:updL L i 5=L 5:=updL_ne (fun e=>h5 e.symm)
 refine ⟨fun e=>h.lo (e6 ▸ e),fun e=>h.hi (e6 ▸ e),fun e=>?_,fun e=>updL_keep (h.dep5 (e5 ▸ e))⟩
 obtain ⟨h3,h4,h5⟩:=h.dep (e6 ▸ e)
 exact ⟨updL_keep h3,updL_keep h4,updL_keep h5⟩
theorem RemW.no3 (h:RemW w S P a n' m' W1 L γ W) (h3:L 3=false):L 6=false:=by
 cases e:L 6 with
 |false=>rfl
 |true=>have:=(h.dep e).1;rw [h3] at this;cases this
theorem RemW.no4 (h:RemW w S P a n' m' W1 L γ W) (h3:L 4=false):L 6=false:=by
 cases e:L 6 with
 |false=>rfl
 |true=>have:=(h.dep e).2.1;rw [h3] at this;cases this
theorem RemW.no5 (h:RemW w S P a n' m' W1 L γ W) (h3:L 5=false):L 6=false:=by
 cases e:L 6 with
 |false=>rfl
 |true=>have:=(h.dep e).2.2;rw [h3] at this;cases this
theorem RemW.grew (h:RemW w S P a n' m' W1 L γ W) (hb:Below W.heap.size W W') (h6:L 6=false) (h4:L 4=true):RemW w S P a n' m' W1 (updL L 5) γ W':=by
 have e6:updL L 5 6=L 6:=updL_ne (by decide)
 have hB:=h.lo h6
 exact ⟨fun _=>hB.trans (hb.mono hB.size),fun e=>(by rw [e6,h6] at e;cases e),fun e=>(by rw [e6,h6] at e;cases e),fun _=>updL_keep h4⟩
theorem RemW.did (h:RemW w S P a n' m' W1 L γ W) (h3:L 3=true) (h5:L 5=true) (hs:St w S P a W' n' m') (hk:SameP P W1 W'):RemW w S P a n' m' W1 (updL L 6) γ W' :=
 ⟨fun e=>(by rw [updL_self] at e;cases e),fun _=>⟨hs,hk⟩,fun _=>⟨updL_keep h3,updL_keep (h.dep5 h5),updL_keep h5⟩,fun _=>updL_keep (h.dep5 h5)⟩
end
structure SetS (w:World) (S P:Nat→Prop) (rb a db:Nat) (D:List UInt8) (w1 W:World) (n:Nat) (m:DM):Prop where
 rf:Rf w S (fun b=>P b∨b=db) rb a W n m
 dg:W.heap[db]?=some (.cells (D.map byteV).toArray 33 (0,0))
 sm:SameP P w1 W
section
variable {w w1 W W':World} {S P:Nat→Prop} {rb a db n n':Nat} {m m':DM} {D:List UInt8}
theorem SetS.op (h:SetS w S P rb a db D w1 W n m) (hs:St w S (fun b=>P b∨b=db) a W' n' m') (hk:SameP (fun b=>P b∨b=db) W W'):SetS w S P rb a db D w1 W' n' m' :=
 ⟨h.rf.step hs hk,(hk db (.inr rfl)).trans h.dg,fun b hb=>(hk b (.inl hb)).trans (h.sm b hb)⟩
theorem SetS.bel (h:SetS w S P rb a db D w1 W n m) (hb:Below W.heap.size W W'):SetS w S P rb a db D w1 W' n m:=h.op (h.rf.bel hb).st (h.rf.st.same hb)
theorem SetS.fin (h:SetS w S P rb a db D w1 W n m) (hn:n≤n'):St w S P a W n' m∧SameP P w1 W:=⟨(h.rf.st.sub P (fun b hb=>.inl hb)).more hn,h.sm⟩
end
theorem gone_eq {w w1 w':World} {S P:Nat→Prop} {a n:Nat} {m m':DM} {e:Ending} {y:Int} {v:Value} (hp:GonePost w S P a n w1 (goneM m) e w') (he:goneM m=(m',y)) (hv:errE y=v):e=.returned v∧St w S P a w' (n+2) m'∧SameP P w1 w':=by
 unfold GonePost at hp
 rw [he,hv] at hp
 exact hp
theorem wrote_ok {n:ByteArray} {p:DM × Int} {m:DM} (h:p=(m,0)):wroteM n p=seqM (m.op (.sync handR)) fun m=>seqM (m.op (.rename handR n)) fun m=>m.op .flush:=by rw [h];rfl
theorem wrote_full {n:ByteArray} {p:DM × Int} {m:DM} (h:p=(m,28)):wroteM n p=((goneM m).1,28):=by rw [h];rfl
theorem wrote_no {n:ByteArray} {p:DM × Int} {m:DM} {y:Int} (h:p=(m,y)) (h0:y≠0) (h28:y≠28):wroteM n p=(m,y):=by
 rw [h]
 unfold wroteM
 rw [if_neg h0,if_neg h28]
theorem set_any {w w1:World} {S P:Nat→Prop} {rb a n:Nat} {m:DM} (h:Rf w S P rb a w1 n m) (hn:n+7≤4000000000) (s:ByteArray) (hs:(s.size:Int)≤140737488355328) (D:List UInt8) (hD:D.length=32) :
  Calls Tryz.prog 15 #[.pointer (some ⟨rb,0,none⟩),.string s,digV D] w1 (RfPost w S P a (n+7) w1 (setF m s.data.toList D)):=by
 have hfu:=fun W:World=>full_any s hs W
 unfold fullV at hfu
 have HDL:=hZ hD
 obtain ⟨W1,hW1⟩:∃ W,w1.alloc (.cells (D.map byteV).toArray 33)=W:=⟨_,rfl⟩
 have hb1:Below w1.heap.size w1 W1:=by rw [← hW1];exact (Below.refl _ _).alloc (Nat.le_refl _) _
 have HS1:Hid (SetS w S P rb a w1.heap.size D w1 W1 n m):=hZ ⟨h.more hb1 _ (fun b hb=>.inl hb) (fun b hb=>by
  rcases hb with hb | rfl
  ·exact .inl hb
  ·exact .inr ⟨Nat.le_refl _,by rw [← hW1,World.size_alloc];omega⟩),by rw [← hW1];exact heap_new _ _,h.st.same hb1⟩
 have HTX:=hZ (fun W:World=>text_dig D hD W)
 have hTs:(textD D).size=71:=by
  show (shaHead ++ hexB D).length=71
  rw [List.length_append,hexB_len,hD]
  rfl
 obtain ⟨T,hT⟩:∃ T,textD D=T:=⟨_,rfl⟩
 unfold RfPost setF
 rw [hT] at HTX hTs ⊢
 have HTS:=hZ (show T.size≤140737488355328 by omega)
 have hfl:=fun u h=>(full_full (s:=s.data.toList) (u:=u) h).2.1
 unfold digV at HTX ⊢
 clear h hb1 hT hTs hD
 cases hf:fullM s.data.toList with
 |none =>
  rw [hf] at hfu
  have hfu2:∀ W:World,Calls Tryz.prog 9 #[.string s] W fun e w'=>e=.returned (.tuple #[.string ⟨#[]⟩,.iface 132 (.agg #[.string whatF,errV 31])])∧Below W.heap.size W w':=hfu
  clear hfu hf hfl
  go_enter Tryz.func15,Tryz.ntmps15
  go_wp2_with fail
  refine (hfu2 _).mono ?_
  rintro e w2 ⟨rfl,hb2⟩
  have HS2:=hZ (HS1.out.bel hb2)
  clear hb2
  go_wp2_with fail
  go_ret
  exact ⟨⟨whatF,rfl⟩,HS2.out.fin (by omega)⟩
 |some u =>
  rw [hf] at hfu
  have hul:=hfl u hf
  have hfu2:∀ W:World,Calls Tryz.prog 9 #[.string s] W fun e w'=>e=.returned (.tuple #[.string ⟨u.toArray⟩,.nilIface])∧Below W.heap.size W w':=hfu
  have happ:=head_app u
  have hzz:=refN_size u
  simp only
  unfold setM
  generalize refN u=N at happ hzz ⊢
  have hus:(((⟨u.toArray⟩:ByteArray).size:Nat):Int)≤96:=by show ((u.length:Nat):Int)≤96;omega
  generalize (⟨u.toArray⟩:ByteArray)=U at hfu2 happ hus
  have HNS:=hZ (show N.size≤maxLen by unfold maxLen;omega)
  have hrd:=fun W (hst:St w S (fun b=>P b∨b=w1.heap.size) a W n m)=>st_read hst handR (by decide)
  have hcr:clearR m=if (m.reads handR).2=0 then goneM m else if (m.reads handR).2=10 then (m,0) else (m,(m.reads handR).2):=rfl
  generalize clearR m=CR at hcr ⊢
  obtain ⟨T0,hT0⟩:∃ T,(m.reads handR).1=T:=⟨_,rfl⟩
  obtain ⟨y0,hy0⟩:∃ y,(m.reads handR).2=y:=⟨_,rfl⟩
  rw [hT0,hy0] at hrd
  rw [hy0] at hcr
  clear hfu hf hfl hzz hul hT0 hy0
  by_cases hz0:y0=0
  ·subst hz0
   have HRD:Hid (∀ W,St w S (fun b=>P b∨b=w1.heap.size) a W n m→Calls Tryz.prog 40 #[.pointer (some ⟨a,0,none⟩),.string handR] W fun e w'=>e=.returned (.tuple #[.string T0,.nilIface])∧W=w'):=hZ hrd
   rw [if_pos rfl] at hcr
   have HCR:=hZ hcr
   clear hrd hcr
   unfold handR at HRD
   go_enter Tryz.func15,Tryz.ntmps15
   go_wp2_with fail
   refine (hfu2 _).mono ?_
   rintro e w2 ⟨rfl,hb2⟩
   have HS2:=hZ (HS1.out.bel hb2)
   have c2:=HS2.out.rf.cell
   clear hb2 hW1 hfu2
   go_wp2_with fail
   refine (HRD.out _ HS2.out.rf.st).mono ?_
   rintro e w3 ⟨rfl,rfl⟩
   go_wp2_with fail
   refine (gone_any HS2.out.rf (by omega)).mono ?_
   intro e w5 hp
   by_cases hy:(goneM m).2=0
   ·obtain ⟨m5,h1⟩:∃ mj,goneM m=(mj,0):=⟨_,by rw [← hy]⟩
    obtain ⟨rfl,hs8,hk8⟩:=gone_eq hp h1 (show errE 0=.nilIface from rfl)
    have HS5:=hZ (HS2.out.op hs8 hk8)
    have HCL:Hid (CR=(m5,0)):=hZ (HCR.out.trans h1)
    have c5:=HS5.out.rf.cell
    clear hp hy hs8 hk8 h1 c2
    go_wp2_with fail
    refine (st_create HS5.out.rf.st handR (by decide) (by omega)).mono ?_
    intro e w11 hp
    by_cases hy:(m5.op (.create handR)).2=0
    ·obtain ⟨m11,h1⟩:∃ mj,m5.op (.create handR)=(mj,0):=⟨_,by rw [← hy]⟩
     obtain ⟨rfl,hs8,hk8⟩:=hp.eq h1 (show errE 0=.nilIface from rfl)
     have HS11:=hZ (HS5.out.op hs8 hk8)
     have HOP11:=hZ h1
     have c11:=HS11.out.rf.cell
     clear hp hy hs8 hk8 h1 c5
     go_wp2_with fail
     obtain ⟨yw,hyw'⟩:∃ y,(m11.op (.write handR T)).2=y:=⟨_,rfl⟩
     obtain ⟨mw,hmw⟩:∃ mj,m11.op (.write handR T)=(mj,yw):=⟨_,by rw [← hyw']⟩
     have HOPW:=hZ hmw
     obtain ⟨NN,hNN⟩:∃ NN,NN=n+2+1:=⟨_,rfl⟩
     rw [← hNN] at HS11
     have HNN:=hZ (show NN+4≤4000000000 by omega)
     clear hyw' hmw
     by_cases hyw:yw=0
     ·subst hyw
      have HVW:Hid (errE 0=.nilIface):=hZ rfl
      have hI0:RemW w S (fun b=>P b∨b=w1.heap.size) a (NN+1) mw w11 (fun _=>false) () w11.drew:=⟨fun _=>⟨rfl,rfl,rfl,Nat.le_refl _,fun _ _=>rfl⟩,fun h=>(by cases h),fun h=>(by cases h),fun h=>(by cases h)⟩
      refine wp_region_flowG (fun _:Unit=>[.pointer (some ⟨rb,0,none⟩),.pointer (some ⟨rb,0,none⟩),.pointer (some ⟨rb,0,none⟩),.pointer (some ⟨a,0,none⟩),.agg (D.map byteV).toArray,.string T,.nilIface,.nilIface]) (RemW w S (fun b=>P b∨b=w1.heap.size) a (NN+1) mw w11)
       [[],[0],[1],[2],[],[4],[3,5,5],[6,6,0,1,2,3,4,5,6]] 99 () mixedD rfl (by kernel_rfl) (fun _=>rfl) hI0 ?_ ?_
      ·refine ⟨?_,?_,?_,?_,?_,?_,?_,?_,rfl⟩
       all_goals intro L γ W ev hL hd hW hc hf hg he h0
       ·have e0:ev (.tmp 0)=.pointer (some ⟨rb,0,none⟩):=h0 0 rfl
        clear he h0 hc hf hg
        exact flS rfl (by go_simp <;> rfl) (hW.upd (by decide) (by decide) (by decide)) rfl
       ·have e6:ev (.tmp 57)=.pointer (some ⟨rb,0,none⟩):=he 0 (by decide) _ 57 rfl rfl
        clear he h0 hc hf hg
        exact flS rfl (by go_simp <;> rfl) (hW.upd (by decide) (by decide) (by decide)) rfl
       ·have e7:ev (.tmp 58)=.pointer (some ⟨rb,0,none⟩):=he 1 (by decide) _ 58 rfl rfl
        clear he h0 hc hf hg
        exact flS rfl (by go_simp <;> rfl) (hW.upd (by decide) (by decide) (by decide)) rfl
       ·have e8:ev (.tmp 59)=.pointer (some ⟨rb,0,none⟩):=he 2 (by decide) _ 59 rfl rfl
        have hB:=hW.lo (hW.no3 hL)
        have c0:W.cell? ⟨rb,0,none⟩=some (.pointer (some ⟨a,0,none⟩)):=(HS11.out.bel hB).rf.cell
        clear he h0 hc hf hg
        exact flS rfl (by go_simp <;> rfl) (hW.upd (by decide) (by decide) (by decide)) rfl
       ·have e3:ev (.tmp 5)=.pointer (some ⟨w1.heap.size,0,none⟩):=h0 5 rfl
        clear he h0 hc hg
        have hB:=hW.lo (hW.no4 hL)
        have hlv:=run_loadVar_row (P:=Tryz.prog) W w1.heap.size 33 33 (D.map byteV).toArray (0,0) _ (HS11.out.bel hB).dg dig_und rfl (dig_info2 HDL.out)
        refine .inl ⟨rfl,.inl ⟨_,W,?_,.still (hW.upd (by decide) (by decide) (by decide)) rfl⟩⟩
        unfold execOp
        simp only [e3,Instr.loadAt,Instr.sureAddr,Sem.run_bind,Sem.run_pure,Result.andThen_ok,hlv]
        try rfl
       ·have e10:ev (.tmp 61)=.agg (D.map byteV).toArray:=he 4 (by decide) _ 61 rfl rfl
        clear he h0 hc hg
        refine .inl ⟨rfl,.inr (.inr ⟨49,#[.agg (D.map byteV).toArray],W,(by have hff:=hf 49;clear hf;go_simp <;> rfl),?_⟩)⟩
        refine (HTX.out W).mono ?_
        rintro e w' ⟨rfl,hb⟩
        exact ⟨_,rfl,.still (hW.grew hb (hW.no5 hL) (hd 4 (by decide))) rfl⟩
       ·have e9:ev (.tmp 60)=.pointer (some ⟨a,0,none⟩):=he 3 (by decide) _ 60 rfl rfl
        have e11:ev (.tmp 62)=.string T:=he 5 (by decide) _ 62 rfl rfl
        have hcc:=hc
        clear he h0 hc hg
        have hB:=hW.lo hL
        have hst:=(HS11.out.bel hB).rf.st
        have hsm:=HS11.out.rf.st.same hB
        refine .inl ⟨rfl,.inr (.inr ⟨48,#[.pointer (some ⟨a,0,none⟩),.string handR,.string T],W,(by have hff:=hf 48;clear hf;unfold handR;go_simp <;> rfl),?_⟩)⟩
        refine (st_write hst handR T (by decide) HTS.out (by have:=HNN.out;omega)).mono ?_
        intro e w' hp
        obtain ⟨rfl,h2,h3⟩:=hp.eq HOPW.out HVW.out
        have HNE:=HNN.out
        exact ⟨_,rfl,.still (hW.did (hd 3 (by decide)) (hd 5 (by decide)) h2 (fun b hb=>(h3 b hb).trans (hsm b hb))) rfl⟩
       ·have e12:ev (.tmp 63)=.nilIface:=he 6 (by decide) _ 63 rfl rfl
        clear he h0 hc hf hg
        exact flS rfl (by go_simp <;> rfl) (hW.upd (by decide) (by decide) (by decide)) rfl
      intro γ L W4 hL hW
      obtain ⟨hst2,hsm2⟩:=hW.hi (hL 6 (by decide))
      have HS4:=hZ (HS11.out.op hst2 hsm2)
      have c4:=HS4.out.rf.cell
      clear hL hW hst2 hsm2 hI0 c11
      simp only [putAll,Act.put,List.setIfInBounds_toArray,List.set_cons_succ,List.set_cons_zero]
      go_wp2_with fail
      refine (st_sync HS4.out.rf.st handR (by decide) (by omega)).mono ?_
      intro e w12 hp
      by_cases hy:(mw.op (.sync handR)).2=0
      ·obtain ⟨m12,h1⟩:∃ mj,mw.op (.sync handR)=(mj,0):=⟨_,by rw [← hy]⟩
       obtain ⟨rfl,hs8,hk8⟩:=hp.eq h1 (show errE 0=.nilIface from rfl)
       have HS12:=hZ (HS4.out.op hs8 hk8)
       have HOP12:=hZ h1
       have c12:=HS12.out.rf.cell
       clear hp hy hs8 hk8 h1 c4
       go_wp2_with fail
       refine (st_rename HS12.out.rf.st handR N (by decide) HNS.out (by omega)).mono ?_
       intro e w13 hp
       by_cases hy:(m12.op (.rename handR N)).2=0
       ·obtain ⟨m13,h1⟩:∃ mj,m12.op (.rename handR N)=(mj,0):=⟨_,by rw [← hy]⟩
        obtain ⟨rfl,hs8,hk8⟩:=hp.eq h1 (show errE 0=.nilIface from rfl)
        have HS13:=hZ (HS12.out.op hs8 hk8)
        have HOP13:=hZ h1
        have c13:=HS13.out.rf.cell
        clear hp hy hs8 hk8 h1 c12
        go_wp2_with fail
        refine (st_flush HS13.out.rf.st (by omega)).mono ?_
        intro e w14 hp
        obtain ⟨y,hy2⟩:∃ y,(m13.op .flush).2=y:=⟨_,rfl⟩
        obtain ⟨mk,h2⟩:∃ mk,m13.op .flush=(mk,y):=⟨_,by rw [← hy2]⟩
        obtain ⟨rfl,hs8,hk8⟩:=hp.eq h2 rfl
        have HS14:=hZ (HS13.out.op hs8 hk8)
        have HOP14:=hZ h2
        have htl:=fun W:World=>told_any whatS y W
        unfold whatS at htl
        clear hp hs8 hk8 h2 hy2
        go_wp2_with (go_at_call 34;refine (htl _).mono ?_;rintro e w10 ⟨rfl,rfl⟩)
        go_ret
        rw [seqM_ok _ HCL.out,seqM_ok _ HOP11.out]
        rw [wrote_ok HOPW.out,seqM_ok _ HOP12.out,seqM_ok _ HOP13.out,HOP14.out]
        exact ⟨⟨_,rfl⟩,HS14.out.fin (by omega)⟩
       ·obtain ⟨y13,hyy⟩:∃ y,(m12.op (.rename handR N)).2=y:=⟨_,rfl⟩
        rw [hyy] at hy
        obtain ⟨m13,h1⟩:∃ mj,m12.op (.rename handR N)=(mj,y13):=⟨_,by rw [← hyy]⟩
        obtain ⟨rfl,hs8,hk8⟩:=hp.eq h1 (errE_no hy)
        have HS13:=hZ (HS12.out.op hs8 hk8)
        have HOP13:=hZ h1
        have HY13:=hZ hy
        have HV:=hZ (errE_no hy)
        have c13:=HS13.out.rf.cell
        clear hp hs8 hk8 h1 c12 hyy hy
        have htl:=fun W:World=>told_any whatS y13 W
        rw [HV.out] at htl
        unfold whatS at htl
        go_wp2_with (go_at_call 34;refine (htl _).mono ?_;rintro e w9 ⟨rfl,rfl⟩)
        go_ret
        rw [show (seqM CR fun m=>seqM (m.op (.create handR)) fun m=>wroteM N (m.op (.write handR T)))=(m13,y13) from (by rw [seqM_ok _ HCL.out,seqM_ok _ HOP11.out];rw [wrote_ok HOPW.out,seqM_ok _ HOP12.out];exact seqM_no _ HOP13.out HY13.out)]
        exact ⟨⟨_,rfl⟩,HS13.out.fin (by omega)⟩
      ·obtain ⟨y12,hyy⟩:∃ y,(mw.op (.sync handR)).2=y:=⟨_,rfl⟩
       rw [hyy] at hy
       obtain ⟨m12,h1⟩:∃ mj,mw.op (.sync handR)=(mj,y12):=⟨_,by rw [← hyy]⟩
       obtain ⟨rfl,hs8,hk8⟩:=hp.eq h1 (errE_no hy)
       have HS12:=hZ (HS4.out.op hs8 hk8)
       have HOP12:=hZ h1
       have HY12:=hZ hy
       have HV:=hZ (errE_no hy)
       have c12:=HS12.out.rf.cell
       clear hp hs8 hk8 h1 c4 hyy hy
       have htl:=fun W:World=>told_any whatS y12 W
       rw [HV.out] at htl
       unfold whatS at htl
       go_wp2_with (go_at_call 34;refine (htl _).mono ?_;rintro e w9 ⟨rfl,rfl⟩)
       go_ret
       rw [show (seqM CR fun m=>seqM (m.op (.create handR)) fun m=>wroteM N (m.op (.write handR T)))=(m12,y12) from (by rw [seqM_ok _ HCL.out,seqM_ok _ HOP11.out];rw [wrote_ok HOPW.out];exact seqM_no _ HOP12.out HY12.out)]
       exact ⟨⟨_,rfl⟩,HS12.out.fin (by omega)⟩
     ·have HVW:=hZ (errE_no hyw)
      have HYW:=hZ hyw
      have HV:=HVW
      have hie:=fun W:World=>is_E yw 28 (by decide) W
      rw [HVW.out,show errV 28=.iface 71 (.int .i64 28) from rfl] at hie
      clear hyw
      by_cases h28:yw=28
      ·have hb28:(yw == 28)=true:=beq_iff_eq.2 h28
       rw [hb28] at hie
       have H28:=hZ h28
       clear hb28 h28
       have hI0:RemW w S (fun b=>P b∨b=w1.heap.size) a (NN+1) mw w11 (fun _=>false) () w11.drew:=⟨fun _=>⟨rfl,rfl,rfl,Nat.le_refl _,fun _ _=>rfl⟩,fun h=>(by cases h),fun h=>(by cases h),fun h=>(by cases h)⟩
       refine wp_region_flowG (fun _:Unit=>[.pointer (some ⟨rb,0,none⟩),.pointer (some ⟨rb,0,none⟩),.pointer (some ⟨rb,0,none⟩),.pointer (some ⟨a,0,none⟩),.agg (D.map byteV).toArray,.string T,.iface 71 (.int .i64 yw),.iface 71 (.int .i64 yw)]) (RemW w S (fun b=>P b∨b=w1.heap.size) a (NN+1) mw w11)
        [[],[0],[1],[2],[],[4],[3,5,5],[6,6,0,1,2,3,4,5,6]] 99 () mixedD rfl (by kernel_rfl) (fun _=>rfl) hI0 ?_ ?_
       ·refine ⟨?_,?_,?_,?_,?_,?_,?_,?_,rfl⟩
        all_goals intro L γ W ev hL hd hW hc hf hg he h0
        ·have e0:ev (.tmp 0)=.pointer (some ⟨rb,0,none⟩):=h0 0 rfl
         clear he h0 hc hf hg
         exact flS rfl (by go_simp <;> rfl) (hW.upd (by decide) (by decide) (by decide)) rfl
        ·have e6:ev (.tmp 57)=.pointer (some ⟨rb,0,none⟩):=he 0 (by decide) _ 57 rfl rfl
         clear he h0 hc hf hg
         exact flS rfl (by go_simp <;> rfl) (hW.upd (by decide) (by decide) (by decide)) rfl
        ·have e7:ev (.tmp 58)=.pointer (some ⟨rb,0,none⟩):=he 1 (by decide) _ 58 rfl rfl
         clear he h0 hc hf hg
         exact flS rfl (by go_simp <;> rfl) (hW.upd (by decide) (by decide) (by decide)) rfl
        ·have e8:ev (.tmp 59)=.pointer (some ⟨rb,0,none⟩):=he 2 (by decide) _ 59 rfl rfl
         have hB:=hW.lo (hW.no3 hL)
         have c0:W.cell? ⟨rb,0,none⟩=some (.pointer (some ⟨a,0,none⟩)):=(HS11.out.bel hB).rf.cell
         clear he h0 hc hf hg
         exact flS rfl (by go_simp <;> rfl) (hW.upd (by decide) (by decide) (by decide)) rfl
        ·have e3:ev (.tmp 5)=.pointer (some ⟨w1.heap.size,0,none⟩):=h0 5 rfl
         clear he h0 hc hg
         have hB:=hW.lo (hW.no4 hL)
         have hlv:=run_loadVar_row (P:=Tryz.prog) W w1.heap.size 33 33 (D.map byteV).toArray (0,0) _ (HS11.out.bel hB).dg dig_und rfl (dig_info2 HDL.out)
         refine .inl ⟨rfl,.inl ⟨_,W,?_,.still (hW.upd (by decide) (by decide) (by decide)) rfl⟩⟩
         unfold execOp
         simp only [e3,Instr.loadAt,Instr.sureAddr,Sem.run_bind,Sem.run_pure,Result.andThen_ok,hlv]
         try rfl
        ·have e10:ev (.tmp 61)=.agg (D.map byteV).toArray:=he 4 (by decide) _ 61 rfl rfl
         clear he h0 hc hg
         refine .inl ⟨rfl,.inr (.inr ⟨49,#[.agg (D.map byteV).toArray],W,(by have hff:=hf 49;clear hf;go_simp <;> rfl),?_⟩)⟩
         refine (HTX.out W).mono ?_
         rintro e w' ⟨rfl,hb⟩
         exact ⟨_,rfl,.still (hW.grew hb (hW.no5 hL) (hd 4 (by decide))) rfl⟩
        ·have e9:ev (.tmp 60)=.pointer (some ⟨a,0,none⟩):=he 3 (by decide) _ 60 rfl rfl
         have e11:ev (.tmp 62)=.string T:=he 5 (by decide) _ 62 rfl rfl
         have hcc:=hc
         clear he h0 hc hg
         have hB:=hW.lo hL
         have hst:=(HS11.out.bel hB).rf.st
         have hsm:=HS11.out.rf.st.same hB
         refine .inl ⟨rfl,.inr (.inr ⟨48,#[.pointer (some ⟨a,0,none⟩),.string handR,.string T],W,(by have hff:=hf 48;clear hf;unfold handR;go_simp <;> rfl),?_⟩)⟩
         refine (st_write hst handR T (by decide) HTS.out (by have:=HNN.out;omega)).mono ?_
         intro e w' hp
         obtain ⟨rfl,h2,h3⟩:=hp.eq HOPW.out HVW.out
         have HNE:=HNN.out
         exact ⟨_,rfl,.still (hW.did (hd 3 (by decide)) (hd 5 (by decide)) h2 (fun b hb=>(h3 b hb).trans (hsm b hb))) rfl⟩
        ·have e12:ev (.tmp 63)=.iface 71 (.int .i64 yw):=he 6 (by decide) _ 63 rfl rfl
         clear he h0 hc hf hg
         exact flS rfl (by go_simp <;> rfl) (hW.upd (by decide) (by decide) (by decide)) rfl
       intro γ L W4 hL hW
       obtain ⟨hst2,hsm2⟩:=hW.hi (hL 6 (by decide))
       have HS4:=hZ (HS11.out.op hst2 hsm2)
       have c4:=HS4.out.rf.cell
       clear hL hW hst2 hsm2 hI0 c11
       simp only [putAll,Act.put,List.setIfInBounds_toArray,List.set_cons_succ,List.set_cons_zero]
       go_wp2_with (go_at_call 41;refine (hie _).mono ?_;rintro e w5 ⟨rfl,rfl⟩)
       obtain ⟨yg,hyg⟩:∃ y,(goneM mw).2=y:=⟨_,rfl⟩
       obtain ⟨mg,hmg⟩:∃ mg,goneM mw=(mg,yg):=⟨_,by rw [← hyg]⟩
       refine (gone_any HS4.out.rf (by omega)).mono ?_
       intro e w6 hp
       obtain ⟨rfl,hs8,hk8⟩:=gone_eq hp hmg rfl
       have HS6:=hZ (HS4.out.op hs8 hk8)
       have HG:=hZ hmg
       clear hp hs8 hk8 hmg hyg
       have htl:=fun W:World=>told_any whatS yw W
       rw [HV.out] at htl
       unfold whatS at htl
       go_wp2_with (go_at_call 34;refine (htl _).mono ?_;rintro e w9 ⟨rfl,rfl⟩)
       go_ret
       rw [show (seqM CR fun m=>seqM (m.op (.create handR)) fun m=>wroteM N (m.op (.write handR T)))=(mg,yw) from (by rw [seqM_ok _ HCL.out,seqM_ok _ HOP11.out];rw [wrote_full (HOPW.out.trans (by rw [H28.out])),HG.out,H28.out])]
       exact ⟨⟨_,rfl⟩,HS6.out.fin (by omega)⟩
      ·have hb28:(yw == 28)=false:=beq_eq_false_iff_ne.2 h28
       rw [hb28] at hie
       have H28:=hZ h28
       clear hb28 h28
       have hI0:RemW w S (fun b=>P b∨b=w1.heap.size) a (NN+1) mw w11 (fun _=>false) () w11.drew:=⟨fun _=>⟨rfl,rfl,rfl,Nat.le_refl _,fun _ _=>rfl⟩,fun h=>(by cases h),fun h=>(by cases h),fun h=>(by cases h)⟩
       refine wp_region_flowG (fun _:Unit=>[.pointer (some ⟨rb,0,none⟩),.pointer (some ⟨rb,0,none⟩),.pointer (some ⟨rb,0,none⟩),.pointer (some ⟨a,0,none⟩),.agg (D.map byteV).toArray,.string T,.iface 71 (.int .i64 yw),.iface 71 (.int .i64 yw)]) (RemW w S (fun b=>P b∨b=w1.heap.size) a (NN+1) mw w11)
        [[],[0],[1],[2],[],[4],[3,5,5],[6,6,0,1,2,3,4,5,6]] 99 () mixedD rfl (by kernel_rfl) (fun _=>rfl) hI0 ?_ ?_
       ·refine ⟨?_,?_,?_,?_,?_,?_,?_,?_,rfl⟩
        all_goals intro L γ W ev hL hd hW hc hf hg he h0
        ·have e0:ev (.tmp 0)=.pointer (some ⟨rb,0,none⟩):=h0 0 rfl
         clear he h0 hc hf hg
         exact flS rfl (by go_simp <;> rfl) (hW.upd (by decide) (by decide) (by decide)) rfl
        ·have e6:ev (.tmp 57)=.pointer (some ⟨rb,0,none⟩):=he 0 (by decide) _ 57 rfl rfl
         clear he h0 hc hf hg
         exact flS rfl (by go_simp <;> rfl) (hW.upd (by decide) (by decide) (by decide)) rfl
        ·have e7:ev (.tmp 58)=.pointer (some ⟨rb,0,none⟩):=he 1 (by decide) _ 58 rfl rfl
         clear he h0 hc hf hg
         exact flS rfl (by go_simp <;> rfl) (hW.upd (by decide) (by decide) (by decide)) rfl
        ·have e8:ev (.tmp 59)=.pointer (some ⟨rb,0,none⟩):=he 2 (by decide) _ 59 rfl rfl
         have hB:=hW.lo (hW.no3 hL)
         have c0:W.cell? ⟨rb,0,none⟩=some (.pointer (some ⟨a,0,none⟩)):=(HS11.out.bel hB).rf.cell
         clear he h0 hc hf hg
         exact flS rfl (by go_simp <;> rfl) (hW.upd (by decide) (by decide) (by decide)) rfl
        ·have e3:ev (.tmp 5)=.pointer (some ⟨w1.heap.size,0,none⟩):=h0 5 rfl
         clear he h0 hc hg
         have hB:=hW.lo (hW.no4 hL)
         have hlv:=run_loadVar_row (P:=Tryz.prog) W w1.heap.size 33 33 (D.map byteV).toArray (0,0) _ (HS11.out.bel hB).dg dig_und rfl (dig_info2 HDL.out)
         refine .inl ⟨rfl,.inl ⟨_,W,?_,.still (hW.upd (by decide) (by decide) (by decide)) rfl⟩⟩
         unfold execOp
         simp only [e3,Instr.loadAt,Instr.sureAddr,Sem.run_bind,Sem.run_pure,Result.andThen_ok,hlv]
         try rfl
        ·have e10:ev (.tmp 61)=.agg (D.map byteV).toArray:=he 4 (by decide) _ 61 rfl rfl
         clear he h0 hc hg
         refine .inl ⟨rfl,.inr (.inr ⟨49,#[.agg (D.map byteV).toArray],W,(by have hff:=hf 49;clear hf;go_simp <;> rfl),?_⟩)⟩
         refine (HTX.out W).mono ?_
         rintro e w' ⟨rfl,hb⟩
         exact ⟨_,rfl,.still (hW.grew hb (hW.no5 hL) (hd 4 (by decide))) rfl⟩
        ·have e9:ev (.tmp 60)=.pointer (some ⟨a,0,none⟩):=he 3 (by decide) _ 60 rfl rfl
         have e11:ev (.tmp 62)=.string T:=he 5 (by decide) _ 62 rfl rfl
         have hcc:=hc
         clear he h0 hc hg
         have hB:=hW.lo hL
         have hst:=(HS11.out.bel hB).rf.st
         have hsm:=HS11.out.rf.st.same hB
         refine .inl ⟨rfl,.inr (.inr ⟨48,#[.pointer (some ⟨a,0,none⟩),.string handR,.string T],W,(by have hff:=hf 48;clear hf;unfold handR;go_simp <;> rfl),?_⟩)⟩
         refine (st_write hst handR T (by decide) HTS.out (by have:=HNN.out;omega)).mono ?_
         intro e w' hp
         obtain ⟨rfl,h2,h3⟩:=hp.eq HOPW.out HVW.out
         have HNE:=HNN.out
         exact ⟨_,rfl,.still (hW.did (hd 3 (by decide)) (hd 5 (by decide)) h2 (fun b hb=>(h3 b hb).trans (hsm b hb))) rfl⟩
        ·have e12:ev (.tmp 63)=.iface 71 (.int .i64 yw):=he 6 (by decide) _ 63 rfl rfl
         clear he h0 hc hf hg
         exact flS rfl (by go_simp <;> rfl) (hW.upd (by decide) (by decide) (by decide)) rfl
       intro γ L W4 hL hW
       obtain ⟨hst2,hsm2⟩:=hW.hi (hL 6 (by decide))
       have HS4:=hZ (HS11.out.op hst2 hsm2)
       have c4:=HS4.out.rf.cell
       clear hL hW hst2 hsm2 hI0 c11
       simp only [putAll,Act.put,List.setIfInBounds_toArray,List.set_cons_succ,List.set_cons_zero]
       have htl:=fun W:World=>told_any whatS yw W
       rw [HV.out] at htl
       unfold whatS at htl
       go_wp2_with (first | (go_at_call 41;refine (hie _).mono ?_;rintro e w5 ⟨rfl,rfl⟩) | (go_at_call 34;refine (htl _).mono ?_;rintro e w9 ⟨rfl,rfl⟩))
       go_ret
       rw [show (seqM CR fun m=>seqM (m.op (.create handR)) fun m=>wroteM N (m.op (.write handR T)))=(mw,yw) from (by rw [seqM_ok _ HCL.out,seqM_ok _ HOP11.out];exact wrote_no HOPW.out HYW.out H28.out)]
       exact ⟨⟨_,rfl⟩,HS4.out.fin (by omega)⟩
    ·obtain ⟨y11,hyy⟩:∃ y,(m5.op (.create handR)).2=y:=⟨_,rfl⟩
     rw [hyy] at hy
     obtain ⟨m11,h1⟩:∃ mj,m5.op (.create handR)=(mj,y11):=⟨_,by rw [← hyy]⟩
     obtain ⟨rfl,hs8,hk8⟩:=hp.eq h1 (errE_no hy)
     have HS11:=hZ (HS5.out.op hs8 hk8)
     have HOP11:=hZ h1
     have HY11:=hZ hy
     have HV:=hZ (errE_no hy)
     have c11:=HS11.out.rf.cell
     clear hp hs8 hk8 h1 c5 hyy hy
     have htl:=fun W:World=>told_any whatS y11 W
     rw [HV.out] at htl
     unfold whatS at htl
     go_wp2_with (go_at_call 34;refine (htl _).mono ?_;rintro e w9 ⟨rfl,rfl⟩)
     go_ret
     rw [show (seqM CR fun m=>seqM (m.op (.create handR)) fun m=>wroteM N (m.op (.write handR T)))=(m11,y11) from (by rw [seqM_ok _ HCL.out];exact seqM_no _ HOP11.out HY11.out)]
     exact ⟨⟨_,rfl⟩,HS11.out.fin (by omega)⟩
   ·obtain ⟨y5,hyy⟩:∃ y,(goneM m).2=y:=⟨_,rfl⟩
    rw [hyy] at hy
    obtain ⟨m5,h1⟩:∃ mj,goneM m=(mj,y5):=⟨_,by rw [← hyy]⟩
    obtain ⟨rfl,hs8,hk8⟩:=gone_eq hp h1 (errE_no hy)
    have HS5:=hZ (HS2.out.op hs8 hk8)
    have HCL:Hid (CR=(m5,y5)):=hZ (HCR.out.trans h1)
    have HY5:=hZ hy
    have HV:=hZ (errE_no hy)
    clear hp hs8 hk8 h1 c2 hyy hy
    have htl:=fun W:World=>told_any whatS y5 W
    rw [HV.out] at htl
    unfold whatS at htl
    go_wp2_with (go_at_call 34;refine (htl _).mono ?_;rintro e w9 ⟨rfl,rfl⟩)
    go_ret
    rw [show (seqM CR fun m=>seqM (m.op (.create handR)) fun m=>wroteM N (m.op (.write handR T)))=(m5,y5) from (seqM_no _ HCL.out HY5.out)]
    exact ⟨⟨_,rfl⟩,HS5.out.fin (by omega)⟩
  ·have hie:=fun W:World=>is_E y0 10 (by decide) W
   rw [errE_no hz0] at hrd hie
   rw [show errV 10=.iface 71 (.int .i64 10) from rfl] at hie
   rw [if_neg hz0] at hcr
   have HRD:=hZ hrd
   have HV:=hZ (errE_no hz0)
   have HZ0:=hZ hz0
   unfold handR at HRD
   clear hrd hz0
   by_cases h10:y0=10
   ·have hb:(y0 == 10)=true:=beq_iff_eq.2 h10
    rw [hb] at hie
    rw [if_pos h10] at hcr
    have HCL:=hZ hcr
    clear hcr hb h10
    go_enter Tryz.func15,Tryz.ntmps15
    go_wp2_with fail
    refine (hfu2 _).mono ?_
    rintro e w2 ⟨rfl,hb2⟩
    have HS2:=hZ (HS1.out.bel hb2)
    have c2:=HS2.out.rf.cell
    clear hb2 hW1 hfu2
    go_wp2_with fail
    refine (HRD.out _ HS2.out.rf.st).mono ?_
    rintro e w3 ⟨rfl,rfl⟩
    go_wp2_with (go_at_call 41;refine (hie _).mono ?_;rintro e w4 ⟨rfl,rfl⟩)
    clear HV HRD HS1
    refine (st_create HS2.out.rf.st handR (by decide) (by omega)).mono ?_
    intro e w31 hp
    by_cases hy:(m.op (.create handR)).2=0
    ·obtain ⟨m31,h1⟩:∃ mj,m.op (.create handR)=(mj,0):=⟨_,by rw [← hy]⟩
     obtain ⟨rfl,hs8,hk8⟩:=hp.eq h1 (show errE 0=.nilIface from rfl)
     have HS31:=hZ (HS2.out.op hs8 hk8)
     have HOP31:=hZ h1
     have c31:=HS31.out.rf.cell
     clear hp hy hs8 hk8 h1 c2
     go_wp2_with fail
     obtain ⟨yw,hyw'⟩:∃ y,(m31.op (.write handR T)).2=y:=⟨_,rfl⟩
     obtain ⟨mw,hmw⟩:∃ mj,m31.op (.write handR T)=(mj,yw):=⟨_,by rw [← hyw']⟩
     have HOPW:=hZ hmw
     obtain ⟨NN,hNN⟩:∃ NN,NN=n+1:=⟨_,rfl⟩
     rw [← hNN] at HS31
     have HNN:=hZ (show NN+4≤4000000000 by omega)
     clear hyw' hmw
     by_cases hyw:yw=0
     ·subst hyw
      have HVW:Hid (errE 0=.nilIface):=hZ rfl
      have hI0:RemW w S (fun b=>P b∨b=w1.heap.size) a (NN+1) mw w31 (fun _=>false) () w31.drew:=⟨fun _=>⟨rfl,rfl,rfl,Nat.le_refl _,fun _ _=>rfl⟩,fun h=>(by cases h),fun h=>(by cases h),fun h=>(by cases h)⟩
      refine wp_region_flowG (fun _:Unit=>[.pointer (some ⟨rb,0,none⟩),.pointer (some ⟨rb,0,none⟩),.pointer (some ⟨rb,0,none⟩),.pointer (some ⟨a,0,none⟩),.agg (D.map byteV).toArray,.string T,.nilIface,.nilIface]) (RemW w S (fun b=>P b∨b=w1.heap.size) a (NN+1) mw w31)
       [[],[0],[1],[2],[],[4],[3,5,5],[6,6,0,1,2,3,4,5,6]] 99 () mixedD rfl (by kernel_rfl) (fun _=>rfl) hI0 ?_ ?_
      ·refine ⟨?_,?_,?_,?_,?_,?_,?_,?_,rfl⟩
       all_goals intro L γ W ev hL hd hW hc hf hg he h0
       ·have e0:ev (.tmp 0)=.pointer (some ⟨rb,0,none⟩):=h0 0 rfl
        clear he h0 hc hf hg
        exact flS rfl (by go_simp <;> rfl) (hW.upd (by decide) (by decide) (by decide)) rfl
       ·have e6:ev (.tmp 57)=.pointer (some ⟨rb,0,none⟩):=he 0 (by decide) _ 57 rfl rfl
        clear he h0 hc hf hg
        exact flS rfl (by go_simp <;> rfl) (hW.upd (by decide) (by decide) (by decide)) rfl
       ·have e7:ev (.tmp 58)=.pointer (some ⟨rb,0,none⟩):=he 1 (by decide) _ 58 rfl rfl
        clear he h0 hc hf hg
        exact flS rfl (by go_simp <;> rfl) (hW.upd (by decide) (by decide) (by decide)) rfl
       ·have e8:ev (.tmp 59)=.pointer (some ⟨rb,0,none⟩):=he 2 (by decide) _ 59 rfl rfl
        have hB:=hW.lo (hW.no3 hL)
        have c0:W.cell? ⟨rb,0,none⟩=some (.pointer (some ⟨a,0,none⟩)):=(HS31.out.bel hB).rf.cell
        clear he h0 hc hf hg
        exact flS rfl (by go_simp <;> rfl) (hW.upd (by decide) (by decide) (by decide)) rfl
       ·have e3:ev (.tmp 5)=.pointer (some ⟨w1.heap.size,0,none⟩):=h0 5 rfl
        clear he h0 hc hg
        have hB:=hW.lo (hW.no4 hL)
        have hlv:=run_loadVar_row (P:=Tryz.prog) W w1.heap.size 33 33 (D.map byteV).toArray (0,0) _ (HS31.out.bel hB).dg dig_und rfl (dig_info2 HDL.out)
        refine .inl ⟨rfl,.inl ⟨_,W,?_,.still (hW.upd (by decide) (by decide) (by decide)) rfl⟩⟩
        unfold execOp
        simp only [e3,Instr.loadAt,Instr.sureAddr,Sem.run_bind,Sem.run_pure,Result.andThen_ok,hlv]
        try rfl
       ·have e10:ev (.tmp 61)=.agg (D.map byteV).toArray:=he 4 (by decide) _ 61 rfl rfl
        clear he h0 hc hg
        refine .inl ⟨rfl,.inr (.inr ⟨49,#[.agg (D.map byteV).toArray],W,(by have hff:=hf 49;clear hf;go_simp <;> rfl),?_⟩)⟩
        refine (HTX.out W).mono ?_
        rintro e w' ⟨rfl,hb⟩
        exact ⟨_,rfl,.still (hW.grew hb (hW.no5 hL) (hd 4 (by decide))) rfl⟩
       ·have e9:ev (.tmp 60)=.pointer (some ⟨a,0,none⟩):=he 3 (by decide) _ 60 rfl rfl
        have e11:ev (.tmp 62)=.string T:=he 5 (by decide) _ 62 rfl rfl
        have hcc:=hc
        clear he h0 hc hg
        have hB:=hW.lo hL
        have hst:=(HS31.out.bel hB).rf.st
        have hsm:=HS31.out.rf.st.same hB
        refine .inl ⟨rfl,.inr (.inr ⟨48,#[.pointer (some ⟨a,0,none⟩),.string handR,.string T],W,(by have hff:=hf 48;clear hf;unfold handR;go_simp <;> rfl),?_⟩)⟩
        refine (st_write hst handR T (by decide) HTS.out (by have:=HNN.out;omega)).mono ?_
        intro e w' hp
        obtain ⟨rfl,h2,h3⟩:=hp.eq HOPW.out HVW.out
        have HNE:=HNN.out
        exact ⟨_,rfl,.still (hW.did (hd 3 (by decide)) (hd 5 (by decide)) h2 (fun b hb=>(h3 b hb).trans (hsm b hb))) rfl⟩
       ·have e12:ev (.tmp 63)=.nilIface:=he 6 (by decide) _ 63 rfl rfl
        clear he h0 hc hf hg
        exact flS rfl (by go_simp <;> rfl) (hW.upd (by decide) (by decide) (by decide)) rfl
      intro γ L W4 hL hW
      obtain ⟨hst2,hsm2⟩:=hW.hi (hL 6 (by decide))
      have HS4:=hZ (HS31.out.op hst2 hsm2)
      have c4:=HS4.out.rf.cell
      clear hL hW hst2 hsm2 hI0 c31
      simp only [putAll,Act.put,List.setIfInBounds_toArray,List.set_cons_succ,List.set_cons_zero]
      go_wp2_with fail
      refine (st_sync HS4.out.rf.st handR (by decide) (by omega)).mono ?_
      intro e w32 hp
      by_cases hy:(mw.op (.sync handR)).2=0
      ·obtain ⟨m32,h1⟩:∃ mj,mw.op (.sync handR)=(mj,0):=⟨_,by rw [← hy]⟩
       obtain ⟨rfl,hs8,hk8⟩:=hp.eq h1 (show errE 0=.nilIface from rfl)
       have HS32:=hZ (HS4.out.op hs8 hk8)
       have HOP32:=hZ h1
       have c32:=HS32.out.rf.cell
       clear hp hy hs8 hk8 h1 c4
       go_wp2_with fail
       refine (st_rename HS32.out.rf.st handR N (by decide) HNS.out (by omega)).mono ?_
       intro e w33 hp
       by_cases hy:(m32.op (.rename handR N)).2=0
       ·obtain ⟨m33,h1⟩:∃ mj,m32.op (.rename handR N)=(mj,0):=⟨_,by rw [← hy]⟩
        obtain ⟨rfl,hs8,hk8⟩:=hp.eq h1 (show errE 0=.nilIface from rfl)
        have HS33:=hZ (HS32.out.op hs8 hk8)
        have HOP33:=hZ h1
        have c33:=HS33.out.rf.cell
        clear hp hy hs8 hk8 h1 c32
        go_wp2_with fail
        refine (st_flush HS33.out.rf.st (by omega)).mono ?_
        intro e w34 hp
        obtain ⟨y,hy2⟩:∃ y,(m33.op .flush).2=y:=⟨_,rfl⟩
        obtain ⟨mk,h2⟩:∃ mk,m33.op .flush=(mk,y):=⟨_,by rw [← hy2]⟩
        obtain ⟨rfl,hs8,hk8⟩:=hp.eq h2 rfl
        have HS34:=hZ (HS33.out.op hs8 hk8)
        have HOP34:=hZ h2
        have htl:=fun W:World=>told_any whatS y W
        unfold whatS at htl
        clear hp hs8 hk8 h2 hy2
        go_wp2_with (go_at_call 34;refine (htl _).mono ?_;rintro e w10 ⟨rfl,rfl⟩)
        go_ret
        rw [seqM_ok _ HCL.out,seqM_ok _ HOP31.out]
        rw [wrote_ok HOPW.out,seqM_ok _ HOP32.out,seqM_ok _ HOP33.out,HOP34.out]
        exact ⟨⟨_,rfl⟩,HS34.out.fin (by omega)⟩
       ·obtain ⟨y33,hyy⟩:∃ y,(m32.op (.rename handR N)).2=y:=⟨_,rfl⟩
        rw [hyy] at hy
        obtain ⟨m33,h1⟩:∃ mj,m32.op (.rename handR N)=(mj,y33):=⟨_,by rw [← hyy]⟩
        obtain ⟨rfl,hs8,hk8⟩:=hp.eq h1 (errE_no hy)
        have HS33:=hZ (HS32.out.op hs8 hk8)
        have HOP33:=hZ h1
        have HY33:=hZ hy
        have HV:=hZ (errE_no hy)
        have c33:=HS33.out.rf.cell
        clear hp hs8 hk8 h1 c32 hyy hy
        have htl:=fun W:World=>told_any whatS y33 W
        rw [HV.out] at htl
        unfold whatS at htl
        go_wp2_with (go_at_call 34;refine (htl _).mono ?_;rintro e w9 ⟨rfl,rfl⟩)
        go_ret
        rw [show (seqM CR fun m=>seqM (m.op (.create handR)) fun m=>wroteM N (m.op (.write handR T)))=(m33,y33) from (by rw [seqM_ok _ HCL.out,seqM_ok _ HOP31.out];rw [wrote_ok HOPW.out,seqM_ok _ HOP32.out];exact seqM_no _ HOP33.out HY33.out)]
        exact ⟨⟨_,rfl⟩,HS33.out.fin (by omega)⟩
      ·obtain ⟨y32,hyy⟩:∃ y,(mw.op (.sync handR)).2=y:=⟨_,rfl⟩
       rw [hyy] at hy
       obtain ⟨m32,h1⟩:∃ mj,mw.op (.sync handR)=(mj,y32):=⟨_,by rw [← hyy]⟩
       obtain ⟨rfl,hs8,hk8⟩:=hp.eq h1 (errE_no hy)
       have HS32:=hZ (HS4.out.op hs8 hk8)
       have HOP32:=hZ h1
       have HY32:=hZ hy
       have HV:=hZ (errE_no hy)
       have c32:=HS32.out.rf.cell
       clear hp hs8 hk8 h1 c4 hyy hy
       have htl:=fun W:World=>told_any whatS y32 W
       rw [HV.out] at htl
       unfold whatS at htl
       go_wp2_with (go_at_call 34;refine (htl _).mono ?_;rintro e w9 ⟨rfl,rfl⟩)
       go_ret
       rw [show (seqM CR fun m=>seqM (m.op (.create handR)) fun m=>wroteM N (m.op (.write handR T)))=(m32,y32) from (by rw [seqM_ok _ HCL.out,seqM_ok _ HOP31.out];rw [wrote_ok HOPW.out];exact seqM_no _ HOP32.out HY32.out)]
       exact ⟨⟨_,rfl⟩,HS32.out.fin (by omega)⟩
     ·have HVW:=hZ (errE_no hyw)
      have HYW:=hZ hyw
      have HV:=HVW
      have hie:=fun W:World=>is_E yw 28 (by decide) W
      rw [HVW.out,show errV 28=.iface 71 (.int .i64 28) from rfl] at hie
      clear hyw
      by_cases h28:yw=28
      ·have hb28:(yw == 28)=true:=beq_iff_eq.2 h28
       rw [hb28] at hie
       have H28:=hZ h28
       clear hb28 h28
       have hI0:RemW w S (fun b=>P b∨b=w1.heap.size) a (NN+1) mw w31 (fun _=>false) () w31.drew:=⟨fun _=>⟨rfl,rfl,rfl,Nat.le_refl _,fun _ _=>rfl⟩,fun h=>(by cases h),fun h=>(by cases h),fun h=>(by cases h)⟩
       refine wp_region_flowG (fun _:Unit=>[.pointer (some ⟨rb,0,none⟩),.pointer (some ⟨rb,0,none⟩),.pointer (some ⟨rb,0,none⟩),.pointer (some ⟨a,0,none⟩),.agg (D.map byteV).toArray,.string T,.iface 71 (.int .i64 yw),.iface 71 (.int .i64 yw)]) (RemW w S (fun b=>P b∨b=w1.heap.size) a (NN+1) mw w31)
        [[],[0],[1],[2],[],[4],[3,5,5],[6,6,0,1,2,3,4,5,6]] 99 () mixedD rfl (by kernel_rfl) (fun _=>rfl) hI0 ?_ ?_
       ·refine ⟨?_,?_,?_,?_,?_,?_,?_,?_,rfl⟩
        all_goals intro L γ W ev hL hd hW hc hf hg he h0
        ·have e0:ev (.tmp 0)=.pointer (some ⟨rb,0,none⟩):=h0 0 rfl
         clear he h0 hc hf hg
         exact flS rfl (by go_simp <;> rfl) (hW.upd (by decide) (by decide) (by decide)) rfl
        ·have e6:ev (.tmp 57)=.pointer (some ⟨rb,0,none⟩):=he 0 (by decide) _ 57 rfl rfl
         clear he h0 hc hf hg
         exact flS rfl (by go_simp <;> rfl) (hW.upd (by decide) (by decide) (by decide)) rfl
        ·have e7:ev (.tmp 58)=.pointer (some ⟨rb,0,none⟩):=he 1 (by decide) _ 58 rfl rfl
         clear he h0 hc hf hg
         exact flS rfl (by go_simp <;> rfl) (hW.upd (by decide) (by decide) (by decide)) rfl
        ·have e8:ev (.tmp 59)=.pointer (some ⟨rb,0,none⟩):=he 2 (by decide) _ 59 rfl rfl
         have hB:=hW.lo (hW.no3 hL)
         have c0:W.cell? ⟨rb,0,none⟩=some (.pointer (some ⟨a,0,none⟩)):=(HS31.out.bel hB).rf.cell
         clear he h0 hc hf hg
         exact flS rfl (by go_simp <;> rfl) (hW.upd (by decide) (by decide) (by decide)) rfl
        ·have e3:ev (.tmp 5)=.pointer (some ⟨w1.heap.size,0,none⟩):=h0 5 rfl
         clear he h0 hc hg
         have hB:=hW.lo (hW.no4 hL)
         have hlv:=run_loadVar_row (P:=Tryz.prog) W w1.heap.size 33 33 (D.map byteV).toArray (0,0) _ (HS31.out.bel hB).dg dig_und rfl (dig_info2 HDL.out)
         refine .inl ⟨rfl,.inl ⟨_,W,?_,.still (hW.upd (by decide) (by decide) (by decide)) rfl⟩⟩
         unfold execOp
         simp only [e3,Instr.loadAt,Instr.sureAddr,Sem.run_bind,Sem.run_pure,Result.andThen_ok,hlv]
         try rfl
        ·have e10:ev (.tmp 61)=.agg (D.map byteV).toArray:=he 4 (by decide) _ 61 rfl rfl
         clear he h0 hc hg
         refine .inl ⟨rfl,.inr (.inr ⟨49,#[.agg (D.map byteV).toArray],W,(by have hff:=hf 49;clear hf;go_simp <;> rfl),?_⟩)⟩
         refine (HTX.out W).mono ?_
         rintro e w' ⟨rfl,hb⟩
         exact ⟨_,rfl,.still (hW.grew hb (hW.no5 hL) (hd 4 (by decide))) rfl⟩
        ·have e9:ev (.tmp 60)=.pointer (some ⟨a,0,none⟩):=he 3 (by decide) _ 60 rfl rfl
         have e11:ev (.tmp 62)=.string T:=he 5 (by decide) _ 62 rfl rfl
         have hcc:=hc
         clear he h0 hc hg
         have hB:=hW.lo hL
         have hst:=(HS31.out.bel hB).rf.st
         have hsm:=HS31.out.rf.st.same hB
         refine .inl ⟨rfl,.inr (.inr ⟨48,#[.pointer (some ⟨a,0,none⟩),.string handR,.string T],W,(by have hff:=hf 48;clear hf;unfold handR;go_simp <;> rfl),?_⟩)⟩
         refine (st_write hst handR T (by decide) HTS.out (by have:=HNN.out;omega)).mono ?_
         intro e w' hp
         obtain ⟨rfl,h2,h3⟩:=hp.eq HOPW.out HVW.out
         have HNE:=HNN.out
         exact ⟨_,rfl,.still (hW.did (hd 3 (by decide)) (hd 5 (by decide)) h2 (fun b hb=>(h3 b hb).trans (hsm b hb))) rfl⟩
        ·have e12:ev (.tmp 63)=.iface 71 (.int .i64 yw):=he 6 (by decide) _ 63 rfl rfl
         clear he h0 hc hf hg
         exact flS rfl (by go_simp <;> rfl) (hW.upd (by decide) (by decide) (by decide)) rfl
       intro γ L W4 hL hW
       obtain ⟨hst2,hsm2⟩:=hW.hi (hL 6 (by decide))
       have HS4:=hZ (HS31.out.op hst2 hsm2)
       have c4:=HS4.out.rf.cell
       clear hL hW hst2 hsm2 hI0 c31
       simp only [putAll,Act.put,List.setIfInBounds_toArray,List.set_cons_succ,List.set_cons_zero]
       go_wp2_with (go_at_call 41;refine (hie _).mono ?_;rintro e w5 ⟨rfl,rfl⟩)
       obtain ⟨yg,hyg⟩:∃ y,(goneM mw).2=y:=⟨_,rfl⟩
       obtain ⟨mg,hmg⟩:∃ mg,goneM mw=(mg,yg):=⟨_,by rw [← hyg]⟩
       refine (gone_any HS4.out.rf (by omega)).mono ?_
       intro e w6 hp
       obtain ⟨rfl,hs8,hk8⟩:=gone_eq hp hmg rfl
       have HS6:=hZ (HS4.out.op hs8 hk8)
       have HG:=hZ hmg
       clear hp hs8 hk8 hmg hyg
       have htl:=fun W:World=>told_any whatS yw W
       rw [HV.out] at htl
       unfold whatS at htl
       go_wp2_with (go_at_call 34;refine (htl _).mono ?_;rintro e w9 ⟨rfl,rfl⟩)
       go_ret
       rw [show (seqM CR fun m=>seqM (m.op (.create handR)) fun m=>wroteM N (m.op (.write handR T)))=(mg,yw) from (by rw [seqM_ok _ HCL.out,seqM_ok _ HOP31.out];rw [wrote_full (HOPW.out.trans (by rw [H28.out])),HG.out,H28.out])]
       exact ⟨⟨_,rfl⟩,HS6.out.fin (by omega)⟩
      ·have hb28:(yw == 28)=false:=beq_eq_false_iff_ne.2 h28
       rw [hb28] at hie
       have H28:=hZ h28
       clear hb28 h28
       have hI0:RemW w S (fun b=>P b∨b=w1.heap.size) a (NN+1) mw w31 (fun _=>false) () w31.drew:=⟨fun _=>⟨rfl,rfl,rfl,Nat.le_refl _,fun _ _=>rfl⟩,fun h=>(by cases h),fun h=>(by cases h),fun h=>(by cases h)⟩
       refine wp_region_flowG (fun _:Unit=>[.pointer (some ⟨rb,0,none⟩),.pointer (some ⟨rb,0,none⟩),.pointer (some ⟨rb,0,none⟩),.pointer (some ⟨a,0,none⟩),.agg (D.map byteV).toArray,.string T,.iface 71 (.int .i64 yw),.iface 71 (.int .i64 yw)]) (RemW w S (fun b=>P b∨b=w1.heap.size) a (NN+1) mw w31)
        [[],[0],[1],[2],[],[4],[3,5,5],[6,6,0,1,2,3,4,5,6]] 99 () mixedD rfl (by kernel_rfl) (fun _=>rfl) hI0 ?_ ?_
       ·refine ⟨?_,?_,?_,?_,?_,?_,?_,?_,rfl⟩
        all_goals intro L γ W ev hL hd hW hc hf hg he h0
        ·have e0:ev (.tmp 0)=.pointer (some ⟨rb,0,none⟩):=h0 0 rfl
         clear he h0 hc hf hg
         exact flS rfl (by go_simp <;> rfl) (hW.upd (by decide) (by decide) (by decide)) rfl
        ·have e6:ev (.tmp 57)=.pointer (some ⟨rb,0,none⟩):=he 0 (by decide) _ 57 rfl rfl
         clear he h0 hc hf hg
         exact flS rfl (by go_simp <;> rfl) (hW.upd (by decide) (by decide) (by decide)) rfl
        ·have e7:ev (.tmp 58)=.pointer (some ⟨rb,0,none⟩):=he 1 (by decide) _ 58 rfl rfl
         clear he h0 hc hf hg
         exact flS rfl (by go_simp <;> rfl) (hW.upd (by decide) (by decide) (by decide)) rfl
        ·have e8:ev (.tmp 59)=.pointer (some ⟨rb,0,none⟩):=he 2 (by decide) _ 59 rfl rfl
         have hB:=hW.lo (hW.no3 hL)
         have c0:W.cell? ⟨rb,0,none⟩=some (.pointer (some ⟨a,0,none⟩)):=(HS31.out.bel hB).rf.cell
         clear he h0 hc hf hg
         exact flS rfl (by go_simp <;> rfl) (hW.upd (by decide) (by decide) (by decide)) rfl
        ·have e3:ev (.tmp 5)=.pointer (some ⟨w1.heap.size,0,none⟩):=h0 5 rfl
         clear he h0 hc hg
         have hB:=hW.lo (hW.no4 hL)
         have hlv:=run_loadVar_row (P:=Tryz.prog) W w1.heap.size 33 33 (D.map byteV).toArray (0,0) _ (HS31.out.bel hB).dg dig_und rfl (dig_info2 HDL.out)
         refine .inl ⟨rfl,.inl ⟨_,W,?_,.still (hW.upd (by decide) (by decide) (by decide)) rfl⟩⟩
         unfold execOp
         simp only [e3,Instr.loadAt,Instr.sureAddr,Sem.run_bind,Sem.run_pure,Result.andThen_ok,hlv]
         try rfl
        ·have e10:ev (.tmp 61)=.agg (D.map byteV).toArray:=he 4 (by decide) _ 61 rfl rfl
         clear he h0 hc hg
         refine .inl ⟨rfl,.inr (.inr ⟨49,#[.agg (D.map byteV).toArray],W,(by have hff:=hf 49;clear hf;go_simp <;> rfl),?_⟩)⟩
         refine (HTX.out W).mono ?_
         rintro e w' ⟨rfl,hb⟩
         exact ⟨_,rfl,.still (hW.grew hb (hW.no5 hL) (hd 4 (by decide))) rfl⟩
        ·have e9:ev (.tmp 60)=.pointer (some ⟨a,0,none⟩):=he 3 (by decide) _ 60 rfl rfl
         have e11:ev (.tmp 62)=.string T:=he 5 (by decide) _ 62 rfl rfl
         have hcc:=hc
         clear he h0 hc hg
         have hB:=hW.lo hL
         have hst:=(HS31.out.bel hB).rf.st
         have hsm:=HS31.out.rf.st.same hB
         refine .inl ⟨rfl,.inr (.inr ⟨48,#[.pointer (some ⟨a,0,none⟩),.string handR,.string T],W,(by have hff:=hf 48;clear hf;unfold handR;go_simp <;> rfl),?_⟩)⟩
         refine (st_write hst handR T (by decide) HTS.out (by have:=HNN.out;omega)).mono ?_
         intro e w' hp
         obtain ⟨rfl,h2,h3⟩:=hp.eq HOPW.out HVW.out
         have HNE:=HNN.out
         exact ⟨_,rfl,.still (hW.did (hd 3 (by decide)) (hd 5 (by decide)) h2 (fun b hb=>(h3 b hb).trans (hsm b hb))) rfl⟩
        ·have e12:ev (.tmp 63)=.iface 71 (.int .i64 yw):=he 6 (by decide) _ 63 rfl rfl
         clear he h0 hc hf hg
         exact flS rfl (by go_simp <;> rfl) (hW.upd (by decide) (by decide) (by decide)) rfl
       intro γ L W4 hL hW
       obtain ⟨hst2,hsm2⟩:=hW.hi (hL 6 (by decide))
       have HS4:=hZ (HS31.out.op hst2 hsm2)
       have c4:=HS4.out.rf.cell
       clear hL hW hst2 hsm2 hI0 c31
       simp only [putAll,Act.put,List.setIfInBounds_toArray,List.set_cons_succ,List.set_cons_zero]
       have htl:=fun W:World=>told_any whatS yw W
       rw [HV.out] at htl
       unfold whatS at htl
       go_wp2_with (first | (go_at_call 41;refine (hie _).mono ?_;rintro e w5 ⟨rfl,rfl⟩) | (go_at_call 34;refine (htl _).mono ?_;rintro e w9 ⟨rfl,rfl⟩))
       go_ret
       rw [show (seqM CR fun m=>seqM (m.op (.create handR)) fun m=>wroteM N (m.op (.write handR T)))=(mw,yw) from (by rw [seqM_ok _ HCL.out,seqM_ok _ HOP31.out];exact wrote_no HOPW.out HYW.out H28.out)]
       exact ⟨⟨_,rfl⟩,HS4.out.fin (by omega)⟩
    ·obtain ⟨y31,hyy⟩:∃ y,(m.op (.create handR)).2=y:=⟨_,rfl⟩
     rw [hyy] at hy
     obtain ⟨m31,h1⟩:∃ mj,m.op (.create handR)=(mj,y31):=⟨_,by rw [← hyy]⟩
     obtain ⟨rfl,hs8,hk8⟩:=hp.eq h1 (errE_no hy)
     have HS31:=hZ (HS2.out.op hs8 hk8)
     have HOP31:=hZ h1
     have HY31:=hZ hy
     have HV:=hZ (errE_no hy)
     have c31:=HS31.out.rf.cell
     clear hp hs8 hk8 h1 c2 hyy hy
     have htl:=fun W:World=>told_any whatS y31 W
     rw [HV.out] at htl
     unfold whatS at htl
     go_wp2_with (go_at_call 34;refine (htl _).mono ?_;rintro e w9 ⟨rfl,rfl⟩)
     go_ret
     rw [show (seqM CR fun m=>seqM (m.op (.create handR)) fun m=>wroteM N (m.op (.write handR T)))=(m31,y31) from (by rw [seqM_ok _ HCL.out];exact seqM_no _ HOP31.out HY31.out)]
     exact ⟨⟨_,rfl⟩,HS31.out.fin (by omega)⟩
   ·have hb:(y0 == 10)=false:=beq_eq_false_iff_ne.2 h10
    rw [hb] at hie
    rw [if_neg h10] at hcr
    have HCL:=hZ hcr
    clear hcr hb h10
    have htl:=fun W:World=>told_any whatS y0 W
    rw [HV.out] at htl
    unfold whatS at htl
    go_enter Tryz.func15,Tryz.ntmps15
    go_wp2_with fail
    refine (hfu2 _).mono ?_
    rintro e w2 ⟨rfl,hb2⟩
    have HS2:=hZ (HS1.out.bel hb2)
    have c2:=HS2.out.rf.cell
    clear hb2 hW1 hfu2
    go_wp2_with fail
    refine (HRD.out _ HS2.out.rf.st).mono ?_
    rintro e w3 ⟨rfl,rfl⟩
    go_wp2_with (first | (go_at_call 41;refine (hie _).mono ?_;rintro e w4 ⟨rfl,rfl⟩) | (go_at_call 34;refine (htl _).mono ?_;rintro e w9 ⟨rfl,rfl⟩))
    go_ret
    rw [seqM_no _ HCL.out HZ0.out]
    exact ⟨⟨_,rfl⟩,HS2.out.fin (by omega)⟩
end Go.Proofs.YtdkedmngeahjiaaGreatDoor
/- Contract of refs' Get. -/
namespace Go.Proofs.YtdkedmngeahjiaaGreatDoor
open Go Go.RowKit
theorem unhex_len:∀ {l d:List UInt8},unhex l=some d→l.length=2 * d.length:=fun h=>by rw [unhex_inv h,hexB_len]
theorem parseD_len {s:ByteArray} {d:List UInt8} (h:parseD s=some d):d.length=32:=(parseD_inv h).2
def RGetPost (w1:World) (r:List UInt8 × Int) (e:Ending) (w':World):Prop:=(∃ t,e=.returned (.tuple #[digV r.1,wrapE t r.2]))∧Below w1.heap.size w1 w'
theorem rget_any {w w1:World} {S P:Nat→Prop} {rb a n:Nat} {m:DM} (h:Rf w S P rb a w1 n m) (s:ByteArray) (hs:(s.size:Int)≤140737488355328) :
  Calls Tryz.prog 38 #[.pointer (some ⟨rb,0,none⟩),.string s] w1 (RGetPost w1 (getF m s.data.toList)):=by
 have hfu:=fun W:World=>full_any s hs W
 unfold fullV at hfu
 have HF:=hZ h
 have hb0:Below w1.heap.size w1 (w1.alloc (.cells z32 33)):=(Below.refl _ _).alloc (Nat.le_refl _) _
 have HB0:=hZ hb0
 have HR0:Hid ((w1.alloc (.cells z32 33)).heap[w1.heap.size]?=some (.cells z32 33 (0,0))):=hZ (heap_new _ _)
 have h1z:=dig_one zeroD
 have hI32:=dig_info2 (d:=zeroD) rfl
 have hsz:=dig_size (d:=zeroD) rfl
 have hU:=dig_und
 unfold RGetPost getF
 have hfl:=fun u h=>(full_full (s:=s.data.toList) (u:=u) h).2.1
 clear h hb0
 cases hf:fullM s.data.toList with
 |none =>
  rw [hf] at hfu
  have hfu2:∀ W:World,Calls Tryz.prog 9 #[.string s] W fun e w'=>e=.returned (.tuple #[.string ⟨#[]⟩,.iface 132 (.agg #[.string whatF,errV 31])])∧Below W.heap.size W w':=hfu
  clear hfu hf hfl
  go_enter Tryz.func38,Tryz.ntmps38
  go_wp2_with (first | (go_at_call 9;refine (hfu2 _).mono ?_;rintro e w2 ⟨rfl,hb2⟩;have HB2:=hZ (HB0.out.trans (hb2.mono (by rw [World.size_alloc];omega)));have HR2:Hid (w2.heap[w1.heap.size]?=some (.cells z32 33 (0,0))):=hZ ((hb2.block _ (blk_lt HR0.out)).trans HR0.out);have c2:=(HF.out.bel HB2.out).cell;clear hb2 HR0) | (refine wpList_store_row rfl _ _ _ rfl w1.heap.size (zeroD.map byteV).toArray rfl rfl 33 z32 HR2.out hI32 hsz h1z ?_;rw [setRow_setBlk HR2.out]))
  refine bodyPost_ret (v:=.tuple #[digV zeroD,.iface 132 (.agg #[.string whatF,errV 31])]) (results_dig (fn:=Tryz.f38) (p:=4) (u:=5) rfl _ _ w1.heap.size _ _ rfl (setBlk_heap (blk_lt HR2.out)) rfl) rfl ?_
  exact ⟨⟨whatF,rfl⟩,HB2.out.setBlk (Nat.le_refl _)⟩
 |some u =>
  rw [hf] at hfu
  have hul:=hfl u hf
  have hfu2:∀ W:World,Calls Tryz.prog 9 #[.string s] W fun e w'=>e=.returned (.tuple #[.string ⟨u.toArray⟩,.nilIface])∧Below W.heap.size W w':=hfu
  have happ:=head_app u
  have hzz:=refN_size u
  simp only
  unfold getR
  generalize refN u=N at happ hzz ⊢
  have hus:(((⟨u.toArray⟩:ByteArray).size:Nat):Int)≤96:=by show ((u.length:Nat):Int)≤96;omega
  generalize (⟨u.toArray⟩:ByteArray)=U at hfu2 happ hus
  have hrd:=fun W (hst:St w S P a W n m)=>st_read hst N (show N.size≤maxLen by unfold maxLen;omega)
  obtain ⟨T,hT⟩:∃ T,(m.reads N).1=T:=⟨_,rfl⟩
  obtain ⟨y,hy⟩:∃ y,(m.reads N).2=y:=⟨_,rfl⟩
  rw [hT,hy] at hrd ⊢
  clear hfu hf hfl hzz hul hT hy
  by_cases hy0:y=0
  ·subst hy0
   have HRD:Hid (∀ W,St w S P a W n m→Calls Tryz.prog 40 #[.pointer (some ⟨a,0,none⟩),.string N] W fun e w'=>e=.returned (.tuple #[.string T,.nilIface])∧W=w'):=hZ hrd
   have hpa:=fun W:World=>parse_dig T W
   rw [if_neg (show ¬ (0:Int)≠0 from fun h=>h rfl)]
   clear hrd
   cases hp:parseD T with
   |none =>
    rw [hp] at hpa
    have hpa2:∀ W:World,Calls Tryz.prog 42 #[.string T] W fun e w'=>e=.returned (.tuple #[.agg (zeroD.map byteV).toArray,.iface 71 (.int .i64 4)])∧Below W.heap.size W w':=hpa
    have htl:=fun W:World=>told_any whatG 30 W
    rw [show errE 30=.iface 71 (.int .i64 30) from rfl] at htl
    unfold whatG at htl
    clear hpa hp
    go_enter Tryz.func38,Tryz.ntmps38
    go_wp2_with (first | (go_at_call 9;refine (hfu2 _).mono ?_;rintro e w2 ⟨rfl,hb2⟩;have HB2:=hZ (HB0.out.trans (hb2.mono (by rw [World.size_alloc];omega)));have HR2:Hid (w2.heap[w1.heap.size]?=some (.cells z32 33 (0,0))):=hZ ((hb2.block _ (blk_lt HR0.out)).trans HR0.out);have c2:=(HF.out.bel HB2.out).cell;clear hb2 HR0))
    refine (HRD.out _ (HF.out.bel HB2.out).st).mono ?_
    rintro e w3 ⟨rfl,rfl⟩
    go_wp2_with (first | (go_at_call 42;refine (hpa2 _).mono ?_;rintro e w4 ⟨rfl,hb4⟩;have HB4:=hZ (HB2.out.trans (hb4.mono HB2.out.size));have HR4:Hid (w4.heap[w1.heap.size]?=some (.cells z32 33 (0,0))):=hZ ((hb4.block _ (blk_lt HR2.out)).trans HR2.out);clear hb4 HR2) | (refine wpList_store_new rfl _ _ _ rfl _ (zeroD.map byteV).toArray _ rfl rfl rfl hI32 hsz h1z ?_;(obtain ⟨W5,hW5⟩:∃ W,w4.alloc (.cells (zeroD.map byteV).toArray 33)=W:=⟨_,rfl⟩;have hb5:Below w4.heap.size w4 W5:=(by rw [← hW5];exact (Below.refl _ _).alloc (Nat.le_refl _) _);have HB5:=hZ (HB4.out.trans (hb5.mono HB4.out.size));have HR5:Hid (W5.heap[w1.heap.size]?=some (.cells z32 33 (0,0))):=hZ ((hb5.block _ (blk_lt HR4.out)).trans HR4.out);rw [hW5];clear hW5 hb5 HR4)) | (go_at_call 34;refine (htl _).mono ?_;rintro e w6 ⟨rfl,rfl⟩) | (refine wpList_store_row rfl _ _ _ rfl w1.heap.size (zeroD.map byteV).toArray rfl rfl 33 z32 HR5.out hI32 hsz h1z ?_;rw [setRow_setBlk HR5.out]))
    refine bodyPost_ret (v:=.tuple #[digV zeroD,wrapE whatG 30]) (results_dig (fn:=Tryz.f38) (p:=4) (u:=5) rfl _ _ w1.heap.size _ _ rfl (setBlk_heap (blk_lt HR5.out)) rfl) rfl ?_
    exact ⟨⟨whatG,rfl⟩,HB5.out.setBlk (Nat.le_refl _)⟩
   |some D =>
    have hDl:=parseD_len hp
    rw [hp] at hpa
    have hpa2:∀ W:World,Calls Tryz.prog 42 #[.string T] W fun e w'=>e=.returned (.tuple #[.agg (D.map byteV).toArray,.nilIface])∧Below W.heap.size W w':=hpa
    have hI:=dig_info hDl
    have hI2:=dig_info2 hDl
    have h1:=dig_one D
    have hz:=dig_size hDl
    have HDL:=hZ hDl
    clear hpa hp hDl
    go_enter Tryz.func38,Tryz.ntmps38
    go_wp2_with (first | (go_at_call 9;refine (hfu2 _).mono ?_;rintro e w2 ⟨rfl,hb2⟩;have HB2:=hZ (HB0.out.trans (hb2.mono (by rw [World.size_alloc];omega)));have HR2:Hid (w2.heap[w1.heap.size]?=some (.cells z32 33 (0,0))):=hZ ((hb2.block _ (blk_lt HR0.out)).trans HR0.out);have c2:=(HF.out.bel HB2.out).cell;clear hb2 HR0))
    refine (HRD.out _ (HF.out.bel HB2.out).st).mono ?_
    rintro e w3 ⟨rfl,rfl⟩
    go_wp2_with (first | (go_at_call 42;refine (hpa2 _).mono ?_;rintro e w4 ⟨rfl,hb4⟩;have HB4:=hZ (HB2.out.trans (hb4.mono HB2.out.size));have HR4:Hid (w4.heap[w1.heap.size]?=some (.cells z32 33 (0,0))):=hZ ((hb4.block _ (blk_lt HR2.out)).trans HR2.out);clear hb4 HR2) | (refine wpList_store_new rfl _ _ _ rfl _ (D.map byteV).toArray _ rfl rfl rfl hI2 hz h1 ?_;(obtain ⟨W5,hW5⟩:∃ W,w4.alloc (.cells (D.map byteV).toArray 33)=W:=⟨_,rfl⟩;have hb5:Below w4.heap.size w4 W5:=(by rw [← hW5];exact (Below.refl _ _).alloc (Nat.le_refl _) _);have HB5:=hZ (HB4.out.trans (hb5.mono HB4.out.size));have HR5:Hid (W5.heap[w1.heap.size]?=some (.cells z32 33 (0,0))):=hZ ((hb5.block _ (blk_lt HR4.out)).trans HR4.out);have HRG5:Hid (W5.rangeAt w4.heap.size 0 (D.map byteV)):=hZ (dig_range (by rw [← hW5];exact heap_new _ _));rw [hW5];clear hW5 hb5 HR4)) | refine wpList_load_mid rfl _ _ rfl w4.heap.size 0 rfl (D.map byteV) _ HRG5.out hU rfl hI ?_ | (refine wpList_store_row rfl _ _ _ rfl w1.heap.size (D.map byteV).toArray rfl rfl 33 z32 HR5.out hI2 hz h1 ?_;rw [setRow_setBlk HR5.out]))
    refine bodyPost_ret (v:=.tuple #[digV D,.nilIface]) (results_dig (fn:=Tryz.f38) (p:=4) (u:=5) rfl _ _ w1.heap.size _ _ rfl (setBlk_heap (blk_lt HR5.out)) (by rw [List.size_toArray,List.length_map];exact HDL.out)) rfl ?_
    exact ⟨⟨whatG,rfl⟩,HB5.out.setBlk (Nat.le_refl _)⟩
  ·rw [errE_no hy0] at hrd
   have HRD:=hZ hrd
   rw [if_pos hy0]
   have htl:=fun W:World=>told_any whatG y W
   rw [errE_no hy0] at htl
   unfold whatG at htl
   clear hrd hy0
   go_enter Tryz.func38,Tryz.ntmps38
   go_wp2_with (first | (go_at_call 9;refine (hfu2 _).mono ?_;rintro e w2 ⟨rfl,hb2⟩;have HB2:=hZ (HB0.out.trans (hb2.mono (by rw [World.size_alloc];omega)));have HR2:Hid (w2.heap[w1.heap.size]?=some (.cells z32 33 (0,0))):=hZ ((hb2.block _ (blk_lt HR0.out)).trans HR0.out);have c2:=(HF.out.bel HB2.out).cell;clear hb2 HR0))
   refine (HRD.out _ (HF.out.bel HB2.out).st).mono ?_
   rintro e w3 ⟨rfl,rfl⟩
   go_wp2_with (first | (go_at_call 34;refine (htl _).mono ?_;rintro e w6 ⟨rfl,rfl⟩) | (refine wpList_store_row rfl _ _ _ rfl w1.heap.size (zeroD.map byteV).toArray rfl rfl 33 z32 HR2.out hI32 hsz h1z ?_;rw [setRow_setBlk HR2.out]))
   refine bodyPost_ret (v:=.tuple #[digV zeroD,wrapE whatG y]) (results_dig (fn:=Tryz.f38) (p:=4) (u:=5) rfl _ _ w1.heap.size _ _ rfl (setBlk_heap (blk_lt HR2.out)) rfl) rfl ?_
   exact ⟨⟨whatG,rfl⟩,HB2.out.setBlk (Nat.le_refl _)⟩
end Go.Proofs.YtdkedmngeahjiaaGreatDoor
/- Plain: an operation of a disk, by its kind. -/
namespace Go.Proofs.YtdkedmngeahjiaaGreatDoor
open Go Go.Maps Go.RowKit
theorem refused_create (m:DM) (n:ByteArray):m.refused (.create n)=if rightB n then if (m.get n).isSome then 11 else 0 else 8:=rfl
theorem refused_write (m:DM) (n s:ByteArray):m.refused (.write n s)=if (m.get n).isSome then if m.used+s.size > m.room then 28 else 0 else 10:=rfl
theorem refused_sync (m:DM) (n:ByteArray):m.refused (.sync n)=if (m.get n).isSome then 0 else 10:=rfl
theorem refused_rename (m:DM) (o n:ByteArray):m.refused (.rename o n)=if (m.get o).isSome then if rightB n then 0 else 8 else 10:=rfl
theorem refused_remove (m:DM) (n:ByteArray):m.refused (.remove n)=if (m.get n).isSome then 0 else 10:=rfl
theorem dact_write (m:DM) (n s:ByteArray):m.act (.write n s)=match m.get n with | some i=>{ m with files:=m.files.set i ⟨m.files[i]!.data ++ s,m.files[i]!.safe⟩ } | none=>m:=rfl
theorem dact_sync (m:DM) (n:ByteArray):m.act (.sync n)=match m.get n with | some i=>{ m with files:=m.files.set i ⟨m.files[i]!.data,m.files[i]!.data.size⟩ } | none=>m:=rfl
theorem dact_rename (m:DM) (o n:ByteArray):m.act (.rename o n)=m.names (.rename o n):=rfl
theorem textD_71 {d:List UInt8} (h:d.length=32):(textD d).size=71:=by
 show (shaHead ++ hexB d).length=71
 rw [List.length_append,hexB_len,h]
 rfl
end Go.Proofs.YtdkedmngeahjiaaGreatDoor
