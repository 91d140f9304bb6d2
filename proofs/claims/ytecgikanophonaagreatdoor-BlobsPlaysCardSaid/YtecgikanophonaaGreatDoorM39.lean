/- Texts of the seat, one behind the other: BlobL, BlobP. -/
import Derived.Test.YtecgikanophonaaGreatDoorM37
import Derived.Great.BuildSlice
set_option maxRecDepth 100000
set_option maxHeartbeats 25600000
/- Contract of blobs' lay. -/
namespace Go.Proofs.YtecgikanophonaaGreatDoor
open Go Go.RowKit
theorem err_info:(Tryz.prog.info? 26).map (·.size)=some 1:=by kernel_rfl
theorem wpList_lay {w1 w W:World} {S P:Nat→Prop} {sb a n:Nat} {x:Int} {m:DM} {v:Value} {ops:Array Oper} {rest:List Oper} {o:Oper} {ac:Act} {Q:Exit→Act→World→Prop} (hgd:o.guard=none) (xo y:Operand) (ho:o.op=.store 26 xo y)
  (hL:LayW w1 w S P sb a x W n m v) (hne:sb < w1.heap.size) (hr:3 < w1.heap.size) (hx:ac.eval xo=.pointer (some ⟨w1.heap.size+1,0,none⟩)) (u:Value) (hy:ac.eval y=u) (h1:u.oneCell'=true)
  (h:∀ W',LayW w1 w S P sb a x W' n m u→wpList Tryz.prog ops Q rest (ac.put o.dst undef) W'):wpList Tryz.prog ops Q (o :: rest) ac W:=by
 refine wpList_store_one hgd 26 xo y ho (w1.heap.size+1) hx (by rw [hy];exact h1) 26 v hL.b1 err_info ?_
 rw [hy,setRow_setBlk hL.b1]
 have hs:setBlk W (w1.heap.size+1) (.cells #[u] 26 (0,0))=W.setCell ⟨w1.heap.size+1,0,none⟩ u:=by rw [setCell_blk hL.b1];rfl
 rw [hs]
 exact h _ (hL.set hne hr u)
theorem lay_any {w w1:World} {S P:Nat→Prop} {sb a n:Nat} {x:Int} {m:DM} (h:Sto w S P sb a x w1 n m) (hn:n+9≤4000000000) (name t:ByteArray) (hnm:name.size≤maxLen) (ht:t.size≤140737488355328) :
  Calls Tryz.prog 40 #[.pointer (some ⟨sb,0,none⟩),.string name,.string t] w1 fun e w'=>e=.returned (errE (layM m name t).2)∧St w S P a w' (n+9) (layM m name t).1∧SameP P w1 w':=by
 have hmf:∀ (fn:Fn) (first cap:Array Value) (w:World),(Instr.makeFunc fn first cap).run Tryz.prog w=.ok (.func fn first cap) w:=fun _ _ _ _=>rfl
 obtain ⟨hbb,hz,g0,g1⟩:=box2 w1 (.cells #[.pointer (some ⟨sb,0,none⟩)] 24) (.cells #[.nilIface] 26)
 have HNE:=hZ (h.st.pl sb h.pb)
 have HRR:=hZ (h.st.pl _ h.pr)
 have HL:Hid (LayW w1 w S P sb a x ((w1.alloc (.cells #[.pointer (some ⟨sb,0,none⟩)] 24)).alloc (.cells #[.nilIface] 26)) n m .nilIface):=hZ
  ⟨⟨h.st.bel hbb _ (fun b hb=>by rcases hb with hb | rfl | rfl;exact .inl hb;exact .inr ⟨Nat.le_refl _,by omega⟩;exact .inr ⟨by omega,by omega⟩),(hbb.block sb (blk_lt h.box)).trans h.box,.inl h.pb,h.rnd.belowR hbb,.inl h.pr⟩,g0,g1,h.st.same hbb,h.st.pl,h.st.size⟩
 have HNM:=hZ hnm
 have HT:=hZ ht
 have HHN:Hid (handN.size≤maxLen):=hZ (by decide)
 clear hbb hz g0 g1 h hnm ht
 obtain ⟨c0,c1,c2,f2⟩:=HL.out.cells
 obtain ⟨r,hr⟩:∃ r,(m.reads handN).1=r:=⟨_,rfl⟩
 have hrd:=st_read HL.out.sto.st handN HHN.out
 rw [hr] at hrd
 clear hr
 by_cases hy0:(m.reads handN).2=0
 ·rw [hy0] at hrd
  have HC0:Hid (clearM m=seqM (m.op (.remove handN)) fun m=>m.op .flush):=hZ (if_pos hy0)
  clear hy0
  go_enter_defers Tryz.func40,Tryz.ntmps40
  go_wp2_with fail
  refine hrd.mono ?_
  rintro e w2 ⟨rfl,rfl⟩
  rw [show errE 0=.nilIface from rfl]
  clear hrd
  go_wp2_with fail
  refine (st_remove HL.out.sto.st handN HHN.out (by omega)).mono ?_
  intro e w2 hp
  by_cases hy:(m.op (.remove handN)).2=0
  ·obtain ⟨mx,h1⟩:∃ m1,m.op (.remove handN)=(m1,0):=⟨_,(by rw [← hy])⟩
   obtain ⟨rfl,hs,hk⟩:=hp.eq h1 (show errE 0=.nilIface from rfl)
   have HL:=hZ (HL.out.step hs hk)
   have HX:=hZ h1
   clear c0 c1 c2 f2
   obtain ⟨c0,c1,c2,f2⟩:=HL.out.cells
   clear hp hy hs hk h1
   go_wp2_with (refine wpList_lay rfl _ _ rfl HL.out HNE.out HRR.out rfl (.nilIface) rfl rfl ?_;intro W' hl;clear c0 c1 c2 f2;have HL:=hZ hl;obtain ⟨c0,c1,c2,f2⟩:=hl.cells;clear hl)
   refine (st_flush HL.out.sto.st (by omega)).mono ?_
   intro e w2 hp
   by_cases hy:(mx.op .flush).2=0
   ·obtain ⟨m0,h1⟩:∃ m1,mx.op (.flush)=(m1,0):=⟨_,(by rw [← hy])⟩
    obtain ⟨rfl,hs,hk⟩:=hp.eq h1 (show errE 0=.nilIface from rfl)
    have HL:=hZ (HL.out.step hs hk)
    have HF:=hZ h1
    clear c0 c1 c2 f2
    obtain ⟨c0,c1,c2,f2⟩:=HL.out.cells
    clear hp hy hs hk h1
    have HP:Hid (clearM m=(m0,0)):=hZ (by rw [HC0.out,seqM_ok _ HX.out];exact HF.out)
    clear HX HF HC0
    go_wp2_with (refine wpList_lay rfl _ _ rfl HL.out HNE.out HRR.out rfl (.nilIface) rfl rfl ?_;intro W' hl;clear c0 c1 c2 f2;have HL:=hZ hl;obtain ⟨c0,c1,c2,f2⟩:=hl.cells;clear hl)
    refine (st_create HL.out.sto.st handN HHN.out (by omega)).mono ?_
    intro e w2 hp
    by_cases hy:(m0.op (.create handN)).2=0
    ·obtain ⟨ma,h1⟩:∃ m1,m0.op (.create handN)=(m1,0):=⟨_,(by rw [← hy])⟩
     obtain ⟨rfl,hs,hk⟩:=hp.eq h1 (show errE 0=.nilIface from rfl)
     have HL:=hZ (HL.out.step hs hk)
     have HA:=hZ h1
     clear c0 c1 c2 f2
     obtain ⟨c0,c1,c2,f2⟩:=HL.out.cells
     clear hp hy hs hk h1
     go_wp2_with (refine wpList_lay rfl _ _ rfl HL.out HNE.out HRR.out rfl (.nilIface) rfl rfl ?_;intro W' hl;clear c0 c1 c2 f2;have HL:=hZ hl;obtain ⟨c0,c1,c2,f2⟩:=hl.cells;clear hl)
     refine (st_write HL.out.sto.st handN t HHN.out HT.out (by omega)).mono ?_
     intro e w2 hp
     by_cases hy:(ma.op (.write handN t)).2=0
     ·obtain ⟨mb,h1⟩:∃ m1,ma.op (.write handN t)=(m1,0):=⟨_,(by rw [← hy])⟩
      obtain ⟨rfl,hs,hk⟩:=hp.eq h1 (show errE 0=.nilIface from rfl)
      have HL:=hZ (HL.out.step hs hk)
      have HB:=hZ h1
      clear c0 c1 c2 f2
      obtain ⟨c0,c1,c2,f2⟩:=HL.out.cells
      clear hp hy hs hk h1
      go_wp2_with (refine wpList_lay rfl _ _ rfl HL.out HNE.out HRR.out rfl (.nilIface) rfl rfl ?_;intro W' hl;clear c0 c1 c2 f2;have HL:=hZ hl;obtain ⟨c0,c1,c2,f2⟩:=hl.cells;clear hl)
      refine (st_sync HL.out.sto.st handN HHN.out (by omega)).mono ?_
      intro e w2 hp
      by_cases hy:(mb.op (.sync handN)).2=0
      ·obtain ⟨mc,h1⟩:∃ m1,mb.op (.sync handN)=(m1,0):=⟨_,(by rw [← hy])⟩
       obtain ⟨rfl,hs,hk⟩:=hp.eq h1 (show errE 0=.nilIface from rfl)
       have HL:=hZ (HL.out.step hs hk)
       have HC:=hZ h1
       clear c0 c1 c2 f2
       obtain ⟨c0,c1,c2,f2⟩:=HL.out.cells
       clear hp hy hs hk h1
       go_wp2_with (refine wpList_lay rfl _ _ rfl HL.out HNE.out HRR.out rfl (.nilIface) rfl rfl ?_;intro W' hl;clear c0 c1 c2 f2;have HL:=hZ hl;obtain ⟨c0,c1,c2,f2⟩:=hl.cells;clear hl)
       refine (st_rename HL.out.sto.st handN name HHN.out HNM.out (by omega)).mono ?_
       intro e w2 hp
       by_cases hy:(mc.op (.rename handN name)).2=0
       ·obtain ⟨md,h1⟩:∃ m1,mc.op (.rename handN name)=(m1,0):=⟨_,(by rw [← hy])⟩
        obtain ⟨rfl,hs,hk⟩:=hp.eq h1 (show errE 0=.nilIface from rfl)
        have HL:=hZ (HL.out.step hs hk)
        have HD:=hZ h1
        clear c0 c1 c2 f2
        obtain ⟨c0,c1,c2,f2⟩:=HL.out.cells
        clear hp hy hs hk h1
        go_wp2_with (refine wpList_lay rfl _ _ rfl HL.out HNE.out HRR.out rfl (.nilIface) rfl rfl ?_;intro W' hl;clear c0 c1 c2 f2;have HL:=hZ hl;obtain ⟨c0,c1,c2,f2⟩:=hl.cells;clear hl)
        refine (st_flush HL.out.sto.st (by omega)).mono ?_
        intro e w2 hp
        by_cases hy:(md.op .flush).2=0
        ·obtain ⟨me,h1⟩:∃ m1,md.op (.flush)=(m1,0):=⟨_,(by rw [← hy])⟩
         obtain ⟨rfl,hs,hk⟩:=hp.eq h1 (show errE 0=.nilIface from rfl)
         have HL:=hZ (HL.out.step hs hk)
         have HE:=hZ h1
         clear c0 c1 c2 f2
         obtain ⟨c0,c1,c2,f2⟩:=HL.out.cells
         clear hp hy hs hk h1
         go_wp2_with (refine wpList_lay rfl _ _ rfl HL.out HNE.out HRR.out rfl (.nilIface) rfl rfl ?_;intro W' hl;clear c0 c1 c2 f2;have HL:=hZ hl;obtain ⟨c0,c1,c2,f2⟩:=hl.cells;clear hl)
         have hl28:LayW w1 w S P sb a x _ _ _ (errE 0):=(show errE 0=(.nilIface:Value) from rfl) ▸ HL.out
         refine leaves_cons (f:=90) (args:=#[.pointer (some ⟨w1.heap.size+1,0,none⟩),.pointer (some ⟨w1.heap.size,0,none⟩)]) (by simp) (by simp [go_sem]) ?_
         refine (layDef_no 0 hl28 (by decide) .returning).mono ?_
         rintro e u' w3 ⟨rfl,rfl,rfl⟩
         refine ⟨.nilIface,?_,?_⟩
         ·simp [results,Tryz.f40,go_sem,c2]
         ·have hE:layM m name t=(me,0):=by
           unfold layM
           rw [seqM_ok _ HP.out,seqM_ok _ HA.out,seqM_ok _ HB.out,seqM_ok _ HC.out,seqM_ok _ HD.out,HE.out]
           rfl
          rw [hE]
          obtain ⟨hf,hg⟩:=HL.out.fin (k:=n+9) (by omega)
          exact ⟨rfl,hf,hg⟩
        ·have hn28:=op_no28 md .flush (fun _ _ h=>by cases h)
         obtain ⟨y,hyy⟩:∃ y,(md.op (.flush)).2=y:=⟨_,rfl⟩
         rw [hyy] at hy hn28
         have HN28:=hZ hn28
         clear hn28
         obtain ⟨me,h1⟩:∃ m1,md.op (.flush)=(m1,y):=⟨_,(by rw [← hyy])⟩
         have hv:errE y=.iface 76 (.int .i64 y):=if_neg hy
         obtain ⟨rfl,hs,hk⟩:=hp.eq h1 hv
         have HL:=hZ (HL.out.step hs hk)
         have HE:=hZ h1
         have HV:=hZ hv
         have HY:=hZ hy
         clear c0 c1 c2 f2
         obtain ⟨c0,c1,c2,f2⟩:=HL.out.cells
         clear hp hs hk h1 hv hyy
         go_wp2_with (refine wpList_lay rfl _ _ rfl HL.out HNE.out HRR.out rfl (.iface 76 (.int .i64 y)) rfl rfl ?_;intro W' hl;clear c0 c1 c2 f2;have HL:=hZ hl;obtain ⟨c0,c1,c2,f2⟩:=hl.cells;clear hl)
         have hl28:LayW w1 w S P sb a x _ _ _ (errE y):=(show errE y=(.iface 76 (.int .i64 y):Value) from HV.out) ▸ HL.out
         refine leaves_cons (f:=90) (args:=#[.pointer (some ⟨w1.heap.size+1,0,none⟩),.pointer (some ⟨w1.heap.size,0,none⟩)]) (by simp) (by simp [go_sem]) ?_
         refine (layDef_no y hl28 HN28.out .returning).mono ?_
         rintro e u' w3 ⟨rfl,rfl,rfl⟩
         refine ⟨.iface 76 (.int .i64 y),?_,?_⟩
         ·simp [results,Tryz.f40,go_sem,c2]
         ·have hE:layM m name t=(me,y):=by
           unfold layM
           rw [seqM_ok _ HP.out,seqM_ok _ HA.out,seqM_ok _ HB.out,seqM_ok _ HC.out,seqM_ok _ HD.out,HE.out]
           exact if_neg HN28.out
          rw [hE]
          obtain ⟨hf,hg⟩:=HL.out.fin (k:=n+9) (by omega)
          exact ⟨congrArg Ending.returned HV.out.symm,hf,hg⟩
       ·have hn28:=op_no28 mc (.rename handN name) (fun _ _ h=>by cases h)
        obtain ⟨y,hyy⟩:∃ y,(mc.op (.rename handN name)).2=y:=⟨_,rfl⟩
        rw [hyy] at hy hn28
        have HN28:=hZ hn28
        clear hn28
        obtain ⟨md,h1⟩:∃ m1,mc.op (.rename handN name)=(m1,y):=⟨_,(by rw [← hyy])⟩
        have hv:errE y=.iface 76 (.int .i64 y):=if_neg hy
        obtain ⟨rfl,hs,hk⟩:=hp.eq h1 hv
        have HL:=hZ (HL.out.step hs hk)
        have HD:=hZ h1
        have HV:=hZ hv
        have HY:=hZ hy
        clear c0 c1 c2 f2
        obtain ⟨c0,c1,c2,f2⟩:=HL.out.cells
        clear hp hs hk h1 hv hyy
        go_wp2_with (refine wpList_lay rfl _ _ rfl HL.out HNE.out HRR.out rfl (.iface 76 (.int .i64 y)) rfl rfl ?_;intro W' hl;clear c0 c1 c2 f2;have HL:=hZ hl;obtain ⟨c0,c1,c2,f2⟩:=hl.cells;clear hl)
        have hl28:LayW w1 w S P sb a x _ _ _ (errE y):=(show errE y=(.iface 76 (.int .i64 y):Value) from HV.out) ▸ HL.out
        refine leaves_cons (f:=90) (args:=#[.pointer (some ⟨w1.heap.size+1,0,none⟩),.pointer (some ⟨w1.heap.size,0,none⟩)]) (by simp) (by simp [go_sem]) ?_
        refine (layDef_no y hl28 HN28.out .returning).mono ?_
        rintro e u' w3 ⟨rfl,rfl,rfl⟩
        refine ⟨.iface 76 (.int .i64 y),?_,?_⟩
        ·simp [results,Tryz.f40,go_sem,c2]
        ·have hE:layM m name t=(md,y):=by
          unfold layM
          rw [seqM_ok _ HP.out,seqM_ok _ HA.out,seqM_ok _ HB.out,seqM_ok _ HC.out,seqM_no _ HD.out HY.out]
          exact if_neg HN28.out
         rw [hE]
         obtain ⟨hf,hg⟩:=HL.out.fin (k:=n+9) (by omega)
         exact ⟨congrArg Ending.returned HV.out.symm,hf,hg⟩
      ·have hn28:=op_no28 mb (.sync handN) (fun _ _ h=>by cases h)
       obtain ⟨y,hyy⟩:∃ y,(mb.op (.sync handN)).2=y:=⟨_,rfl⟩
       rw [hyy] at hy hn28
       have HN28:=hZ hn28
       clear hn28
       obtain ⟨mc,h1⟩:∃ m1,mb.op (.sync handN)=(m1,y):=⟨_,(by rw [← hyy])⟩
       have hv:errE y=.iface 76 (.int .i64 y):=if_neg hy
       obtain ⟨rfl,hs,hk⟩:=hp.eq h1 hv
       have HL:=hZ (HL.out.step hs hk)
       have HC:=hZ h1
       have HV:=hZ hv
       have HY:=hZ hy
       clear c0 c1 c2 f2
       obtain ⟨c0,c1,c2,f2⟩:=HL.out.cells
       clear hp hs hk h1 hv hyy
       go_wp2_with (refine wpList_lay rfl _ _ rfl HL.out HNE.out HRR.out rfl (.iface 76 (.int .i64 y)) rfl rfl ?_;intro W' hl;clear c0 c1 c2 f2;have HL:=hZ hl;obtain ⟨c0,c1,c2,f2⟩:=hl.cells;clear hl)
       have hl28:LayW w1 w S P sb a x _ _ _ (errE y):=(show errE y=(.iface 76 (.int .i64 y):Value) from HV.out) ▸ HL.out
       refine leaves_cons (f:=90) (args:=#[.pointer (some ⟨w1.heap.size+1,0,none⟩),.pointer (some ⟨w1.heap.size,0,none⟩)]) (by simp) (by simp [go_sem]) ?_
       refine (layDef_no y hl28 HN28.out .returning).mono ?_
       rintro e u' w3 ⟨rfl,rfl,rfl⟩
       refine ⟨.iface 76 (.int .i64 y),?_,?_⟩
       ·simp [results,Tryz.f40,go_sem,c2]
       ·have hE:layM m name t=(mc,y):=by
         unfold layM
         rw [seqM_ok _ HP.out,seqM_ok _ HA.out,seqM_ok _ HB.out,seqM_no _ HC.out HY.out]
         exact if_neg HN28.out
        rw [hE]
        obtain ⟨hf,hg⟩:=HL.out.fin (k:=n+9) (by omega)
        exact ⟨congrArg Ending.returned HV.out.symm,hf,hg⟩
     ·obtain ⟨y,hyy⟩:∃ y,(ma.op (.write handN t)).2=y:=⟨_,rfl⟩
      rw [hyy] at hy
      obtain ⟨mb,h1⟩:∃ m1,ma.op (.write handN t)=(m1,y):=⟨_,(by rw [← hyy])⟩
      have hv:errE y=.iface 76 (.int .i64 y):=if_neg hy
      obtain ⟨rfl,hs,hk⟩:=hp.eq h1 hv
      have HL:=hZ (HL.out.step hs hk)
      have HB:=hZ h1
      have HV:=hZ hv
      have HY:=hZ hy
      clear c0 c1 c2 f2
      obtain ⟨c0,c1,c2,f2⟩:=HL.out.cells
      clear hp hs hk h1 hv hyy
      clear hy
      by_cases hq:y=28
      ·subst hq
       go_wp2_with (refine wpList_lay rfl _ _ rfl HL.out HNE.out HRR.out rfl (.iface 76 (.int .i64 28)) rfl rfl ?_;intro W' hl;clear c0 c1 c2 f2;have HL:=hZ hl;obtain ⟨c0,c1,c2,f2⟩:=hl.cells;clear hl)
       have hl28:LayW w1 w S P sb a x _ _ _ (errE 28):=HL.out
       refine leaves_cons (f:=90) (args:=#[.pointer (some ⟨w1.heap.size+1,0,none⟩),.pointer (some ⟨w1.heap.size,0,none⟩)]) (by simp) (by simp [go_sem]) ?_
       refine (layDef_yes hl28 (by omega) .returning).mono ?_
       rintro e u' w3 ⟨rfl,rfl,hl3⟩
       have HL:=hZ hl3
       clear c0 c1 c2 f2
       obtain ⟨c0,c1,c2,f2⟩:=hl3.cells
       rw [show errE 28=.iface 76 (.int .i64 28) from rfl] at c2
       refine ⟨.iface 76 (.int .i64 28),?_,?_⟩
       ·simp [results,Tryz.f40,go_sem,c2]
       ·have hE:layM m name t=(((mb.op (.remove handN)).1.op .flush).1,28):=by
         unfold layM
         rw [seqM_ok _ HP.out,seqM_ok _ HA.out,seqM_no _ HB.out HY.out]
         rfl
        rw [hE]
        obtain ⟨hf,hg⟩:=HL.out.fin (k:=n+9) (by omega)
        exact ⟨rfl,hf,hg⟩
      ·have HN28:=hZ hq
       clear hq
       go_wp2_with (refine wpList_lay rfl _ _ rfl HL.out HNE.out HRR.out rfl (.iface 76 (.int .i64 y)) rfl rfl ?_;intro W' hl;clear c0 c1 c2 f2;have HL:=hZ hl;obtain ⟨c0,c1,c2,f2⟩:=hl.cells;clear hl)
       have hl28:LayW w1 w S P sb a x _ _ _ (errE y):=(show errE y=(.iface 76 (.int .i64 y):Value) from HV.out) ▸ HL.out
       refine leaves_cons (f:=90) (args:=#[.pointer (some ⟨w1.heap.size+1,0,none⟩),.pointer (some ⟨w1.heap.size,0,none⟩)]) (by simp) (by simp [go_sem]) ?_
       refine (layDef_no y hl28 HN28.out .returning).mono ?_
       rintro e u' w3 ⟨rfl,rfl,rfl⟩
       refine ⟨.iface 76 (.int .i64 y),?_,?_⟩
       ·simp [results,Tryz.f40,go_sem,c2]
       ·have hE:layM m name t=(mb,y):=by
         unfold layM
         rw [seqM_ok _ HP.out,seqM_ok _ HA.out,seqM_no _ HB.out HY.out]
         exact if_neg HN28.out
        rw [hE]
        obtain ⟨hf,hg⟩:=HL.out.fin (k:=n+9) (by omega)
        exact ⟨congrArg Ending.returned HV.out.symm,hf,hg⟩
    ·obtain ⟨y,hyy⟩:∃ y,(m0.op (.create handN)).2=y:=⟨_,rfl⟩
     rw [hyy] at hy
     obtain ⟨ma,h1⟩:∃ m1,m0.op (.create handN)=(m1,y):=⟨_,(by rw [← hyy])⟩
     have hv:errE y=.iface 76 (.int .i64 y):=if_neg hy
     obtain ⟨rfl,hs,hk⟩:=hp.eq h1 hv
     have HL:=hZ (HL.out.step hs hk)
     have HA:=hZ h1
     have HV:=hZ hv
     have HY:=hZ hy
     clear c0 c1 c2 f2
     obtain ⟨c0,c1,c2,f2⟩:=HL.out.cells
     clear hp hs hk h1 hv hyy
     go_wp2_with (refine wpList_lay rfl _ _ rfl HL.out HNE.out HRR.out rfl (.iface 76 (.int .i64 y)) rfl rfl ?_;intro W' hl;clear c0 c1 c2 f2;have HL:=hZ hl;obtain ⟨c0,c1,c2,f2⟩:=hl.cells;clear hl)
     refine ⟨.iface 76 (.int .i64 y),?_,?_⟩
     ·simp [results,Tryz.f40,go_sem,c2]
     ·have hE:layM m name t=(ma,y):=by
       unfold layM
       rw [seqM_ok _ HP.out,seqM_no _ HA.out HY.out]
      rw [hE]
      obtain ⟨hf,hg⟩:=HL.out.fin (k:=n+9) (by omega)
      exact ⟨congrArg Ending.returned HV.out.symm,hf,hg⟩
   ·obtain ⟨y,hyy⟩:∃ y,(mx.op (.flush)).2=y:=⟨_,rfl⟩
    rw [hyy] at hy
    obtain ⟨m0,h1⟩:∃ m1,mx.op (.flush)=(m1,y):=⟨_,(by rw [← hyy])⟩
    have hv:errE y=.iface 76 (.int .i64 y):=if_neg hy
    obtain ⟨rfl,hs,hk⟩:=hp.eq h1 hv
    have HL:=hZ (HL.out.step hs hk)
    have HF:=hZ h1
    have HV:=hZ hv
    have HY:=hZ hy
    clear c0 c1 c2 f2
    obtain ⟨c0,c1,c2,f2⟩:=HL.out.cells
    clear hp hs hk h1 hv hyy
    go_wp2_with (refine wpList_lay rfl _ _ rfl HL.out HNE.out HRR.out rfl (.iface 76 (.int .i64 y)) rfl rfl ?_;intro W' hl;clear c0 c1 c2 f2;have HL:=hZ hl;obtain ⟨c0,c1,c2,f2⟩:=hl.cells;clear hl)
    refine ⟨.iface 76 (.int .i64 y),?_,?_⟩
    ·simp [results,Tryz.f40,go_sem,c2]
    ·have hE:layM m name t=(m0,y):=by
      unfold layM
      rw [seqM_no _ (show clearM m=(m0,y) by rw [HC0.out,seqM_ok _ HX.out];exact HF.out) HY.out]
     rw [hE]
     obtain ⟨hf,hg⟩:=HL.out.fin (k:=n+9) (by omega)
     exact ⟨congrArg Ending.returned HV.out.symm,hf,hg⟩
  ·obtain ⟨y,hyy⟩:∃ y,(m.op (.remove handN)).2=y:=⟨_,rfl⟩
   rw [hyy] at hy
   obtain ⟨mx,h1⟩:∃ m1,m.op (.remove handN)=(m1,y):=⟨_,(by rw [← hyy])⟩
   have hv:errE y=.iface 76 (.int .i64 y):=if_neg hy
   obtain ⟨rfl,hs,hk⟩:=hp.eq h1 hv
   have HL:=hZ (HL.out.step hs hk)
   have HX:=hZ h1
   have HV:=hZ hv
   have HY:=hZ hy
   clear c0 c1 c2 f2
   obtain ⟨c0,c1,c2,f2⟩:=HL.out.cells
   clear hp hs hk h1 hv hyy
   go_wp2_with (refine wpList_lay rfl _ _ rfl HL.out HNE.out HRR.out rfl (.iface 76 (.int .i64 y)) rfl rfl ?_;intro W' hl;clear c0 c1 c2 f2;have HL:=hZ hl;obtain ⟨c0,c1,c2,f2⟩:=hl.cells;clear hl)
   refine ⟨.iface 76 (.int .i64 y),?_,?_⟩
   ·simp [results,Tryz.f40,go_sem,c2]
   ·have hE:layM m name t=(mx,y):=by
     unfold layM
     rw [seqM_no _ (show clearM m=(mx,y) by rw [HC0.out,seqM_no _ HX.out HY.out]) HY.out]
    rw [hE]
    obtain ⟨hf,hg⟩:=HL.out.fin (k:=n+9) (by omega)
    exact ⟨congrArg Ending.returned HV.out.symm,hf,hg⟩
 ·obtain ⟨z,hz0⟩:∃ z,(m.reads handN).2=z:=⟨_,rfl⟩
  rw [hz0] at hy0 hrd
  have HP:Hid (clearM m=(m,0)):=hZ (if_neg (by rw [hz0];exact hy0))
  rw [show errE z=.iface 76 (.int .i64 z) from if_neg hy0] at hrd
  clear hy0 hz0
  go_enter_defers Tryz.func40,Tryz.ntmps40
  go_wp2_with fail
  refine hrd.mono ?_
  rintro e w2 ⟨rfl,rfl⟩
  clear hrd
  go_wp2_with fail
  refine (st_create HL.out.sto.st handN HHN.out (by omega)).mono ?_
  intro e w2 hp
  by_cases hy:(m.op (.create handN)).2=0
  ·obtain ⟨ma,h1⟩:∃ m1,m.op (.create handN)=(m1,0):=⟨_,(by rw [← hy])⟩
   obtain ⟨rfl,hs,hk⟩:=hp.eq h1 (show errE 0=.nilIface from rfl)
   have HL:=hZ (HL.out.step hs hk)
   have HA:=hZ h1
   clear c0 c1 c2 f2
   obtain ⟨c0,c1,c2,f2⟩:=HL.out.cells
   clear hp hy hs hk h1
   go_wp2_with (refine wpList_lay rfl _ _ rfl HL.out HNE.out HRR.out rfl (.nilIface) rfl rfl ?_;intro W' hl;clear c0 c1 c2 f2;have HL:=hZ hl;obtain ⟨c0,c1,c2,f2⟩:=hl.cells;clear hl)
   refine (st_write HL.out.sto.st handN t HHN.out HT.out (by omega)).mono ?_
   intro e w2 hp
   by_cases hy:(ma.op (.write handN t)).2=0
   ·obtain ⟨mb,h1⟩:∃ m1,ma.op (.write handN t)=(m1,0):=⟨_,(by rw [← hy])⟩
    obtain ⟨rfl,hs,hk⟩:=hp.eq h1 (show errE 0=.nilIface from rfl)
    have HL:=hZ (HL.out.step hs hk)
    have HB:=hZ h1
    clear c0 c1 c2 f2
    obtain ⟨c0,c1,c2,f2⟩:=HL.out.cells
    clear hp hy hs hk h1
    go_wp2_with (refine wpList_lay rfl _ _ rfl HL.out HNE.out HRR.out rfl (.nilIface) rfl rfl ?_;intro W' hl;clear c0 c1 c2 f2;have HL:=hZ hl;obtain ⟨c0,c1,c2,f2⟩:=hl.cells;clear hl)
    refine (st_sync HL.out.sto.st handN HHN.out (by omega)).mono ?_
    intro e w2 hp
    by_cases hy:(mb.op (.sync handN)).2=0
    ·obtain ⟨mc,h1⟩:∃ m1,mb.op (.sync handN)=(m1,0):=⟨_,(by rw [← hy])⟩
     obtain ⟨rfl,hs,hk⟩:=hp.eq h1 (show errE 0=.nilIface from rfl)
     have HL:=hZ (HL.out.step hs hk)
     have HC:=hZ h1
     clear c0 c1 c2 f2
     obtain ⟨c0,c1,c2,f2⟩:=HL.out.cells
     clear hp hy hs hk h1
     go_wp2_with (refine wpList_lay rfl _ _ rfl HL.out HNE.out HRR.out rfl (.nilIface) rfl rfl ?_;intro W' hl;clear c0 c1 c2 f2;have HL:=hZ hl;obtain ⟨c0,c1,c2,f2⟩:=hl.cells;clear hl)
     refine (st_rename HL.out.sto.st handN name HHN.out HNM.out (by omega)).mono ?_
     intro e w2 hp
     by_cases hy:(mc.op (.rename handN name)).2=0
     ·obtain ⟨md,h1⟩:∃ m1,mc.op (.rename handN name)=(m1,0):=⟨_,(by rw [← hy])⟩
      obtain ⟨rfl,hs,hk⟩:=hp.eq h1 (show errE 0=.nilIface from rfl)
      have HL:=hZ (HL.out.step hs hk)
      have HD:=hZ h1
      clear c0 c1 c2 f2
      obtain ⟨c0,c1,c2,f2⟩:=HL.out.cells
      clear hp hy hs hk h1
      go_wp2_with (refine wpList_lay rfl _ _ rfl HL.out HNE.out HRR.out rfl (.nilIface) rfl rfl ?_;intro W' hl;clear c0 c1 c2 f2;have HL:=hZ hl;obtain ⟨c0,c1,c2,f2⟩:=hl.cells;clear hl)
      refine (st_flush HL.out.sto.st (by omega)).mono ?_
      intro e w2 hp
      by_cases hy:(md.op .flush).2=0
      ·obtain ⟨me,h1⟩:∃ m1,md.op (.flush)=(m1,0):=⟨_,(by rw [← hy])⟩
       obtain ⟨rfl,hs,hk⟩:=hp.eq h1 (show errE 0=.nilIface from rfl)
       have HL:=hZ (HL.out.step hs hk)
       have HE:=hZ h1
       clear c0 c1 c2 f2
       obtain ⟨c0,c1,c2,f2⟩:=HL.out.cells
       clear hp hy hs hk h1
       go_wp2_with (refine wpList_lay rfl _ _ rfl HL.out HNE.out HRR.out rfl (.nilIface) rfl rfl ?_;intro W' hl;clear c0 c1 c2 f2;have HL:=hZ hl;obtain ⟨c0,c1,c2,f2⟩:=hl.cells;clear hl)
       have hl28:LayW w1 w S P sb a x _ _ _ (errE 0):=(show errE 0=(.nilIface:Value) from rfl) ▸ HL.out
       refine leaves_cons (f:=90) (args:=#[.pointer (some ⟨w1.heap.size+1,0,none⟩),.pointer (some ⟨w1.heap.size,0,none⟩)]) (by simp) (by simp [go_sem]) ?_
       refine (layDef_no 0 hl28 (by decide) .returning).mono ?_
       rintro e u' w3 ⟨rfl,rfl,rfl⟩
       refine ⟨.nilIface,?_,?_⟩
       ·simp [results,Tryz.f40,go_sem,c2]
       ·have hE:layM m name t=(me,0):=by
         unfold layM
         rw [seqM_ok _ HP.out,seqM_ok _ HA.out,seqM_ok _ HB.out,seqM_ok _ HC.out,seqM_ok _ HD.out,HE.out]
         rfl
        rw [hE]
        obtain ⟨hf,hg⟩:=HL.out.fin (k:=n+9) (by omega)
        exact ⟨rfl,hf,hg⟩
      ·have hn28:=op_no28 md .flush (fun _ _ h=>by cases h)
       obtain ⟨y,hyy⟩:∃ y,(md.op (.flush)).2=y:=⟨_,rfl⟩
       rw [hyy] at hy hn28
       have HN28:=hZ hn28
       clear hn28
       obtain ⟨me,h1⟩:∃ m1,md.op (.flush)=(m1,y):=⟨_,(by rw [← hyy])⟩
       have hv:errE y=.iface 76 (.int .i64 y):=if_neg hy
       obtain ⟨rfl,hs,hk⟩:=hp.eq h1 hv
       have HL:=hZ (HL.out.step hs hk)
       have HE:=hZ h1
       have HV:=hZ hv
       have HY:=hZ hy
       clear c0 c1 c2 f2
       obtain ⟨c0,c1,c2,f2⟩:=HL.out.cells
       clear hp hs hk h1 hv hyy
       go_wp2_with (refine wpList_lay rfl _ _ rfl HL.out HNE.out HRR.out rfl (.iface 76 (.int .i64 y)) rfl rfl ?_;intro W' hl;clear c0 c1 c2 f2;have HL:=hZ hl;obtain ⟨c0,c1,c2,f2⟩:=hl.cells;clear hl)
       have hl28:LayW w1 w S P sb a x _ _ _ (errE y):=(show errE y=(.iface 76 (.int .i64 y):Value) from HV.out) ▸ HL.out
       refine leaves_cons (f:=90) (args:=#[.pointer (some ⟨w1.heap.size+1,0,none⟩),.pointer (some ⟨w1.heap.size,0,none⟩)]) (by simp) (by simp [go_sem]) ?_
       refine (layDef_no y hl28 HN28.out .returning).mono ?_
       rintro e u' w3 ⟨rfl,rfl,rfl⟩
       refine ⟨.iface 76 (.int .i64 y),?_,?_⟩
       ·simp [results,Tryz.f40,go_sem,c2]
       ·have hE:layM m name t=(me,y):=by
         unfold layM
         rw [seqM_ok _ HP.out,seqM_ok _ HA.out,seqM_ok _ HB.out,seqM_ok _ HC.out,seqM_ok _ HD.out,HE.out]
         exact if_neg HN28.out
        rw [hE]
        obtain ⟨hf,hg⟩:=HL.out.fin (k:=n+9) (by omega)
        exact ⟨congrArg Ending.returned HV.out.symm,hf,hg⟩
     ·have hn28:=op_no28 mc (.rename handN name) (fun _ _ h=>by cases h)
      obtain ⟨y,hyy⟩:∃ y,(mc.op (.rename handN name)).2=y:=⟨_,rfl⟩
      rw [hyy] at hy hn28
      have HN28:=hZ hn28
      clear hn28
      obtain ⟨md,h1⟩:∃ m1,mc.op (.rename handN name)=(m1,y):=⟨_,(by rw [← hyy])⟩
      have hv:errE y=.iface 76 (.int .i64 y):=if_neg hy
      obtain ⟨rfl,hs,hk⟩:=hp.eq h1 hv
      have HL:=hZ (HL.out.step hs hk)
      have HD:=hZ h1
      have HV:=hZ hv
      have HY:=hZ hy
      clear c0 c1 c2 f2
      obtain ⟨c0,c1,c2,f2⟩:=HL.out.cells
      clear hp hs hk h1 hv hyy
      go_wp2_with (refine wpList_lay rfl _ _ rfl HL.out HNE.out HRR.out rfl (.iface 76 (.int .i64 y)) rfl rfl ?_;intro W' hl;clear c0 c1 c2 f2;have HL:=hZ hl;obtain ⟨c0,c1,c2,f2⟩:=hl.cells;clear hl)
      have hl28:LayW w1 w S P sb a x _ _ _ (errE y):=(show errE y=(.iface 76 (.int .i64 y):Value) from HV.out) ▸ HL.out
      refine leaves_cons (f:=90) (args:=#[.pointer (some ⟨w1.heap.size+1,0,none⟩),.pointer (some ⟨w1.heap.size,0,none⟩)]) (by simp) (by simp [go_sem]) ?_
      refine (layDef_no y hl28 HN28.out .returning).mono ?_
      rintro e u' w3 ⟨rfl,rfl,rfl⟩
      refine ⟨.iface 76 (.int .i64 y),?_,?_⟩
      ·simp [results,Tryz.f40,go_sem,c2]
      ·have hE:layM m name t=(md,y):=by
        unfold layM
        rw [seqM_ok _ HP.out,seqM_ok _ HA.out,seqM_ok _ HB.out,seqM_ok _ HC.out,seqM_no _ HD.out HY.out]
        exact if_neg HN28.out
       rw [hE]
       obtain ⟨hf,hg⟩:=HL.out.fin (k:=n+9) (by omega)
       exact ⟨congrArg Ending.returned HV.out.symm,hf,hg⟩
    ·have hn28:=op_no28 mb (.sync handN) (fun _ _ h=>by cases h)
     obtain ⟨y,hyy⟩:∃ y,(mb.op (.sync handN)).2=y:=⟨_,rfl⟩
     rw [hyy] at hy hn28
     have HN28:=hZ hn28
     clear hn28
     obtain ⟨mc,h1⟩:∃ m1,mb.op (.sync handN)=(m1,y):=⟨_,(by rw [← hyy])⟩
     have hv:errE y=.iface 76 (.int .i64 y):=if_neg hy
     obtain ⟨rfl,hs,hk⟩:=hp.eq h1 hv
     have HL:=hZ (HL.out.step hs hk)
     have HC:=hZ h1
     have HV:=hZ hv
     have HY:=hZ hy
     clear c0 c1 c2 f2
     obtain ⟨c0,c1,c2,f2⟩:=HL.out.cells
     clear hp hs hk h1 hv hyy
     go_wp2_with (refine wpList_lay rfl _ _ rfl HL.out HNE.out HRR.out rfl (.iface 76 (.int .i64 y)) rfl rfl ?_;intro W' hl;clear c0 c1 c2 f2;have HL:=hZ hl;obtain ⟨c0,c1,c2,f2⟩:=hl.cells;clear hl)
     have hl28:LayW w1 w S P sb a x _ _ _ (errE y):=(show errE y=(.iface 76 (.int .i64 y):Value) from HV.out) ▸ HL.out
     refine leaves_cons (f:=90) (args:=#[.pointer (some ⟨w1.heap.size+1,0,none⟩),.pointer (some ⟨w1.heap.size,0,none⟩)]) (by simp) (by simp [go_sem]) ?_
     refine (layDef_no y hl28 HN28.out .returning).mono ?_
     rintro e u' w3 ⟨rfl,rfl,rfl⟩
     refine ⟨.iface 76 (.int .i64 y),?_,?_⟩
     ·simp [results,Tryz.f40,go_sem,c2]
     ·have hE:layM m name t=(mc,y):=by
       unfold layM
       rw [seqM_ok _ HP.out,seqM_ok _ HA.out,seqM_ok _ HB.out,seqM_no _ HC.out HY.out]
       exact if_neg HN28.out
      rw [hE]
      obtain ⟨hf,hg⟩:=HL.out.fin (k:=n+9) (by omega)
      exact ⟨congrArg Ending.returned HV.out.symm,hf,hg⟩
   ·obtain ⟨y,hyy⟩:∃ y,(ma.op (.write handN t)).2=y:=⟨_,rfl⟩
    rw [hyy] at hy
    obtain ⟨mb,h1⟩:∃ m1,ma.op (.write handN t)=(m1,y):=⟨_,(by rw [← hyy])⟩
    have hv:errE y=.iface 76 (.int .i64 y):=if_neg hy
    obtain ⟨rfl,hs,hk⟩:=hp.eq h1 hv
    have HL:=hZ (HL.out.step hs hk)
    have HB:=hZ h1
    have HV:=hZ hv
    have HY:=hZ hy
    clear c0 c1 c2 f2
    obtain ⟨c0,c1,c2,f2⟩:=HL.out.cells
    clear hp hs hk h1 hv hyy
    clear hy
    by_cases hq:y=28
    ·subst hq
     go_wp2_with (refine wpList_lay rfl _ _ rfl HL.out HNE.out HRR.out rfl (.iface 76 (.int .i64 28)) rfl rfl ?_;intro W' hl;clear c0 c1 c2 f2;have HL:=hZ hl;obtain ⟨c0,c1,c2,f2⟩:=hl.cells;clear hl)
     have hl28:LayW w1 w S P sb a x _ _ _ (errE 28):=HL.out
     refine leaves_cons (f:=90) (args:=#[.pointer (some ⟨w1.heap.size+1,0,none⟩),.pointer (some ⟨w1.heap.size,0,none⟩)]) (by simp) (by simp [go_sem]) ?_
     refine (layDef_yes hl28 (by omega) .returning).mono ?_
     rintro e u' w3 ⟨rfl,rfl,hl3⟩
     have HL:=hZ hl3
     clear c0 c1 c2 f2
     obtain ⟨c0,c1,c2,f2⟩:=hl3.cells
     rw [show errE 28=.iface 76 (.int .i64 28) from rfl] at c2
     refine ⟨.iface 76 (.int .i64 28),?_,?_⟩
     ·simp [results,Tryz.f40,go_sem,c2]
     ·have hE:layM m name t=(((mb.op (.remove handN)).1.op .flush).1,28):=by
       unfold layM
       rw [seqM_ok _ HP.out,seqM_ok _ HA.out,seqM_no _ HB.out HY.out]
       rfl
      rw [hE]
      obtain ⟨hf,hg⟩:=HL.out.fin (k:=n+9) (by omega)
      exact ⟨rfl,hf,hg⟩
    ·have HN28:=hZ hq
     clear hq
     go_wp2_with (refine wpList_lay rfl _ _ rfl HL.out HNE.out HRR.out rfl (.iface 76 (.int .i64 y)) rfl rfl ?_;intro W' hl;clear c0 c1 c2 f2;have HL:=hZ hl;obtain ⟨c0,c1,c2,f2⟩:=hl.cells;clear hl)
     have hl28:LayW w1 w S P sb a x _ _ _ (errE y):=(show errE y=(.iface 76 (.int .i64 y):Value) from HV.out) ▸ HL.out
     refine leaves_cons (f:=90) (args:=#[.pointer (some ⟨w1.heap.size+1,0,none⟩),.pointer (some ⟨w1.heap.size,0,none⟩)]) (by simp) (by simp [go_sem]) ?_
     refine (layDef_no y hl28 HN28.out .returning).mono ?_
     rintro e u' w3 ⟨rfl,rfl,rfl⟩
     refine ⟨.iface 76 (.int .i64 y),?_,?_⟩
     ·simp [results,Tryz.f40,go_sem,c2]
     ·have hE:layM m name t=(mb,y):=by
       unfold layM
       rw [seqM_ok _ HP.out,seqM_ok _ HA.out,seqM_no _ HB.out HY.out]
       exact if_neg HN28.out
      rw [hE]
      obtain ⟨hf,hg⟩:=HL.out.fin (k:=n+9) (by omega)
      exact ⟨congrArg Ending.returned HV.out.symm,hf,hg⟩
  ·obtain ⟨y,hyy⟩:∃ y,(m.op (.create handN)).2=y:=⟨_,rfl⟩
   rw [hyy] at hy
   obtain ⟨ma,h1⟩:∃ m1,m.op (.create handN)=(m1,y):=⟨_,(by rw [← hyy])⟩
   have hv:errE y=.iface 76 (.int .i64 y):=if_neg hy
   obtain ⟨rfl,hs,hk⟩:=hp.eq h1 hv
   have HL:=hZ (HL.out.step hs hk)
   have HA:=hZ h1
   have HV:=hZ hv
   have HY:=hZ hy
   clear c0 c1 c2 f2
   obtain ⟨c0,c1,c2,f2⟩:=HL.out.cells
   clear hp hs hk h1 hv hyy
   go_wp2_with (refine wpList_lay rfl _ _ rfl HL.out HNE.out HRR.out rfl (.iface 76 (.int .i64 y)) rfl rfl ?_;intro W' hl;clear c0 c1 c2 f2;have HL:=hZ hl;obtain ⟨c0,c1,c2,f2⟩:=hl.cells;clear hl)
   refine ⟨.iface 76 (.int .i64 y),?_,?_⟩
   ·simp [results,Tryz.f40,go_sem,c2]
   ·have hE:layM m name t=(ma,y):=by
     unfold layM
     rw [seqM_ok _ HP.out,seqM_no _ HA.out HY.out]
    rw [hE]
    obtain ⟨hf,hg⟩:=HL.out.fin (k:=n+9) (by omega)
    exact ⟨congrArg Ending.returned HV.out.symm,hf,hg⟩
end Go.Proofs.YtecgikanophonaaGreatDoor
/- Contract of blobs' Put. -/
namespace Go.Proofs.YtecgikanophonaaGreatDoor
open Go Go.RowKit
section
variable {w w1 w2:World} {S P:Nat→Prop} {sb a n n':Nat} {x:Int} {m m':DM}
theorem Sto.bel (h:Sto w S P sb a x w1 n m) (hb:Below w1.heap.size w1 w2):Sto w S P sb a x w2 n m:=h.step (h.st.bel hb P (fun b hb=>.inl hb)) (h.st.same hb)
theorem Sto.more (h:Sto w S P sb a x w1 n m) (hb:Below w1.heap.size w1 w2) (Q:Nat→Prop) (hp:∀ b,P b→Q b) (hQ:∀ b,Q b→P b∨(w1.heap.size≤b∧b < w2.heap.size)):Sto w S Q sb a x w2 n m :=
 ⟨h.st.bel hb Q hQ,(h.st.same hb sb h.pb).trans h.box,hp _ h.pb,h.rnd.same (h.st.same hb _ h.pr) (Nat.lt_of_lt_of_le h.rnd.2 hb.size),hp _ h.pr⟩
theorem st_right (h:Sto w S P sb a x w1 n m) (nm:ByteArray) (hn:nm.size≤140737488355328):Calls Tryz.prog 35 #[.pointer (some ⟨sb,0,none⟩),.string nm] w1 (RightPost m x nm w1):=by
 obtain ⟨S1,hd,-⟩:=h.st.ex
 exact rightB_any hd h.box h.rnd nm hn
theorem st_get (h:Sto w S P sb a x w1 n m) (D:List UInt8) (hD:D.length=32):Calls Tryz.prog 12 #[.pointer (some ⟨sb,0,none⟩),digV D] w1 fun e w'=>e=.returned (.tuple #[.string (getM m x D).1,errE (getM m x D).2])∧Below w1.heap.size w1 w':=by
 obtain ⟨S1,hd,-⟩:=h.st.ex
 exact get_any hd h.box h.rnd D hD
theorem st_has (h:Sto w S P sb a x w1 n m) (D:List UInt8) (hD:D.length=32):Calls Tryz.prog 16 #[.pointer (some ⟨sb,0,none⟩),digV D] w1 fun e w'=>e=.returned (.tuple #[.bool (hasM m x D).1,errE (hasM m x D).2])∧Below w1.heap.size w1 w':=by
 obtain ⟨S1,hd,-⟩:=h.st.ex
 exact has_any hd h.box h.rnd D hD
end
def PutPost (w:World) (S P:Nat→Prop) (a n:Nat) (w1:World) (r:DM × (List UInt8 × Int)) (e:Ending) (w':World):Prop :=
 e=.returned (.tuple #[digV r.2.1,errE r.2.2])∧St w S P a w' (n+9) r.1∧SameP P w1 w'
theorem put_any {w w1:World} {S P:Nat→Prop} {sb a n:Nat} {x:Int} {m:DM} (h:Sto w S P sb a x w1 n m) (hn:n+9≤4000000000) (t:ByteArray) (ht:t.size≤140737488355328) :
  Calls Tryz.prog 10 #[.pointer (some ⟨sb,0,none⟩),.string t] w1 (PutPost w S P a n w1 (putM m x t)):=by
 have HT:=hZ ht
 have hb0:Below w1.heap.size w1 (w1.alloc (.cells z32 33)):=(Below.refl _ _).alloc (Nat.le_refl _) _
 have HS0:Hid (Sto w S (fun b=>P b∨b=w1.heap.size) sb a x (w1.alloc (.cells z32 33)) n m):=hZ (h.more hb0 _ (fun b hb=>.inl hb) (fun b hb=>by
  rcases hb with hb | rfl
  ·exact .inl hb
  ·exact .inr ⟨Nat.le_refl _,by rw [World.size_alloc];omega⟩))
 have HR0:Hid ((w1.alloc (.cells z32 33)).heap[w1.heap.size]?=some (.cells z32 33 (0,0))):=hZ (heap_new _ _)
 have HM0:Hid (SameP P w1 (w1.alloc (.cells z32 33))):=hZ (h.st.same hb0)
 have HPL:=hZ h.st.pl
 have HLE:=hZ h.st.size
 have HSB:=hZ (h.st.pl sb h.pb)
 have HRR:=hZ (h.st.pl _ h.pr)
 have h1z:=dig_one zeroD
 have hI32:=dig_info2 (d:=zeroD) rfl
 have hsz:=dig_size (d:=zeroD) rfl
 have HFS:Hid ((fileN (shaU x t)).size=70):=hZ (by rw [fileN_size,shaU_len])
 have HDL:=hZ (shaU_len x t)
 have hFI:=fun W:World=>file_any (shaU x t) (shaU_len x t) W
 have hSU:=fun (W:World) (hk:RoundsT W)=>digest_sum x t W hk ht
 rw [shaL_shaU] at hSU
 have HPUT:=hZ (show putM m x t=if m.off then (m,zeroD,27) else
  match rightM m x (fileN (shaU x t)) with
  |some u=>if u=t then (m,shaU x t,0) else (m,zeroD,29)
  |none=>if (layM m (fileN (shaU x t)) t).2=0 then ((layM m (fileN (shaU x t)) t).1,shaU x t,0) else ((layM m (fileN (shaU x t)) t).1,zeroD,(layM m (fileN (shaU x t)) t).2) from rfl)
 generalize putM m x t=R at HPUT ⊢
 generalize shaU x t=D at HFS HDL hFI hSU HPUT
 generalize fileN D=F at HFS hFI HPUT
 have hls:Calls Tryz.prog 25 #[.pointer (some ⟨a,0,none⟩),.string ⟨#[110,111,110,101,47]⟩] (w1.alloc (.cells z32 33)) fun e w'=>∃ v,e=.returned (.tuple #[v,errE (if m.off then 27 else 0)])∧Below (w1.alloc (.cells z32 33)).heap.size (w1.alloc (.cells z32 33)) w' :=
  (st_list HS0.out.st ⟨#[110,111,110,101,47]⟩ (by omega)).mono fun e w' ⟨v,h1,_,h2⟩=>⟨v,h1,h2⟩
 have c0:∀ o:Obj,(w1.alloc o).cell? ⟨sb,0,none⟩=some (.pointer (some ⟨a,0,none⟩)):=fun o=>(cell_of_heap (Below.heap_alloc w1 o sb HSB.out)).trans (cell_of_heapN h.box)
 have hU:=dig_und
 have hI:=dig_info HDL.out
 have hI2:=dig_info2 HDL.out
 have h1:=dig_one D
 have hz:=dig_size HDL.out
 unfold digV at hFI
 clear hb0 h ht
 cases hoff:m.off with
 |true =>
  rw [hoff] at hls
  have HOFF:=hZ hoff
  clear hoff
  have hls2:Calls Tryz.prog 25 #[.pointer (some ⟨a,0,none⟩),.string ⟨#[110,111,110,101,47]⟩] (w1.alloc (.cells z32 33)) fun e w'=>∃ v,e=.returned (.tuple #[v,.iface 76 (.int .i64 27)])∧Below (w1.alloc (.cells z32 33)).heap.size (w1.alloc (.cells z32 33)) w':=hls
  clear hls
  go_enter Tryz.func10,Tryz.ntmps10
  go_wp2_with (first | (go_at_call 25;refine hls2.mono ?_;rintro e w2 ⟨v,rfl,hb2⟩;have HS2:=hZ (HS0.out.bel hb2);have HR2:Hid (w2.heap[w1.heap.size]?=some (.cells z32 33 (0,0))):=hZ ((hb2.block _ (blk_lt HR0.out)).trans HR0.out);have HM2:Hid (SameP P w1 w2):=hZ (fun b hb=>(HS0.out.st.same hb2 b (.inl hb)).trans (HM0.out b hb));clear hb2) | (refine wpList_store_row rfl _ _ _ rfl w1.heap.size (zeroD.map byteV).toArray rfl rfl 33 z32 HR2.out hI32 hsz h1z ?_;rw [setRow_setBlk HR2.out]))
  refine bodyPost_ret (v:=.tuple #[digV zeroD,.iface 76 (.int .i64 27)]) (results_dig (fn:=Tryz.f10) (p:=4) (u:=5) rfl _ _ w1.heap.size _ _ rfl (setBlk_heap (blk_lt HR2.out)) rfl) rfl ?_
  have hR:R=(m,zeroD,27):=HPUT.out.trans (if_pos HOFF.out)
  rw [hR]
  exact ⟨rfl,((HS2.out.st.setBlk HLE.out (.inr rfl) _).sub P (fun b hb=>.inl hb)).more (by omega),fun b hb=>(setBlk_other (fun e=>by have:=HPL.out b hb;omega)).trans (HM2.out b hb)⟩
 |false =>
  rw [hoff] at hls
  have HPUT2:Hid (R=match rightM m x F with
   |some u=>if u=t then (m,D,0) else (m,zeroD,29)
   |none=>if (layM m F t).2=0 then ((layM m F t).1,D,0) else ((layM m F t).1,zeroD,(layM m F t).2)):=hZ (HPUT.out.trans (if_neg (by rw [hoff];decide)))
  have hls2:Calls Tryz.prog 25 #[.pointer (some ⟨a,0,none⟩),.string ⟨#[110,111,110,101,47]⟩] (w1.alloc (.cells z32 33)) fun e w'=>∃ v,e=.returned (.tuple #[v,.nilIface])∧Below (w1.alloc (.cells z32 33)).heap.size (w1.alloc (.cells z32 33)) w':=hls
  clear hls hoff HPUT
  go_enter Tryz.func10,Tryz.ntmps10
  go_wp2_with (first | (go_at_call 25;refine hls2.mono ?_;rintro e w2 ⟨v,rfl,hb2⟩;have HS2:=hZ (HS0.out.bel hb2);have HR2:Hid (w2.heap[w1.heap.size]?=some (.cells z32 33 (0,0))):=hZ ((hb2.block _ (blk_lt HR0.out)).trans HR0.out);have HM2:Hid (SameP P w1 w2):=hZ (fun b hb=>(HS0.out.st.same hb2 b (.inl hb)).trans (HM0.out b hb));have c1:w2.cell? ⟨sb,1,none⟩=some (.int .i64 x):=(by rw [cell_of_heapN HS2.out.box];rfl);clear hb2 c0 hls2 HS0 HR0 HM0))
  go_wp2_with fail
  refine (hSU _ HS2.out.rnd).mono ?_
  rintro e w3 ⟨rfl,hb3⟩
  have HS3:=hZ (HS2.out.bel hb3)
  have HR3:Hid (w3.heap[w1.heap.size]?=some (.cells z32 33 (0,0))):=hZ ((hb3.block _ (blk_lt HR2.out)).trans HR2.out)
  have HM3:Hid (SameP P w1 w3):=hZ (fun b hb=>(HS2.out.st.same hb3 b (.inl hb)).trans (HM2.out b hb))
  have HG3:Hid (w1.heap.size < w3.heap.size):=hZ (blk_lt HR3.out)
  clear hb3 c1 HS2 HR2 HM2 hSU
  go_wp2_with (first | (refine wpList_store_new rfl _ _ _ rfl _ (D.map byteV).toArray _ rfl rfl rfl hI2 hz h1 ?_;(obtain ⟨W4,hW4⟩:∃ W,w3.alloc (.cells (D.map byteV).toArray 33)=W:=⟨_,rfl⟩;have hb4:Below w3.heap.size w3 W4:=(by rw [← hW4];exact (Below.refl _ _).alloc (Nat.le_refl _) _);have hx4:W4.heap[w3.heap.size]?=some (.cells (D.map byteV).toArray 33 (0,0)):=(by rw [← hW4];exact heap_new _ _);have HX4:=hZ hx4;have HS4:Hid (Sto w S (fun b=>(P b∨b=w1.heap.size)∨b=w3.heap.size) sb a x W4 n m):=hZ (HS3.out.more hb4 _ (fun b hb=>.inl hb) (fun b hb=>hb.elim .inl (fun e=>.inr ⟨by omega,by have:=blk_lt hx4;omega⟩)));have HR4:Hid (W4.heap[w1.heap.size]?=some (.cells z32 33 (0,0))):=hZ ((hb4.block _ HG3.out).trans HR3.out);have HM4:Hid (SameP P w1 W4):=hZ (fun b hb=>(HS3.out.st.same hb4 b (.inl hb)).trans (HM3.out b hb));have HRG4:=hZ (dig_range HX4.out);rw [hW4];clear hW4 hb4 hx4 HS3 HR3 HM3)) | refine wpList_load_mid rfl _ _ rfl w3.heap.size 0 rfl (D.map byteV) _ HRG4.out hU rfl hI ?_)
  refine (hFI _).mono ?_
  rintro e w5 ⟨rfl,hb5⟩
  have HS5:=hZ (HS4.out.bel hb5)
  have HR5:Hid (w5.heap[w1.heap.size]?=some (.cells z32 33 (0,0))):=hZ ((hb5.block _ (blk_lt HR4.out)).trans HR4.out)
  have HX5:Hid (w5.heap[w3.heap.size]?=some (.cells (D.map byteV).toArray 33 (0,0))):=hZ ((hb5.block _ (blk_lt HX4.out)).trans HX4.out)
  have HM5:Hid (SameP P w1 w5):=hZ (fun b hb=>(HS4.out.st.same hb5 b (.inl (.inl hb))).trans (HM4.out b hb))
  clear hb5 HS4 HR4 HX4 HM4 HRG4
  go_wp2_with fail
  refine (st_right HS5.out F (by rw [HFS.out];decide)).mono ?_
  rintro e w6 ⟨⟨u,rfl,hu⟩,hb6⟩
  have HS6:=hZ (HS5.out.bel hb6)
  have hr6:=(hb6.block _ (blk_lt HR5.out)).trans HR5.out
  have HR6:=hZ hr6
  have HX6:Hid (w6.heap[w3.heap.size]?=some (.cells (D.map byteV).toArray 33 (0,0))):=hZ ((hb6.block _ (blk_lt HX5.out)).trans HX5.out)
  have HM6:Hid (SameP P w1 w6):=hZ (fun b hb=>(HS5.out.st.same hb6 b (.inl (.inl hb))).trans (HM5.out b hb))
  have HRG6:=hZ (dig_range HX6.out)
  have HU:=hZ hu
  clear hb6 hr6 hu HS5 HR5 HX5 HM5
  cases hrt:rightM m x F with
  |some v =>
   have huv:u=v:=HU.out v hrt
   have HRT:=hZ hrt
   have hPW:=HPUT2.out
   rw [hrt] at hPW
   have HPW:=hZ hPW
   clear hPW HPUT2 HU hrt
   subst huv
   by_cases hut:u=t
   ·subst hut
    go_wp2_with (first | refine wpList_load_mid rfl _ _ rfl w3.heap.size 0 rfl (D.map byteV) _ HRG6.out hU rfl hI ?_ | (refine wpList_store_row rfl _ _ _ rfl w1.heap.size (D.map byteV).toArray rfl rfl 33 z32 HR6.out hI2 hz h1 ?_;rw [setRow_setBlk HR6.out]))
    refine bodyPost_ret (v:=.tuple #[digV D,.nilIface]) (results_dig (fn:=Tryz.f10) (p:=4) (u:=5) rfl _ _ w1.heap.size _ _ rfl (setBlk_heap (blk_lt HR6.out)) (by rw [List.size_toArray,List.length_map];exact HDL.out)) rfl ?_
    rw [show R=(m,D,0) from HPW.out.trans (if_pos (by trivial))]
    exact ⟨rfl,((HS6.out.st.setBlk HLE.out (.inl (.inr rfl)) _).sub P (fun b hb=>.inl (.inl hb))).more (by omega),fun b hb=>(setBlk_other (fun e=>by have:=HPL.out b hb;omega)).trans (HM6.out b hb)⟩
   ·have HUT:=hZ hut
    have hq:(u.toList == t.toList)=false:=by
     rw [beq_eq_false_iff_ne,Lib.toList_data,Lib.toList_data]
     exact bytes_ne hut
    clear hut
    go_wp2_with (first | (refine wpList_store_row rfl _ _ _ rfl w1.heap.size (zeroD.map byteV).toArray rfl rfl 33 z32 HR6.out hI32 hsz h1z ?_;rw [setRow_setBlk HR6.out]))
    refine bodyPost_ret (v:=.tuple #[digV zeroD,.iface 76 (.int .i64 29)]) (results_dig (fn:=Tryz.f10) (p:=4) (u:=5) rfl _ _ w1.heap.size _ _ rfl (setBlk_heap (blk_lt HR6.out)) rfl) rfl ?_
    rw [show R=(m,zeroD,29) from HPW.out.trans (if_neg HUT.out)]
    exact ⟨rfl,((HS6.out.st.setBlk HLE.out (.inl (.inr rfl)) _).sub P (fun b hb=>.inl (.inl hb))).more (by omega),fun b hb=>(setBlk_other (fun e=>by have:=HPL.out b hb;omega)).trans (HM6.out b hb)⟩
  |none =>
   have hPW:=HPUT2.out
   rw [hrt] at hPW
   have HPW:=hZ hPW
   clear hPW HPUT2 HU hrt
   go_wp2_with (refine wpList_load_mid rfl _ _ rfl w3.heap.size 0 rfl (D.map byteV) _ HRG6.out hU rfl hI ?_)
   refine (hFI _).mono ?_
   rintro e w7 ⟨rfl,hb7⟩
   have HS7:=hZ (HS6.out.bel hb7)
   have HR7:Hid (w7.heap[w1.heap.size]?=some (.cells z32 33 (0,0))):=hZ ((hb7.block _ (blk_lt HR6.out)).trans HR6.out)
   have HX7:Hid (w7.heap[w3.heap.size]?=some (.cells (D.map byteV).toArray 33 (0,0))):=hZ ((hb7.block _ (blk_lt HX6.out)).trans HX6.out)
   have HM7:Hid (SameP P w1 w7):=hZ (fun b hb=>(HS6.out.st.same hb7 b (.inl (.inl hb))).trans (HM6.out b hb))
   clear hb7 HS6 HR6 HX6 HM6 HRG6 hFI
   go_wp2_with fail
   refine (lay_any HS7.out hn F t (by rw [HFS.out];decide) HT.out).mono ?_
   rintro e w8 ⟨rfl,hs8,hk8⟩
   have HS8:=hZ hs8
   have HR8:Hid (w8.heap[w1.heap.size]?=some (.cells z32 33 (0,0))):=hZ ((hk8 _ (.inl (.inr rfl))).trans HR7.out)
   have HX8:Hid (w8.heap[w3.heap.size]?=some (.cells (D.map byteV).toArray 33 (0,0))):=hZ ((hk8 _ (.inr rfl)).trans HX7.out)
   have HM8:Hid (SameP P w1 w8):=hZ (fun b hb=>(hk8 b (.inl (.inl hb))).trans (HM7.out b hb))
   have HRG8:=hZ (dig_range HX8.out)
   clear hs8 hk8 HS7 HR7 HX7 HM7
   generalize (layM m F t).1=ml at HS8 HPW
   generalize (layM m F t).2=y at HPW ⊢
   by_cases hy:y=0
   ·subst hy
    rw [show errE 0=.nilIface from rfl]
    go_wp2_with (first | refine wpList_load_mid rfl _ _ rfl w3.heap.size 0 rfl (D.map byteV) _ HRG8.out hU rfl hI ?_ | (refine wpList_store_row rfl _ _ _ rfl w1.heap.size (D.map byteV).toArray rfl rfl 33 z32 HR8.out hI2 hz h1 ?_;rw [setRow_setBlk HR8.out]))
    refine bodyPost_ret (v:=.tuple #[digV D,.nilIface]) (results_dig (fn:=Tryz.f10) (p:=4) (u:=5) rfl _ _ w1.heap.size _ _ rfl (setBlk_heap (blk_lt HR8.out)) (by rw [List.size_toArray,List.length_map];exact HDL.out)) rfl ?_
    rw [show R=(ml,D,0) from HPW.out.trans (if_pos (by trivial))]
    exact ⟨rfl,((HS8.out.setBlk HLE.out (.inl (.inr rfl)) _).sub P (fun b hb=>.inl (.inl hb))).more (by omega),fun b hb=>(setBlk_other (fun e=>by have:=HPL.out b hb;omega)).trans (HM8.out b hb)⟩
   ·have HY:=hZ hy
    have hv:errE y=.iface 76 (.int .i64 y):=if_neg hy
    have HV:=hZ hv
    rw [hv]
    clear hv hy
    go_wp2_with (first | (refine wpList_store_row rfl _ _ _ rfl w1.heap.size (zeroD.map byteV).toArray rfl rfl 33 z32 HR8.out hI32 hsz h1z ?_;rw [setRow_setBlk HR8.out]))
    refine bodyPost_ret (v:=.tuple #[digV zeroD,.iface 76 (.int .i64 y)]) (results_dig (fn:=Tryz.f10) (p:=4) (u:=5) rfl _ _ w1.heap.size _ _ rfl (setBlk_heap (blk_lt HR8.out)) rfl) rfl ?_
    rw [show R=(ml,zeroD,y) from HPW.out.trans (if_neg HY.out)]
    exact ⟨by rw [HV.out],((HS8.out.setBlk HLE.out (.inl (.inr rfl)) _).sub P (fun b hb=>.inl (.inl hb))).more (by omega),fun b hb=>(setBlk_other (fun e=>by have:=HPL.out b hb;omega)).trans (HM8.out b hb)⟩
end Go.Proofs.YtecgikanophonaaGreatDoor
