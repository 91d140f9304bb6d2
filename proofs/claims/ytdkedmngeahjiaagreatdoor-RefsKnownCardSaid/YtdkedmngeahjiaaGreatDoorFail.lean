/- The contract of fail. -/
import Derived.Test.YtdkedmngeahjiaaGreatDoorM9
import Derived.Test.YtdkedmngeahjiaaGreatDoorM14
set_option maxRecDepth 100000
set_option maxHeartbeats 25600000
namespace Go.Proofs.YtdkedmngeahjiaaGreatDoor
theorem gE{p:Prop}(h:p:=by rw[yI,beq_eq_false_iff_ne];exact h):p:=h
open Go Go.RowKit Go.Maps Go.Shelf Go.Sort
attribute [local go_sem] sR sS qN qO
theorem LF{w:World}{a n:Nat}{m:DM}{S:Nat→Prop}{bn bs:Nat}{pv fv kv:Value}{loc:Nat→Nat}{ks:List Int}(h:DiskIn w a n m S bn bs pv fv loc)(hk:IntsRd S w kv ks)(hn:n≤8000000000000):
  Calls Tryz.prog 70 #[.pointer (some ⟨a,0,none⟩),kv] w fun e w'=>e=.returned (.tuple #[])∧DiskPost a n (m.fail ks) S w w':=by
 obtain⟨c0,c1,c2,c3,c4,c5,c6⟩:=h.cells;have hmf:∀(fn:Fn) (first cap:Array Value) (w:World),(Instr.makeFunc fn first cap).run Tryz.prog w=.ok (.func fn first cap) w:=fun _ _ _ _=>rfl
 obtain⟨vs,hrv,hov,hiv⟩:=h.pend;obtain⟨pb,pcap,rfl,hpb⟩:=Cx hrv;obtain⟨kp,kcap,rfl,hkr⟩:=hk;have H:=hZ h
 have HOV:=hZ hov;have HPB:=hZ hpb
 have HKR:=hZ hkr;have HF0:FailA S w (w.alloc (.cells #[.slice kp ks.length kcap] 51)) bs loc m ks 0:=Ie h ⟨kp,kcap,rfl,hkr⟩
 have hb0:=lH h.head;clear h hrv hov hiv hpb hkr;go_enter Tryz.func70,Tryz.ntmps70;go_wp2_with fail;go_loopw [17] (fun iv wr=>∃i:Nat,i≤m.pend.length∧iv=.int .i64 i∧Hid (FailA S w wr bs loc m ks i)) (fun iv _=>(m.pend.length-intOf iv).toNat)
 case atStart=>exact⟨0,Nat.zero_le _,rfl,HF0⟩
 case round=>
  obtain⟨i,hi,rfl,HA⟩:=hrel;by_cases hlt:(i:Int)<(m.pend.length:Int)
  ·obtain⟨v,hvi,hop⟩:=HOV.out.at i m.pend[i] (List.getElem?_eq_getElem aC);obtain⟨g,cs,rfl,hgh,hcs⟩:=HPB.out i v hvi;obtain⟨k,lb,rfl,eg,hc⟩:=MD hop;have HOP:=hZ hop
   obtain⟨kv1,hbox,hrd⟩:=HA.out.box;have eg':∀(args:Array Value) (w:World),(callFunc k args).run Tryz.prog w=.ok (.enter k args) w:=eg
   have cv:wr.cell? ⟨g,i,none⟩=some (.func (.func k) #[] lb):=by
    rw[lF ((HA.out.off.block g (lH hgh) (fun e=>H.out.safe.ne hgh e.symm)).trans hgh)];exact hcs
   have hnx:=Gd hbox hrd;have hsn:=zF m.pend i m.pend[i] (List.getElem?_eq_getElem aC) ks m.safe
   have hpl:=rU (m.pend.take i) ks m.safe;have hsN:=H.out.ok.safeN
   have hll:(lJ (m.pend.take i) ks m.safe).length<maxLen:=by
    rw[List.length_take]at hpl;unfold maxLen;omega
   have HN:=hZ hsn;have HLL:=hZ hll
   clear hpl hsN hsn hll hop hcs hgh
   obtain⟨X,hX⟩:∃X,(ks.drop i).headD 0=X:=⟨_,rfl⟩
   rw[hX]at hnx;have HN:=hZ (hX▸HN.out)
   have hpi:(m.pend.length:Int)≤17592186044415:=by have:=H.out.ok.safeN;omega
   by_cases hodd:X%2=1
   ·have hb1:(bits .and .i64 X 1==1)=true:=by rw[Au,hodd];rfl
    go_wp2_with (first
     |(go_at_call 126;refine hnx.mono ?_;rintro e w1 ⟨rfl,kv2,hb2,hr2,ho2,hz2⟩;obtain⟨c3',hO1,hT1,hO2⟩:=Ge H.out HA.out HOP.out ho2;have HB2:=hZ hb2;have HR2:=hZ hr2;have HO2:=hZ hO2;have HO1:=hZ hO1;have HT1:=hZ hT1;clear hb2 hr2 hO2 hO1 hT1 ho2 hz2)
     |(go_at_fn k;refine(hc S _ bs _ HO1.out HT1.out HLL.out).mono ?_;rintro e w3 ⟨rfl,hT3,ht3⟩;have HF:=hZ (DK H.out HO2.out HB2.out HR2.out HT1.out ht3.grown (by rw[HN.out,if_pos hodd];exact hT3));clear hT3 ht3))
    go_roundw
    case rel=>exact⟨i+1,aC,rfl,HF⟩
    case measure=>simp[intOf];omega
   ·have hb1:(bits .and .i64 X 1==1)=false:=by rw[Au,beq_eq_false_iff_ne];exact hodd
    go_wp2_with (first
     |(go_at_call 126;refine hnx.mono ?_;rintro e w1 ⟨rfl,kv2,hb2,hr2,ho2,hz2⟩;obtain⟨c3',hO1,hT1,hO2⟩:=Ge H.out HA.out HOP.out ho2;have HF:=hZ (DK H.out hO2 hb2 hr2 hT1 (World.ownsMap.turned_refl hT1).grown (by rw[HN.out,if_neg hodd];exact hT1));clear hb2 hr2 hO2 hO1 hT1 ho2 hz2))
    go_roundw
    case rel=>exact⟨i+1,aC,rfl,HF⟩
    case measure=>simp[intOf];omega
  ·obtain rfl:i=m.pend.length:=by omega
   obtain⟨kv1,hbox,hrd⟩:=HA.out.box;have hT0:=HA.out.tab
   rw[List.take_length]at hT0;have hpl:=rU m.pend ks m.safe
   have hsN:=H.out.ok.safeN;have hab:a≠bs:=fun e=>H.out.safe.ne H.out.head e.symm
   have c3':wr.cell? ⟨a,3,none⟩=some (.map (some bs)):=(lK (HA.out.off.block a hb0 hab)).trans c3;have hkc:=DJ bs wr
   have hsc:=Bq hT0 (by rw[vZ];omega);have HT0:=hZ hT0
   have HBOX:=hZ hbox;have HRD:=hZ hrd
   clear hbox hrd hT0
   go_wp2_with (first
    |(go_at_call 53;refine hkc.mono ?_;rintro e w1 ⟨rfl,rfl⟩)
    |(go_at_call 52;refine hsc.mono ?_;rintro e w2 ⟨v,rfl,hrow,hb2⟩;obtain⟨np,ncap,rfl,hnp⟩:=Cx hrow;rw[vZ];have HNP:=hZ hnp;have HB2:=hZ hb2;clear hrow hnp hb2))
   have hz2:wr.heap.size+1≤w2.heap.size:=by have:=HB2.out.size;rwa[World.size_alloc]at this
   have HFB:=hZ (Gf H.out HA.out.off HBOX.out HRD.out HT0.out HB2.out HNP.out);have hTl:((lJ m.pend ks m.safe).length:Int)≤8000000000000:=aC
   clear HB2 HNP HBOX HRD HT0 HA;go_loopw [39] (fun iv wq=>∃j:Nat,j≤(lJ m.pend ks m.safe).length∧iv=.int .i64 j∧Hid (FailB S w wq bs loc m ks np j)) (fun iv _=>((lJ m.pend ks m.safe).length-intOf iv).toNat)
   case atStart=>exact⟨0,Nat.zero_le _,rfl,HFB⟩
   case round=>
    obtain⟨j,hj,rfl,HB⟩:=hrel;by_cases hlt2:(j:Int)<((lJ m.pend ks m.safe).length:Int)
    ·obtain⟨p,F,g,hp,hq,rfl,cn,htg,hFe,hFs,hFr,hfh,hpl2,c3q⟩:=Ll H.out HB.out aC;obtain⟨kv2,hbox2,hrd2⟩:=HB.out.box;have hnx:=Lm (F:=F) 1 hbox2 hrd2 hfh
     have HG:=sE (loc:=loc) htg;have hk:keyOf Tryz.prog 9 (.string ⟨p.1.toArray⟩)=some (.string p.1):=B5 (s:=⟨p.1.toArray⟩) (by show p.1.toArray.size≤_;rw[List.size_toArray];exact hpl2)
     have hT:=HB.out.tab;have d0:wr.cell? ⟨loc p.2,0,none⟩=some (.string F.data):=lF hfh
     have d1:wr.cell? ⟨loc p.2,1,none⟩=some (.int .i64 F.safe):=lF hfh;have hFs':(F.safe:Int)≤(F.data.size:Int):=aC
     have hFr':(F.data.size:Int)≤268435456:=by have:=H.out.ok.room;omega
     obtain⟨X,hX⟩:∃X,(ks.drop (m.pend.length+j)).headD 0=X:=⟨_,rfl⟩
     rw[hX]at hnx;have hnb:=fun(w1 w4:World) (kv:Value)=>If (w1:=w1) (w4:=w4) (kv:=kv) (F:=F) H.out HB.out hp hq hFe
     rw[hX]at hnb;have HX:=hZ hX
     have HNB:=hZ hnb;have HP:=hZ hp
     have HFE:=hZ hFe;have HFH:=hZ hfh
     have HFS:=hZ hFs;clear hnb hX hp hFe hfh hbox2 hrd2 hFs hFr htg hpl2;have hX4:X%4=0∨X%4=1∨X%4=2∨X%4=3:=aC
     have hb0:X%4=0→(bits .and .i64 X 3==0)=true:=fun h=>by rw[yI,h];rfl
     have hb0':X%4≠0→(bits .and .i64 X 3==0)=false:=fun h=>gE
     have hb2:X%4=2→(bits .and .i64 X 3==2)=true:=fun h=>by rw[yI,h];rfl
     have hb2':X%4≠2→(bits .and .i64 X 3==2)=false:=fun h=>gE
     have hb3:X%4=3→(bits .and .i64 X 3==3)=true:=fun h=>by rw[yI,h];rfl
     have hb3':X%4≠3→(bits .and .i64 X 3==3)=false:=fun h=>gE
     go_wp2_with (first
      |(at_lookup;refine oG rfl _ _ _ rfl 93 mH Tryz.underlying85 yZ bs _ rfl hT _ _ rfl hk ?_;rw[HG]))
     refine lT 10 mC aE ?_;simp only[List.take_succ_cons,List.take_zero,List.drop_succ_cons,List.drop_zero]
     repeat still_step
     refine wpStill_nil ?_
     obtain⟨R,hR⟩:∃R:Nat,F.safe+R=F.data.size:=⟨F.data.size-F.safe,aC⟩
     have hwr:IntKind.i64.wrap ((F.data.size:Int)-(F.safe:Int))=(R:Int):=by rw[show(F.data.size:Int)-(F.safe:Int)=(R:Int) by omega];exact xK aC aC
     rw[hwr];rcases hX4 with h4|h4|h4|h4
     ·have t0:=hb0 h4;have HL:=hZ (Nn (F:=F) h4)
      clear hb0 hb0' hb2 hb2' hb3 hb3';go_wp2_with (go_at_call 126;refine hnx.mono ?_;rintro e w1 ⟨rfl,d0',d1',f0',f1',HF1,kv3,HB3,HR3,HO3⟩);refine lT 10 mC aE ?_;simp only[List.take_succ_cons,List.take_zero,List.drop_succ_cons,List.drop_zero]
      repeat still_step
      refine wpStill_nil ?_;go_wp2_with fail;go_roundw
      case rel=>exact⟨j+1,aC,rfl,hZ (HNB.out w1 _ kv3 HB3.out HR3.out HO3.out (II w1 _ 1 _ _) (EH (w:=w1.drewN 1) (by rw[ByteArray.size_extract,Nat.sub_zero]) HF1.out HL.out))⟩
      case measure=>simp[intOf];omega
     ·have t0:=hb0' aC;have t2:=hb2' aC
      have t3:=hb3' aC;clear hb0 hb0' hb2 hb2' hb3 hb3';go_wp2_with (go_at_call 126;refine hnx.mono ?_;rintro e w1 ⟨rfl,d0',d1',f0',f1',HF1,kv3,HB3,HR3,HO3⟩);go_roundw
      case rel=>exact⟨j+1,aC,rfl,hZ (HNB.out w1 _ kv3 HB3.out HR3.out HO3.out ((Off.refl _ w1).setCell _ _ (fun _=>rfl)) (Ln HF1.out h4))⟩
      case measure=>simp[intOf];omega
     ·have t0:=hb0' aC;have t2:=hb2 h4
      have HL:=hZ (No (F:=F) h4 hR);clear hb0 hb0' hb2 hb2' hb3 hb3';go_wp2_with (go_at_call 126;refine hnx.mono ?_;rintro e w1 ⟨rfl,d0',d1',f0',f1',HF1,kv3,HB3,HR3,HO3⟩)
      obtain⟨Q,hQ⟩:∃Q:Nat,R/2=Q:=⟨_,rfl⟩
      obtain⟨E,hE⟩:∃E:Nat,F.safe+Q=E:=⟨_,rfl⟩
      have hq1:IntKind.i64.wrap ((R:Int)/2)=(Q:Int):=by
       rw[show(R:Int)/2=(Q:Int) by omega];exact xK aC aC
      have hq2:IntKind.i64.wrap ((F.safe:Int)+(Q:Int))=(E:Int):=by
       rw[show(F.safe:Int)+(Q:Int)=(E:Int) by omega];exact xK aC aC
      have hq3:(E:Int)≤(F.data.size:Int):=aC;have HL:=hZ (show F.left X=F.data.extract 0 E by rw[HL.out,hQ,hE])
      refine lT 13 mC aE ?_;simp only[List.take_succ_cons,List.take_zero,List.drop_succ_cons,List.drop_zero]
      repeat still_step
      refine wpStill_nil ?_;go_wp2_with fail;go_roundw
      case rel=>exact⟨j+1,aC,rfl,hZ (HNB.out w1 _ kv3 HB3.out HR3.out HO3.out (II w1 _ 1 _ _) (EH (w:=w1.drewN 1) (by rw[ByteArray.size_extract,Nat.sub_zero]) HF1.out HL.out))⟩
      case measure=>simp[intOf];omega
     ·have t0:=hb0' aC;have t2:=hb2' aC
      have t3:=hb3 h4;have HL:=hZ (Np (F:=F) h4 hR)
      clear hb0 hb0' hb2 hb2' hb3 hb3';go_wp2_with (go_at_call 126;refine hnx.mono ?_;rintro e w1 ⟨rfl,d0',d1',f0',f1',HF1,kv3,HB3,HR3,HO3⟩);refine sP (InvR w1 (loc p.2) F) 13 aE aE (InvR.of HF1.out ((Below.refl _ w1).drew)) ?_;simp only[List.take_succ_cons,List.take_zero,List.drop_succ_cons,List.drop_zero];have hrep:=fun W=>Gg R W aC
      refine⟨_,mJ rfl (fun W hI=>aV),?_⟩;refine⟨_,mJ rfl (fun W hI=>aV),?_⟩;refine⟨_,mJ rfl (fun W hI=>aV),?_⟩;refine⟨_,mJ rfl (fun W hI=>aV),?_⟩;refine⟨_,mJ rfl (fun W hI=>by have c:=hI.c0;go_simp;rfl),?_⟩;refine⟨_,mJ rfl (fun W hI=>aV),?_⟩;refine⟨_,mJ rfl (fun W hI=>aV),?_⟩;refine⟨_,mJ rfl (fun W hI=>aV),?_⟩;refine⟨_,mJ rfl (fun W hI=>lC),?_⟩;refine⟨_,mJ rfl (fun W hI=>aV),?_⟩;refine⟨_,mJ rfl (fun W hI=>aV),?_⟩;refine⟨_,Bz rfl (fun W hI=>by go_simp) (fun W hI=>(hrep W).mono fun e W' ⟨he,hb⟩=>⟨he,InvR.of HF1.out (hI.bel.trans (hb.mono hI.bel.size))⟩),?_⟩;refine⟨_,mJ rfl (fun W hI=>by go_simp;rw[if_neg aC]),?_⟩;rintro W7 hI7;change wpList _ _ _ _ _ W7;have c0:=hI7.c0
      have f0:W7.frozen? ⟨loc p.2,0,none⟩=false:=lI hI7.hh;have f1:W7.frozen? ⟨loc p.2,1,none⟩=false:=lI hI7.hh
      have c1:=hI7.c1;have H7:=hZ hI7
      clear hI7 hrep;go_wp2_with fail;go_roundw
      case rel=>exact⟨j+1,aC,rfl,hZ (HNB.out w1 _ kv3 HB3.out HR3.out HO3.out (Lp _ _ _ H7.out.bel) (EH (by rw[ByteArray.size_append,ByteArray.size_extract,Nat.sub_zero,show(⟨Array.replicate R 0⟩:ByteArray).size=R from Be R];rfl) H7.out.hh HL.out))⟩
      case measure=>simp[intOf];omega
    ·obtain rfl:j=(lJ m.pend ks m.safe).length:=by omega
     have hcl:=Cw HB.out.tab;have hh:=zR H.out HB.out
     have q2:wr.cell? ⟨a,2,none⟩=some (.map (some bn)):=lF hh;have q3:wr.cell? ⟨a,3,none⟩=some (.map (some bs)):=lF hh
     have HH:=hZ hh;clear hh;go_wp2_with (go_at_call 97;refine hcl.mono ?_;rintro e wc ⟨rfl,hT,hbc⟩;have hhc:=(hbc.block a (lH HH.out)).trans HH.out;have q0':wc.cell? ⟨a,0,none⟩=some (.bool m.off):=lF hhc;have q2':wc.cell? ⟨a,2,none⟩=some (.map (some bn)):=lF hhc;have q4':wc.cell? ⟨a,4,none⟩=some (.slice pb m.pend.length pcap):=lF hhc;have q5':wc.cell? ⟨a,5,none⟩=some (.int .i64 m.armed):=lF hhc;have q6':wc.cell? ⟨a,6,none⟩=some fv:=lF hhc;have fq:∀i:Nat,wc.frozen? ⟨a,i,none⟩=false:=fun i=>lI hhc;have HC:=hZ hbc;have HT:=hZ hT;clear hbc hT hhc);go_end0;exact⟨rfl,Lo H.out HB.out HC.out HT.out⟩
theorem DT:EC:=fun w a n m S kv ks hd hk hn=>by
 obtain⟨bn,bs,pv,fv,loc,h⟩:=hd;exact LF h hk hn
end Go.Proofs.YtdkedmngeahjiaaGreatDoor
