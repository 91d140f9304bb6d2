import Derived.Test.YtdkedmngeahjiaaGreatDoorRfG
import Derived.Test.YtdkedmngeahjiaaGreatDoorM23
import Derived.Test.YtdkedmngeahjiaaGreatDoorM14
import Derived.Test.YtdkedmngeahjiaaGreatDoorM21
set_option maxRecDepth 100000
set_option maxHeartbeats 25600000
namespace Go.Proofs.YtdkedmngeahjiaaGreatDoor
theorem cP{p:Prop}(h:p:=by exact flS rfl aD (hW.upd aA aA aA) rfl):p:=h
theorem cV{p:Prop}(h:p:=by exact⟨_,rfl,.still (hW.did (hd 3 aA) (hd 5 aA) h2 (fun b hb=>(h3 b hb).trans (hsm b hb))) rfl⟩):p:=h
theorem dA{p:Prop}(h:p:=by have hff:=hf 48;clear hf;unfold handR;go_simp<;>rfl):p:=h
theorem dB{p:Prop}(h:p:=by exact⟨_,rfl,.still (hW.grew hb (hW.no5 hL) (hd 4 aA)) rfl⟩):p:=h
open Go Go.RowKit
theorem oR{L:Nat→Bool}{i k:Nat}(h:L k=true):mQ L i k=true:=by
 by_cases e:k=i
 ·subst e;exact nV
 ·rw[mB e];exact h
structure RemW (w:World) (S P:Nat→Prop) (a n':Nat) (m':DM) (W1:World) (L:Nat→Bool) (_:Unit) (W:World):Prop where
 lo:L 6=false→Below W1.heap.size W1 W
 hi:L 6=true→St w S P a W n' m'∧SameP P W1 W
 dep:L 6=true→L 3=true∧L 4=true∧L 5=true
 dep5:L 5=true→L 4=true
section
variable {w:World} {S P:Nat→Prop} {a n':Nat} {m':DM} {W1 W W':World} {L:Nat→Bool} {γ:Unit}
theorem RemW.upd{i:Nat}(h:RemW w S P a n' m' W1 L γ W)(h6:i≠6)(h5:i≠5)(_:i=i):RemW w S P a n' m' W1 (mQ L i) γ W:=by
 have e6:mQ L i 6=L 6:=mB (fun e=>h6 e.symm);have e5:mQ L i 5=L 5:=mB (fun e=>h5 e.symm)
 refine⟨fun e=>h.lo (e6▸e),fun e=>h.hi (e6▸e),fun e=>?_,fun e=>oR (h.dep5 (e5▸e))⟩;obtain⟨h3,h4,h5⟩:=h.dep (e6▸e);exact⟨oR h3,oR h4,oR h5⟩
theorem RemW.no3(h:RemW w S P a n' m' W1 L γ W)(h3:L 3=false):L 6=false:=by
 cases e:L 6 with
 |false=>rfl
 |true=>have:=(h.dep e).1;rw[h3]at this;cases this
theorem RemW.no4(h:RemW w S P a n' m' W1 L γ W)(h3:L 4=false):L 6=false:=by
 cases e:L 6 with
 |false=>rfl
 |true=>have:=(h.dep e).2.1;rw[h3]at this;cases this
theorem RemW.no5(h:RemW w S P a n' m' W1 L γ W)(h3:L 5=false):L 6=false:=by
 cases e:L 6 with
 |false=>rfl
 |true=>have:=(h.dep e).2.2;rw[h3]at this;cases this
theorem RemW.grew(h:RemW w S P a n' m' W1 L γ W)(hb:Below W.heap.size W W')(h6:L 6=false)(h4:L 4=true):RemW w S P a n' m' W1 (mQ L 5) γ W':=by
 have e6:mQ L 5 6=L 6:=mB aA;have hB:=h.lo h6
 exact⟨fun _=>hB.trans (hb.mono hB.size),fun e=>(by rw[e6,h6]at e;cases e),fun e=>(by rw[e6,h6]at e;cases e),fun _=>oR h4⟩
theorem RemW.did(h:RemW w S P a n' m' W1 L γ W)(h3:L 3=true)(h5:L 5=true)(hs:St w S P a W' n' m')(hk:SameP P W1 W'):RemW w S P a n' m' W1 (mQ L 6) γ W':=
 ⟨fun e=>(by rw[nV]at e;cases e),fun _=>⟨hs,hk⟩,fun _=>⟨oR h3,oR (h.dep5 h5),oR h5⟩,fun _=>oR (h.dep5 h5)⟩
end
structure SetS (w:World) (S P:Nat→Prop) (rb a db:Nat) (D:List UInt8) (w1 W:World) (n:Nat) (m:DM):Prop where
 rf:Rf w S (fun b=>P b∨b=db) rb a W n m
 dg:W.heap[db]?=some (.cells (D.map lG).toArray 33 (0,0))
 sm:SameP P w1 W
section
variable {w w1 W W':World} {S P:Nat→Prop} {rb a db n n':Nat} {m m':DM} {D:List UInt8}
theorem SetS.op(h:SetS w S P rb a db D w1 W n m)(hs:St w S (fun b=>P b∨b=db) a W' n' m')(hk:SameP (fun b=>P b∨b=db) W W'):SetS w S P rb a db D w1 W' n' m':=
 ⟨h.rf.step hs hk,(hk db (.inr rfl)).trans h.dg,fun b hb=>(hk b (.inl hb)).trans (h.sm b hb)⟩
theorem SetS.bel(h:SetS w S P rb a db D w1 W n m)(hb:Below W.heap.size W W'):SetS w S P rb a db D w1 W' n m:=h.op (h.rf.bel hb).st (h.rf.st.same hb)
theorem SetS.fin(h:SetS w S P rb a db D w1 W n m)(hn:n≤n'):St w S P a W n' m∧SameP P w1 W:=⟨(h.rf.st.sub P (fun b hb=>.inl hb)).more hn,h.sm⟩
end
theorem BH{w w1 w':World}{S P:Nat→Prop}{a n:Nat}{m m':DM}{e:Ending}{y:Int}{v:Value}(hp:Aw w S P a n w1 (qF m) e w')(he:qF m=(m',y))(hv:nG y=v):e=.returned v∧St w S P a w' (n+2) m'∧SameP P w1 w':=by
 unfold Aw at hp;rw[he,hv]at hp;exact hp
theorem pO{n:ByteArray}{p:DM×Int}{m:DM}(h:p=(m,0)):pU n p=pE (m.op (.sync handR)) fun m=>pE (m.op (.rename handR n)) fun m=>m.op .flush:=by rw[h];rfl
theorem uO{n:ByteArray}{p:DM×Int}{m:DM}(h:p=(m,28)):pU n p=((qF m).1,28):=by rw[h];rfl
theorem xZ{n:ByteArray}{p:DM×Int}{m:DM}{y:Int}(h:p=(m,y))(h0:y≠0)(h28:y≠28):pU n p=(m,y):=by
 rw[h];unfold pU;rw[if_neg h0,if_neg h28]
theorem Ag{w w1:World}{S P:Nat→Prop}{rb a n:Nat}{m:DM}(h:Rf w S P rb a w1 n m)(hn:n+7≤4000000000)(s:ByteArray)(hs:(s.size:Int)≤140737488355328)(D:List UInt8)(hD:D.length=32):
  Calls Tryz.prog 15 #[.pointer (some ⟨rb,0,none⟩),.string s,nH D] w1 (RfPost w S P a (n+7) w1 (tX m s.data.toList D)):=by
 have hfu:=fun W:World=>rZ s hs W
 unfold vG at hfu;have HDL:=hZ hD
 obtain⟨W1,hW1⟩:∃W,w1.alloc (.cells (D.map lG).toArray 33)=W:=⟨_,rfl⟩
 have hb1:Below w1.heap.size w1 W1:=aQ
 have HS1:Hid (SetS w S P rb a w1.heap.size D w1 W1 n m):=hZ ⟨h.more hb1 _ (fun b hb=>.inl hb) (fun b hb=>by
  rcases hb with hb|rfl
  ·exact .inl hb
  ·exact .inr ⟨Nat.le_refl _,by rw[←hW1,World.size_alloc];omega⟩),cB,h.st.same hb1⟩
 have HTX:=hZ (fun W:World=>E5 D hD W)
 have hTs:(nA D).size=71:=by
  show(shaHead++uB D).length=71;rw[List.length_append,uC,hD]
  rfl
 obtain⟨T,hT⟩:∃T,nA D=T:=⟨_,rfl⟩
 unfold RfPost tX;rw[hT]at HTX hTs⊢;have HTS:=hZ (show T.size≤140737488355328 by omega)
 have hfl:=fun u h=>(pD (s:=s.data.toList) (u:=u) h).2.1
 unfold nH at HTX⊢;clear h hb1 hT hTs hD
 cases hf:nO s.data.toList with
 |none=>
  rw[hf]at hfu;have hfu2:∀W:World,Calls Tryz.prog 9 #[.string s] W fun e w'=>e=.returned (.tuple #[.string ⟨#[]⟩,.iface 132 (.agg #[.string rY,nJ 31])])∧Below W.heap.size W w':=hfu
  clear hfu hf hfl;go_enter Tryz.func15,Tryz.ntmps15;go_wp2_with fail;refine(hfu2 _).mono ?_;rintro e w2 ⟨rfl,hb2⟩;have HS2:=hZ (HS1.out.bel hb2)
  clear hb2;go_wp2_with fail;go_ret;exact⟨⟨rY,rfl⟩,HS2.out.fin aC⟩
 |some u=>
  rw[hf]at hfu;have hul:=hfl u hf
  have hfu2:∀W:World,Calls Tryz.prog 9 #[.string s] W fun e w'=>e=.returned (.tuple #[.string ⟨u.toArray⟩,.nilIface])∧Below W.heap.size W w':=hfu
  have happ:=wI u;have hzz:=pY u
  simp only;unfold qR;generalize nR u=N at happ hzz⊢;have hus:(((⟨u.toArray⟩:ByteArray).size:Nat):Int)≤96:=dR
  generalize (⟨u.toArray⟩:ByteArray)=U at hfu2 happ hus;have HNS:=hZ (show N.size≤maxLen by unfold maxLen;omega)
  have hrd:=fun W (hst:St w S (fun b=>P b∨b=w1.heap.size) a W n m)=>wV hst handR aA
  have hcr:qQ m=if(m.reads handR).2=0 then qF m else if(m.reads handR).2=10 then(m,0)else(m,(m.reads handR).2):=rfl
  generalize qQ m=CR at hcr⊢
  obtain⟨T0,hT0⟩:∃T,(m.reads handR).1=T:=⟨_,rfl⟩
  obtain⟨y0,hy0⟩:∃y,(m.reads handR).2=y:=⟨_,rfl⟩
  rw[hT0,hy0]at hrd;rw[hy0]at hcr;clear hfu hf hfl hzz hul hT0 hy0;by_cases hz0:y0=0
  ·subst hz0;have HRD:Hid (∀W,St w S (fun b=>P b∨b=w1.heap.size) a W n m→Calls Tryz.prog 40 #[.pointer (some ⟨a,0,none⟩),.string handR] W fun e w'=>e=.returned (.tuple #[.string T0,.nilIface])∧W=w'):=hZ hrd
   rw[if_pos rfl]at hcr;have HCR:=hZ hcr
   clear hrd hcr;unfold handR at HRD;go_enter Tryz.func15,Tryz.ntmps15;go_wp2_with fail;refine(hfu2 _).mono ?_;rintro e w2 ⟨rfl,hb2⟩;have HS2:=hZ (HS1.out.bel hb2)
   have c2:=HS2.out.rf.cell;clear hb2 hW1 hfu2;go_wp2_with fail;refine(HRD.out _ HS2.out.rf.st).mono ?_;rintro e w3 ⟨rfl,rfl⟩;go_wp2_with fail;refine(CA HS2.out.rf aC).mono ?_;intro e w5 hp;by_cases hy:(qF m).2=0
   ·obtain⟨m5,h1⟩:∃mj,qF m=(mj,0):=⟨_,cC⟩
    obtain⟨rfl,hs8,hk8⟩:=BH hp h1 (show nG 0=.nilIface from rfl);have HS5:=hZ (HS2.out.op hs8 hk8)
    have HCL:Hid (CR=(m5,0)):=hZ (HCR.out.trans h1);have c5:=HS5.out.rf.cell
    clear hp hy hs8 hk8 h1 c2;go_wp2_with fail;refine(AG HS5.out.rf.st handR aA aC).mono ?_;intro e w11 hp;by_cases hy:(m5.op (.create handR)).2=0
    ·obtain⟨m11,h1⟩:∃mj,m5.op (.create handR)=(mj,0):=⟨_,cC⟩
     obtain⟨rfl,hs8,hk8⟩:=hp.eq h1 (show nG 0=.nilIface from rfl);have HS11:=hZ (HS5.out.op hs8 hk8)
     have HOP11:=hZ h1;have c11:=HS11.out.rf.cell
     clear hp hy hs8 hk8 h1 c5;go_wp2_with fail
     obtain⟨yw,hyw'⟩:∃y,(m11.op (.write handR T)).2=y:=⟨_,rfl⟩
     obtain⟨mw,hmw⟩:∃mj,m11.op (.write handR T)=(mj,yw):=⟨_,by rw[←hyw']⟩
     have HOPW:=hZ hmw
     obtain⟨NN,hNN⟩:∃NN,NN=n+2+1:=⟨_,rfl⟩
     rw[←hNN]at HS11;have HNN:=hZ (show NN+4≤4000000000 by omega)
     clear hyw' hmw;by_cases hyw:yw=0
     ·subst hyw;have HVW:Hid (nG 0=.nilIface):=hZ rfl
      have hI0:RemW w S (fun b=>P b∨b=w1.heap.size) a (NN+1) mw w11 (fun _=>false) () w11.drew:=⟨fun _=>⟨rfl,rfl,rfl,Nat.le_refl _,fun _ _=>rfl⟩,fun h=>aK,fun h=>aK,fun h=>aK⟩
      refine lQ (fun _:Unit=>[.pointer (some ⟨rb,0,none⟩),.pointer (some ⟨rb,0,none⟩),.pointer (some ⟨rb,0,none⟩),.pointer (some ⟨a,0,none⟩),.agg (D.map lG).toArray,.string T,.nilIface,.nilIface]) (RemW w S (fun b=>P b∨b=w1.heap.size) a (NN+1) mw w11)
       [[],[0],[1],[2],[],[4],[3,5,5],[6,6,0,1,2,3,4,5,6]] 99 () mC rfl aE (fun _=>rfl) hI0 ?_ ?_
      ·refine⟨?_,?_,?_,?_,?_,?_,?_,?_,rfl⟩
       all_goals intro L γ W ev hL hd hW hc hf hg he h0
       ·have e0:ev (.tmp 0)=.pointer (some ⟨rb,0,none⟩):=h0 0 rfl;clear he h0 hc hf hg;exact cP
       ·have e6:ev (.tmp 57)=.pointer (some ⟨rb,0,none⟩):=he 0 aA _ 57 rfl rfl;clear he h0 hc hf hg;exact cP
       ·have e7:ev (.tmp 58)=.pointer (some ⟨rb,0,none⟩):=he 1 aA _ 58 rfl rfl;clear he h0 hc hf hg;exact cP
       ·have e8:ev (.tmp 59)=.pointer (some ⟨rb,0,none⟩):=he 2 aA _ 59 rfl rfl;have hB:=hW.lo (hW.no3 hL)
        have c0:W.cell? ⟨rb,0,none⟩=some (.pointer (some ⟨a,0,none⟩)):=(HS11.out.bel hB).rf.cell;clear he h0 hc hf hg;exact cP
       ·have e3:ev (.tmp 5)=.pointer (some ⟨w1.heap.size,0,none⟩):=h0 5 rfl;clear he h0 hc hg;have hB:=hW.lo (hW.no4 hL)
        have hlv:=run_loadVar_row (P:=Tryz.prog) W w1.heap.size 33 33 (D.map lG).toArray (0,0) _ (HS11.out.bel hB).dg nD rfl (lX HDL.out);refine .inl ⟨rfl,.inl ⟨_,W,?_,.still (hW.upd aA aA aA) rfl⟩⟩;unfold execOp;simp only[e3,Instr.loadAt,Instr.sureAddr,Sem.run_bind,Sem.run_pure,Result.andThen_ok,hlv]
        try rfl
       ·have e10:ev (.tmp 61)=.agg (D.map lG).toArray:=he 4 aA _ 61 rfl rfl;clear he h0 hc hg;refine .inl ⟨rfl,.inr (.inr ⟨49,#[.agg (D.map lG).toArray],W,cZ,?_⟩)⟩;refine(HTX.out W).mono ?_;rintro e w' ⟨rfl,hb⟩;exact dB
       ·have e9:ev (.tmp 60)=.pointer (some ⟨a,0,none⟩):=he 3 aA _ 60 rfl rfl;have e11:ev (.tmp 62)=.string T:=he 5 aA _ 62 rfl rfl
        have hcc:=hc;clear he h0 hc hg;have hB:=hW.lo hL
        have hst:=(HS11.out.bel hB).rf.st;have hsm:=HS11.out.rf.st.same hB
        refine .inl ⟨rfl,.inr (.inr ⟨48,#[.pointer (some ⟨a,0,none⟩),.string handR,.string T],W,dA,?_⟩)⟩;refine(uM hst handR T aA HTS.out eY).mono ?_;intro e w' hp;obtain⟨rfl,h2,h3⟩:=hp.eq HOPW.out HVW.out;have HNE:=HNN.out
        exact cV
       ·have e12:ev (.tmp 63)=.nilIface:=he 6 aA _ 63 rfl rfl;clear he h0 hc hf hg;exact cP
      intro γ L W4 hL hW;obtain⟨hst2,hsm2⟩:=hW.hi (hL 6 aA);have HS4:=hZ (HS11.out.op hst2 hsm2)
      have c4:=HS4.out.rf.cell;clear hL hW hst2 hsm2 hI0 c11;simp only[nX,Act.put,List.setIfInBounds_toArray,List.set_cons_succ,List.set_cons_zero];go_wp2_with fail;refine(Em HS4.out.rf.st handR aA aC).mono ?_;intro e w12 hp;by_cases hy:(mw.op (.sync handR)).2=0
      ·obtain⟨m12,h1⟩:∃mj,mw.op (.sync handR)=(mj,0):=⟨_,cC⟩
       obtain⟨rfl,hs8,hk8⟩:=hp.eq h1 (show nG 0=.nilIface from rfl);have HS12:=hZ (HS4.out.op hs8 hk8)
       have HOP12:=hZ h1;have c12:=HS12.out.rf.cell
       clear hp hy hs8 hk8 h1 c4;go_wp2_with fail;refine(Dl HS12.out.rf.st handR N aA HNS.out aC).mono ?_;intro e w13 hp;by_cases hy:(m12.op (.rename handR N)).2=0
       ·obtain⟨m13,h1⟩:∃mj,m12.op (.rename handR N)=(mj,0):=⟨_,cC⟩
        obtain⟨rfl,hs8,hk8⟩:=hp.eq h1 (show nG 0=.nilIface from rfl);have HS13:=hZ (HS12.out.op hs8 hk8)
        have HOP13:=hZ h1;have c13:=HS13.out.rf.cell
        clear hp hy hs8 hk8 h1 c12;go_wp2_with fail;refine(uN HS13.out.rf.st aC).mono ?_;intro e w14 hp
        obtain⟨y,hy2⟩:∃y,(m13.op .flush).2=y:=⟨_,rfl⟩
        obtain⟨mk,h2⟩:∃mk,m13.op .flush=(mk,y):=⟨_,by rw[←hy2]⟩
        obtain⟨rfl,hs8,hk8⟩:=hp.eq h2 rfl;have HS14:=hZ (HS13.out.op hs8 hk8)
        have HOP14:=hZ h2;have htl:=fun W:World=>nQ pS y W
        unfold pS at htl;clear hp hs8 hk8 h2 hy2;go_wp2_with (go_at_call 34;refine(htl _).mono ?_;rintro e w10 ⟨rfl,rfl⟩);go_ret;rw[lN _ HCL.out,lN _ HOP11.out];rw[pO HOPW.out,lN _ HOP12.out,lN _ HOP13.out,HOP14.out];exact⟨⟨_,rfl⟩,HS14.out.fin aC⟩
       ·obtain⟨y13,hyy⟩:∃y,(m12.op (.rename handR N)).2=y:=⟨_,rfl⟩
        rw[hyy]at hy
        obtain⟨m13,h1⟩:∃mj,m12.op (.rename handR N)=(mj,y13):=⟨_,bU⟩
        obtain⟨rfl,hs8,hk8⟩:=hp.eq h1 (nK hy);have HS13:=hZ (HS12.out.op hs8 hk8)
        have HOP13:=hZ h1;have HY13:=hZ hy
        have HV:=hZ (nK hy);have c13:=HS13.out.rf.cell
        clear hp hs8 hk8 h1 c12 hyy hy;have htl:=fun W:World=>nQ pS y13 W
        rw[HV.out]at htl;unfold pS at htl;go_wp2_with (go_at_call 34;refine(htl _).mono ?_;rintro e w9 ⟨rfl,rfl⟩);go_ret;rw[show(pE CR fun m=>pE (m.op (.create handR)) fun m=>pU N (m.op (.write handR T)))=(m13,y13)from(by rw[lN _ HCL.out,lN _ HOP11.out];rw[pO HOPW.out,lN _ HOP12.out];exact nU _ HOP13.out HY13.out)];exact⟨⟨_,rfl⟩,HS13.out.fin aC⟩
      ·obtain⟨y12,hyy⟩:∃y,(mw.op (.sync handR)).2=y:=⟨_,rfl⟩
       rw[hyy]at hy
       obtain⟨m12,h1⟩:∃mj,mw.op (.sync handR)=(mj,y12):=⟨_,bU⟩
       obtain⟨rfl,hs8,hk8⟩:=hp.eq h1 (nK hy);have HS12:=hZ (HS4.out.op hs8 hk8)
       have HOP12:=hZ h1;have HY12:=hZ hy
       have HV:=hZ (nK hy);have c12:=HS12.out.rf.cell
       clear hp hs8 hk8 h1 c4 hyy hy;have htl:=fun W:World=>nQ pS y12 W
       rw[HV.out]at htl;unfold pS at htl;go_wp2_with (go_at_call 34;refine(htl _).mono ?_;rintro e w9 ⟨rfl,rfl⟩);go_ret;rw[show(pE CR fun m=>pE (m.op (.create handR)) fun m=>pU N (m.op (.write handR T)))=(m12,y12)from(by rw[lN _ HCL.out,lN _ HOP11.out];rw[pO HOPW.out];exact nU _ HOP12.out HY12.out)];exact⟨⟨_,rfl⟩,HS12.out.fin aC⟩
     ·have HVW:=hZ (nK hyw);have HYW:=hZ hyw
      have HV:=HVW;have hie:=fun W:World=>Ma yw 28 aA W
      rw[HVW.out,show nJ 28=.iface 71 (.int .i64 28)from rfl]at hie;clear hyw;by_cases h28:yw=28
      ·have hb28:(yw==28)=true:=beq_iff_eq.2 h28;rw[hb28]at hie;have H28:=hZ h28
       clear hb28 h28;have hI0:RemW w S (fun b=>P b∨b=w1.heap.size) a (NN+1) mw w11 (fun _=>false) () w11.drew:=⟨fun _=>⟨rfl,rfl,rfl,Nat.le_refl _,fun _ _=>rfl⟩,fun h=>aK,fun h=>aK,fun h=>aK⟩
       refine lQ (fun _:Unit=>[.pointer (some ⟨rb,0,none⟩),.pointer (some ⟨rb,0,none⟩),.pointer (some ⟨rb,0,none⟩),.pointer (some ⟨a,0,none⟩),.agg (D.map lG).toArray,.string T,.iface 71 (.int .i64 yw),.iface 71 (.int .i64 yw)]) (RemW w S (fun b=>P b∨b=w1.heap.size) a (NN+1) mw w11)
        [[],[0],[1],[2],[],[4],[3,5,5],[6,6,0,1,2,3,4,5,6]] 99 () mC rfl aE (fun _=>rfl) hI0 ?_ ?_
       ·refine⟨?_,?_,?_,?_,?_,?_,?_,?_,rfl⟩
        all_goals intro L γ W ev hL hd hW hc hf hg he h0
        ·have e0:ev (.tmp 0)=.pointer (some ⟨rb,0,none⟩):=h0 0 rfl;clear he h0 hc hf hg;exact cP
        ·have e6:ev (.tmp 57)=.pointer (some ⟨rb,0,none⟩):=he 0 aA _ 57 rfl rfl;clear he h0 hc hf hg;exact cP
        ·have e7:ev (.tmp 58)=.pointer (some ⟨rb,0,none⟩):=he 1 aA _ 58 rfl rfl;clear he h0 hc hf hg;exact cP
        ·have e8:ev (.tmp 59)=.pointer (some ⟨rb,0,none⟩):=he 2 aA _ 59 rfl rfl;have hB:=hW.lo (hW.no3 hL)
         have c0:W.cell? ⟨rb,0,none⟩=some (.pointer (some ⟨a,0,none⟩)):=(HS11.out.bel hB).rf.cell;clear he h0 hc hf hg;exact cP
        ·have e3:ev (.tmp 5)=.pointer (some ⟨w1.heap.size,0,none⟩):=h0 5 rfl;clear he h0 hc hg;have hB:=hW.lo (hW.no4 hL)
         have hlv:=run_loadVar_row (P:=Tryz.prog) W w1.heap.size 33 33 (D.map lG).toArray (0,0) _ (HS11.out.bel hB).dg nD rfl (lX HDL.out);refine .inl ⟨rfl,.inl ⟨_,W,?_,.still (hW.upd aA aA aA) rfl⟩⟩;unfold execOp;simp only[e3,Instr.loadAt,Instr.sureAddr,Sem.run_bind,Sem.run_pure,Result.andThen_ok,hlv]
         try rfl
        ·have e10:ev (.tmp 61)=.agg (D.map lG).toArray:=he 4 aA _ 61 rfl rfl;clear he h0 hc hg;refine .inl ⟨rfl,.inr (.inr ⟨49,#[.agg (D.map lG).toArray],W,cZ,?_⟩)⟩;refine(HTX.out W).mono ?_;rintro e w' ⟨rfl,hb⟩;exact dB
        ·have e9:ev (.tmp 60)=.pointer (some ⟨a,0,none⟩):=he 3 aA _ 60 rfl rfl;have e11:ev (.tmp 62)=.string T:=he 5 aA _ 62 rfl rfl
         have hcc:=hc;clear he h0 hc hg;have hB:=hW.lo hL
         have hst:=(HS11.out.bel hB).rf.st;have hsm:=HS11.out.rf.st.same hB
         refine .inl ⟨rfl,.inr (.inr ⟨48,#[.pointer (some ⟨a,0,none⟩),.string handR,.string T],W,dA,?_⟩)⟩;refine(uM hst handR T aA HTS.out eY).mono ?_;intro e w' hp;obtain⟨rfl,h2,h3⟩:=hp.eq HOPW.out HVW.out;have HNE:=HNN.out
         exact cV
        ·have e12:ev (.tmp 63)=.iface 71 (.int .i64 yw):=he 6 aA _ 63 rfl rfl;clear he h0 hc hf hg;exact cP
       intro γ L W4 hL hW;obtain⟨hst2,hsm2⟩:=hW.hi (hL 6 aA);have HS4:=hZ (HS11.out.op hst2 hsm2)
       have c4:=HS4.out.rf.cell;clear hL hW hst2 hsm2 hI0 c11;simp only[nX,Act.put,List.setIfInBounds_toArray,List.set_cons_succ,List.set_cons_zero];go_wp2_with (go_at_call 41;refine(hie _).mono ?_;rintro e w5 ⟨rfl,rfl⟩)
       obtain⟨yg,hyg⟩:∃y,(qF mw).2=y:=⟨_,rfl⟩
       obtain⟨mg,hmg⟩:∃mg,qF mw=(mg,yg):=⟨_,by rw[←hyg]⟩
       refine(CA HS4.out.rf aC).mono ?_;intro e w6 hp;obtain⟨rfl,hs8,hk8⟩:=BH hp hmg rfl;have HS6:=hZ (HS4.out.op hs8 hk8)
       have HG:=hZ hmg;clear hp hs8 hk8 hmg hyg;have htl:=fun W:World=>nQ pS yw W
       rw[HV.out]at htl;unfold pS at htl;go_wp2_with (go_at_call 34;refine(htl _).mono ?_;rintro e w9 ⟨rfl,rfl⟩);go_ret;rw[show(pE CR fun m=>pE (m.op (.create handR)) fun m=>pU N (m.op (.write handR T)))=(mg,yw)from(by rw[lN _ HCL.out,lN _ HOP11.out];rw[uO (HOPW.out.trans (by rw[H28.out])),HG.out,H28.out])];exact⟨⟨_,rfl⟩,HS6.out.fin aC⟩
      ·have hb28:(yw==28)=false:=beq_eq_false_iff_ne.2 h28;rw[hb28]at hie;have H28:=hZ h28
       clear hb28 h28;have hI0:RemW w S (fun b=>P b∨b=w1.heap.size) a (NN+1) mw w11 (fun _=>false) () w11.drew:=⟨fun _=>⟨rfl,rfl,rfl,Nat.le_refl _,fun _ _=>rfl⟩,fun h=>aK,fun h=>aK,fun h=>aK⟩
       refine lQ (fun _:Unit=>[.pointer (some ⟨rb,0,none⟩),.pointer (some ⟨rb,0,none⟩),.pointer (some ⟨rb,0,none⟩),.pointer (some ⟨a,0,none⟩),.agg (D.map lG).toArray,.string T,.iface 71 (.int .i64 yw),.iface 71 (.int .i64 yw)]) (RemW w S (fun b=>P b∨b=w1.heap.size) a (NN+1) mw w11)
        [[],[0],[1],[2],[],[4],[3,5,5],[6,6,0,1,2,3,4,5,6]] 99 () mC rfl aE (fun _=>rfl) hI0 ?_ ?_
       ·refine⟨?_,?_,?_,?_,?_,?_,?_,?_,rfl⟩
        all_goals intro L γ W ev hL hd hW hc hf hg he h0
        ·have e0:ev (.tmp 0)=.pointer (some ⟨rb,0,none⟩):=h0 0 rfl;clear he h0 hc hf hg;exact cP
        ·have e6:ev (.tmp 57)=.pointer (some ⟨rb,0,none⟩):=he 0 aA _ 57 rfl rfl;clear he h0 hc hf hg;exact cP
        ·have e7:ev (.tmp 58)=.pointer (some ⟨rb,0,none⟩):=he 1 aA _ 58 rfl rfl;clear he h0 hc hf hg;exact cP
        ·have e8:ev (.tmp 59)=.pointer (some ⟨rb,0,none⟩):=he 2 aA _ 59 rfl rfl;have hB:=hW.lo (hW.no3 hL)
         have c0:W.cell? ⟨rb,0,none⟩=some (.pointer (some ⟨a,0,none⟩)):=(HS11.out.bel hB).rf.cell;clear he h0 hc hf hg;exact cP
        ·have e3:ev (.tmp 5)=.pointer (some ⟨w1.heap.size,0,none⟩):=h0 5 rfl;clear he h0 hc hg;have hB:=hW.lo (hW.no4 hL)
         have hlv:=run_loadVar_row (P:=Tryz.prog) W w1.heap.size 33 33 (D.map lG).toArray (0,0) _ (HS11.out.bel hB).dg nD rfl (lX HDL.out);refine .inl ⟨rfl,.inl ⟨_,W,?_,.still (hW.upd aA aA aA) rfl⟩⟩;unfold execOp;simp only[e3,Instr.loadAt,Instr.sureAddr,Sem.run_bind,Sem.run_pure,Result.andThen_ok,hlv]
         try rfl
        ·have e10:ev (.tmp 61)=.agg (D.map lG).toArray:=he 4 aA _ 61 rfl rfl;clear he h0 hc hg;refine .inl ⟨rfl,.inr (.inr ⟨49,#[.agg (D.map lG).toArray],W,cZ,?_⟩)⟩;refine(HTX.out W).mono ?_;rintro e w' ⟨rfl,hb⟩;exact dB
        ·have e9:ev (.tmp 60)=.pointer (some ⟨a,0,none⟩):=he 3 aA _ 60 rfl rfl;have e11:ev (.tmp 62)=.string T:=he 5 aA _ 62 rfl rfl
         have hcc:=hc;clear he h0 hc hg;have hB:=hW.lo hL
         have hst:=(HS11.out.bel hB).rf.st;have hsm:=HS11.out.rf.st.same hB
         refine .inl ⟨rfl,.inr (.inr ⟨48,#[.pointer (some ⟨a,0,none⟩),.string handR,.string T],W,dA,?_⟩)⟩;refine(uM hst handR T aA HTS.out eY).mono ?_;intro e w' hp;obtain⟨rfl,h2,h3⟩:=hp.eq HOPW.out HVW.out;have HNE:=HNN.out
         exact cV
        ·have e12:ev (.tmp 63)=.iface 71 (.int .i64 yw):=he 6 aA _ 63 rfl rfl;clear he h0 hc hf hg;exact cP
       intro γ L W4 hL hW;obtain⟨hst2,hsm2⟩:=hW.hi (hL 6 aA);have HS4:=hZ (HS11.out.op hst2 hsm2)
       have c4:=HS4.out.rf.cell;clear hL hW hst2 hsm2 hI0 c11;simp only[nX,Act.put,List.setIfInBounds_toArray,List.set_cons_succ,List.set_cons_zero];have htl:=fun W:World=>nQ pS yw W
       rw[HV.out]at htl;unfold pS at htl;go_wp2_with (first|(go_at_call 41;refine(hie _).mono ?_;rintro e w5 ⟨rfl,rfl⟩)|(go_at_call 34;refine(htl _).mono ?_;rintro e w9 ⟨rfl,rfl⟩));go_ret;rw[show(pE CR fun m=>pE (m.op (.create handR)) fun m=>pU N (m.op (.write handR T)))=(mw,yw)from(by rw[lN _ HCL.out,lN _ HOP11.out];exact xZ HOPW.out HYW.out H28.out)];exact⟨⟨_,rfl⟩,HS4.out.fin aC⟩
    ·obtain⟨y11,hyy⟩:∃y,(m5.op (.create handR)).2=y:=⟨_,rfl⟩
     rw[hyy]at hy
     obtain⟨m11,h1⟩:∃mj,m5.op (.create handR)=(mj,y11):=⟨_,bU⟩
     obtain⟨rfl,hs8,hk8⟩:=hp.eq h1 (nK hy);have HS11:=hZ (HS5.out.op hs8 hk8)
     have HOP11:=hZ h1;have HY11:=hZ hy
     have HV:=hZ (nK hy);have c11:=HS11.out.rf.cell
     clear hp hs8 hk8 h1 c5 hyy hy;have htl:=fun W:World=>nQ pS y11 W
     rw[HV.out]at htl;unfold pS at htl;go_wp2_with (go_at_call 34;refine(htl _).mono ?_;rintro e w9 ⟨rfl,rfl⟩);go_ret;rw[show(pE CR fun m=>pE (m.op (.create handR)) fun m=>pU N (m.op (.write handR T)))=(m11,y11)from(by rw[lN _ HCL.out];exact nU _ HOP11.out HY11.out)];exact⟨⟨_,rfl⟩,HS11.out.fin aC⟩
   ·obtain⟨y5,hyy⟩:∃y,(qF m).2=y:=⟨_,rfl⟩
    rw[hyy]at hy
    obtain⟨m5,h1⟩:∃mj,qF m=(mj,y5):=⟨_,bU⟩
    obtain⟨rfl,hs8,hk8⟩:=BH hp h1 (nK hy);have HS5:=hZ (HS2.out.op hs8 hk8)
    have HCL:Hid (CR=(m5,y5)):=hZ (HCR.out.trans h1);have HY5:=hZ hy
    have HV:=hZ (nK hy);clear hp hs8 hk8 h1 c2 hyy hy;have htl:=fun W:World=>nQ pS y5 W
    rw[HV.out]at htl;unfold pS at htl;go_wp2_with (go_at_call 34;refine(htl _).mono ?_;rintro e w9 ⟨rfl,rfl⟩);go_ret;rw[show(pE CR fun m=>pE (m.op (.create handR)) fun m=>pU N (m.op (.write handR T)))=(m5,y5)from(nU _ HCL.out HY5.out)];exact⟨⟨_,rfl⟩,HS5.out.fin aC⟩
  ·have hie:=fun W:World=>Ma y0 10 aA W
   rw[nK hz0]at hrd hie;rw[show nJ 10=.iface 71 (.int .i64 10)from rfl]at hie;rw[if_neg hz0]at hcr;have HRD:=hZ hrd
   have HV:=hZ (nK hz0);have HZ0:=hZ hz0
   unfold handR at HRD;clear hrd hz0;by_cases h10:y0=10
   ·have hb:(y0==10)=true:=beq_iff_eq.2 h10;rw[hb]at hie;rw[if_pos h10]at hcr;have HCL:=hZ hcr
    clear hcr hb h10;go_enter Tryz.func15,Tryz.ntmps15;go_wp2_with fail;refine(hfu2 _).mono ?_;rintro e w2 ⟨rfl,hb2⟩;have HS2:=hZ (HS1.out.bel hb2)
    have c2:=HS2.out.rf.cell;clear hb2 hW1 hfu2;go_wp2_with fail;refine(HRD.out _ HS2.out.rf.st).mono ?_;rintro e w3 ⟨rfl,rfl⟩;go_wp2_with (go_at_call 41;refine(hie _).mono ?_;rintro e w4 ⟨rfl,rfl⟩);clear HV HRD HS1;refine(AG HS2.out.rf.st handR aA aC).mono ?_;intro e w31 hp;by_cases hy:(m.op (.create handR)).2=0
    ·obtain⟨m31,h1⟩:∃mj,m.op (.create handR)=(mj,0):=⟨_,cC⟩
     obtain⟨rfl,hs8,hk8⟩:=hp.eq h1 (show nG 0=.nilIface from rfl);have HS31:=hZ (HS2.out.op hs8 hk8)
     have HOP31:=hZ h1;have c31:=HS31.out.rf.cell
     clear hp hy hs8 hk8 h1 c2;go_wp2_with fail
     obtain⟨yw,hyw'⟩:∃y,(m31.op (.write handR T)).2=y:=⟨_,rfl⟩
     obtain⟨mw,hmw⟩:∃mj,m31.op (.write handR T)=(mj,yw):=⟨_,by rw[←hyw']⟩
     have HOPW:=hZ hmw
     obtain⟨NN,hNN⟩:∃NN,NN=n+1:=⟨_,rfl⟩
     rw[←hNN]at HS31;have HNN:=hZ (show NN+4≤4000000000 by omega)
     clear hyw' hmw;by_cases hyw:yw=0
     ·subst hyw;have HVW:Hid (nG 0=.nilIface):=hZ rfl
      have hI0:RemW w S (fun b=>P b∨b=w1.heap.size) a (NN+1) mw w31 (fun _=>false) () w31.drew:=⟨fun _=>⟨rfl,rfl,rfl,Nat.le_refl _,fun _ _=>rfl⟩,fun h=>aK,fun h=>aK,fun h=>aK⟩
      refine lQ (fun _:Unit=>[.pointer (some ⟨rb,0,none⟩),.pointer (some ⟨rb,0,none⟩),.pointer (some ⟨rb,0,none⟩),.pointer (some ⟨a,0,none⟩),.agg (D.map lG).toArray,.string T,.nilIface,.nilIface]) (RemW w S (fun b=>P b∨b=w1.heap.size) a (NN+1) mw w31)
       [[],[0],[1],[2],[],[4],[3,5,5],[6,6,0,1,2,3,4,5,6]] 99 () mC rfl aE (fun _=>rfl) hI0 ?_ ?_
      ·refine⟨?_,?_,?_,?_,?_,?_,?_,?_,rfl⟩
       all_goals intro L γ W ev hL hd hW hc hf hg he h0
       ·have e0:ev (.tmp 0)=.pointer (some ⟨rb,0,none⟩):=h0 0 rfl;clear he h0 hc hf hg;exact cP
       ·have e6:ev (.tmp 57)=.pointer (some ⟨rb,0,none⟩):=he 0 aA _ 57 rfl rfl;clear he h0 hc hf hg;exact cP
       ·have e7:ev (.tmp 58)=.pointer (some ⟨rb,0,none⟩):=he 1 aA _ 58 rfl rfl;clear he h0 hc hf hg;exact cP
       ·have e8:ev (.tmp 59)=.pointer (some ⟨rb,0,none⟩):=he 2 aA _ 59 rfl rfl;have hB:=hW.lo (hW.no3 hL)
        have c0:W.cell? ⟨rb,0,none⟩=some (.pointer (some ⟨a,0,none⟩)):=(HS31.out.bel hB).rf.cell;clear he h0 hc hf hg;exact cP
       ·have e3:ev (.tmp 5)=.pointer (some ⟨w1.heap.size,0,none⟩):=h0 5 rfl;clear he h0 hc hg;have hB:=hW.lo (hW.no4 hL)
        have hlv:=run_loadVar_row (P:=Tryz.prog) W w1.heap.size 33 33 (D.map lG).toArray (0,0) _ (HS31.out.bel hB).dg nD rfl (lX HDL.out);refine .inl ⟨rfl,.inl ⟨_,W,?_,.still (hW.upd aA aA aA) rfl⟩⟩;unfold execOp;simp only[e3,Instr.loadAt,Instr.sureAddr,Sem.run_bind,Sem.run_pure,Result.andThen_ok,hlv]
        try rfl
       ·have e10:ev (.tmp 61)=.agg (D.map lG).toArray:=he 4 aA _ 61 rfl rfl;clear he h0 hc hg;refine .inl ⟨rfl,.inr (.inr ⟨49,#[.agg (D.map lG).toArray],W,cZ,?_⟩)⟩;refine(HTX.out W).mono ?_;rintro e w' ⟨rfl,hb⟩;exact dB
       ·have e9:ev (.tmp 60)=.pointer (some ⟨a,0,none⟩):=he 3 aA _ 60 rfl rfl;have e11:ev (.tmp 62)=.string T:=he 5 aA _ 62 rfl rfl
        have hcc:=hc;clear he h0 hc hg;have hB:=hW.lo hL
        have hst:=(HS31.out.bel hB).rf.st;have hsm:=HS31.out.rf.st.same hB
        refine .inl ⟨rfl,.inr (.inr ⟨48,#[.pointer (some ⟨a,0,none⟩),.string handR,.string T],W,dA,?_⟩)⟩;refine(uM hst handR T aA HTS.out eY).mono ?_;intro e w' hp;obtain⟨rfl,h2,h3⟩:=hp.eq HOPW.out HVW.out;have HNE:=HNN.out
        exact cV
       ·have e12:ev (.tmp 63)=.nilIface:=he 6 aA _ 63 rfl rfl;clear he h0 hc hf hg;exact cP
      intro γ L W4 hL hW;obtain⟨hst2,hsm2⟩:=hW.hi (hL 6 aA);have HS4:=hZ (HS31.out.op hst2 hsm2)
      have c4:=HS4.out.rf.cell;clear hL hW hst2 hsm2 hI0 c31;simp only[nX,Act.put,List.setIfInBounds_toArray,List.set_cons_succ,List.set_cons_zero];go_wp2_with fail;refine(Em HS4.out.rf.st handR aA aC).mono ?_;intro e w32 hp;by_cases hy:(mw.op (.sync handR)).2=0
      ·obtain⟨m32,h1⟩:∃mj,mw.op (.sync handR)=(mj,0):=⟨_,cC⟩
       obtain⟨rfl,hs8,hk8⟩:=hp.eq h1 (show nG 0=.nilIface from rfl);have HS32:=hZ (HS4.out.op hs8 hk8)
       have HOP32:=hZ h1;have c32:=HS32.out.rf.cell
       clear hp hy hs8 hk8 h1 c4;go_wp2_with fail;refine(Dl HS32.out.rf.st handR N aA HNS.out aC).mono ?_;intro e w33 hp;by_cases hy:(m32.op (.rename handR N)).2=0
       ·obtain⟨m33,h1⟩:∃mj,m32.op (.rename handR N)=(mj,0):=⟨_,cC⟩
        obtain⟨rfl,hs8,hk8⟩:=hp.eq h1 (show nG 0=.nilIface from rfl);have HS33:=hZ (HS32.out.op hs8 hk8)
        have HOP33:=hZ h1;have c33:=HS33.out.rf.cell
        clear hp hy hs8 hk8 h1 c32;go_wp2_with fail;refine(uN HS33.out.rf.st aC).mono ?_;intro e w34 hp
        obtain⟨y,hy2⟩:∃y,(m33.op .flush).2=y:=⟨_,rfl⟩
        obtain⟨mk,h2⟩:∃mk,m33.op .flush=(mk,y):=⟨_,by rw[←hy2]⟩
        obtain⟨rfl,hs8,hk8⟩:=hp.eq h2 rfl;have HS34:=hZ (HS33.out.op hs8 hk8)
        have HOP34:=hZ h2;have htl:=fun W:World=>nQ pS y W
        unfold pS at htl;clear hp hs8 hk8 h2 hy2;go_wp2_with (go_at_call 34;refine(htl _).mono ?_;rintro e w10 ⟨rfl,rfl⟩);go_ret;rw[lN _ HCL.out,lN _ HOP31.out];rw[pO HOPW.out,lN _ HOP32.out,lN _ HOP33.out,HOP34.out];exact⟨⟨_,rfl⟩,HS34.out.fin aC⟩
       ·obtain⟨y33,hyy⟩:∃y,(m32.op (.rename handR N)).2=y:=⟨_,rfl⟩
        rw[hyy]at hy
        obtain⟨m33,h1⟩:∃mj,m32.op (.rename handR N)=(mj,y33):=⟨_,bU⟩
        obtain⟨rfl,hs8,hk8⟩:=hp.eq h1 (nK hy);have HS33:=hZ (HS32.out.op hs8 hk8)
        have HOP33:=hZ h1;have HY33:=hZ hy
        have HV:=hZ (nK hy);have c33:=HS33.out.rf.cell
        clear hp hs8 hk8 h1 c32 hyy hy;have htl:=fun W:World=>nQ pS y33 W
        rw[HV.out]at htl;unfold pS at htl;go_wp2_with (go_at_call 34;refine(htl _).mono ?_;rintro e w9 ⟨rfl,rfl⟩);go_ret;rw[show(pE CR fun m=>pE (m.op (.create handR)) fun m=>pU N (m.op (.write handR T)))=(m33,y33)from(by rw[lN _ HCL.out,lN _ HOP31.out];rw[pO HOPW.out,lN _ HOP32.out];exact nU _ HOP33.out HY33.out)];exact⟨⟨_,rfl⟩,HS33.out.fin aC⟩
      ·obtain⟨y32,hyy⟩:∃y,(mw.op (.sync handR)).2=y:=⟨_,rfl⟩
       rw[hyy]at hy
       obtain⟨m32,h1⟩:∃mj,mw.op (.sync handR)=(mj,y32):=⟨_,bU⟩
       obtain⟨rfl,hs8,hk8⟩:=hp.eq h1 (nK hy);have HS32:=hZ (HS4.out.op hs8 hk8)
       have HOP32:=hZ h1;have HY32:=hZ hy
       have HV:=hZ (nK hy);have c32:=HS32.out.rf.cell
       clear hp hs8 hk8 h1 c4 hyy hy;have htl:=fun W:World=>nQ pS y32 W
       rw[HV.out]at htl;unfold pS at htl;go_wp2_with (go_at_call 34;refine(htl _).mono ?_;rintro e w9 ⟨rfl,rfl⟩);go_ret;rw[show(pE CR fun m=>pE (m.op (.create handR)) fun m=>pU N (m.op (.write handR T)))=(m32,y32)from(by rw[lN _ HCL.out,lN _ HOP31.out];rw[pO HOPW.out];exact nU _ HOP32.out HY32.out)];exact⟨⟨_,rfl⟩,HS32.out.fin aC⟩
     ·have HVW:=hZ (nK hyw);have HYW:=hZ hyw
      have HV:=HVW;have hie:=fun W:World=>Ma yw 28 aA W
      rw[HVW.out,show nJ 28=.iface 71 (.int .i64 28)from rfl]at hie;clear hyw;by_cases h28:yw=28
      ·have hb28:(yw==28)=true:=beq_iff_eq.2 h28;rw[hb28]at hie;have H28:=hZ h28
       clear hb28 h28;have hI0:RemW w S (fun b=>P b∨b=w1.heap.size) a (NN+1) mw w31 (fun _=>false) () w31.drew:=⟨fun _=>⟨rfl,rfl,rfl,Nat.le_refl _,fun _ _=>rfl⟩,fun h=>aK,fun h=>aK,fun h=>aK⟩
       refine lQ (fun _:Unit=>[.pointer (some ⟨rb,0,none⟩),.pointer (some ⟨rb,0,none⟩),.pointer (some ⟨rb,0,none⟩),.pointer (some ⟨a,0,none⟩),.agg (D.map lG).toArray,.string T,.iface 71 (.int .i64 yw),.iface 71 (.int .i64 yw)]) (RemW w S (fun b=>P b∨b=w1.heap.size) a (NN+1) mw w31)
        [[],[0],[1],[2],[],[4],[3,5,5],[6,6,0,1,2,3,4,5,6]] 99 () mC rfl aE (fun _=>rfl) hI0 ?_ ?_
       ·refine⟨?_,?_,?_,?_,?_,?_,?_,?_,rfl⟩
        all_goals intro L γ W ev hL hd hW hc hf hg he h0
        ·have e0:ev (.tmp 0)=.pointer (some ⟨rb,0,none⟩):=h0 0 rfl;clear he h0 hc hf hg;exact cP
        ·have e6:ev (.tmp 57)=.pointer (some ⟨rb,0,none⟩):=he 0 aA _ 57 rfl rfl;clear he h0 hc hf hg;exact cP
        ·have e7:ev (.tmp 58)=.pointer (some ⟨rb,0,none⟩):=he 1 aA _ 58 rfl rfl;clear he h0 hc hf hg;exact cP
        ·have e8:ev (.tmp 59)=.pointer (some ⟨rb,0,none⟩):=he 2 aA _ 59 rfl rfl;have hB:=hW.lo (hW.no3 hL)
         have c0:W.cell? ⟨rb,0,none⟩=some (.pointer (some ⟨a,0,none⟩)):=(HS31.out.bel hB).rf.cell;clear he h0 hc hf hg;exact cP
        ·have e3:ev (.tmp 5)=.pointer (some ⟨w1.heap.size,0,none⟩):=h0 5 rfl;clear he h0 hc hg;have hB:=hW.lo (hW.no4 hL)
         have hlv:=run_loadVar_row (P:=Tryz.prog) W w1.heap.size 33 33 (D.map lG).toArray (0,0) _ (HS31.out.bel hB).dg nD rfl (lX HDL.out);refine .inl ⟨rfl,.inl ⟨_,W,?_,.still (hW.upd aA aA aA) rfl⟩⟩;unfold execOp;simp only[e3,Instr.loadAt,Instr.sureAddr,Sem.run_bind,Sem.run_pure,Result.andThen_ok,hlv]
         try rfl
        ·have e10:ev (.tmp 61)=.agg (D.map lG).toArray:=he 4 aA _ 61 rfl rfl;clear he h0 hc hg;refine .inl ⟨rfl,.inr (.inr ⟨49,#[.agg (D.map lG).toArray],W,cZ,?_⟩)⟩;refine(HTX.out W).mono ?_;rintro e w' ⟨rfl,hb⟩;exact dB
        ·have e9:ev (.tmp 60)=.pointer (some ⟨a,0,none⟩):=he 3 aA _ 60 rfl rfl;have e11:ev (.tmp 62)=.string T:=he 5 aA _ 62 rfl rfl
         have hcc:=hc;clear he h0 hc hg;have hB:=hW.lo hL
         have hst:=(HS31.out.bel hB).rf.st;have hsm:=HS31.out.rf.st.same hB
         refine .inl ⟨rfl,.inr (.inr ⟨48,#[.pointer (some ⟨a,0,none⟩),.string handR,.string T],W,dA,?_⟩)⟩;refine(uM hst handR T aA HTS.out eY).mono ?_;intro e w' hp;obtain⟨rfl,h2,h3⟩:=hp.eq HOPW.out HVW.out;have HNE:=HNN.out
         exact cV
        ·have e12:ev (.tmp 63)=.iface 71 (.int .i64 yw):=he 6 aA _ 63 rfl rfl;clear he h0 hc hf hg;exact cP
       intro γ L W4 hL hW;obtain⟨hst2,hsm2⟩:=hW.hi (hL 6 aA);have HS4:=hZ (HS31.out.op hst2 hsm2)
       have c4:=HS4.out.rf.cell;clear hL hW hst2 hsm2 hI0 c31;simp only[nX,Act.put,List.setIfInBounds_toArray,List.set_cons_succ,List.set_cons_zero];go_wp2_with (go_at_call 41;refine(hie _).mono ?_;rintro e w5 ⟨rfl,rfl⟩)
       obtain⟨yg,hyg⟩:∃y,(qF mw).2=y:=⟨_,rfl⟩
       obtain⟨mg,hmg⟩:∃mg,qF mw=(mg,yg):=⟨_,by rw[←hyg]⟩
       refine(CA HS4.out.rf aC).mono ?_;intro e w6 hp;obtain⟨rfl,hs8,hk8⟩:=BH hp hmg rfl;have HS6:=hZ (HS4.out.op hs8 hk8)
       have HG:=hZ hmg;clear hp hs8 hk8 hmg hyg;have htl:=fun W:World=>nQ pS yw W
       rw[HV.out]at htl;unfold pS at htl;go_wp2_with (go_at_call 34;refine(htl _).mono ?_;rintro e w9 ⟨rfl,rfl⟩);go_ret;rw[show(pE CR fun m=>pE (m.op (.create handR)) fun m=>pU N (m.op (.write handR T)))=(mg,yw)from(by rw[lN _ HCL.out,lN _ HOP31.out];rw[uO (HOPW.out.trans (by rw[H28.out])),HG.out,H28.out])];exact⟨⟨_,rfl⟩,HS6.out.fin aC⟩
      ·have hb28:(yw==28)=false:=beq_eq_false_iff_ne.2 h28;rw[hb28]at hie;have H28:=hZ h28
       clear hb28 h28;have hI0:RemW w S (fun b=>P b∨b=w1.heap.size) a (NN+1) mw w31 (fun _=>false) () w31.drew:=⟨fun _=>⟨rfl,rfl,rfl,Nat.le_refl _,fun _ _=>rfl⟩,fun h=>aK,fun h=>aK,fun h=>aK⟩
       refine lQ (fun _:Unit=>[.pointer (some ⟨rb,0,none⟩),.pointer (some ⟨rb,0,none⟩),.pointer (some ⟨rb,0,none⟩),.pointer (some ⟨a,0,none⟩),.agg (D.map lG).toArray,.string T,.iface 71 (.int .i64 yw),.iface 71 (.int .i64 yw)]) (RemW w S (fun b=>P b∨b=w1.heap.size) a (NN+1) mw w31)
        [[],[0],[1],[2],[],[4],[3,5,5],[6,6,0,1,2,3,4,5,6]] 99 () mC rfl aE (fun _=>rfl) hI0 ?_ ?_
       ·refine⟨?_,?_,?_,?_,?_,?_,?_,?_,rfl⟩
        all_goals intro L γ W ev hL hd hW hc hf hg he h0
        ·have e0:ev (.tmp 0)=.pointer (some ⟨rb,0,none⟩):=h0 0 rfl;clear he h0 hc hf hg;exact cP
        ·have e6:ev (.tmp 57)=.pointer (some ⟨rb,0,none⟩):=he 0 aA _ 57 rfl rfl;clear he h0 hc hf hg;exact cP
        ·have e7:ev (.tmp 58)=.pointer (some ⟨rb,0,none⟩):=he 1 aA _ 58 rfl rfl;clear he h0 hc hf hg;exact cP
        ·have e8:ev (.tmp 59)=.pointer (some ⟨rb,0,none⟩):=he 2 aA _ 59 rfl rfl;have hB:=hW.lo (hW.no3 hL)
         have c0:W.cell? ⟨rb,0,none⟩=some (.pointer (some ⟨a,0,none⟩)):=(HS31.out.bel hB).rf.cell;clear he h0 hc hf hg;exact cP
        ·have e3:ev (.tmp 5)=.pointer (some ⟨w1.heap.size,0,none⟩):=h0 5 rfl;clear he h0 hc hg;have hB:=hW.lo (hW.no4 hL)
         have hlv:=run_loadVar_row (P:=Tryz.prog) W w1.heap.size 33 33 (D.map lG).toArray (0,0) _ (HS31.out.bel hB).dg nD rfl (lX HDL.out);refine .inl ⟨rfl,.inl ⟨_,W,?_,.still (hW.upd aA aA aA) rfl⟩⟩;unfold execOp;simp only[e3,Instr.loadAt,Instr.sureAddr,Sem.run_bind,Sem.run_pure,Result.andThen_ok,hlv]
         try rfl
        ·have e10:ev (.tmp 61)=.agg (D.map lG).toArray:=he 4 aA _ 61 rfl rfl;clear he h0 hc hg;refine .inl ⟨rfl,.inr (.inr ⟨49,#[.agg (D.map lG).toArray],W,cZ,?_⟩)⟩;refine(HTX.out W).mono ?_;rintro e w' ⟨rfl,hb⟩;exact dB
        ·have e9:ev (.tmp 60)=.pointer (some ⟨a,0,none⟩):=he 3 aA _ 60 rfl rfl;have e11:ev (.tmp 62)=.string T:=he 5 aA _ 62 rfl rfl
         have hcc:=hc;clear he h0 hc hg;have hB:=hW.lo hL
         have hst:=(HS31.out.bel hB).rf.st;have hsm:=HS31.out.rf.st.same hB
         refine .inl ⟨rfl,.inr (.inr ⟨48,#[.pointer (some ⟨a,0,none⟩),.string handR,.string T],W,dA,?_⟩)⟩;refine(uM hst handR T aA HTS.out eY).mono ?_;intro e w' hp;obtain⟨rfl,h2,h3⟩:=hp.eq HOPW.out HVW.out;have HNE:=HNN.out
         exact cV
        ·have e12:ev (.tmp 63)=.iface 71 (.int .i64 yw):=he 6 aA _ 63 rfl rfl;clear he h0 hc hf hg;exact cP
       intro γ L W4 hL hW;obtain⟨hst2,hsm2⟩:=hW.hi (hL 6 aA);have HS4:=hZ (HS31.out.op hst2 hsm2)
       have c4:=HS4.out.rf.cell;clear hL hW hst2 hsm2 hI0 c31;simp only[nX,Act.put,List.setIfInBounds_toArray,List.set_cons_succ,List.set_cons_zero];have htl:=fun W:World=>nQ pS yw W
       rw[HV.out]at htl;unfold pS at htl;go_wp2_with (first|(go_at_call 41;refine(hie _).mono ?_;rintro e w5 ⟨rfl,rfl⟩)|(go_at_call 34;refine(htl _).mono ?_;rintro e w9 ⟨rfl,rfl⟩));go_ret;rw[show(pE CR fun m=>pE (m.op (.create handR)) fun m=>pU N (m.op (.write handR T)))=(mw,yw)from(by rw[lN _ HCL.out,lN _ HOP31.out];exact xZ HOPW.out HYW.out H28.out)];exact⟨⟨_,rfl⟩,HS4.out.fin aC⟩
    ·obtain⟨y31,hyy⟩:∃y,(m.op (.create handR)).2=y:=⟨_,rfl⟩
     rw[hyy]at hy
     obtain⟨m31,h1⟩:∃mj,m.op (.create handR)=(mj,y31):=⟨_,bU⟩
     obtain⟨rfl,hs8,hk8⟩:=hp.eq h1 (nK hy);have HS31:=hZ (HS2.out.op hs8 hk8)
     have HOP31:=hZ h1;have HY31:=hZ hy
     have HV:=hZ (nK hy);have c31:=HS31.out.rf.cell
     clear hp hs8 hk8 h1 c2 hyy hy;have htl:=fun W:World=>nQ pS y31 W
     rw[HV.out]at htl;unfold pS at htl;go_wp2_with (go_at_call 34;refine(htl _).mono ?_;rintro e w9 ⟨rfl,rfl⟩);go_ret;rw[show(pE CR fun m=>pE (m.op (.create handR)) fun m=>pU N (m.op (.write handR T)))=(m31,y31)from(by rw[lN _ HCL.out];exact nU _ HOP31.out HY31.out)];exact⟨⟨_,rfl⟩,HS31.out.fin aC⟩
   ·have hb:(y0==10)=false:=beq_eq_false_iff_ne.2 h10;rw[hb]at hie;rw[if_neg h10]at hcr;have HCL:=hZ hcr
    clear hcr hb h10;have htl:=fun W:World=>nQ pS y0 W
    rw[HV.out]at htl;unfold pS at htl;go_enter Tryz.func15,Tryz.ntmps15;go_wp2_with fail;refine(hfu2 _).mono ?_;rintro e w2 ⟨rfl,hb2⟩;have HS2:=hZ (HS1.out.bel hb2)
    have c2:=HS2.out.rf.cell;clear hb2 hW1 hfu2;go_wp2_with fail;refine(HRD.out _ HS2.out.rf.st).mono ?_;rintro e w3 ⟨rfl,rfl⟩;go_wp2_with (first|(go_at_call 41;refine(hie _).mono ?_;rintro e w4 ⟨rfl,rfl⟩)|(go_at_call 34;refine(htl _).mono ?_;rintro e w9 ⟨rfl,rfl⟩));go_ret;rw[nU _ HCL.out HZ0.out];exact⟨⟨_,rfl⟩,HS2.out.fin aC⟩
open Go.Maps
theorem yA(m:DM)(n:ByteArray):m.refused (.create n)=if oA n then if(m.get n).isSome then 11 else 0 else 8:=rfl
theorem sQ(m:DM)(n s:ByteArray):m.refused (.write n s)=if(m.get n).isSome then if m.used+s.size>m.room then 28 else 0 else 10:=rfl
theorem Ah(m:DM)(n:ByteArray):m.refused (.sync n)=if(m.get n).isSome then 0 else 10:=rfl
theorem yB(m:DM)(o n:ByteArray):m.refused (.rename o n)=if(m.get o).isSome then if oA n then 0 else 8 else 10:=rfl
theorem pK(m:DM)(n:ByteArray):m.refused (.remove n)=if(m.get n).isSome then 0 else 10:=rfl
theorem zK(m:DM)(n s:ByteArray):m.act (.write n s)=match m.get n with|some i=>{m with files:=m.files.set i ⟨m.files[i]!.data++s,m.files[i]!.safe⟩}|none=>m:=rfl
theorem AH(m:DM)(n:ByteArray):m.act (.sync n)=match m.get n with|some i=>{m with files:=m.files.set i ⟨m.files[i]!.data,m.files[i]!.data.size⟩}|none=>m:=rfl
theorem Bg(m:DM)(o n:ByteArray):m.act (.rename o n)=m.names (.rename o n):=rfl
theorem wB{d:List UInt8}(h:d.length=32):(nA d).size=71:=by
 show(shaHead++uB d).length=71;rw[List.length_append,uC,h]
 rfl
theorem uP{s:ByteArray}{d:List UInt8}(h:nI s=some d):d.length=32:=(sF h).2
def B7(w1:World)(r:List UInt8×Int)(e:Ending)(w':World):Prop:=(∃t,e=.returned (.tuple #[nH r.1,nT t r.2]))∧Below w1.heap.size w1 w'
theorem Ai{w w1:World}{S P:Nat→Prop}{rb a n:Nat}{m:DM}(h:Rf w S P rb a w1 n m)(s:ByteArray)(hs:(s.size:Int)≤140737488355328):
  Calls Tryz.prog 38 #[.pointer (some ⟨rb,0,none⟩),.string s] w1 (B7 w1 (wY m s.data.toList)):=by
 have hfu:=fun W:World=>rZ s hs W
 unfold vG at hfu;have HF:=hZ h
 have hb0:Below w1.heap.size w1 (w1.alloc (.cells z32 33)):=(Below.refl _ _).alloc (Nat.le_refl _) _;have HB0:=hZ hb0
 have HR0:Hid ((w1.alloc (.cells z32 33)).heap[w1.heap.size]?=some (.cells z32 33 (0,0))):=hZ (lP _ _);have h1z:=nW zeroD
 have hI32:=lX (d:=zeroD) rfl;have hsz:=nE (d:=zeroD) rfl
 have hU:=nD;unfold B7 wY;have hfl:=fun u h=>(pD (s:=s.data.toList) (u:=u) h).2.1
 clear h hb0
 cases hf:nO s.data.toList with
 |none=>
  rw[hf]at hfu;have hfu2:∀W:World,Calls Tryz.prog 9 #[.string s] W fun e w'=>e=.returned (.tuple #[.string ⟨#[]⟩,.iface 132 (.agg #[.string rY,nJ 31])])∧Below W.heap.size W w':=hfu
  clear hfu hf hfl;go_enter Tryz.func38,Tryz.ntmps38;go_wp2_with (first|(go_at_call 9;refine(hfu2 _).mono ?_;rintro e w2 ⟨rfl,hb2⟩;have HB2:=hZ (HB0.out.trans (hb2.mono cO));have HR2:Hid (w2.heap[w1.heap.size]?=some (.cells z32 33 (0,0))):=hZ ((hb2.block _ (lH HR0.out)).trans HR0.out);have c2:=(HF.out.bel HB2.out).cell;clear hb2 HR0)|(refine wpList_store_row rfl _ _ _ rfl w1.heap.size (zeroD.map lG).toArray rfl rfl 33 z32 HR2.out hI32 hsz h1z ?_;rw[lZ HR2.out]));refine bodyPost_ret (v:=.tuple #[nH zeroD,.iface 132 (.agg #[.string rY,nJ 31])]) (mT (fn:=Tryz.f38) (p:=4) (u:=5) rfl _ _ w1.heap.size _ _ rfl (lM (lH HR2.out)) rfl) rfl ?_;exact⟨⟨rY,rfl⟩,HB2.out.setBlk (Nat.le_refl _)⟩
 |some u=>
  rw[hf]at hfu;have hul:=hfl u hf
  have hfu2:∀W:World,Calls Tryz.prog 9 #[.string s] W fun e w'=>e=.returned (.tuple #[.string ⟨u.toArray⟩,.nilIface])∧Below W.heap.size W w':=hfu
  have happ:=wI u;have hzz:=pY u
  simp only;unfold DW;generalize nR u=N at happ hzz⊢;have hus:(((⟨u.toArray⟩:ByteArray).size:Nat):Int)≤96:=dR
  generalize (⟨u.toArray⟩:ByteArray)=U at hfu2 happ hus;have hrd:=fun W (hst:St w S P a W n m)=>wV hst N (show N.size≤maxLen by unfold maxLen;omega)
  obtain⟨T,hT⟩:∃T,(m.reads N).1=T:=⟨_,rfl⟩
  obtain⟨y,hy⟩:∃y,(m.reads N).2=y:=⟨_,rfl⟩
  rw[hT,hy]at hrd⊢;clear hfu hf hfl hzz hul hT hy;by_cases hy0:y=0
  ·subst hy0;have HRD:Hid (∀W,St w S P a W n m→Calls Tryz.prog 40 #[.pointer (some ⟨a,0,none⟩),.string N] W fun e w'=>e=.returned (.tuple #[.string T,.nilIface])∧W=w'):=hZ hrd
   have hpa:=fun W:World=>yM T W
   rw[if_neg (show¬(0:Int)≠0 from fun h=>h rfl)];clear hrd
   cases hp:nI T with
   |none=>
    rw[hp]at hpa;have hpa2:∀W:World,Calls Tryz.prog 42 #[.string T] W fun e w'=>e=.returned (.tuple #[.agg (zeroD.map lG).toArray,.iface 71 (.int .i64 4)])∧Below W.heap.size W w':=hpa
    have htl:=fun W:World=>nQ Ax 30 W
    rw[show nG 30=.iface 71 (.int .i64 30)from rfl]at htl;unfold Ax at htl;clear hpa hp;go_enter Tryz.func38,Tryz.ntmps38;go_wp2_with (first|(go_at_call 9;refine(hfu2 _).mono ?_;rintro e w2 ⟨rfl,hb2⟩;have HB2:=hZ (HB0.out.trans (hb2.mono cO));have HR2:Hid (w2.heap[w1.heap.size]?=some (.cells z32 33 (0,0))):=hZ ((hb2.block _ (lH HR0.out)).trans HR0.out);have c2:=(HF.out.bel HB2.out).cell;clear hb2 HR0));refine(HRD.out _ (HF.out.bel HB2.out).st).mono ?_;rintro e w3 ⟨rfl,rfl⟩;go_wp2_with (first|(go_at_call 42;refine(hpa2 _).mono ?_;rintro e w4 ⟨rfl,hb4⟩;have HB4:=hZ (HB2.out.trans (hb4.mono HB2.out.size));have HR4:Hid (w4.heap[w1.heap.size]?=some (.cells z32 33 (0,0))):=hZ ((hb4.block _ (lH HR2.out)).trans HR2.out);clear hb4 HR2)|(refine lO rfl _ _ _ rfl _ (zeroD.map lG).toArray _ rfl rfl rfl hI32 hsz h1z ?_;(obtain⟨W5,hW5⟩:∃W,w4.alloc (.cells (zeroD.map lG).toArray 33)=W:=⟨_,rfl⟩;have hb5:Below w4.heap.size w4 W5:=aM;have HB5:=hZ (HB4.out.trans (hb5.mono HB4.out.size));have HR5:Hid (W5.heap[w1.heap.size]?=some (.cells z32 33 (0,0))):=hZ ((hb5.block _ (lH HR4.out)).trans HR4.out);rw[hW5];clear hW5 hb5 HR4))|(go_at_call 34;refine(htl _).mono ?_;rintro e w6 ⟨rfl,rfl⟩)|(refine wpList_store_row rfl _ _ _ rfl w1.heap.size (zeroD.map lG).toArray rfl rfl 33 z32 HR5.out hI32 hsz h1z ?_;rw[lZ HR5.out]));refine bodyPost_ret (v:=.tuple #[nH zeroD,nT Ax 30]) (mT (fn:=Tryz.f38) (p:=4) (u:=5) rfl _ _ w1.heap.size _ _ rfl (lM (lH HR5.out)) rfl) rfl ?_;exact⟨⟨Ax,rfl⟩,HB5.out.setBlk (Nat.le_refl _)⟩
   |some D=>
    have hDl:=uP hp;rw[hp]at hpa;have hpa2:∀W:World,Calls Tryz.prog 42 #[.string T] W fun e w'=>e=.returned (.tuple #[.agg (D.map lG).toArray,.nilIface])∧Below W.heap.size W w':=hpa
    have hI:=oM hDl;have hI2:=lX hDl
    have h1:=nW D;have hz:=nE hDl
    have HDL:=hZ hDl;clear hpa hp hDl;go_enter Tryz.func38,Tryz.ntmps38;go_wp2_with (first|(go_at_call 9;refine(hfu2 _).mono ?_;rintro e w2 ⟨rfl,hb2⟩;have HB2:=hZ (HB0.out.trans (hb2.mono cO));have HR2:Hid (w2.heap[w1.heap.size]?=some (.cells z32 33 (0,0))):=hZ ((hb2.block _ (lH HR0.out)).trans HR0.out);have c2:=(HF.out.bel HB2.out).cell;clear hb2 HR0));refine(HRD.out _ (HF.out.bel HB2.out).st).mono ?_;rintro e w3 ⟨rfl,rfl⟩;go_wp2_with (first|(go_at_call 42;refine(hpa2 _).mono ?_;rintro e w4 ⟨rfl,hb4⟩;have HB4:=hZ (HB2.out.trans (hb4.mono HB2.out.size));have HR4:Hid (w4.heap[w1.heap.size]?=some (.cells z32 33 (0,0))):=hZ ((hb4.block _ (lH HR2.out)).trans HR2.out);clear hb4 HR2)|(refine lO rfl _ _ _ rfl _ (D.map lG).toArray _ rfl rfl rfl hI2 hz h1 ?_;(obtain⟨W5,hW5⟩:∃W,w4.alloc (.cells (D.map lG).toArray 33)=W:=⟨_,rfl⟩;have hb5:Below w4.heap.size w4 W5:=aM;have HB5:=hZ (HB4.out.trans (hb5.mono HB4.out.size));have HR5:Hid (W5.heap[w1.heap.size]?=some (.cells z32 33 (0,0))):=hZ ((hb5.block _ (lH HR4.out)).trans HR4.out);have HRG5:Hid (W5.rangeAt w4.heap.size 0 (D.map lG)):=hZ (oF cJ);rw[hW5];clear hW5 hb5 HR4))|refine wpList_load_mid rfl _ _ rfl w4.heap.size 0 rfl (D.map lG) _ HRG5.out hU rfl hI ?_|(refine wpList_store_row rfl _ _ _ rfl w1.heap.size (D.map lG).toArray rfl rfl 33 z32 HR5.out hI2 hz h1 ?_;rw[lZ HR5.out]));refine bodyPost_ret (v:=.tuple #[nH D,.nilIface]) (mT (fn:=Tryz.f38) (p:=4) (u:=5) rfl _ _ w1.heap.size _ _ rfl (lM (lH HR5.out)) jG) rfl ?_;exact⟨⟨Ax,rfl⟩,HB5.out.setBlk (Nat.le_refl _)⟩
  ·rw[nK hy0]at hrd;have HRD:=hZ hrd
   rw[if_pos hy0];have htl:=fun W:World=>nQ Ax y W
   rw[nK hy0]at htl;unfold Ax at htl;clear hrd hy0;go_enter Tryz.func38,Tryz.ntmps38;go_wp2_with (first|(go_at_call 9;refine(hfu2 _).mono ?_;rintro e w2 ⟨rfl,hb2⟩;have HB2:=hZ (HB0.out.trans (hb2.mono cO));have HR2:Hid (w2.heap[w1.heap.size]?=some (.cells z32 33 (0,0))):=hZ ((hb2.block _ (lH HR0.out)).trans HR0.out);have c2:=(HF.out.bel HB2.out).cell;clear hb2 HR0));refine(HRD.out _ (HF.out.bel HB2.out).st).mono ?_;rintro e w3 ⟨rfl,rfl⟩;go_wp2_with (first|(go_at_call 34;refine(htl _).mono ?_;rintro e w6 ⟨rfl,rfl⟩)|(refine wpList_store_row rfl _ _ _ rfl w1.heap.size (zeroD.map lG).toArray rfl rfl 33 z32 HR2.out hI32 hsz h1z ?_;rw[lZ HR2.out]));refine bodyPost_ret (v:=.tuple #[nH zeroD,nT Ax y]) (mT (fn:=Tryz.f38) (p:=4) (u:=5) rfl _ _ w1.heap.size _ _ rfl (lM (lH HR2.out)) rfl) rfl ?_;exact⟨⟨Ax,rfl⟩,HB2.out.setBlk (Nat.le_refl _)⟩
end Go.Proofs.YtdkedmngeahjiaaGreatDoor
