import Derived.Test.YtdkedmngeahjiaaGreatDoorM45
import Derived.Test.YtdkedmngeahjiaaGreatDoorRpSP
import Derived.Test.YtdkedmngeahjiaaGreatDoorM46
import Derived.Test.YtdkedmngeahjiaaGreatDoorM42
set_option maxRecDepth 100000
set_option maxHeartbeats 25600000
namespace Go.Proofs.YtdkedmngeahjiaaGreatDoor
open Go Go.RowKit
theorem Hx{w W:World}{a r n k wb rb xb N:Nat}{m:DM}(h:PlayB w a r W n m k m (KS a r wb rb xb))(hwb:w.heap.size≤wb)(hG:ErrT w)(hT:TabP m N)(hN:N≤33000000)(hn:n+N+9≤1000000000)(hk:k+N+9≤1000000000)
  (o:OpR) (kv:Value) (hF:o.Fits) (hkv:IntsIn w kv o.keep) (hK:o.kind=4):
  Calls Tryz.prog 20 #[.pointer (some ⟨wb,0,none⟩),.agg (o.cells kv).toArray] W (zP w a r wb (n+N+9) (k+N+9) (sD m o.kind o.name o.dig o.text o.num o.keep)):=by
 have HOF:=hZ hF;have HKV:=hZ hkv
 obtain⟨h32,f1,f2,f3,f4,f5⟩:=hF
 obtain⟨ob,hob⟩:∃b,W.heap.size=b:=⟨_,rfl⟩
 obtain⟨W0,hW0⟩:∃W0,W.alloc (opO o kv)=W0:=⟨_,rfl⟩
 have hp0:=h.keep (c:=ob) (o:=opO o kv) (W':=W0) aN bN bF;have hW0':W.alloc (.cells (o.cells kv).toArray 53)=W0:=hW0
 obtain⟨Ks,hKs⟩:∃Ks,(ob,opO o kv)::KS a r wb rb xb=Ks:=⟨_,rfl⟩
 have HSUB:Hid (∀q∈KS a r wb rb xb,q∈Ks):=hZ (fun q hq=>bG);have HMO:Hid ((ob,opO o kv)∈Ks):=hZ bJ
 have HMW:Hid ((wb,oD a r (some ⟨rb,0,none⟩) (some ⟨xb,0,none⟩))∈Ks):=hZ aP;have HMR:Hid ((rb,qI a)∈Ks):=hZ aP
 have HMX:Hid ((xb,pR r)∈Ks):=hZ aP;rw[hKs]at hp0;have HP0:=hZ hp0
 have HWZ:=hZ hwb;have HG:=hZ hG
 have HT:=hZ hT;have HNK:=hZ (show n+N+9≤1000000000∧k+N+9≤1000000000 from⟨hn,hk⟩)
 have HD32:=hZ h32;have HFN:=hZ f3
 have HKD:=hZ hK
 obtain⟨C,hC⟩:∃C,(o.cells kv).toArray=C:=⟨_,rfl⟩
 rw[hC]at hW0'⊢;have e0:=HP0.out.ocel ob HMO.out HD32.out
 obtain⟨a0,a1,-,-,-⟩:=e0
 obtain⟨nm,hnm⟩:∃nm,o.name=nm:=⟨_,rfl⟩
 obtain⟨D,hD⟩:∃D,o.dig=D:=⟨_,rfl⟩
 rw[hnm]at a1 HFN⊢;rw[hD]at HD32⊢;have HNM:=hZ hnm
 have HDD:=hZ hD
 obtain⟨⟨L,z⟩,hLz⟩:∃p,sB m=p:=⟨_,rfl⟩
 have hcz:Code z:=by have:=Hi m;rw[hLz]at this;exact this
 have hll:L.length≤1000000000:=by
  have h1:=FR m;have h2:=HT.out.fit.1
  rw[hLz]at h1;have h3:L.length≤m.now.length:=h1
  omega
 have hpm:sD m o.kind nm D o.text o.num o.keep=m:=by rw[hK];rfl
 have HPM:=hZ hpm;have HZC:=hZ hcz
 have HLZ:=hZ hLz
 obtain⟨LN,hLN⟩:∃x,L.length=x:=⟨_,rfl⟩
 obtain⟨PL,hPL⟩:∃x,L.map Nb=x:=⟨_,rfl⟩
 have hpn:PL.length=LN:=by rw[←hPL,List.length_map,hLN]
 have HPL:=hZ hPL;have HPN:=hZ hpn
 have HLN:=hZ hLN;have HLL:Hid (PL.length≤1000000000):=hZ (by rw[hpn,←hLN];exact hll)
 have HLM:Hid (PL.length≤33000000):=hZ (by
  have h1:=FR m;have h2:=HT.out.fit.1
  rw[hLz]at h1;have h3:L.length≤m.now.length:=h1
  rw[hpn,←hLN]
  omega)
 rw[hK]at a0;obtain⟨-,-,b2,b3⟩:=HP0.out.wcel wb HMW.out;have hp1:=HP0.out.plist HMR.out cR HT.out.short
 rw[hLz]at hp1;clear h hp0 hwb hG hT hn hk hW0 hKs h32 f1 f2 f3 f4 f5 hkv hC hnm hD hLz hcz hll hpm hLN hPL hpn hK;go_enter Tryz.func20,Tryz.ntmps20;go_wp2_with (rw[hW0']);refine hp1.mono ?_;rintro e w6 ⟨v0,t0,rfl,ho0,hb6⟩;obtain⟨p0,c0,rfl⟩:=oV ho0;have HO0:Hid (OwnG 83 2 PT.cells W0.heap.size PL (.slice p0 LN c0) w6):=hZ (by have h9:=OwnP.pr ho0;rw[HPL.out,HLN.out]at h9;exact h9)
 have HP6:=hZ (HP0.out.bel hb6);rw[show((L,z):List (List UInt8×ByteArray)×Int).1.length=LN from HLN.out,show((L,z):List (List UInt8×ByteArray)×Int).2=z from rfl];clear ho0 hp1 b2 b3;have hp2:=HP6.out.plist HMR.out cR HT.out.short
 rw[HLZ.out]at hp2;obtain⟨-,-,b2,b3⟩:=HP6.out.wcel wb HMW.out;go_wp2_with fail;refine hp2.mono ?_;rintro e w7 ⟨v1,t1,rfl,ho1,hb7⟩;obtain⟨p1,c1,rfl⟩:=oV ho1;have HO1:Hid (OwnG 83 2 PT.cells w6.heap.size PL (.slice p1 LN c1) w7):=hZ (by have h9:=OwnP.pr ho1;rw[HPL.out,HLN.out]at h9;exact h9)
 have HP7:=hZ (HP6.out.bel hb7);have HO07:=hZ (HO0.out.keepB hb7)
 have HB06:=hZ hb6;have HS6:=hZ (show W0.heap.size≤w6.heap.size from hb6.size)
 have HB7:=hZ hb7;rw[show((L,z):List (List UInt8×ByteArray)×Int).1.length=LN from HLN.out,show((L,z):List (List UInt8×ByteArray)×Int).2=z from rfl];clear ho1 hp2 b2 b3 hb6 hb7;have hp3:=HP7.out.rlist HMX.out cR HT.out.short
 rw[HLZ.out]at hp3;obtain⟨-,-,b2,b3⟩:=HP7.out.wcel wb HMW.out;go_wp2_with fail;refine hp3.mono ?_;rintro e w8 ⟨v2,rfl,ho2,hb8⟩;obtain⟨p2,c2,rfl⟩:=oV ho2;have HO2:Hid (OwnG 83 2 PT.cells w7.heap.size PL (.slice p2 LN c2) w8):=hZ (by have h9:=OwnP.pr ho2;rw[HPL.out,HLN.out]at h9;exact h9)
 have HP8:=hZ (HP7.out.bel hb8);have HO08:=hZ (HO07.out.keepB hb8)
 have HO18:=hZ (HO1.out.keepB hb8);have HB68:Hid (Below W0.heap.size W0 w8):=hZ ((HB06.out.trans (HB7.out.mono HB06.out.size)).trans (hb8.mono (Nat.le_trans HB06.out.size HB7.out.size)))
 have HS7:=hZ (show w6.heap.size≤w7.heap.size from HB7.out.size);have HS8:=hZ (show w7.heap.size≤w8.heap.size from hb8.size)
 have HE8:=hZ (HG.out.below HP8.out.toB HG.out.2);rw[show((L,z):List (List UInt8×ByteArray)×Int).1.length=LN from HLN.out,show((L,z):List (List UInt8×ByteArray)×Int).2=z from rfl];clear ho2 hp3 b2 b3 hb8;have hsd:=DP HO08.out HO2.out HLL.out
 go_wp2_with fail;refine hsd.mono ?_;rintro e w9 ⟨rfl,hb9⟩;have HB9:=hZ hb9
 clear hb9 hsd;have hsd:=DP (HO18.out.keepB HB9.out) (HO2.out.keepB HB9.out) HLL.out
 go_wp2_with fail;refine hsd.mono ?_;rintro e w10 ⟨rfl,hb10⟩;have HB10:=hZ (HB9.out.trans (hb10.mono HB9.out.size))
 clear hb10 hsd;have hpl:=oQ t0 z HZC.out z w10 (HE8.out.below HB10.out HE8.out.2)
 rw[beq_self_eq_true]at hpl;go_wp2_with fail;refine hpl.mono ?_;rintro e w11 ⟨rfl,hb11⟩;have HB11:=hZ (HB10.out.trans (hb11.mono HB10.out.size))
 clear hb11 hpl;have hpl:=oQ t1 z HZC.out z w11 (HE8.out.below HB11.out HE8.out.2)
 rw[beq_self_eq_true]at hpl;go_wp2_with fail;refine hpl.mono ?_;rintro e w12 ⟨rfl,hb12⟩;have HB12:=hZ (HB11.out.trans (hb12.mono HB11.out.size))
 clear hb12 hpl;have hba:Below w8.heap.size w8 (w12.alloc (.cells #[.slice p0 LN c0,.slice p1 LN c1] 79)):=HB12.out.alloc HB12.out.size _
 have ho1:=HO08.out.keepB hba;have ho2:=HO18.out.keepB hba
 have h12:∀b,(Value.slice p0 LN c0).ownBlock=some b→(Value.slice p1 LN c1).ownBlock≠some b:=fun b h1 h2=>by
  have:=(OwnG.block HO0.out h1).2.1;have:=(OwnG.block ho2 h2).1
  omega
 have hz8:W0.heap.size≤w12.heap.size:=by
  have h2:=HS6.out;have h3:=HS7.out;have h4:=HS8.out;have h5:=HB12.out.size
  omega
 have hA:=Hw #[.slice p0 LN c0,.slice p1 LN c1] w12.heap.size 2 W0.heap.size (fun _=>PL) _ ⟨lP w12 _,fun k v hk=>by
   match k,hk with
   |0,hk=>cases hk;exact ho1
   |1,hk=>cases hk;exact⟨ho2.1,ho2.2.imp id (fun⟨g,cap,cur,q1,q2,q3⟩=>⟨g,cap,cur,q1,Nat.le_trans HS6.out q2,q3⟩)⟩
   |k+2,hk=>simp at hk,Below.refl _ _,by
   rw[World.size_alloc];omega⟩ (fun j k v u b hj hk hne hb=>by
   match j,k,hj,hk,hne with
   |0,0,_,_,hne=>exact absurd rfl hne
   |1,1,_,_,hne=>exact absurd rfl hne
   |0,1,hj,hk,_=>cases hj;cases hk;exact h12 b hb
   |1,0,hj,hk,_=>cases hj;cases hk;exact fun h=>h12 b h hb
   |j+2,_,hj,_,_=>simp at hj
   |0,k+2,_,hk,_=>simp at hk
   |1,k+2,_,hk,_=>simp at hk) hz8 (Nat.zero_lt_succ _) (by show 2≤1000;decide) (by show 2≤2;decide) aA (fun _=>Nat.le_trans HLM.out aA)
 have HA:=hZ hA;have HBA:=hZ hba
 clear hA ho1 ho2 h12 hba hz8;go_wp2_with fail;refine HA.out.mono ?_;rintro e w14 ⟨rfl,hb14⟩;go_wp2_with fail;go_ret
 have hB14:Below W0.heap.size W0 w14:=by
  exact((HB68.out.trans (HBA.out.mono (by have:=HS6.out;have:=HS7.out;have:=HS8.out;omega)))).trans hb14
 exact⟨rfl,rb,xb,by rw[HPM.out];exact((HP0.out.bel hB14).more cR cR).sub HSUB.out⟩
theorem JL{w W:World}{a r n k wb rb xb N:Nat}{m:DM}(h:PlayB w a r W n m k m (KS a r wb rb xb))(hwb:w.heap.size≤wb)(hG:ErrT w)(hT:TabP m N)(hN:N≤33000000)(hn:n+N+9≤1000000000)(hk:k+N+9≤1000000000)
  (o:OpR) (kv:Value) (hF:o.Fits) (hkv:IntsIn w kv o.keep):
  Calls Tryz.prog 20 #[.pointer (some ⟨wb,0,none⟩),.agg (o.cells kv).toArray] W (zP w a r wb (n+N+9) (k+N+9) (sD m o.kind o.name o.dig o.text o.num o.keep)):=by
 by_cases h1:o.kind=1
 ·exact JG h hwb hG hT hn hk o kv hF hkv h1
 by_cases h2:o.kind=2
 ·exact JH h hwb hG hT hn hk o kv hF hkv h2
 by_cases h3:o.kind=3
 ·exact JI h hwb hG hT hn hk o kv hF hkv h3
 by_cases h4:o.kind=4
 ·exact Hx h hwb hG hT hN hn hk o kv hF hkv h4
 by_cases h5:o.kind=5
 ·exact Hs h hwb hG hT hn hk o kv hF hkv h5
 ·exact Hu h hwb hG hT hn hk o kv hF hkv ⟨h1,h2,h3,h4,h5⟩
def M3(w:World)(rm:Int)(e:Ending)(W:World):Prop:=∃wb a r rb xb,e=.returned (.pointer (some ⟨wb,0,none⟩))∧w.heap.size≤wb∧PlayB w a r W 1 (DM.new rm) 1 (DM.new rm) (KS a r wb rb xb)
theorem JM(w:World)(rm:Int)(h1:-9223372036854775808≤rm)(h2:rm≤9223372036854775807):
  Calls Tryz.prog 19 #[.int .i64 rm] w (M3 w rm):=by
 go_enter Tryz.func19,Tryz.ntmps19;go_wp2_with fail;refine(Is w rm h1 h2).mono ?_;rintro e w1 ⟨a,rfl,hd,hb1⟩;have HD:=hZ hd
 have HB1:=hZ hb1;clear hd hb1;go_wp2_with fail;refine(G4 w1 rm h1 h2).mono ?_;rintro e w2 ⟨r,rfl,hr,hb2⟩;have hp2:=PlayB.start HD.out HB1.out hr hb2
 have hz2:w.heap.size≤w2.heap.size:=Nat.le_trans HB1.out.size hb2.size
 obtain⟨wb,hwb⟩:∃b,w2.heap.size=b:=⟨_,rfl⟩
 obtain⟨W3,hW3⟩:∃W,w2.alloc (oD a r none none)=W:=⟨_,rfl⟩
 have hW3':w2.alloc (.cells #[.pointer (some ⟨a,0,none⟩),.pointer (some ⟨r,0,none⟩),.pointer none,.pointer none] 106)=W3:=hW3;have hp3:=hp2.keep (c:=wb) (o:=oD a r none none) (W':=W3) cK (by rw[hwb];exact Nat.le_refl _) (by rw[←hW3,←hwb];exact lP _ _)
 have HP3:=hZ hp3;have HWZ:Hid (w.heap.size≤wb):=hZ (by rw[←hwb];exact hz2)
 clear hp2 hp3 hz2 hr hb2 HD HB1 hW3;obtain⟨b0,b1,-,-⟩:=HP3.out.wcel wb (List.mem_cons_self ..);have hp1:=HP3.out.popen aA (AK rm)
 rw[Dt,FS]at hp1;go_wp2_with (rw[hW3']);refine hp1.mono ?_;rintro e w6 ⟨v,rfl,hv⟩
 obtain⟨rb,rfl,hp6⟩:∃rb,v=.tuple #[.pointer (some ⟨rb,0,none⟩),.nilIface]∧PlayB w a r w6 1 (DM.new rm) 0 (DM.new rm) [(rb,qI a),(wb,oD a r none none)]:=by
  rcases hv with⟨-,x⟩|⟨h9,-⟩
  ·exact x
  ·exact absurd rfl h9
 have HP6:=hZ hp6;clear hv hp6 hp1 b0 b1 hwb hW3';obtain⟨b0,b1,-,-⟩:=HP6.out.wcel (rp:=none) (xp:=none) wb eZ;have hp2:=HP6.out.ropen aA (AK rm)
 rw[Dt,FS]at hp2;go_wp2_with fail;refine hp2.mono ?_;rintro e w7 ⟨v,rfl,hv⟩
 obtain⟨xb,rfl,hp7⟩:∃xb,v=.tuple #[.pointer (some ⟨xb,0,none⟩),.int .i64 0]∧PlayB w a r w7 1 (DM.new rm) 1 (DM.new rm) [(xb,pR r),(rb,qI a),(wb,oD a r none none)]:=by
  rcases hv with⟨-,x⟩|⟨h9,-⟩
  ·exact x
  ·exact absurd rfl h9
 have HP7:=hZ hp7;clear hv hp7 hp2 b0 b1;have hm8:(wb,oD a r none none)∈[(xb,pR r),(rb,qI a),(wb,oD a r none none)]:=eZ
 have hk8:=HP7.out.kept _ hm8
 have hne1:rb≠wb:=fun e=>by
  have h1:=HP7.out.kept (rb,qI a) eZ;rw[e]at h1;have h2:=h1.symm.trans hk8
  unfold oD qI at h2;simp at h2
 have hne2:xb≠wb:=fun e=>by
  have h1:=HP7.out.kept (xb,pR r) eZ;rw[e]at h1;have h2:=h1.symm.trans hk8
  unfold oD pR at h2;simp at h2
 have hps:=HP7.out.set (b:=wb) (o:=oD a r none none) (o':=oD a r (some ⟨rb,0,none⟩) (some ⟨xb,0,none⟩)) hm8 HWZ.out (KS a r wb rb xb) (fun q hq=>by
  simp only[KS,List.mem_cons,List.not_mem_nil,or_false]at hq;rcases hq with rfl|rfl|rfl
  ·exact .inl rfl
  ·exact .inr ⟨eZ,hne1⟩
  ·exact .inr ⟨eZ,hne2⟩)
 have hst:(w7.setCell ⟨wb,2,none⟩ (.pointer (some ⟨rb,0,none⟩))).setCell ⟨wb,3,none⟩ (.pointer (some ⟨xb,0,none⟩))=setBlk w7 wb (oD a r (some ⟨rb,0,none⟩) (some ⟨xb,0,none⟩)):=Cm hk8;have HPS:=hZ hps
 have HST:=hZ hst;have c2:w7.cell? ⟨wb,2,none⟩=some (.pointer none):=cD
 have c3:w7.cell? ⟨wb,3,none⟩=some (.pointer none):=cD;have f2:w7.frozen? ⟨wb,2,none⟩=false:=cI
 have f3:w7.frozen? ⟨wb,3,none⟩=false:=cI;clear hm8 hk8 hne1 hne2 hps hst;go_wp2_with fail;rw[HST.out];go_ret;exact⟨wb,a,r,rb,xb,rfl,HWZ.out,HPS.out⟩
def yF(w:World)(wb:Nat)(i:Nat)(W:World):Prop:=∃(a r n rb xb N:Nat) (m:DM),PlayB w a r W n m n m (KS a r wb rb xb)∧TabP m N∧n≤1+820*i∧N≤2*i
theorem rP(w:World)(hG:ErrT w)(rm:Int)(h1:-9223372036854775808≤rm)(h2:rm≤9223372036854775807)(p:Option Addr)(cap:Nat)(l:List OpR)(hv:MR w (.slice p l.length cap) l)(hl:l.length≤1360000000000)(hs:∀o∈l,o.Fits):
  Calls Tryz.prog 5 #[.int .i64 rm,.slice p l.length cap] w fun e w'=>e=.returned (.bool true)∧Below w.heap.size w w':=by
 have HG:=hZ hG;have HV:=hZ hv
 have HSZ:=hZ hs
 obtain⟨L,hL⟩:∃L,l.length=L:=⟨_,rfl⟩
 rw[hL]at HV hl⊢;have HL:=hZ hL
 have hli:(L:Int)≤1360000000000:=aC;clear hv hs hL hG;go_enter Tryz.func5,Tryz.ntmps5;go_wp2_with fail;refine(JM w rm h1 h2).mono ?_;rintro e W1 ⟨wb,a,r,rb,xb,rfl,hwz,hp1⟩;have HWZ:=hZ hwz
 have hS1:yF w wb 0 W1:=⟨a,r,1,rb,xb,0,DM.new rm,hp1,TabP.new rm,aA,aA⟩
 have HW1:=hZ (HG.out.below hp1.toB HG.out.2);have hwk:=tD W1 HW1.out
 have HS1:=hZ hS1;clear hwz hp1 hS1;go_wp2_with fail;refine hwk.mono ?_;rintro e W2 ⟨rfl,hb2⟩
 have HS2:Hid (yF w wb 0 W2):=hZ (by
  obtain⟨a,r,n,rb,xb,N,m,q1,q2,q3,q4⟩:=HS1.out;exact⟨a,r,n,rb,xb,N,m,q1.bel hb2,q2,q3,q4⟩)
 clear hb2 hwk HS1 HW1;go_upto_block 0 with fail
 go_cut [6,7]from 16 (fun _ _ wr=>Hid (yF w wb 400 wr))
 case first=>
  go_wp2_with fail;go_loopw [6,7] (fun sv iv wr=>∃i:Nat,(i:Int)≤400∧(i:Int)≤L∧iv=.int .i64 i∧∃c:Nat,sv=.int .i64 c∧(c:Int)≤262144∧Hid (yF w wb i wr)) (fun _ iv _=>400-(intOf iv).toNat)
  case atStart=>exact⟨0,aA,aC,rfl,0,rfl,aA,HS2⟩
  case round=>
   clear HS2;obtain⟨i,hi4,hiL,rfl,c,rfl,hc,HS⟩:=hrel;by_cases hgo:(i:Int)<L∧(i:Int)<400
   ·obtain⟨hlt,hl4⟩:=hgo;have hil:i<l.length:=jU
    obtain⟨o,ho⟩:∃o,l[i]?=some o:=⟨_,List.getElem?_eq_getElem hil⟩
    have hfit:=HSZ.out o (List.mem_of_getElem? ho);obtain⟨h32,-,-,hf4,hf5,hf6⟩:=id hfit;obtain⟨p',cap',he,hvv⟩:=HV.out;obtain⟨vb,vo,kv,hvp,hvl,hvc,hki⟩:=hvv i o ho;have hpe:p=some ⟨vb,vo,none⟩:=dN
    subst hpe;have HKI:=hZ hki
    obtain⟨kp,kc,rfl,-,-⟩:=hki
    have HB:Hid (Below w.heap.size w wr):=hZ (by
     obtain⟨a,r,n,rb,xb,N,m,q1,-⟩:=HS.out;exact q1.toB)
    have hcel:∀(W:World),Below w.heap.size w W→∀j,j<37→W.cell? ⟨vb,vo+(i*37+j),none⟩=(o.cells (.slice kp o.keep.length kc))[j]?:=fun W hb j hj=>(hb.cell (p:=⟨vb,vo+(i*37+j),none⟩) hvl).trans (hvc j hj)
    have HCEL:=hZ hcel;have c1:∀n:Nat,(wr.drewN n).cell? ⟨vb,vo+i*37+1,none⟩=some (.string o.name):=fun n=>by rw[Nat.add_assoc];exact hcel _ (oS HB.out n) 1 aA
    have c34:∀n:Nat,(wr.drewN n).cell? ⟨vb,vo+i*37+34,none⟩=some (.string o.text):=fun n=>by rw[Nat.add_assoc];exact(hcel _ (oS HB.out n) 34 aA).trans (OpR.c34 h32)
    have c36:∀n:Nat,(wr.drewN n).cell? ⟨vb,vo+i*37+36,none⟩=some (.slice kp o.keep.length kc):=fun n=>by rw[Nat.add_assoc];exact(hcel _ (oS HB.out n) 36 aA).trans (OpR.c36 h32)
    obtain⟨nm,hnm⟩:∃x,o.name=x:=⟨_,rfl⟩
    obtain⟨tx,htx⟩:∃x,o.text=x:=⟨_,rfl⟩
    obtain⟨kl,hkl⟩:∃x,o.keep.length=x:=⟨_,rfl⟩
    rw[hnm]at hf4 c1;rw[htx]at hf5 c34;rw[hkl]at hf6 c36;have hn1:(nm.size:Int)≤140737488351232:=aC
    have hn2:(tx.size:Int)≤140737488351232:=aC;have hn3:(kl:Int)≤140737488351232:=aC
    have hi0:(0:Int)≤(i:Int):=aC;have hw1:IntKind.i64.wrap ((c:Int)+(tx.size:Int))=(c:Int)+(tx.size:Int):=xK aC aC
    have hw2:IntKind.i64.wrap ((c:Int)+(tx.size:Int)+(nm.size:Int))=(c:Int)+(tx.size:Int)+(nm.size:Int):=xK aC aC;have hw3:IntKind.i64.wrap ((c:Int)+(tx.size:Int)+(nm.size:Int)+(kl:Int))=(c:Int)+(tx.size:Int)+(nm.size:Int)+(kl:Int):=xK aC aC
    have HFIT:=hZ hfit;have HKL:=hZ hkl
    clear hcel hil ho he hvv hvp hvl hvc hnm htx hkl hf4 hf5 hf6 hfit;go_wp2_with fail;go_quiet (fail);rename_i nq
    obtain⟨W,hW⟩:∃W,wr.drewN nq=W:=⟨_,rfl⟩
    rw[hW]
    have HSW:Hid (yF w wb i W):=hZ (by
     obtain⟨a,r,n,rb,xb,N,m,q1,q2,q3,q4⟩:=HS.out;exact⟨a,r,n,rb,xb,N,m,by rw[←hW];exact q1.dr nq,q2,q3,q4⟩)
    clear hW c1 c34 c36 hw1 hw2 hw3 HB HS;by_cases hbr:(c:Int)+(tx.size:Int)+(nm.size:Int)+(kl:Int)>262144
    ·have HS4:Hid (yF w wb 400 W):=hZ (by
      obtain⟨a,r,n,rb,xb,N,m,q1,q2,q3,q4⟩:=HSW.out;exact⟨a,r,n,rb,xb,N,m,q1,q2,aC,aC⟩)
     go_wp2_with fail;go_meet;exact HS4
    ·obtain⟨a,r,n,rb,xb,N,m,q1,q2,q3,q4⟩:=HSW.out;have hpl:=JL q1 HWZ.out HG.out q2 aC aC aC o _ HFIT.out HKI.out
     have hrg:W.rangeAt vb (vo+i*37) (o.cells (.slice kp o.keep.length kc)):=fun j u hj=>by
      have hj37:j<37:=by have:=(List.getElem?_eq_some_iff.1 hj).1;rw[OpR.len h32]at this;exact this
      rw[Nat.add_assoc];exact(HCEL.out W q1.toB j hj37).trans hj
     have hoi:=Ak (kv:=.slice kp o.keep.length kc) h32;have hou:Tryz.prog.underlying 53=some _:=Tryz.underlying53
     have hTN:=q2.play o.kind o.name o.dig o.text o.num o.keep
     obtain⟨M,hM⟩:∃M,sD m o.kind o.name o.dig o.text o.num o.keep=M:=⟨_,rfl⟩
     rw[hM]at hpl hTN
     obtain⟨C,hC⟩:∃C,o.cells (.slice kp o.keep.length kc)=C:=⟨_,rfl⟩
     rw[hC]at hpl hrg hoi;have HRG:=hZ hrg
     have HTN:=hZ hTN;have HQ:=hZ (show n≤1+820*i∧N≤2*i from⟨q3,q4⟩)
     clear hrg q1 q2 q3 q4 hM hC HSW hTN;go_wp2_with (first|refine wpList_load_mid rfl _ _ rfl vb (vo+i*37) rfl C _ HRG.out hou rfl hoi ?_);refine hpl.mono ?_;rintro e w5 ⟨rfl,rb',xb',hp5⟩;have HP5:Hid (yF w wb (i+1) w5):=hZ ⟨a,r,_,rb',xb',N+2,M,hp5,HTN.out,by have:=HQ.out;omega,by have:=HQ.out;omega⟩
     clear hp5 hpl;go_wp2_with fail;exact⟨⟨i+1,aC,aC,aG,c+tx.size+nm.size+kl,by rw[Int.natCast_add,Int.natCast_add,Int.natCast_add],aC,HP5⟩,cN⟩
   ·have HS4:Hid (yF w wb 400 wr):=hZ (by
     obtain⟨a,r,n,rb,xb,N,m,q1,q2,q3,q4⟩:=HS.out;exact⟨a,r,n,rb,xb,N,m,q1,q2,aC,aC⟩)
    rcases (show(L:Int)≤i∨((i:Int)<L∧400≤(i:Int)) by omega)with h1|⟨h1,h2⟩
    all_goals
     go_wp2_with fail;go_meet;exact HS4
 case rest=>
  clear HS2;obtain⟨a,r,n,rb,xb,N,m,q1,q2,q3,q4⟩:=hcut.out;have hal:=JJ q1 (rp:=some ⟨rb,0,none⟩) (xp:=some ⟨xb,0,none⟩) (wb:=wb) (by simp[KS]) q2.short HG.out aC aC
  clear q1 q2 q3 q4 hcut;go_wp2_with fail;refine hal.mono ?_;rintro e w9 ⟨rfl,hb9⟩;have HB9:=hZ hb9
  clear hb9 hal;go_wp2_with fail;go_ret;exact⟨rfl,HB9.out⟩
end Go.Proofs.YtdkedmngeahjiaaGreatDoor
