import Derived.Test.YtdkedmngeahjiaaGreatDoorM29
import Derived.Test.YtdkedmngeahjiaaGreatDoorM28
import Derived.Test.YtdkedmngeahjiaaGreatDoorM10
set_option maxRecDepth 100000
set_option maxHeartbeats 25600000
namespace Go.Proofs.YtdkedmngeahjiaaGreatDoor
theorem kM{p:Prop}(h:p:=by first|rfl|(rw[e];rfl)):p:=h
open Go Go.RowKit Go.Maps Go.Shelf
theorem ErrT.below{w w':World}(h:ErrT w){B:Nat}(hb:Below B w w')(hB:0<B):ErrT w':=
 ⟨(hb.cell (p:=⟨0,0,none⟩) hB).trans h.1,Nat.lt_of_lt_of_le h.2 hb.size⟩
theorem ErrT.alloc{w:World}(h:ErrT w)(o:Obj):ErrT (w.alloc o):=h.below ((Below.refl w.heap.size w).alloc (Nat.le_refl _) o) h.2
theorem L8{x:Int}(h:x≠0):nG x=nJ x:=by unfold nG;rw[if_neg h]
theorem Ix(x:Int)(hx:x=0∨(1≤x∧x≤32))(n:Int)(w:World)(hG:ErrT w):
  Calls Tryz.prog 10 #[nG x,.int .i64 n] w fun e w'=>e=.returned (.bool (x==n))∧Below w.heap.size w w':=by
 by_cases h0:x=0
 ·subst h0;have hn:=fun W=>Iu W
  cases hc:((0:Int)==n)with
  |true=>
   obtain rfl:(0:Int)=n:=bM;show Calls _ _ #[.nilIface,_] _ _
   go_enter Tryz.func10,Tryz.ntmps10;go_wp2_with (go_at_call 36;refine(hn _).mono ?_;rintro e w1 ⟨rfl,rfl⟩);go_ret;exact bP
  |false=>
   have hne:¬(0:Int)=n:=bM;show Calls _ _ #[.nilIface,_] _ _
   go_enter Tryz.func10,Tryz.ntmps10;go_wp2_with (go_at_call 36;refine(hn _).mono ?_;rintro e w1 ⟨rfl,rfl⟩);go_ret;exact⟨by simp[hc],(Below.refl _ _).alloc (Nat.le_refl _) _⟩
 ·have hx1:1≤x∧x≤32:=by omega
  rw[L8 h0];have hn:=fun W=>Iv _ _ x W (Fr x) hx1.1 hx1.2
  have ha:=fun W (hE:ErrT W)=>KF x w.heap.size W hE
  unfold nJ at ha⊢
  cases hc:(x==n)with
  |true=>
   obtain rfl:x=n:=bM;go_enter Tryz.func10,Tryz.ntmps10
   go_wp2_with (first
    |(go_at_call 36;refine(hn _).mono ?_;rintro e w1 ⟨rfl,hb⟩;have HB:=hZ (((Below.refl w.heap.size w).alloc (Nat.le_refl _) _).trans (hb.mono eZ));clear hb)
    |(go_at_call 37;refine(ha _ (hG.below HB.out hG.2)).mono ?_;rintro e w2 ⟨rfl,hb⟩;have HB2:=hZ (HB.out.trans (hb.mono HB.out.size));clear hb))
   go_ret;exact gT
  |false=>
   have hne:¬x=n:=bM;go_enter Tryz.func10,Tryz.ntmps10
   go_wp2_with (first
    |(go_at_call 36;refine(hn _).mono ?_;rintro e w1 ⟨rfl,hb⟩;have HB:=hZ (((Below.refl w.heap.size w).alloc (Nat.le_refl _) _).trans (hb.mono eZ));clear hb))
   go_ret;exact⟨by simp[hc],HB.out⟩
def TextsRd(w:World)(v:Value)(l:List ByteArray):Prop:=∃p cap,v=.slice p l.length cap∧∀(i:Nat) (s:ByteArray),l[i]?=some s→∃b off,p=some ⟨b,off,none⟩∧b<w.heap.size∧w.cell? ⟨b,off+i,none⟩=some (.string s)
theorem OwnTexts.rd{B:Nat}{w:World}{v:Value}{l:List ByteArray}(h:OwnTexts B w v l):TextsRd w v l:=by
 obtain⟨p,cap,rfl,h1⟩:=Cx h;refine⟨p,cap,rfl,fun i s hs=>?_⟩;obtain⟨g,cs,e,hg,hc⟩:=h1 i (tJ s) (by rw[List.getElem?_map,hs];rfl);exact⟨g,0,e,lH hg,by rw[Nat.zero_add,lF hg];exact hc⟩
theorem TextsRd.below{w w':World}{v:Value}{l:List ByteArray}(h:TextsRd w v l)(hb:Below w.heap.size w w'):TextsRd w' v l:=by
 obtain⟨p,cap,rfl,h1⟩:=h;refine⟨p,cap,rfl,fun i s hs=>?_⟩;obtain⟨b,off,e,h2,h3⟩:=h1 i s hs;exact⟨b,off,e,Nat.lt_of_lt_of_le h2 hb.size,(hb.cell (p:=⟨b,off+i,none⟩) h2).trans h3⟩
theorem TextsRd.len{w:World}{v:Value}{l:List ByteArray}(h:TextsRd w v l):∃p cap,v=.slice p l.length cap:=by
 obtain⟨p,cap,rfl,_⟩:=h;exact⟨p,cap,rfl⟩
def Ac(a b:List ByteArray):Bool:=decide (a=b)
theorem G0(w:World)(v u:Value)(a b:List ByteArray)(ha:TextsRd w v a)(hb:TextsRd w u b)(hl:a.length≤8000000000000):
  Calls Tryz.prog 66 #[v,u] w fun e w'=>e=.returned (.bool (Ac a b))∧Below w.heap.size w w':=by
 obtain⟨p,cap,rfl,ha⟩:=ha;obtain⟨q,cap2,rfl,hb⟩:=hb;have HA:=hZ ha
 have HB:=hZ hb;clear ha hb
 by_cases hlen:(a.length:Int)=(b.length:Int)
 ·obtain⟨N,hN⟩:∃N,a.length=N:=⟨_,rfl⟩
  have hN2:b.length=N:=aC;rw[hN,hN2];have hNi:(N:Int)≤8000000000000:=aC
  have HNA:=hZ hN;have HNB:=hZ hN2
  clear hN hN2 hlen hl;go_enter Tryz.func66,Tryz.ntmps66;go_wp2_with fail;go_loopw [5] (fun iv wr=>∃i:Nat,i≤N∧iv=.int .i64 i∧Hid (a.take i=b.take i)∧Hid (Below w.heap.size w wr)) (fun iv _=>(N-intOf iv).toNat)
  case atStart=>exact⟨0,Nat.zero_le _,rfl,rfl,Below.refl _ _⟩
  case round=>
   obtain⟨i,hi,rfl,HE,HW⟩:=hrel;by_cases hlt:(i:Int)<(N:Int)
   ·obtain⟨x,hx⟩:∃x,a[i]?=some x:=⟨_,List.getElem?_eq_getElem (by have:=HNA.out;have:=HNB.out;omega)⟩
    obtain⟨y,hy⟩:∃y,b[i]?=some y:=⟨_,List.getElem?_eq_getElem (by have:=HNA.out;have:=HNB.out;omega)⟩
    obtain⟨b1,o1,rfl,hb1,hc1⟩:=HA.out i x hx;obtain⟨b2,o2,rfl,hb2,hc2⟩:=HB.out i y hy;have c1:wr.cell? ⟨b1,o1+i,none⟩=some (.string x):=(HW.out.cell (p:=⟨b1,o1+i,none⟩) hb1).trans hc1
    have c2:wr.cell? ⟨b2,o2+i,none⟩=some (.string y):=(HW.out.cell (p:=⟨b2,o2+i,none⟩) hb2).trans hc2;have HX:=hZ hx
    have HY:=hZ hy;clear hx hy hc1 hc2 hb1 hb2;by_cases hxy:x=y
    ·subst hxy;have HN:=hZ (show a.take (i+1)=b.take (i+1) by rw[List.take_add_one,List.take_add_one,HX.out,HY.out,HE.out])
     go_wp2_with fail;refine lT 8 mC aE ?_;simp only[List.take_succ_cons,List.take_zero,List.drop_succ_cons,List.drop_zero]
     repeat still_step
     refine wpStill_nil ?_;go_wp2_with fail;go_roundw
     case rel=>exact⟨i+1,aC,rfl,HN,HW.out.drew⟩
     case measure=>simp[intOf];omega
    ·have e:Ac a b=false:=by
      unfold Ac;rw[decide_eq_false_iff_not];rintro rfl;have h1:=HX.out
      rw[HY.out]at h1;cases h1;exact hxy rfl
     have hne:(x.toList==y.toList)=false:=beq_eq_false_iff_ne.2 fun h=>hxy (by
      rw[ByteArray.toList_eq,ByteArray.toList_eq]at h;exact ByteArray.ext (Array.toList_inj.1 h))
     go_wp2_with fail;refine lT 8 mC aE ?_;simp only[List.take_succ_cons,List.take_zero,List.drop_succ_cons,List.drop_zero]
     repeat still_step
     refine wpStill_nil ?_;go_wp2_with fail;go_ret;exact⟨kM,HW.out.drew⟩
   ·obtain rfl:i=N:=by omega
    have e:Ac a b=true:=by
     unfold Ac;rw[decide_eq_true_eq];have:=HE.out
     rw[List.take_of_length_le (by have:=HNA.out;omega),List.take_of_length_le (by have:=HNB.out;omega)]at this;exact this
    go_wp2_with fail;go_ret;exact⟨kM,HW.out⟩
 ·have e:Ac a b=false:=by unfold Ac;rw[decide_eq_false_iff_not];rintro rfl;exact hlen rfl
  have hali:(a.length:Int)≤8000000000000:=aC;go_enter Tryz.func66,Tryz.ntmps66;go_wp2_with fail;go_ret;exact⟨kM,Below.refl _ _⟩
open Go.Extern.Stop Go.Stop Go.Extern
def AF(s:ByteArray)(n:Int):Value:=.iface 132 (.agg #[.string s,nJ n])
theorem Ja(v:Value)(w:World):(Instr.typeAssert (.iface 132 v) 25 209 true).run Tryz.prog w=.ok (.tuple #[.nilIface,.bool false]) w:=run_typeAssert_lacksB Tryz.underlying209 aE aE v 25 w
theorem Jb(v:Value)(w:World):(Instr.typeAssert (.iface 132 v) 25 202 true).run Tryz.prog w=.ok (.tuple #[.nilIface,.bool false]) w:=run_typeAssert_lacksB Tryz.underlying202 aE aE v 25 w
theorem Dh(v:Value)(w:World):(Instr.typeAssert (.iface 132 v) 25 205 true).run Tryz.prog w=.ok (.tuple #[.iface 132 v,.bool true]) w:=run_typeAssert_hasB Tryz.underlying205 aE v 25 w
theorem xX(k:Nat)(x y:Value)(w:World):(Go.method (k+1) 132 (.agg #[x,y]) "Unwrap").run Tryz.prog w= .ok (229, .agg #[x,y]) w:=by kernel_rfl
theorem Ek(v x:Value)(w:World):(binOp .eql 25 (.iface 132 v) (.iface 71 x)).run Tryz.prog w=.ok (.bool false) w:=run_eql_iface_types _ _ v x Tryz.underlying25 aA w
theorem G1(v:Value)(w:World):(ReflectliteType.typeOf #[.iface 132 v]).run Tryz.prog w=.ok (.iface 198 (.agg #[.pointer (some ⟨6,132,none⟩)])) w:=aE
theorem FD(w:World):(ReflectliteType.relation "AssignableTo" ReflectliteType.assignableTo #[.agg #[.pointer (some ⟨6,132,none⟩)], .iface 198 (.agg #[.pointer (some ⟨6,73,none⟩)])]).run Tryz.prog w= .ok (.bool false) w:=by kernel_rfl
theorem Bf(s:ByteArray)(n:Int)(w:World):
  Calls Tryz.prog 229 #[.agg #[.string s,nJ n]] w fun e w'=>e=.returned (nJ n)∧Below w.heap.size w w':=by
 unfold nJ;go_enter Tryz.func229,Tryz.ntmps229;go_wp2_with fail;go_ret;exact bP
theorem Jc(s:ByteArray)(n k:Int)(w:World):
  Calls Tryz.prog 87 #[AF s n,nJ k,.bool true] w fun e w'=>e=.returned (.bool (n==k))∧Below w.heap.size w w':=by
 unfold AF nJ;have t0:=Fo
 have t1:=A8;have t2:=vA
 have t3:=tP;have t4:=Ek
 have t5:=Ja;have t6:=Dh
 have t7:=xX;go_enter Tryz.func87,Tryz.ntmps87;go_wp2_with fail;refine wp_loop_rounds 2 ?_;rw[rounds_succ];go_wp2_with fail;refine(Bf s n _).mono ?_;rintro e w1 ⟨rfl,hb⟩;have HB:=hZ hb
 clear hb;unfold nJ;go_wp2_with fail;rw[rounds_succ];go_wp2_with fail
 all_goals
  go_ret;exact⟨It ‹_›,HB.out⟩
theorem MP(s:ByteArray)(n k:Int)(w:World):
  Calls Tryz.prog 41 #[AF s n,nJ k] w fun e w'=>e=.returned (.bool (n==k))∧Below w.heap.size w w':=by
 have hin:=Jc s n k;unfold AF nJ at hin⊢;have HIN:=hZ hin
 have h40:=@run_callFunc_extern Tryz.prog 86 _ _ Tryz.func86 aE aE aE uY;have h103:=@run_callFunc_extern Tryz.prog 236 _ _ Tryz.func236 aE aE aE xB
 have c1:=tN;have c2:=vX
 have c3:=uZ;clear hin;go_enter Tryz.func41,Tryz.ntmps41;go_wp2_with fail;refine(HIN.out _).mono ?_;rintro e w1 ⟨rfl,hb⟩;have HB:=hZ hb
 clear hb;go_wp2_with fail;go_ret;exact⟨rfl,HB.out⟩
theorem Jd(s:ByteArray)(n:Int):KE (AF s n) n:=fun k w=>MP s n k w
theorem El(s:ByteArray)(n:Int)(x rv:Value)(hrv:∃cs:Array Value,rv=.agg cs)(w:World):
  Calls Tryz.prog 84 #[AF s n,x,rv,rtF] w fun e w'=>e=.returned (.bool false)∧Below w.heap.size w w':=by
 obtain⟨cs,rfl⟩:=hrv;unfold AF nJ rtF;have h40:=@run_callFunc_extern Tryz.prog 86 _ _ Tryz.func86 aE aE aE uY
 have h102:=@run_callFunc_extern Tryz.prog 235 _ _ Tryz.func235 aE aE aE xD;have tO:=tN
 have tR:=G1;have mA:=sC
 have aF:=Ba;have aR:=FD
 have t1:=Bb;have t2:=vA
 have t3:=tP;have t4:=Jb
 have t5:=Dh;have t6:=xX
 go_enter Tryz.func84,Tryz.ntmps84;go_wp2_with fail;refine wp_loop_rounds 2 ?_;rw[rounds_succ];go_wp2_with fail;refine(Bf s n _).mono ?_;rintro e w1 ⟨rfl,hb⟩;have HBB:=hZ hb
 clear hb;unfold nJ;go_wp2_with fail;rw[rounds_succ];go_wp2_with fail;go_ret;exact⟨rfl,((Below.refl w.heap.size w).alloc (Nat.le_refl _) _).trans (HBB.out.mono cO)⟩
theorem G2(s:ByteArray)(n:Int)(t:Nat)(w:World)(hG:ErrT w):
  Calls Tryz.prog 37 #[AF s n,.iface 76 (.pointer (some ⟨t,0,none⟩))] w fun e w'=>
   e=.returned (.bool false)∧Below w.heap.size w w':=by
 unfold AF nJ;have h52:=@run_callFunc_extern Tryz.prog 81 _ _ Tryz.func81 aE aE aE Aa
 have h53:=@run_callFunc_extern Tryz.prog 82 _ _ Tryz.func82 aE aE aE Dc;have h54:=@run_callFunc_extern Tryz.prog 83 _ _ Tryz.func83 aE aE aE BY
 have h94:=@run_callFunc_extern Tryz.prog 222 _ _ Tryz.func222 aE aE aE Dd;have h104:=@run_callFunc_extern Tryz.prog 237 _ _ Tryz.func237 aE aE aE De
 have h105:=@run_callFunc_extern Tryz.prog 238 _ _ Tryz.func238 aE aE aE xC;have vT:=A9
 have tT:=Fs;have mK:=yX
 have kT:=Ft;have kF:=Fu
 have mE:=yY;have eT:=Fv
 have mI:=tG;have iF:=xV
 have n54:=Db ⟨w.heap.size,0,none⟩ ⟨t,0,none⟩ ((w.alloc (.cells #[.pointer (some ⟨t,0,none⟩)] 76)).alloc (.cells #[.pointer (some ⟨6,76,none⟩),.pointer (some ⟨w.heap.size,0,none⟩),.int .u64 150] 137))
  ((rL eZ).trans (vO _ _ _ _))
 have hg2:((w.alloc (.cells #[.pointer (some ⟨t,0,none⟩)] 76)).alloc (.cells #[.pointer (some ⟨6,76,none⟩),.pointer (some ⟨w.heap.size,0,none⟩),.int .u64 150] 137)).cell? ⟨0,0,none⟩=some (.iface 198 (.agg #[.pointer (some ⟨6,25,none⟩)])):=
  (rL jO).trans ((rL hG.2).trans hG.1)
 go_enter Tryz.func37,Tryz.ntmps37;go_wp2_with fail;refine(El s n _ _ ⟨_,rfl⟩ _).mono ?_;rintro e w1 ⟨rfl,h2⟩;have H2:=hZ (((((Below.refl w.heap.size w).alloc (Nat.le_refl _) (.cells #[.pointer (some ⟨t,0,none⟩)] 76)).alloc eZ (.cells #[.pointer (some ⟨6,76,none⟩),.pointer (some ⟨w.heap.size,0,none⟩),.int .u64 150] 137)).trans (h2.mono iE)))
 clear h2;go_wp2_with fail;go_ret;exact⟨rfl,H2.out⟩
def nT(s:ByteArray)(n:Int):Value:=if n=0 then .nilIface else AF s n
theorem oQ(s:ByteArray)(x:Int)(hx:x=0∨(1≤x∧x≤32))(n:Int)(w:World)(hG:ErrT w):
  Calls Tryz.prog 10 #[nT s x,.int .i64 n] w fun e w'=>e=.returned (.bool (x==n))∧Below w.heap.size w w':=by
 by_cases h0:x=0
 ·subst h0;have hn:=fun W=>Iu W
  cases hc:((0:Int)==n)with
  |true=>
   obtain rfl:(0:Int)=n:=bM;show Calls _ _ #[.nilIface,_] _ _
   go_enter Tryz.func10,Tryz.ntmps10;go_wp2_with (go_at_call 36;refine(hn _).mono ?_;rintro e w1 ⟨rfl,rfl⟩);go_ret;exact bP
  |false=>
   have hne:¬(0:Int)=n:=bM;show Calls _ _ #[.nilIface,_] _ _
   go_enter Tryz.func10,Tryz.ntmps10;go_wp2_with (go_at_call 36;refine(hn _).mono ?_;rintro e w1 ⟨rfl,rfl⟩);go_ret;exact⟨by simp[hc],(Below.refl _ _).alloc (Nat.le_refl _) _⟩
 ·have hx1:1≤x∧x≤32:=by omega
  rw[show nT s x=AF s x from if_neg h0];have hn:=fun W=>Iv _ _ x W (Jd s x) hx1.1 hx1.2
  have ha:=fun W (hE:ErrT W)=>G2 s x w.heap.size W hE
  unfold AF nJ at ha⊢;unfold nJ at hn
  cases hc:(x==n)with
  |true=>
   obtain rfl:x=n:=bM;go_enter Tryz.func10,Tryz.ntmps10
   go_wp2_with (first
    |(go_at_call 36;refine(hn _).mono ?_;rintro e w1 ⟨rfl,hb⟩;have HB:=hZ (((Below.refl w.heap.size w).alloc (Nat.le_refl _) _).trans (hb.mono eZ));clear hb)
    |(go_at_call 37;refine(ha _ (hG.below HB.out hG.2)).mono ?_;rintro e w2 ⟨rfl,hb⟩;have HB2:=hZ (HB.out.trans (hb.mono HB.out.size));clear hb))
   go_ret;exact gT
  |false=>
   have hne:¬x=n:=bM;go_enter Tryz.func10,Tryz.ntmps10
   go_wp2_with (first
    |(go_at_call 36;refine(hn _).mono ?_;rintro e w1 ⟨rfl,hb⟩;have HB:=hZ (((Below.refl w.heap.size w).alloc (Nat.le_refl _) _).trans (hb.mono eZ));clear hb))
   go_ret;exact⟨by simp[hc],HB.out⟩
end Go.Proofs.YtdkedmngeahjiaaGreatDoor
