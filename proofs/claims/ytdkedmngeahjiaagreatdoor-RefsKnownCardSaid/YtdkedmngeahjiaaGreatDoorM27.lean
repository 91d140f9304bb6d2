import Derived.Test.YtdkedmngeahjiaaGreatDoorRfOf
import Derived.Test.YtdkedmngeahjiaaGreatDoorM13
import Derived.Shelf.Strings.SlTrimAscii
import Derived.Shelf.Strings.SplitCore
set_option maxRecDepth 100000
set_option maxHeartbeats 25600000
namespace Go.Proofs.YtdkedmngeahjiaaGreatDoor
theorem eO{p:Prop}(h:p:=by have:=Fl hp;omega):p:=h
theorem fM{p:Prop}(h:p:=by have:=HJ.out;rw[List.take_of_length_le (by rw[HKK.out];exact Nat.le_refl _)]at this;exact this):p:=h
theorem fN{p:Prop}(h:p:=by have:=HJ.out;rw[List.take_of_length_le (by rw[HK.out];exact Nat.le_refl _)]at this;exact this):p:=h
theorem fT{p:Prop}(h:p:=by rw[HPE.out];rfl):p:=h
theorem jA{p:Prop}(h:p:=by exact⟨rfl,HB3.out⟩):p:=h
theorem jP{p:Prop}(h:p:=by exact⟨⟨k+1,aC,aG,hZ (BX HP.out HJ.out HX.out),trivial⟩,cN⟩):p:=h
open Go Go.RowKit
theorem C9{c:UInt8}{l:List UInt8}(h:c∉l):Lib.indexByte l c=-1:=by
 have h1:=Lib.indexByte_ge l c;by_cases h0:Lib.indexByte l c=-1
 ·exact h0
 ·obtain⟨o,ho⟩:∃o:Nat,Lib.indexByte l c=o:=⟨(Lib.indexByte l c).toNat,aC⟩
  exact absurd (List.mem_of_getElem? (Lib.indexByte_some ho).1) h
theorem BW{c:UInt8}(b:List UInt8){a:List UInt8}(h:c∉a):Lib.indexByte (a++c::b) c=a.length:=by
 have h1:=Lib.indexByte_ge (a++c::b) c;have hc:(a++c::b)[a.length]?=some c:=iM
 by_cases h0:Lib.indexByte (a++c::b) c=-1
 ·exact absurd hc (Lib.indexByte_none h0 _)
 ·obtain⟨o,ho⟩:∃o:Nat,Lib.indexByte (a++c::b) c=o:=⟨(Lib.indexByte (a++c::b) c).toNat,aC⟩
  obtain⟨h2,h3⟩:=Lib.indexByte_some ho;rw[ho];have h4:¬a.length<o:=fun hlt=>h3 _ hlt hc
  have h5:¬o<a.length:=fun hlt=>by
   rw[List.getElem?_append_left hlt]at h2;exact h (List.mem_of_getElem? h2)
  omega
theorem Fj(l:List UInt8)(c:UInt8):Lib.index l [c]=Lib.indexByte l c:=by
 rcases rK c l with h|⟨a,b,rfl,h⟩
 ·rw[BL h,C9 h]
 ·rw[yL b h,BW b h]
theorem KA(s:ByteArray)(hs:(s.size:Int)≤140737488355328)(c:UInt8)(w:World):
  Calls Tryz.prog 133 #[.string s,.string ⟨#[c]⟩] w fun e w'=>e=.returned (.tuple #[lV (Lib.cut s.data.toList [c]).1,lV (Lib.cut s.data.toList [c]).2.1,.bool (Lib.cut s.data.toList [c]).2.2])∧Below w.heap.size w w':=by
 have hI:=fun W:World=>Tryz.stringslite_Index_one s c W
 rw[←Fj]at hI;rcases Lib.indexB_cases s ⟨#[c]⟩with hix|⟨i,hix,hroom⟩
 ·obtain⟨e1,e2,e3⟩:=Lib.cutB_miss s ⟨#[c]⟩ hix;have hx:Lib.index s.data.toList [c]=-1:=hix
  rw[hx]at hI;have E1:Hid (lV (Lib.cut s.data.toList [c]).1=.string s):=hZ (congrArg Value.string e1)
  have E2:Hid (lV (Lib.cut s.data.toList [c]).2.1=.string ⟨#[]⟩):=hZ (congrArg Value.string e2);have E3:Hid ((Lib.cut s.data.toList [c]).2.2=false):=hZ e3
  clear e1 e2 e3 hx hix;go_enter Tryz.func133,Tryz.ntmps133;go_wp2_with (go_at_call 143;refine(hI _).mono ?_;rintro e w1 ⟨rfl,rfl⟩);go_ret3;exact⟨by rw[E1.out,E2.out,E3.out];rfl,Below.refl _ _⟩
 ·obtain⟨e1,e2,e3⟩:=Lib.cutB_hit s ⟨#[c]⟩ i hix;have hx:Lib.index s.data.toList [c]=i:=hix
  rw[hx]at hI;have E1:Hid (lV (Lib.cut s.data.toList [c]).1=.string (s.extract 0 i)):=hZ (congrArg Value.string e1)
  have E2:Hid (lV (Lib.cut s.data.toList [c]).2.1=.string (s.extract (i+1) s.size)):=hZ (congrArg Value.string e2);have E3:Hid ((Lib.cut s.data.toList [c]).2.2=true):=hZ e3
  have hr:i+1≤s.size:=hroom;have c1:(0:Int)≤↑i:=aC
  have c2:(↑i:Int)≤↑s.size:=aC;have c3:(0:Int)≤↑i+1:=aC
  have c4:(↑i+1:Int)≤↑s.size:=aC;clear e1 e2 e3 hx hix hroom;go_enter Tryz.func133,Tryz.ntmps133;go_wp2_with (go_at_call 143;refine(hI _).mono ?_;rintro e w1 ⟨rfl,rfl⟩);go_region;go_wp2_with fail;go_ret3;exact⟨by rw[E1.out,E2.out,E3.out];rfl,(Below.refl _ _).drew⟩
theorem KB(s:ByteArray)(hs:(s.size:Int)≤140737488355328)(c:UInt8)(w:World):
  Calls Tryz.prog 76 #[.string s,.string ⟨#[c]⟩] w fun e w'=>e=.returned (.tuple #[lV (Lib.cut s.data.toList [c]).1,lV (Lib.cut s.data.toList [c]).2.1,.bool (Lib.cut s.data.toList [c]).2.2])∧Below w.heap.size w w':=by
 have h:=fun W:World=>KA s hs c W
 unfold lV at h⊢;go_enter Tryz.func76,Tryz.ntmps76;go_wp2_with (go_at_call 133;refine(h _).mono ?_;rintro e w1 ⟨rfl,hb⟩);go_ret3;exact⟨rfl,hb⟩
def vH(w:World)(l:List (List UInt8)):World:=w.alloc (.cells (l.map lV).toArray 9)
theorem Fk(s:ByteArray)(c:UInt8):(Lib.splitB ⟨#[c]⟩ 0 (s.data.toList.count c) s).map Value.string=(pcs c s.data.toList).map lV:=by
 have h:=Lib.splitB_data ⟨#[c]⟩ 0 (s.data.toList.count c) s;rw[show(⟨#[c]⟩:ByteArray).data.toList=[c]from rfl,CU c _ _ rfl]at h;rw[←h,List.map_map]
 rfl
theorem GV(s:ByteArray)(hs:s.size<4294967281)(c:UInt8)(w:World):
  Calls Tryz.prog 78 #[.string s,.string ⟨#[c]⟩] w fun e w'=>e=.returned (.slice (some ⟨w.heap.size,0,none⟩) (pcs c s.data.toList).length (pcs c s.data.toList).length)∧w'=vH w (pcs c s.data.toList):=by
 have hcount:Lib.countB s ⟨#[c]⟩=s.data.toList.count c:=Lib.count_one c s.data.toList
 have hcl:s.data.toList.count c≤s.size:=by
  have h1:s.data.toList.count c≤s.data.toList.length:=List.count_le_length;rw[show s.data.toList.length=s.size from Array.length_toList]at h1;exact h1
 have hpl:=wM c s.data.toList
 have hcore:=Any.strings_genSplit_core Tryz.lays221 aE s ⟨#[c]⟩ 0 (-1) (s.data.toList.count c+1) w hs (Nat.le_refl 1) (Nat.zero_le _)
  (fun x cs _=>(Tryz.strings_Index_one x c _).mono (fun e w' h=>by rw[show Lib.indexB x ⟨#[c]⟩=Lib.indexByte x.data.toList c from Fj _ _];exact h))
  ((Tryz.strings_Count_one s c w).mono (fun e w' h=>by
   refine⟨?_,h.2⟩;rw[h.1,hcount]
   rfl))
  aA aA (by rw[hcount,if_pos aA];omega)
 rw[Nat.add_sub_cancel]at hcore
 have hlen:(Lib.splitB ⟨#[c]⟩ 0 (s.data.toList.count c) s).length=s.data.toList.count c+1:=by
  have h:=congrArg List.length (Fk s c);rw[List.length_map,List.length_map,hpl]at h;exact h
 rw[hlen,←hlen,Lib.cellsOf_full,Fk,hlen,←hpl]at hcore;have HC:Hid (Calls Tryz.prog 135 #[.string s,.string ⟨#[c]⟩,.int .i64 0,.int .i64 (-1)] w fun e w'=>e=.returned (.slice (some ⟨w.heap.size,0,none⟩) (pcs c s.data.toList).length (pcs c s.data.toList).length)∧w'=vH w (pcs c s.data.toList)):=hZ hcore
 clear hcore hlen hcount hcl hpl;generalize (pcs c s.data.toList).length=K at HC⊢;generalize vH w (pcs c s.data.toList)=W2 at HC⊢;go_enter Tryz.func78,Tryz.ntmps78;go_wp2_with (go_at_call 135;refine HC.out.mono ?_;rintro e w1 ⟨rfl,rfl⟩);go_ret;exact cF
theorem KC(p:ByteArray)(hp:p.size≤1000)(w:World):
  Calls Tryz.prog 79 #[.string p,.string ⟨#[46,95,45]⟩] w fun e w'=>e=.returned (lV (Lib.trimS p.data.toList sepB))∧Below w.heap.size w w':=
 Any.strings_Trim_laid Tryz.lays160 aE p ⟨#[46,95,45]⟩ w aC aA (ascii_of_all aA)
theorem A6{w:World}{l:List (List UInt8)}{k:Nat}{p:List UInt8}(h:l[k]?=some p){w':World}(hb:Below (vH w l).heap.size (vH w l) w'):w'.cell? ⟨w.heap.size,k,none⟩=some (lV p):=by
 have hn:(vH w l).heap[w.heap.size]?=some (.cells (l.map lV).toArray 9 (0,0)):=lP _ _;refine(hb.cell (p:=⟨w.heap.size,k,none⟩) (lH hn)).trans ?_;rw[lF hn,List.getElem?_toArray,List.getElem?_map,h]
 rfl
theorem BX{l:List (List UInt8)}{k:Nat}{p:List UInt8}(hp:l[k]?=some p)(h:(l.take k).all oP=true)(h1:oP p=true):(l.take (k+1)).all oP=true:=by
 rw[List.take_add_one,hp,List.all_append,h];simp[h1]
theorem AE{l:List (List UInt8)}{k:Nat}{p:List UInt8}(hp:l[k]?=some p)(h1:oP p=false):l.all oP=false:=by
 rw[List.all_eq_false];exact⟨p,List.mem_of_getElem? hp,by rw[h1];decide⟩
theorem Fl{c:UInt8}{l p:List UInt8}(h:p∈pcs c l):p.length≤l.length:=by
 refine Nat.le_trans ?_ (BO c l);exact(List.sublist_flatten_of_mem h).length_le
theorem L5(l:List UInt8)(c:UInt8):(Lib.cut l [c]).1.length≤l.length∧(Lib.cut l [c]).2.1.length≤l.length:=by
 rcases rK c l with h|⟨a,b,rfl,h⟩
 ·rw[ET h];exact⟨Nat.le_refl _,Nat.zero_le _⟩
 ·rw[CT b h];simp only[List.length_append,List.length_cons];omega
theorem ME(p q:List UInt8):((⟨p.toArray⟩:ByteArray).toList==(⟨q.toArray⟩:ByteArray).toList)=(p==q):=by
 rw[Lib.toList_data,Lib.toList_data]
theorem GX{s:List UInt8}(h:(s.length+(if(Lib.cut s [58]).2.2 then 0 else 7)≤96)→(Lib.cut s [58]).1≠oW→tK (if(Lib.cut s [58]).2.2 then(Lib.cut s [58]).2.1 else oT)=true→(pcs 47 (Lib.cut s [58]).1).all oP=false):AC s=false:=by
 unfold AC;by_cases h1:s.length+(if(Lib.cut s [58]).2.2 then 0 else 7)≤96
 ·by_cases h2:(Lib.cut s [58]).1=oW
  ·rw[h2];simp
  ·cases h3:tK (if(Lib.cut s [58]).2.2 then(Lib.cut s [58]).2.1 else oT)with
   |false=>rw[Bool.and_false,Bool.false_and]
   |true=>rw[h h1 h2 h3,Bool.and_false]
 ·rw[decide_eq_false h1,Bool.false_and,Bool.false_and,Bool.false_and]
theorem I7{s:List UInt8}(h1:s.length+(if(Lib.cut s [58]).2.2 then 0 else 7)≤96)(h2:(Lib.cut s [58]).1≠oW)(h3:tK (if(Lib.cut s [58]).2.2 then(Lib.cut s [58]).2.1 else oT)=true)(h4:(pcs 47 (Lib.cut s [58]).1).all oP=true):AC s=true:=by
 unfold AC;rw[decide_eq_true h1,h3,h4,beq_eq_false_iff_ne.2 h2]
 rfl
def Ny(b:Bool):Value:=if b then .nilIface else .iface 71 (.int .i64 31)
theorem L6(s:ByteArray)(hs:(s.size:Int)≤140737488355328)(w:World):
  Calls Tryz.prog 33 #[.string s] w fun e w'=>e=.returned (Ny (AC s.data.toList))∧Below w.heap.size w w':=by
 have hls:s.data.toList.length=s.size:=Array.length_toList;have hcu:=fun W:World=>KB s hs 58 W
 obtain⟨hc1,hc2⟩:=L5 s.data.toList 58;have HF:=hZ (GX (s:=s.data.toList))
 have HT:=hZ (I7 (s:=s.data.toList));rw[hls]at hc1 hc2 HF HT
 obtain⟨R,hR⟩:∃R,AC s.data.toList=R:=⟨_,rfl⟩
 rw[hR]at HF HT⊢;generalize Lib.cut s.data.toList [58]=C at hcu hc1 hc2 HF HT;obtain⟨nm,t,has⟩:=C;simp only at hcu hc1 hc2 HF HT;have hof:=fun(W:World)=>Ik ⟨t.toArray⟩ ⟨#[95,46,45]⟩ true (show((t.length:Nat):Int)≤140737488355328 by omega) W
 have hofl:=fun(W:World)=>Ik ⟨#[108,97,116,101,115,116]⟩ ⟨#[95,46,45]⟩ true aA W
 rw[show ofM (⟨#[95,46,45]⟩:ByteArray).data.toList true (⟨#[108,97,116,101,115,116]⟩:ByteArray).data.toList=true from aA]at hofl;have hofe:ofM (⟨#[95,46,45]⟩:ByteArray).data.toList true (⟨t.toArray⟩:ByteArray).data.toList=ofM [95,46,45] true t:=rfl
 rw[hofe]at hof;have hsc:((⟨nm.toArray⟩:ByteArray).toList==[115,99,114,97,116,99,104])=(nm==oW):=by rw[Lib.toList_data];rfl
 have hl46:((((⟨#[108,97,116,101,115,116]⟩:ByteArray)[0]'aA).toNat:Int)==46)=false:=aA;have hl45:((((⟨#[108,97,116,101,115,116]⟩:ByteArray)[0]'aA).toNat:Int)==45)=false:=aA
 have hofp:=fun(p:ByteArray) (hp:p.size≤1000) (W:World)=>Ik p ⟨#[46,95,45]⟩ false aC W
 have htr:=fun(p:ByteArray) (hp:p.size≤1000) (W:World)=>KC p hp W
 have HOFP:=hZ hofp;have HTR:=hZ htr
 clear hofp htr hofe hls hR;unfold lV at hcu
 obtain⟨nB,hnB⟩:∃x:ByteArray,(⟨nm.toArray⟩:ByteArray)=x:=⟨_,rfl⟩
 have hsp0:=fun(hh:nm.length<4294967281) (W:World)=>GV ⟨nm.toArray⟩ hh 47 W
 rw[hnB]at hcu hsc hsp0;rw[show nB.data.toList=nm by rw[←hnB]]at hsp0;have HSP0:=hZ hsp0
 clear hsp0 hnB
 cases has with
 |false=>
  rw[if_neg (show¬false=true by decide),if_neg (show¬false=true by decide)]at HF HT;by_cases hn:(s.size:Int)+7≤96
  ·have HN:=hZ (show s.size+7≤96 by omega)
   cases hq:(nm==oW)with
   |true=>
    rw[hq]at hsc;have HQ:=hZ (beq_iff_eq.1 hq)
    clear hq;go_enter Tryz.func33,Tryz.ntmps33;go_wp2_with (first|(go_at_call 76;refine(hcu _).mono ?_;rintro e w1 ⟨rfl,hb1⟩;have HB1:=hZ hb1;clear hb1 hcu)|(go_at_call 77;refine(hofl _).mono ?_;rintro e w2 ⟨rfl,rfl⟩));go_ret;refine⟨?_,HB1.out⟩;rw[HF.out (fun _ h2 _=>absurd HQ.out h2)]
    rfl
   |false=>
    rw[hq]at hsc;have HQ:=hZ (beq_eq_false_iff_ne.1 hq)
    clear hq
    obtain⟨K,hK⟩:∃K,(pcs 47 nm).length=K:=⟨_,rfl⟩
    have hKl:K≤97:=by
     rw[←hK,wM];have h1:nm.count 47≤nm.length:=List.count_le_length
     omega
    have hsp:=fun W:World=>HSP0.out aC W
    rw[hK]at hsp;have HSP:=hZ hsp
    have HPL:Hid (∀p∈pcs 47 nm,p.length≤100):=hZ (fun p hp=>eO);have HKK:=hZ hK
    have hKi:(K:Int)≤97:=aC;clear hsp hK;go_enter Tryz.func33,Tryz.ntmps33;go_wp2_with (first|(go_at_call 76;refine(hcu _).mono ?_;rintro e w1 ⟨rfl,hb1⟩;have HB1:=hZ hb1;clear hb1 hcu)|(go_at_call 77;refine(hofl _).mono ?_;rintro e w2 ⟨rfl,rfl⟩)|(go_at_call 78;refine(HSP.out _).mono ?_;rintro e w2 ⟨rfl,rfl⟩));have HBW:Hid (Below w.heap.size w (vH w1 (pcs 47 nm))):=hZ (HB1.out.alloc HB1.out.size _)
    obtain⟨W2,hW2⟩:∃W,vH w1 (pcs 47 nm)=W:=⟨_,rfl⟩
    have HCL:Hid (∀k p w',(pcs 47 nm)[k]?=some p→Below W2.heap.size W2 w'→w'.cell? ⟨w1.heap.size,k,none⟩=some (lV p)):=hZ (fun k p w' hp hb=>A6 hp (by rw[hW2];exact hb));rw[hW2]at HBW⊢;clear hW2;go_loopw [46] (fun iv wr=>∃k:Nat,(k:Int)≤K∧iv=.int .i64 k∧Hid (((pcs 47 nm).take k).all oP=true)∧Hid (Below W2.heap.size W2 wr)) (fun iv _=>K-(intOf iv).toNat)
    case atStart=>exact⟨0,aC,rfl,hZ rfl,hZ (Below.refl _ _)⟩
    case round=>
     obtain⟨k,hk,rfl,HJ,HB⟩:=hrel;by_cases hlt:(k:Int)<K
     ·have hkl:k<(pcs 47 nm).length:=by rw[HKK.out];omega
      obtain⟨p,hp⟩:∃p,(pcs 47 nm)[k]?=some p:=⟨_,List.getElem?_eq_getElem hkl⟩
      have hpl:=HPL.out p (List.mem_of_getElem? hp);have hc:=HCL.out k p wr hp HB.out
      have HP:=hZ hp;have hop:=fun W:World=>HOFP.out ⟨p.toArray⟩ (show p.length≤1000 by omega) W
      have htp:=fun W:World=>HTR.out ⟨p.toArray⟩ (show p.length≤1000 by omega) W
      rw[show(⟨p.toArray⟩:ByteArray).data.toList=p from rfl]at hop htp;have HPE:Hid (oP p=(ofM sepB false p&&(Lib.trimS p sepB==p))):=hZ rfl
      have hne:((⟨(Lib.trimS p sepB).toArray⟩:ByteArray).toList==(⟨p.toArray⟩:ByteArray).toList)=(Lib.trimS p sepB==p):=ME _ _;rw[show ofM (⟨#[46,95,45]⟩:ByteArray).data.toList false p=ofM sepB false p from rfl]at hop;unfold lV at hc htp;generalize (⟨(Lib.trimS p sepB).toArray⟩:ByteArray)=T at hne htp;generalize ofM sepB false p=X at hop HPE;generalize (Lib.trimS p sepB==p)=Y at hne HPE;generalize (⟨p.toArray⟩:ByteArray)=pB at hc hop htp hne;clear hp hkl hpl
      cases X with
      |false=>
       clear htp hne;go_wp2_with (go_at_call 77;refine(hop _).mono ?_;rintro e w3 ⟨rfl,rfl⟩);go_ret;refine⟨?_,HBW.out.trans (HB.out.mono HBW.out.size)⟩;rw[HF.out (fun _ _ _=>AE HP.out fT)]
       rfl
      |true=>
       cases Y with
       |false=>
        go_wp2_with (first|(go_at_call 77;refine(hop _).mono ?_;rintro e w3 ⟨rfl,rfl⟩)|(go_at_call 79;refine(htp _).mono ?_;rintro e w4 ⟨rfl,hb4⟩;have HB4:=hZ (HB.out.trans (hb4.mono HB.out.size));clear hb4 htp));go_ret;refine⟨?_,HBW.out.trans (HB4.out.mono HBW.out.size)⟩;rw[HF.out (fun _ _ _=>AE HP.out fT)]
        rfl
       |true=>
        go_wp2_with (first|(go_at_call 77;refine(hop _).mono ?_;rintro e w3 ⟨rfl,rfl⟩)|(go_at_call 79;refine(htp _).mono ?_;rintro e w4 ⟨rfl,hb4⟩;have HB4:=hZ (HB.out.trans (hb4.mono HB.out.size));clear hb4 htp));refine⟨⟨k+1,aC,aG,hZ (BX HP.out HJ.out fT),HB4⟩,cN⟩
     ·obtain rfl:k=K:=by omega
      go_wp2_with fail;go_ret;refine⟨?_,HBW.out.trans (HB.out.mono HBW.out.size)⟩;rw[HT.out HN.out HQ.out aA fM]
      rfl
  ·have HN:=hZ (show¬s.size+7≤96 by omega);go_enter Tryz.func33,Tryz.ntmps33;go_wp2_with (first|(go_at_call 76;refine(hcu _).mono ?_;rintro e w1 ⟨rfl,hb1⟩;have HB1:=hZ hb1;clear hb1 hcu)|(go_at_call 77;refine(hofl _).mono ?_;rintro e w2 ⟨rfl,rfl⟩));go_ret;refine⟨?_,HB1.out⟩;rw[HF.out (fun h1 _ _=>absurd h1 HN.out)]
   rfl
 |true=>
  rw[if_pos rfl,if_pos rfl,Nat.add_zero]at HF HT;by_cases hn:(s.size:Int)≤96
  ·have HN:=hZ (show s.size≤96 by omega)
   cases hq:(nm==oW)with
   |true=>
    rw[hq]at hsc;have HQ:=hZ (beq_iff_eq.1 hq)
    clear hq;go_enter Tryz.func33,Tryz.ntmps33;go_wp2_with (first|(go_at_call 76;refine(hcu _).mono ?_;rintro e w1 ⟨rfl,hb1⟩;have HB1:=hZ hb1;clear hb1 hcu)|(go_at_call 77;refine(hof _).mono ?_;rintro e w2 ⟨rfl,rfl⟩));go_ret;refine⟨?_,HB1.out⟩;rw[HF.out (fun _ h2 _=>absurd HQ.out h2)]
    rfl
   |false=>
    rw[hq]at hsc;have HQ:=hZ (beq_eq_false_iff_ne.1 hq)
    clear hq;have HTG:Hid (tK t=(ofM [95,46,45] true t&& !(t.head? ==some 46)&& !(t.head? ==some 45))):=hZ rfl
    cases hO:ofM [95,46,45] true t with
    |false=>
     rw[hO]at hof HTG;clear hO;go_enter Tryz.func33,Tryz.ntmps33;go_wp2_with (first|(go_at_call 76;refine(hcu _).mono ?_;rintro e w1 ⟨rfl,hb1⟩;have HB1:=hZ hb1;clear hb1 hcu)|(go_at_call 77;refine(hof _).mono ?_;rintro e w2 ⟨rfl,rfl⟩));go_ret;refine⟨?_,HB1.out⟩;rw[HF.out (fun _ _ h3=>by rw[HTG.out]at h3;cases h3)]
     rfl
    |true=>
     obtain⟨b,r,ht⟩:∃b r,t=b::r:=by
      cases t with
      |nil=>exact absurd hO aA
      |cons b r=>exact⟨b,r,rfl⟩
     rw[hO]at hof HTG;rw[show t.head?=some b by rw[ht];rfl]at HTG;have hz:=b.toNat_lt
     have hts:((⟨t.toArray⟩:ByteArray).size:Int)>0:=by rw[ht];show(((b::r).length:Nat):Int)>0;rw[List.length_cons];omega
     have hg0:∀h',(⟨t.toArray⟩:ByteArray)[0]'h'=b:=fun h'=>by subst ht;rfl
     generalize (⟨t.toArray⟩:ByteArray)=tB at hcu hof hts hg0;have hg0':=hg0 (show 0<tB.size by omega)
     clear hO ht hg0;by_cases hb46:b=46
     ·have hq1:((b.toNat:Int)==46)=true:=by rw[hb46];rfl
      have HQ1:=hZ hb46;clear hb46;go_enter Tryz.func33,Tryz.ntmps33;go_wp2_with (first|(go_at_call 76;refine(hcu _).mono ?_;rintro e w1 ⟨rfl,hb1⟩;have HB1:=hZ hb1;clear hb1 hcu)|(go_at_call 77;refine(hof _).mono ?_;rintro e w2 ⟨rfl,rfl⟩));go_ret;refine⟨?_,HB1.out⟩;rw[HF.out (fun _ _ h3=>by rw[HTG.out,HQ1.out]at h3;cases h3)]
      rfl
     ·have hq1:((b.toNat:Int)==46)=false:=beq_eq_false_iff_ne.2 (fun e=>hb46 (UInt8.toNat_inj.1 (by show b.toNat=46;omega)));have HQ1:=hZ hb46
      clear hb46;by_cases hb45:b=45
      ·have hq2:((b.toNat:Int)==45)=true:=by rw[hb45];rfl
       have HQ2:=hZ hb45;clear hb45;go_enter Tryz.func33,Tryz.ntmps33;go_wp2_with (first|(go_at_call 76;refine(hcu _).mono ?_;rintro e w1 ⟨rfl,hb1⟩;have HB1:=hZ hb1;clear hb1 hcu)|(go_at_call 77;refine(hof _).mono ?_;rintro e w2 ⟨rfl,rfl⟩));go_ret;refine⟨?_,HB1.out⟩;rw[HF.out (fun _ _ h3=>by rw[HTG.out,HQ2.out]at h3;cases h3)]
       rfl
      ·have hq2:((b.toNat:Int)==45)=false:=beq_eq_false_iff_ne.2 (fun e=>hb45 (UInt8.toNat_inj.1 (by show b.toNat=45;omega)));have HQ2:=hZ hb45
       clear hb45
       have HTT:Hid (tK t=true):=hZ (by
        rw[HTG.out,beq_eq_false_iff_ne.2 (fun e=>HQ1.out (Option.some.inj e)),beq_eq_false_iff_ne.2 (fun e=>HQ2.out (Option.some.inj e))]
        rfl)
       obtain⟨K,hK⟩:∃K,(pcs 47 nm).length=K:=⟨_,rfl⟩
       have hKl:K≤97:=by
        rw[←hK,wM];have h1:nm.count 47≤nm.length:=List.count_le_length
        omega
       have hsp:=fun W:World=>HSP0.out aC W
       rw[hK]at hsp;have HSP:=hZ hsp
       have HPL:Hid (∀p∈pcs 47 nm,p.length≤100):=hZ (fun p hp=>eO);have HKK:=hZ hK
       have hKi:(K:Int)≤97:=aC;clear hsp hK;go_enter Tryz.func33,Tryz.ntmps33;go_wp2_with (first|(go_at_call 76;refine(hcu _).mono ?_;rintro e w1 ⟨rfl,hb1⟩;have HB1:=hZ hb1;clear hb1 hcu)|(go_at_call 77;refine(hof _).mono ?_;rintro e w2 ⟨rfl,rfl⟩)|(go_at_call 78;refine(HSP.out _).mono ?_;rintro e w2 ⟨rfl,rfl⟩));have HBW:Hid (Below w.heap.size w (vH w1 (pcs 47 nm))):=hZ (HB1.out.alloc HB1.out.size _)
       obtain⟨W2,hW2⟩:∃W,vH w1 (pcs 47 nm)=W:=⟨_,rfl⟩
       have HCL:Hid (∀k p w',(pcs 47 nm)[k]?=some p→Below W2.heap.size W2 w'→w'.cell? ⟨w1.heap.size,k,none⟩=some (lV p)):=hZ (fun k p w' hp hb=>A6 hp (by rw[hW2];exact hb));rw[hW2]at HBW⊢;clear hW2;go_loopw [46] (fun iv wr=>∃k:Nat,(k:Int)≤K∧iv=.int .i64 k∧Hid (((pcs 47 nm).take k).all oP=true)∧Hid (Below W2.heap.size W2 wr)) (fun iv _=>K-(intOf iv).toNat)
       case atStart=>exact⟨0,aC,rfl,hZ rfl,hZ (Below.refl _ _)⟩
       case round=>
        obtain⟨k,hk,rfl,HJ,HB⟩:=hrel;by_cases hlt:(k:Int)<K
        ·have hkl:k<(pcs 47 nm).length:=by rw[HKK.out];omega
         obtain⟨p,hp⟩:∃p,(pcs 47 nm)[k]?=some p:=⟨_,List.getElem?_eq_getElem hkl⟩
         have hpl:=HPL.out p (List.mem_of_getElem? hp);have hc:=HCL.out k p wr hp HB.out
         have HP:=hZ hp;have hop:=fun W:World=>HOFP.out ⟨p.toArray⟩ (show p.length≤1000 by omega) W
         have htp:=fun W:World=>HTR.out ⟨p.toArray⟩ (show p.length≤1000 by omega) W
         rw[show(⟨p.toArray⟩:ByteArray).data.toList=p from rfl]at hop htp;have HPE:Hid (oP p=(ofM sepB false p&&(Lib.trimS p sepB==p))):=hZ rfl
         have hne:((⟨(Lib.trimS p sepB).toArray⟩:ByteArray).toList==(⟨p.toArray⟩:ByteArray).toList)=(Lib.trimS p sepB==p):=ME _ _;rw[show ofM (⟨#[46,95,45]⟩:ByteArray).data.toList false p=ofM sepB false p from rfl]at hop;unfold lV at hc htp;generalize (⟨(Lib.trimS p sepB).toArray⟩:ByteArray)=T at hne htp;generalize ofM sepB false p=X at hop HPE;generalize (Lib.trimS p sepB==p)=Y at hne HPE;generalize (⟨p.toArray⟩:ByteArray)=pB at hc hop htp hne;clear hp hkl hpl
         cases X with
         |false=>
          clear htp hne;go_wp2_with (go_at_call 77;refine(hop _).mono ?_;rintro e w3 ⟨rfl,rfl⟩);go_ret;refine⟨?_,HBW.out.trans (HB.out.mono HBW.out.size)⟩;rw[HF.out (fun _ _ _=>AE HP.out fT)]
          rfl
         |true=>
          cases Y with
          |false=>
           go_wp2_with (first|(go_at_call 77;refine(hop _).mono ?_;rintro e w3 ⟨rfl,rfl⟩)|(go_at_call 79;refine(htp _).mono ?_;rintro e w4 ⟨rfl,hb4⟩;have HB4:=hZ (HB.out.trans (hb4.mono HB.out.size));clear hb4 htp));go_ret;refine⟨?_,HBW.out.trans (HB4.out.mono HBW.out.size)⟩;rw[HF.out (fun _ _ _=>AE HP.out fT)]
           rfl
          |true=>
           go_wp2_with (first|(go_at_call 77;refine(hop _).mono ?_;rintro e w3 ⟨rfl,rfl⟩)|(go_at_call 79;refine(htp _).mono ?_;rintro e w4 ⟨rfl,hb4⟩;have HB4:=hZ (HB.out.trans (hb4.mono HB.out.size));clear hb4 htp));refine⟨⟨k+1,aC,aG,hZ (BX HP.out HJ.out fT),HB4⟩,cN⟩
        ·obtain rfl:k=K:=by omega
         go_wp2_with fail;go_ret;refine⟨?_,HBW.out.trans (HB.out.mono HBW.out.size)⟩;rw[HT.out HN.out HQ.out HTT.out fM]
         rfl
  ·have HN:=hZ (show¬s.size≤96 by omega);go_enter Tryz.func33,Tryz.ntmps33;go_wp2_with (first|(go_at_call 76;refine(hcu _).mono ?_;rintro e w1 ⟨rfl,hb1⟩;have HB1:=hZ hb1;clear hb1 hcu)|(go_at_call 77;refine(hof _).mono ?_;rintro e w2 ⟨rfl,rfl⟩));go_ret;refine⟨?_,HB1.out⟩;rw[HF.out (fun h1 _ _=>absurd h1 HN.out)]
   rfl
theorem uH{n t u:List UInt8}(h:u.length≤96→n≠oW→tK t=true→(pcs 47 n).all oP=false):goM n t u=none:=by
 unfold goM;refine if_neg fun hh=>?_
 have:=h hh.1 hh.2.1 hh.2.2.1;rw[hh.2.2.2]at this;cases this
theorem Da{n t u:List UInt8}(h1:u.length≤96)(h2:n≠oW)(h3:tK t=true)(h4:(pcs 47 n).all oP=true):goM n t u=some u:=if_pos ⟨h1,h2,h3,h4⟩
theorem L7{c:UInt8}{l n:List UInt8}(h:pcs c l=[n]):n=l:=by
 rcases rK c l with h1|⟨a,b,rfl,h1⟩
 ·rw[uE h1]at h;cases h
  rfl
 ·rw[qY b h1]at h;have:=wL c b
  cases hp:pcs c b with
  |nil=>exact absurd hp this
  |cons p q=>rw[hp]at h;cases h
def KD(o:Option (List UInt8)):Value:=.tuple #[lV (o.getD []),.bool o.isSome]
theorem Fm(s:ByteArray)(hs:(s.size:Int)≤140737488355328)(w:World):
  Calls Tryz.prog 32 #[.string s] w fun e w'=>e=.returned (KD (nO s.data.toList))∧Below w.heap.size w w':=by
 obtain⟨i0,hi,hz0,hz1,hz2⟩:=info_parts CP;have hls:s.data.toList.length=s.size:=Array.length_toList
 have hfm:nO s.data.toList=if 96<s.size then none else match pcs 58 s.data.toList with
  |[n]=>goM n oT (s.data.toList++58::oT)
  |[n,t]=>goM n t s.data.toList
  |_=>none:=by unfold nO;rw[hls];rfl
 obtain⟨R,hR⟩:∃R,nO s.data.toList=R:=⟨_,rfl⟩
 rw[hR]at hfm⊢;clear hR;by_cases h96:(96:Int)<(s.size:Int)
 ·have HR:Hid (R=none):=hZ (hfm.trans (if_pos aC));clear hfm;go_enter Tryz.func32,Tryz.ntmps32;go_wp2_with fail;go_ret2;rw[HR.out];exact⟨rfl,Below.refl _ _⟩
 ·have hcu:=fun W:World=>EY s 58 aC W
  rw[if_neg aC]at hfm;have hmem:∀p∈pcs 58 s.data.toList,p.length≤96:=fun p hp=>eO
  obtain⟨PL,hPL⟩:∃l,pcs 58 s.data.toList=l:=⟨_,rfl⟩
  rw[hPL]at hcu hfm hmem;have hne:PL≠[]:=by rw[←hPL];exact wL _ _
  have HCU:=hZ hcu;have HTG:=hZ (fun(t:List UInt8) (ht:t.length≤1000) (W:World)=>MB ⟨t.toArray⟩ (show((t.length:Nat):Int)≤140737488355328 by omega) W)
  have HPI:=hZ (fun(t:List UInt8) (ht:t.length≤1000) (W:World)=>J9 ⟨t.toArray⟩ (show((t.length:Nat):Int)≤140737488355328 by omega) W);have HC2:=hZ (fun(t:List UInt8) (ht:t.length≤1000) (W:World)=>EY ⟨t.toArray⟩ 47 (show((t.length:Nat):Int)≤1000 by omega) W)
  clear hcu
  match PL,hne with
  |[n],_=>
   have hns:=L7 hPL;have hnl:=hmem n eZ
   have HR:Hid (R=goM n oT (s.data.toList++58::oT)):=hZ hfm;have hul:((s++⟨#[58,108,97,116,101,115,116]⟩:ByteArray)).data.toList=s.data.toList++58::oT:=by rw[ByteArray.data_append,Array.toList_append];rfl
   have HUL:=hZ hul;have hUZ:(s.data.toList++58::oT).length=s.size+7:=by rw[List.length_append,hls];rfl
   have HUZ:=hZ hUZ;clear hfm hPL hul hUZ hns hls hmem hne;go_enter Tryz.func32,Tryz.ntmps32;go_wp2_with fail;refine(HCU.out _).mono ?_;rintro e w2 ⟨v,rfl,hrow,hb2⟩;have HB2:=hZ hb2
   obtain⟨p,cap,rfl,hcl⟩:=hrow.slice;have HRW:Hid (RowC w.heap.size [lV n] (.slice p 1 cap) w2):=hZ hrow
   clear hb2 hrow hcl;go_wp2_with (at_builtin;refine mD rfl _ _ 31 rfl w.heap.size 9 i0 (.string ⟨#[]⟩) 16 Tryz.underlying31 hi hz0 hz1 hz2 rfl [lV n] (.slice p 1 cap) rfl (HRW.out.keep ((Below.refl _ _).alloc (Nat.le_refl _) _)) (.string ⟨#[108,97,116,101,115,116]⟩) ⟨w2.heap.size,0,none⟩ rfl (xA w2 _ _) rfl (by show 2≤maxLen;unfold maxLen;omega) (by show 2*16≤140737488355328;omega) (by rw[World.size_alloc];have:=HB2.out.size;omega) ?_;intro v1 w3 hr3 hb3;have HR3:=hZ hr3;have HB3:Hid (Below w.heap.size w w3):=hZ ((HB2.out.alloc (by have:=HB2.out.size;omega) _).trans hb3);(obtain⟨q,qc,rfl,hql⟩:=hr3.slice);(obtain⟨g,rfl,-,hc0⟩:=hql 0 (lV n) rfl);(obtain⟨g2,hg2,-,hc1⟩:=hql 1 (lV oT) rfl);(cases hg2);clear hr3 hb3 hql);have htg:=fun W:World=>HTG.out oT aA W
   have hpl:∀p∈pcs 47 n,p.length≤1000:=fun p hp=>eO
   have hpk:(pcs 47 n).length≤97:=by
    rw[wM];have h1:n.count 47≤n.length:=List.count_le_length
    omega
   have hc2:=fun W:World=>HC2.out n aC W
   have hsc:((⟨n.toArray⟩:ByteArray).toList==[115,99,114,97,116,99,104])=(n==oW):=by rw[Lib.toList_data];rfl
   unfold lV at hc0 hc1
   obtain⟨nB,hnB⟩:∃x:ByteArray,(⟨n.toArray⟩:ByteArray)=x:=⟨_,rfl⟩
   rw[hnB]at hc0 hsc hc2;have HC3:=hZ hc2
   have HPL:=hZ hpl;clear hc2 hpl hnB;have hc1b:w3.cell? ⟨g,1,none⟩=some (.string ⟨#[108,97,116,101,115,116]⟩):=hc1
   clear hc1;have htg2:∀W:World,Calls Tryz.prog 74 #[.string ⟨#[108,97,116,101,115,116]⟩] W fun e w'=>e=.returned (.bool (tK oT))∧W=w':=htg
   clear htg;have htg:=htg2
   clear htg2
   cases hT:tK oT with
   |false=>
    rw[hT]at htg;have HT:=hZ hT
    clear hT;go_wp2_with (first|(go_at_call 74;refine(htg _).mono ?_;rintro e w4 ⟨rfl,rfl⟩));go_ret2;rw[HR.out,uH (fun _ _ h3=>by rw[HT.out]at h3;cases h3)];exact jA
   |true=>
    rw[hT]at htg;have HT:=hZ hT
    clear hT
    cases hq:(n==oW)with
    |true=>
     rw[hq]at hsc;have HQ:=hZ (beq_iff_eq.1 hq)
     clear hq;go_wp2_with (first|(go_at_call 74;refine(htg _).mono ?_;rintro e w4 ⟨rfl,rfl⟩));go_ret2;rw[HR.out,uH (fun _ h2 _=>absurd HQ.out h2)];exact jA
    |false=>
     rw[hq]at hsc;have HQ:=hZ (beq_eq_false_iff_ne.1 hq)
     clear hq;by_cases h97:(96:Int)<(s.size:Int)+7
     ·have H97:=hZ h97;go_wp2_with (first|(go_at_call 74;refine(htg _).mono ?_;rintro e w4 ⟨rfl,rfl⟩));go_ret2;rw[HR.out,uH (fun h1 _ _=>by rw[HUZ.out]at h1;have:=H97.out;omega)];exact jA
     ·have H97:=hZ h97
      obtain⟨K,hK⟩:∃K,(pcs 47 n).length=K:=⟨_,rfl⟩
      rw[hK]at hpk;have HK:=hZ hK
      have hKi:(K:Int)≤97:=aC;clear hK;go_wp2_with (first|(go_at_call 74;refine(htg _).mono ?_;rintro e w4 ⟨rfl,rfl⟩));refine(HC3.out _).mono ?_;rintro e w5 ⟨v,rfl,hrow,hb5⟩;obtain⟨q2,qc2,rfl,hql⟩:=hrow.slice;rw[List.length_map,HK.out]
      have HCL:Hid (∀k p W,(pcs 47 n)[k]?=some p→Below w5.heap.size w5 W→∃g,q2=some ⟨g,0,none⟩∧W.cell? ⟨g,k,none⟩=some (.string ⟨p.toArray⟩)):=hZ (fun k p W hp hb=>by
       obtain⟨g,h1,h2,h3⟩:=hql k (lV p) (by rw[List.getElem?_map,hp];rfl);exact⟨g,h1,(hb.cell (p:=⟨g,k,none⟩) h2).trans h3⟩)
      have HB5:=hZ (HB3.out.trans (hb5.mono HB3.out.size));clear hrow hb5 hql;go_wp2_with fail;go_loopw [6] (fun iv wr=>∃k:Nat,(k:Int)≤K∧iv=.int .i64 k∧Hid (((pcs 47 n).take k).all oP=true)∧wr=w5) (fun iv _=>K-(intOf iv).toNat)
      case atStart=>exact⟨0,aC,rfl,hZ rfl,rfl⟩
      case round=>
       obtain⟨k,hk,rfl,HJ,rfl⟩:=hrel;by_cases hlt:(k:Int)<K
       ·have hkl:k<(pcs 47 n).length:=by rw[HK.out];omega
        obtain⟨p,hp⟩:∃p,(pcs 47 n)[k]?=some p:=⟨_,List.getElem?_eq_getElem hkl⟩
        have hpl:=HPL.out p (List.mem_of_getElem? hp);obtain⟨g5,rfl,hc⟩:=HCL.out k p wr hp (Below.refl _ _);have HP:=hZ hp
        have hpi:=fun W:World=>HPI.out p aC W
        try rw[show(⟨p.toArray⟩:ByteArray).data.toList=p from rfl]at hpi
        generalize (⟨p.toArray⟩:ByteArray)=pB at hc hpi;clear hp hkl hpl
        cases hX:oP p with
        |false=>
         rw[hX]at hpi;have HX:=hZ hX
         clear hX;go_wp2_with (go_at_call 75;refine(hpi _).mono ?_;rintro e w6 ⟨rfl,rfl⟩);go_ret2;rw[HR.out,uH (fun _ _ _=>AE HP.out HX.out)];exact⟨rfl,HB5.out⟩
        |true=>
         rw[hX]at hpi;have HX:=hZ hX
         clear hX;go_wp2_with (go_at_call 75;refine(hpi _).mono ?_;rintro e w6 ⟨rfl,rfl⟩);exact jP
       ·obtain rfl:k=K:=by omega
        go_wp2_with fail;go_ret2;rw[HR.out,Da (by rw[HUZ.out];have:=H97.out;omega) HQ.out HT.out fN];exact⟨by rw[←HUL.out];rfl,HB5.out⟩
  |[n,t],_=>
   have hnl:=hmem n eZ;have htl:=hmem t eZ
   have HR:Hid (R=goM n t s.data.toList):=hZ hfm;have HUZ:=hZ hls
   clear hfm hPL hls hmem hne;go_enter Tryz.func32,Tryz.ntmps32;go_wp2_with fail;refine(HCU.out _).mono ?_;rintro e w3 ⟨v,rfl,hrow,hb2⟩;have HB3:=hZ hb2
   obtain⟨q,qc,rfl,hql⟩:=hrow.slice;obtain⟨g,rfl,-,hc0⟩:=hql 0 (lV n) rfl;obtain⟨g2,hg2,-,hc1⟩:=hql 1 (lV t) rfl;cases hg2;clear hb2 hrow hql;have htg:=fun W:World=>HTG.out t aC W
   have hpl:∀p∈pcs 47 n,p.length≤1000:=fun p hp=>eO
   have hpk:(pcs 47 n).length≤97:=by
    rw[wM];have h1:n.count 47≤n.length:=List.count_le_length
    omega
   have hc2:=fun W:World=>HC2.out n aC W
   have hsc:((⟨n.toArray⟩:ByteArray).toList==[115,99,114,97,116,99,104])=(n==oW):=by rw[Lib.toList_data];rfl
   unfold lV at hc0 hc1
   obtain⟨nB,hnB⟩:∃x:ByteArray,(⟨n.toArray⟩:ByteArray)=x:=⟨_,rfl⟩
   rw[hnB]at hc0 hsc hc2;have HC3:=hZ hc2
   have HPL:=hZ hpl;clear hc2 hpl hnB
   obtain⟨tB,htB⟩:∃x:ByteArray,(⟨t.toArray⟩:ByteArray)=x:=⟨_,rfl⟩
   rw[htB]at hc1 htg;clear htB
   cases hT:tK t with
   |false=>
    rw[hT]at htg;have HT:=hZ hT
    clear hT;go_wp2_with (first|(go_at_call 74;refine(htg _).mono ?_;rintro e w4 ⟨rfl,rfl⟩));go_ret2;rw[HR.out,uH (fun _ _ h3=>by rw[HT.out]at h3;cases h3)];exact jA
   |true=>
    rw[hT]at htg;have HT:=hZ hT
    clear hT
    cases hq:(n==oW)with
    |true=>
     rw[hq]at hsc;have HQ:=hZ (beq_iff_eq.1 hq)
     clear hq;go_wp2_with (first|(go_at_call 74;refine(htg _).mono ?_;rintro e w4 ⟨rfl,rfl⟩));go_ret2;rw[HR.out,uH (fun _ h2 _=>absurd HQ.out h2)];exact jA
    |false=>
     rw[hq]at hsc;have HQ:=hZ (beq_eq_false_iff_ne.1 hq)
     clear hq
     obtain⟨K,hK⟩:∃K,(pcs 47 n).length=K:=⟨_,rfl⟩
     rw[hK]at hpk;have HK:=hZ hK
     have hKi:(K:Int)≤97:=aC;clear hK;go_wp2_with (first|(go_at_call 74;refine(htg _).mono ?_;rintro e w4 ⟨rfl,rfl⟩));refine(HC3.out _).mono ?_;rintro e w5 ⟨v,rfl,hrow,hb5⟩;obtain⟨q2,qc2,rfl,hql⟩:=hrow.slice;rw[List.length_map,HK.out]
     have HCL:Hid (∀k p W,(pcs 47 n)[k]?=some p→Below w5.heap.size w5 W→∃g,q2=some ⟨g,0,none⟩∧W.cell? ⟨g,k,none⟩=some (.string ⟨p.toArray⟩)):=hZ (fun k p W hp hb=>by
      obtain⟨g,h1,h2,h3⟩:=hql k (lV p) (by rw[List.getElem?_map,hp];rfl);exact⟨g,h1,(hb.cell (p:=⟨g,k,none⟩) h2).trans h3⟩)
     have HB5:=hZ (HB3.out.trans (hb5.mono HB3.out.size));clear hrow hb5 hql;go_wp2_with fail;go_loopw [6] (fun iv wr=>∃k:Nat,(k:Int)≤K∧iv=.int .i64 k∧Hid (((pcs 47 n).take k).all oP=true)∧wr=w5) (fun iv _=>K-(intOf iv).toNat)
     case atStart=>exact⟨0,aC,rfl,hZ rfl,rfl⟩
     case round=>
      obtain⟨k,hk,rfl,HJ,rfl⟩:=hrel;by_cases hlt:(k:Int)<K
      ·have hkl:k<(pcs 47 n).length:=by rw[HK.out];omega
       obtain⟨p,hp⟩:∃p,(pcs 47 n)[k]?=some p:=⟨_,List.getElem?_eq_getElem hkl⟩
       have hpl:=HPL.out p (List.mem_of_getElem? hp);obtain⟨g5,rfl,hc⟩:=HCL.out k p wr hp (Below.refl _ _);have HP:=hZ hp
       have hpi:=fun W:World=>HPI.out p aC W
       try rw[show(⟨p.toArray⟩:ByteArray).data.toList=p from rfl]at hpi
       generalize (⟨p.toArray⟩:ByteArray)=pB at hc hpi;clear hp hkl hpl
       cases hX:oP p with
       |false=>
        rw[hX]at hpi;have HX:=hZ hX
        clear hX;go_wp2_with (go_at_call 75;refine(hpi _).mono ?_;rintro e w6 ⟨rfl,rfl⟩);go_ret2;rw[HR.out,uH (fun _ _ _=>AE HP.out HX.out)];exact⟨rfl,HB5.out⟩
       |true=>
        rw[hX]at hpi;have HX:=hZ hX
        clear hX;go_wp2_with (go_at_call 75;refine(hpi _).mono ?_;rintro e w6 ⟨rfl,rfl⟩);exact jP
      ·obtain rfl:k=K:=by omega
       go_wp2_with fail;go_ret2;rw[HR.out,Da (by rw[HUZ.out];omega) HQ.out HT.out fN];exact⟨rfl,HB5.out⟩
  |n::t::u::r,_=>
   have HR:Hid (R=none):=hZ hfm
   have hrl:r.length≤1000:=by
    have h1:=congrArg List.length hPL;rw[wM]at h1;have h2:s.data.toList.count 58≤s.data.toList.length:=List.count_le_length
    rw[hls]at h2;simp only[List.length_cons]at h1;omega
   obtain⟨K,hK⟩:∃K,r.length=K:=⟨_,rfl⟩
   have HK:=hZ hK;rw[hK]at hrl;clear hfm hPL hls hmem hne hK;go_enter Tryz.func32,Tryz.ntmps32;go_wp2_with fail;refine(HCU.out _).mono ?_;rintro e w3 ⟨v,rfl,hrow,hb2⟩;have HB3:=hZ hb2
   obtain⟨q,qc,rfl,hql⟩:=hrow.slice;rw[show((n::t::u::r).map lV).length=K+3 by rw[List.length_map];simp only[List.length_cons];rw[HK.out]];clear hb2 hrow hql;go_wp2_with fail;go_ret2;rw[HR.out];exact jA
theorem vW(s:ByteArray)(hs:(s.size:Int)≤140737488355328)(w:World):
  Calls Tryz.prog 8 #[.string s] w fun e w'=>e=.returned (.tuple #[lV ((nO s.data.toList).getD []),.int .i64 (if(nO s.data.toList).isSome then 0 else 31)])∧Below w.heap.size w w':=by
 have h:=fun W:World=>Fm s hs W
 unfold KD lV at h;unfold lV;generalize nO s.data.toList=O at h⊢
 cases O with
 |none=>
  have h2:∀W:World,Calls Tryz.prog 32 #[.string s] W fun e w'=>e=.returned (.tuple #[.string ⟨#[]⟩,.bool false])∧Below W.heap.size W w':=h
  clear h;go_enter Tryz.func8,Tryz.ntmps8;go_wp2_with (go_at_call 32;refine(h2 _).mono ?_;rintro e w2 ⟨rfl,hb2⟩;have HB2:=hZ hb2;clear hb2);go_ret2;exact gT
 |some u=>
  have h2:∀W:World,Calls Tryz.prog 32 #[.string s] W fun e w'=>e=.returned (.tuple #[.string ⟨u.toArray⟩,.bool true])∧Below W.heap.size W w':=h
  clear h;go_enter Tryz.func8,Tryz.ntmps8;go_wp2_with (go_at_call 32;refine(h2 _).mono ?_;rintro e w2 ⟨rfl,hb2⟩;have HB2:=hZ hb2;clear hb2);go_ret2;exact gT
end Go.Proofs.YtdkedmngeahjiaaGreatDoor
