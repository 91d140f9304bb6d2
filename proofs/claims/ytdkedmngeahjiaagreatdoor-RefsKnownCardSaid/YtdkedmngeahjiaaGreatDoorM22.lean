import Derived.Test.YtdkedmngeahjiaaGreatDoorM21
import Derived.Laws.ResultCell
import Derived.Lib.IndexBytes
set_option maxRecDepth 100000
set_option maxHeartbeats 25600000
namespace Go.Proofs.YtdkedmngeahjiaaGreatDoor
theorem cH{p:Prop}(h:p:=by rw[HNO.out];rfl):p:=h
theorem gO{p:Prop}(h:p:=by show w.heap.size≤w.heap.size+1;omega):p:=h
theorem gP{p:Prop}(h:p:=by show w.heap.size≠w.heap.size+1;omega):p:=h
theorem iP{p:Prop}(h:p:=by rw[BU];omega):p:=h
theorem kJ{p:Prop}(h:p:=by rw[List.size_toArray,List.length_map,h2];exact hI32):p:=h
open Go Go.RowKit
theorem mT{fn:Func}{p u:Tmp}(h:fn.results=#[.cell p 33,.tmp u])(tmps:Array Value)(w:World)(g:Nat)(cs:Array Value)(t:TypeId)(hp:tmps.getD p undef=.pointer (some ⟨g,0,none⟩))(hg:w.heap[g]?=some (.cells cs t (0,0)))(hz:cs.size=32):
  (results fn tmps).run Tryz.prog w=.ok (.tuple #[.agg cs,tmps.getD u undef]) w:=by
 have hI:(Tryz.prog.info? 33).map (·.size)=some cs.size:=by rw[hz];kernel_rfl
 rw[results_cell_tmp h,hp];have h1:=run_loadVar_row (P:=Tryz.prog) w g t 33 cs (0,0) _ hg Tryz.underlying33 rfl hI
 simp[asAddr,h1,Result.andThen]
def rA(t:List UInt8)(j:Nat):Nat:=(hv (t.getD j 0)).getD 0
theorem E6:∀(n:Nat) (l:List UInt8),l.length=2*n→(∀j,j<2*n→(hv (l.getD j 0)).isSome=true)→sT l=some ((List.range n).map fun j=>UInt8.ofNat (16*rA l (2*j)+rA l (2*j+1)))
 |0,l,h,_=>by
  rw[List.length_eq_zero_iff.1 (by omega:l.length=0)]
  rfl
 |n+1,l,h,ha=>by
  match l,h with
  |x::y::r,h=>
   have h0:=ha 0 aC;have h1:=ha 1 aC
   have hr:=E6 n r (by simp only[List.length_cons]at h;omega) (fun j hj=>by
    have:=ha (j+2) aC;simpa using this)
   obtain⟨a,hxa⟩:=Option.isSome_iff_exists.1 (show(hv x).isSome=true from h0);obtain⟨b,hyb⟩:=Option.isSome_iff_exists.1 (show(hv y).isSome=true from h1);rw[sT,hxa,hyb,hr];show some (_::_)=_
   rw[List.range_succ_eq_map,List.map_cons,List.map_map];refine congrArg some (congr (congrArg List.cons ?_) (List.map_congr_left fun j _=>?_))
   ·have e0:rA (x::y::r) (2*0)=a:=by show(hv x).getD 0=a;rw[hxa];rfl
    have e1:rA (x::y::r) (2*0+1)=b:=by show(hv y).getD 0=b;rw[hyb];rfl
    rw[e0,e1]
   ·have e0:rA (x::y::r) (2*(j+1))=rA r (2*j):=by unfold rA;rw[show 2*(j+1)=2*j+1+1 by omega];rfl
    have e1:rA (x::y::r) (2*(j+1)+1)=rA r (2*j+1):=by unfold rA;rw[show 2*(j+1)+1=2*j+1+1+1 by omega];rfl
    show _=UInt8.ofNat (16*rA (x::y::r) (2*(j+1))+rA (x::y::r) (2*(j+1)+1));rw[e0,e1]
theorem zX:∀(l:List UInt8) (j:Nat),j<l.length→hv (l.getD j 0)=none→sT l=none
 |[],j,h,_=>aK
 |[x],j,h,_=>rfl
 |x::y::r,0,_,h=>by
  have:hv x=none:=h;rw[sT,this]
 |x::y::r,1,_,h=>by
  have:hv y=none:=h;rw[sT,this];cases hv x<;>rfl
 |x::y::r,j+2,hj,h=>by
  have:=zX r j (by simpa using hj) h;rw[sT,this];cases hv x<;>cases hv y<;>rfl
def zY(t:List UInt8)(i:Nat):List Value:=(List.range 32).map fun j=>.int .u8 ((if 2*j+1<i then 16*rA t (2*j)+rA t (2*j+1)else if 2*j<i then rA t (2*j)else 0:Nat):Int)
theorem BU(t:List UInt8)(i:Nat):(zY t i).length=32:=by unfold zY;rw[List.length_map,List.length_range]
theorem sW(t:List UInt8)(i:Nat){j:Nat}(h:j<32):(zY t i)[j]?=some (.int .u8 ((if 2*j+1<i then 16*rA t (2*j)+rA t (2*j+1)else if 2*j<i then rA t (2*j)else 0:Nat):Int)):=by
 unfold zY;rw[List.getElem?_map,List.getElem?_range h]
 rfl
theorem Eb(t:List UInt8)(j:Nat):rA t j<16:=by
 unfold rA
 cases h:hv (t.getD j 0)with
 |none=>decide
 |some n=>exact(AA h).2
theorem E7{t:List UInt8}(h:t.length=64)(ha:∀j,j<64→(hv (t.getD j 0)).isSome=true):∃d,sT t=some d∧d.length=32∧zY t 64=d.map lG:=by
 refine⟨_,E6 32 t h ha,by rw[List.length_map,List.length_range],?_⟩;unfold zY;rw[List.map_map];refine List.map_congr_left fun j hj=>?_
 have hj:=List.mem_range.1 hj;have h1:=Eb t (2*j)
 have h2:=Eb t (2*j+1);show Value.int .u8 _=Value.int .u8 _
 rw[if_pos aC,UInt8.toNat_ofNat',Nat.mod_eq_of_lt aC]
theorem or4:∀a,a<16→∀b,b<16→bits .or .u8 (((a:Nat):Int)*16) ((b:Nat):Int)=((16*a+b:Nat):Int):=dX
theorem LS{w:World}{b:Nat}{t:List UInt8}{i:Nat}(h:w.heap[b]?=some (.cells (zY t i).toArray 33 (0,0)))(hi:i<64):
  ∃a:Nat,a<16∧w.cell? ⟨b,i/2,none⟩=some (.int .u8 (a:Int))∧(w.setCell ⟨b,i/2,none⟩ (.int .u8 ((16*a+rA t i:Nat):Int))).heap[b]?=some (.cells (zY t (i+1)).toArray 33 (0,0)):=by
 refine⟨if i%2=0 then 0 else rA t (i-1),?_,?_,?_⟩
 ·split
  ·decide
  ·exact Eb _ _
 ·rw[lF h,List.getElem?_toArray,sW _ _ aC];refine congrArg some (congrArg (Value.int .u8) (congrArg Int.ofNat ?_));by_cases hp:i%2=0
  ·rw[if_pos hp,if_neg aC,if_neg aC]
  ·rw[if_neg hp,if_neg aC,if_pos aC];exact congrArg (rA t) aC
 ·rw[lY h,lM (lH h),List.setIfInBounds_toArray];refine congrArg (fun l:List Value=>some (Obj.cells l.toArray 33 (0,0))) (List.ext_getElem? fun k=>?_);rw[List.getElem?_set,BU];by_cases hk:i/2=k
  ·subst hk;rw[if_pos rfl,if_pos aC,sW _ _ aC];refine congrArg some (congrArg (Value.int .u8) (congrArg Int.ofNat ?_));by_cases hp:i%2=0
   ·rw[if_pos hp,if_neg aC,if_pos aC];rw[show 2*(i/2)=i by omega];omega
   ·rw[if_neg hp,if_pos aC,show 2*(i/2)=i-1 by omega,show i-1+1=i by omega]
  ·rw[if_neg hk];by_cases hk2:k<32
   ·rw[sW _ _ hk2,sW _ _ hk2];refine congrArg some (congrArg (Value.int .u8) (congrArg Int.ofNat ?_));by_cases h1:2*k+1<i
    ·rw[if_pos h1,if_pos aC]
    ·rw[if_neg h1,if_neg (show¬2*k<i by omega),if_neg aC,if_neg aC]
   ·rw[List.getElem?_eq_none iP,List.getElem?_eq_none iP]
def GN(o:Option (List UInt8)):Value:=match o with
 |some d=>.tuple #[nH d,.nilIface]
 |none=>.tuple #[nH zeroD,nJ 4]
theorem CY{l:List UInt8}(h:Lib.hasPrefix l shaHead=true):Lib.trimPrefix l shaHead=l.drop 7:=by
 unfold Lib.trimPrefix;rw[if_pos h]
 rfl
theorem CZ(l:List UInt8):Lib.hasPrefix l shaHead=true↔l.take 7=shaHead:=by
 unfold Lib.hasPrefix;rw[List.isPrefixOf_iff_prefix];constructor
 ·rintro⟨r,rfl⟩
  rfl
 ·intro h;exact⟨l.drop 7,by rw[←h];exact List.take_append_drop 7 l⟩
theorem yM(s:ByteArray)(w:World):
  Calls Tryz.prog 42 #[.string s] w fun e w'=>e=.returned (GN (nI s))∧Below w.heap.size w w':=by
 have hcut:=fun W:World=>Tryz.strings_CutPrefix s ⟨#[115,104,97,50,53,54,58]⟩ W
 obtain⟨t,ht⟩:∃t:ByteArray,(⟨(Lib.trimPrefix s.data.toList shaHead).toArray⟩:ByteArray)=t:=⟨_,rfl⟩
 obtain⟨ok,hok⟩:∃ok:Bool,Lib.hasPrefix s.data.toList shaHead=ok:=⟨_,rfl⟩
 have hcut2:∀W,Calls Tryz.prog 88 #[.string s,.string ⟨#[115,104,97,50,53,54,58]⟩] W fun e w'=>e=.returned (.tuple #[.string t,.bool ok])∧w'=W:=fun W=>by
  rw[←ht,←hok];exact hcut W
 have HT:=hZ ht;have HOK:=hZ hok
 clear hcut ht hok
 obtain⟨P0,hP0⟩:∃p,nI s=p:=⟨_,rfl⟩
 rw[hP0];have HP:=hZ hP0
 clear hP0;go_enter Tryz.func42,Tryz.ntmps42;go_wp2_with fail;refine(hcut2 _).mono ?_;rintro e w1 ⟨rfl,rfl⟩;clear hcut2
 obtain⟨W0,hW0⟩:∃W,(w.alloc (.cells z32 33)).alloc (.cells z32 33)=W:=⟨_,rfl⟩
 obtain⟨hb0,hz0,g0,g1⟩:=Ku w (.cells z32 33) (.cells z32 33);rw[hW0]at hb0 hz0 g0 g1;have HB0:=hZ hb0
 have HZ0:=hZ hz0;have HG0:=hZ g0
 have HG1:=hZ g1;have hW1:(w.alloc (.cells #[.int .u8 0,.int .u8 0,.int .u8 0,.int .u8 0,.int .u8 0,.int .u8 0,.int .u8 0,.int .u8 0,.int .u8 0,.int .u8 0,.int .u8 0,.int .u8 0,.int .u8 0,.int .u8 0,.int .u8 0,.int .u8 0,.int .u8 0,.int .u8 0,.int .u8 0,.int .u8 0,.int .u8 0,.int .u8 0,.int .u8 0,.int .u8 0,.int .u8 0,.int .u8 0,.int .u8 0,.int .u8 0,.int .u8 0,.int .u8 0,.int .u8 0,.int .u8 0] 33)).alloc (.cells #[.int .u8 0,.int .u8 0,.int .u8 0,.int .u8 0,.int .u8 0,.int .u8 0,.int .u8 0,.int .u8 0,.int .u8 0,.int .u8 0,.int .u8 0,.int .u8 0,.int .u8 0,.int .u8 0,.int .u8 0,.int .u8 0,.int .u8 0,.int .u8 0,.int .u8 0,.int .u8 0,.int .u8 0,.int .u8 0,.int .u8 0,.int .u8 0,.int .u8 0,.int .u8 0,.int .u8 0,.int .u8 0,.int .u8 0,.int .u8 0,.int .u8 0,.int .u8 0] 33)=W0:=hW0
 rw[hW1];clear hW0 hW1 hb0 hz0 g0 g1
 have hnone:∀W:World,Hid (Below w.heap.size w W)→Hid (W.heap[w.heap.size]?=some (.cells z32 33 (0,0)))→
   (storeCells ⟨w.heap.size,0,none⟩ (zeroD.map lG)).run Tryz.prog W=.ok () (setBlk W w.heap.size (.cells (zeroD.map lG).toArray 33 (0,0)))∧Hid ((setBlk W w.heap.size (.cells (zeroD.map lG).toArray 33 (0,0))).heap[w.heap.size]?=some (.cells (zeroD.map lG).toArray 33 (0,0)))∧Hid (Below w.heap.size w (setBlk W w.heap.size (.cells (zeroD.map lG).toArray 33 (0,0)))):=fun W hB hG=>
  ⟨zW hG.out rfl (fun u hu=>by obtain⟨x,_,rfl⟩:=List.mem_map.1 hu;rfl),hZ (lM (lH hG.out)),hZ (hB.out.setBlk (Nat.le_refl _))⟩
 have h1z:(zeroD.map lG).toArray.all (·.oneCell')=true:=all_oneCell_toArray fun v hv=>bY
 have hI32:(Tryz.prog.info? 33).map (·.size)=some (zeroD.map lG).toArray.size:=aE;by_cases hg:ok=true∧t.size=64
 ·obtain⟨rfl,hsz⟩:=hg;have htl:t.data.toList=s.data.toList.drop 7:=by rw[←HT.out,CY HOK.out]
  have hTl:t.data.toList.length=64:=by rw[Array.length_toList];exact hsz
  have hps:sT t.data.toList=P0:=by
   rw[htl,←HP.out];unfold nI;refine(if_pos ⟨(CZ _).1 HOK.out,?_⟩).symm;rw[htl,List.length_drop,Array.length_toList]at hTl;show s.data.size=71
   omega
  have HPS:=hZ hps;have HTL:=hZ hTl
  have HG2:Hid (W0.heap[w.heap.size+1]?=some (.cells (zY t.data.toList 0).toArray 33 (0,0))):=HG1;clear htl hTl hps;go_wp2_with fail;go_loopw [23] (fun iv wr=>∃i:Nat,(i:Int)≤64∧iv=.int .i64 i∧Hid (∀j,j<i→(hv (t.data.toList.getD j 0)).isSome=true)∧Hid (Below w.heap.size w wr)∧Hid (wr.heap[w.heap.size]?=some (.cells z32 33 (0,0)))∧Hid (wr.heap[w.heap.size+1]?=some (.cells (zY t.data.toList i).toArray 33 (0,0)))) (fun iv _=>64-(intOf iv).toNat)
  case atStart=>exact⟨0,aC,rfl,hZ (fun j hj=>aC),HB0,HG0,HG2⟩
  case round=>
   obtain⟨i,hi,rfl,HA,HB,HR,HX⟩:=hrel;by_cases hlt:(i:Int)<64
   ·have hi64:i<64:=by omega
    have his:i<t.size:=by rw[hsz];exact hi64
    obtain⟨c,hc⟩:∃c,t[i]'his=c:=⟨_,rfl⟩
    have hcl:t.data.toList.getD i 0=c:=by
     rw[←hc,List.getD_eq_getElem?_getD,Array.getElem?_toList,Array.getElem?_eq_getElem (show i<t.data.size from his)]
     rfl
    obtain⟨a,ha,d0,hset⟩:=LS HX.out hi64;have f0:wr.frozen? ⟨w.heap.size+1,i/2,none⟩=false:=lI HX.out
    have hq:i/2<32:=aC;have HCL:=hZ hcl
    have HSET:=hZ hset;have hcn:=c.toNat_lt
    clear hcl hset;by_cases hd:48≤(c.toNat:Int)∧(c.toNat:Int)≤57
    ·obtain⟨h1,h2⟩:=hd
     have hn:rA t.data.toList i=c.toNat-48:=by
      unfold rA hv;rw[HCL.out,if_pos aC]
      rfl
     have hsm:(hv (t.data.toList.getD i 0)).isSome=true:=by
      unfold hv;rw[HCL.out,if_pos aC]
      rfl
     have hor:=or4 a ha (c.toNat-48) aC;have e0:((c.toNat-48:Nat):Int)=(c.toNat:Int)-48:=aC
     rw[e0]at hor;have HN:=hZ hn
     have HSM:=hZ hsm;clear hn hsm e0;go_wp2_with fail;refine⟨⟨i+1,aC,aG,hZ ?_,hZ (HB.out.setCell (p:=⟨w.heap.size+1,i/2,none⟩) gO _),hZ ((Below.heap_setCell _ _ _ _ gP).trans HR.out),hZ ?_⟩,cN⟩
     ·intro j hj;by_cases hji:j=i
      ·rw[hji];exact HSM.out
      ·exact HA.out j aC
     ·have h:=HSET.out;rw[HN.out,Int.natCast_add,Int.natCast_mul]at h;exact h
    ·by_cases hd2:97≤(c.toNat:Int)∧(c.toNat:Int)≤102
     ·obtain⟨h1,h2⟩:=hd2;have h3:¬(c.toNat:Int)≤57:=aC
      have h4:48≤(c.toNat:Int):=aC
      have hn:rA t.data.toList i=c.toNat-87:=by
       unfold rA hv;rw[HCL.out,if_neg aC,if_pos aC]
       rfl
      have hsm:(hv (t.data.toList.getD i 0)).isSome=true:=by
       unfold hv;rw[HCL.out,if_neg aC,if_pos aC]
       rfl
      have hor:=or4 a ha (c.toNat-87) aC;have e0:((c.toNat-87:Nat):Int)=(c.toNat:Int)-87:=aC
      rw[e0]at hor;have HN:=hZ hn
      have HSM:=hZ hsm;clear hn hsm e0;go_wp2_with fail;refine⟨⟨i+1,aC,aG,hZ ?_,hZ (HB.out.setCell (p:=⟨w.heap.size+1,i/2,none⟩) gO _),hZ ((Below.heap_setCell _ _ _ _ gP).trans HR.out),hZ ?_⟩,cN⟩
      ·intro j hj;by_cases hji:j=i
       ·rw[hji];exact HSM.out
       ·exact HA.out j aC
      ·have h:=HSET.out;rw[HN.out,Int.natCast_add,Int.natCast_mul]at h;exact h
     ·have hnone2:P0=none:=by
       rw[←HPS.out];refine zX _ i (by rw[HTL.out];exact hi64) ?_;rw[HCL.out];unfold hv;rw[if_neg aC,if_neg aC]
      have HNO:=hZ hnone2;obtain⟨-,HG3,HB3⟩:=hnone wr HB HR;clear hnone2 hnone;by_cases h1:48≤(c.toNat:Int)
      ·have h2:¬(c.toNat:Int)≤57:=fun h=>hd ⟨h1,h⟩
       by_cases h3:97≤(c.toNat:Int)
       ·have h4:¬(c.toNat:Int)≤102:=fun h=>hd2 ⟨h3,h⟩
        clear hd hd2;go_wp2_with (first|(refine wpList_store_row rfl _ _ _ rfl w.heap.size (zeroD.map lG).toArray rfl rfl 33 z32 HR.out hI32 rfl h1z ?_;rw[lZ HR.out]));refine bodyPost_ret (v:=.tuple #[nH zeroD,nJ 4]) (mT (fn:=Tryz.f42) (p:=2) (u:=3) rfl _ _ w.heap.size _ _ rfl HG3.out rfl) rfl ⟨cH,HB3.out⟩
       ·clear hd hd2;go_wp2_with (first|(refine wpList_store_row rfl _ _ _ rfl w.heap.size (zeroD.map lG).toArray rfl rfl 33 z32 HR.out hI32 rfl h1z ?_;rw[lZ HR.out]));refine bodyPost_ret (v:=.tuple #[nH zeroD,nJ 4]) (mT (fn:=Tryz.f42) (p:=2) (u:=3) rfl _ _ w.heap.size _ _ rfl HG3.out rfl) rfl ⟨cH,HB3.out⟩
      ·have h3:¬97≤(c.toNat:Int):=by omega
       clear hd hd2;go_wp2_with (first|(refine wpList_store_row rfl _ _ _ rfl w.heap.size (zeroD.map lG).toArray rfl rfl 33 z32 HR.out hI32 rfl h1z ?_;rw[lZ HR.out]));refine bodyPost_ret (v:=.tuple #[nH zeroD,nJ 4]) (mT (fn:=Tryz.f42) (p:=2) (u:=3) rfl _ _ w.heap.size _ _ rfl HG3.out rfl) rfl ⟨cH,HB3.out⟩
   ·obtain rfl:i=64:=by omega
    obtain⟨d,h1,h2,h3⟩:=E7 HTL.out HA.out;have hpd:P0=some d:=HPS.out.symm.trans h1
    have HPD:=hZ hpd;have hx2:=HX.out
    rw[h3]at hx2;have hI2:(Tryz.prog.info? 33).map (·.size)=some (d.map lG).toArray.size:=kJ
    have hI3:(Tryz.prog.info? 33).map (·.size)=some (d.map lG).length:=by rw[List.length_map,h2];exact hI32
    have hU:Tryz.prog.underlying 33=some _:=Tryz.underlying33
    have HRG:Hid (wr.rangeAt (w.heap.size+1) 0 (d.map lG)):=hZ (fun j v hv=>by
     rw[Nat.zero_add,lF hx2,List.getElem?_toArray];exact hv)
    have hs32:z32.size=(d.map lG).toArray.size:=show(32:Nat)=(d.map lG).length by rw[List.length_map,h2]
    have h1c:(d.map lG).toArray.all (·.oneCell')=true:=all_oneCell_toArray fun v hv=>bY
    have HG5:Hid ((setBlk wr w.heap.size (.cells (d.map lG).toArray 33 (0,0))).heap[w.heap.size]?=some (.cells (d.map lG).toArray 33 (0,0))):=hZ (lM (lH HR.out));have HB5:Hid (Below w.heap.size w (setBlk wr w.heap.size (.cells (d.map lG).toArray 33 (0,0)))):=hZ (HB.out.setBlk (Nat.le_refl _))
    have HD32:Hid ((d.map lG).toArray.size=32):=hZ (by rw[List.size_toArray,List.length_map,h2]);clear hx2 h1 h2 h3 hpd hnone;go_wp2_with (first|refine wpList_load_mid rfl _ _ rfl (w.heap.size+1) 0 rfl (d.map lG) _ HRG.out hU rfl hI3 ?_|(refine wpList_store_row rfl _ _ _ rfl w.heap.size (d.map lG).toArray rfl rfl 33 z32 HR.out hI2 hs32 h1c ?_;rw[lZ HR.out]));refine bodyPost_ret (v:=.tuple #[nH d,.nilIface]) (mT (fn:=Tryz.f42) (p:=2) (u:=3) rfl _ _ w.heap.size _ _ rfl HG5.out HD32.out) rfl ⟨by rw[HPD.out];rfl,HB5.out⟩
 ·have hno:P0=none:=by
   rw[←HP.out];unfold nI;refine if_neg fun hc=>hg ?_
   have h1:Lib.hasPrefix s.data.toList shaHead=true:=(CZ _).2 hc.1;refine⟨HOK.out.symm.trans h1,?_⟩;rw[←HT.out,CY h1];show(s.data.toList.drop 7).length=64
   rw[List.length_drop,Array.length_toList];have:s.data.size=71:=hc.2
   omega
  have HNO:=hZ hno;obtain⟨-,HG2,HB2⟩:=hnone W0 HB0 HG0;clear hnone hno;cases ok
  ·go_wp2_with (first|(refine wpList_store_row rfl _ _ _ rfl w.heap.size (zeroD.map lG).toArray rfl rfl 33 z32 HG0.out hI32 rfl h1z ?_;rw[lZ HG0.out]));refine bodyPost_ret (v:=.tuple #[nH zeroD,nJ 4]) (mT (fn:=Tryz.f42) (p:=2) (u:=3) rfl _ _ w.heap.size _ _ rfl HG2.out rfl) rfl ⟨cH,HB2.out⟩
  ·have hts:¬(t.size:Int)=64:=fun h=>hg ⟨rfl,aC⟩
   go_wp2_with (first|(refine wpList_store_row rfl _ _ _ rfl w.heap.size (zeroD.map lG).toArray rfl rfl 33 z32 HG0.out hI32 rfl h1z ?_;rw[lZ HG0.out]));refine bodyPost_ret (v:=.tuple #[nH zeroD,nJ 4]) (mT (fn:=Tryz.f42) (p:=2) (u:=3) rfl _ _ w.heap.size _ _ rfl HG2.out rfl) rfl ⟨cH,HB2.out⟩
theorem E8:∀n,n<16→(⟨#[48,49,50,51,52,53,54,55,56,57,97,98,99,100,101,102]⟩:ByteArray).extract n (n+1)=⟨#[hx n]⟩:=aA
theorem GO(d:List UInt8):(nA d).size=7+2*d.length:=by
 show(shaHead++uB d).length=_;rw[List.length_append,uC]
 rfl
theorem GP(d:List UInt8)(x:UInt8):nA (d++[x])=nA d++⟨#[hx (x.toNat/16)]⟩++⟨#[hx (x.toNat%16)]⟩:=by
 refine ByteArray.ext ?_;rw[ByteArray.data_append,ByteArray.data_append];unfold nA;rw[A1,←List.append_assoc];show((shaHead++uB d)++[hx (x.toNat/16),hx (x.toNat%16)]).toArray=_
 simp
theorem xS(d:List UInt8)(hd:d.length=32)(w:World):
  Calls Tryz.prog 72 #[nH d] w fun e w'=>e=.returned (.string (nA d))∧Below w.heap.size w w':=by
 unfold nH;go_enter Tryz.func72,Tryz.ntmps72
 obtain⟨W0,hW0⟩:∃W,(w.alloc (.cells (d.map lG).toArray 33))=W:=⟨_,rfl⟩
 have hx0:W0.heap[w.heap.size]?=some (.cells (d.map lG).toArray 33 (0,0)):=by rw[←hW0];exact Array.getElem?_push_size
 have HX0:=hZ hx0;have hb0:Below w.heap.size w W0:=by rw[←hW0];exact(Below.refl w.heap.size w).alloc (Nat.le_refl _) _
 have HB0:=hZ hb0;have HW0:=hZ hW0
 clear hx0 hb0 hW0;go_wp2_with fail;rw[HW0.out];go_loopw [3,4] (fun sv iv wr=>∃i:Nat,(i:Int)≤32∧iv=.int .i64 i∧sv=.string (nA (d.take i))∧Hid (wr.heap=W0.heap)∧Hid (Below w.heap.size w wr)) (fun _ iv _=>32-(intOf iv).toNat)
 case atStart=>exact⟨0,aC,rfl,rfl,hZ rfl,HB0⟩
 case round=>
  obtain⟨i,hi,rfl,rfl,HH,HB⟩:=hrel;by_cases hlt:(i:Int)<32
  ·have hil:i<d.length:=by rw[hd];omega
   obtain⟨x,hx⟩:∃x,d[i]?=some x:=⟨_,List.getElem?_eq_getElem hil⟩
   have hxn:=x.toNat_lt
   have hc:wr.cell? ⟨w.heap.size,i,none⟩=some (.int .u8 x.toNat):=by
    rw[lF ((congrArg (fun h:Array Obj=>h[w.heap.size]?) HH.out).trans HX0.out),List.getElem?_toArray,List.getElem?_map,hx];rfl
   have HTK:Hid (d.take (i+1)=d.take i++[x]):=hZ iX;have h1:=E8 (x.toNat/16) aC
   have h2:=E8 (x.toNat%16) aC;have h3:=GO (d.take i)
   rw[List.length_take]at h3;have h4:(nA (d.take i)).size+1≤100:=aC
   have h5:(nA (d.take i)).size+1+1≤100:=aC
   obtain⟨T,hT⟩:∃T,nA (d.take i)=T:=⟨_,rfl⟩
   rw[hT]at h4 h5;rw[hT];have HT:=hZ hT
   clear hx hil h3 hT;go_wp2_with fail;go_region;go_wp2_with fail;refine⟨⟨i+1,aC,aG,?_,hZ HH.out,hZ ⟨HB.out.os,HB.out.tape,HB.out.output,HB.out.size,HB.out.block⟩⟩,cN⟩;refine congrArg Value.string ?_;have h6:=HT.out
   subst h6;rw[HTK.out];exact(GP _ x).symm
  ·obtain rfl:i=32:=by omega
   go_wp2_with fail;go_ret;rw[List.take_of_length_le (by rw[hd];omega)];exact⟨rfl,HB.out⟩
def hvI(c:UInt8):Int:=match hv c with
 |some n=>n
 |none=>-1
theorem MM:∀c:UInt8,∀i,i<16→(hx i).toNat=c.toNat→hvI c=i:=by
 intro c i hi h;have h1:hx i=c:=UInt8.toNat_inj.1 h
 subst h1;unfold hvI;rw[Ke i hi]
theorem MN(c:UInt8)(h:∀i,i<16→(hx i).toNat≠c.toNat):hvI c=-1:=by
 unfold hvI
 cases hc:hv c with
 |none=>rfl
 |some n=>
  obtain⟨h1,h2⟩:=AA hc;exact absurd (by rw[h1]) (h n h2)
theorem C1(c:UInt8)(w:World):
  Calls Tryz.prog 154 #[.int .u8 c.toNat] w fun e w'=>e=.returned (.int .i64 (hvI c))∧w=w':=by
 have hcn:=c.toNat_lt;go_enter Tryz.func154,Tryz.ntmps154;go_wp2_with fail;go_loopw [3] (fun iv wr=>∃i:Nat,(i:Int)≤16∧iv=.int .i64 i∧Hid (∀j,j<i→(hx j).toNat≠c.toNat)∧wr=w) (fun iv _=>16-(intOf iv).toNat)
 case atStart=>exact⟨0,aC,rfl,hZ (fun j hj=>absurd hj aC),rfl⟩
 case round=>
  obtain⟨i,hi,rfl,HJ,rfl⟩:=hrel;by_cases hlt:(i:Int)<16
  ·have hg:(⟨#[48,49,50,51,52,53,54,55,56,57,97,98,99,100,101,102]⟩:ByteArray)[i]'(show i<16 by omega)=hx i:=GM i _;by_cases he:(hx i).toNat=c.toNat
   ·have hd:((((hx i).toNat:Nat):Int)==(c.toNat:Int))=true:=by rw[he];simp
    go_wp2_with fail;go_ret;exact⟨congrArg (fun x=>Ending.returned (Value.int .i64 x)) (MM c i aC he).symm,rfl⟩
   ·have hd:((((hx i).toNat:Nat):Int)==(c.toNat:Int))=false:=beq_eq_false_iff_ne.2 aC;go_wp2_with fail;refine⟨⟨i+1,aC,aG,hZ (fun j hj=>?_),trivial⟩,cN⟩;by_cases hji:j=i
    ·rw[hji];exact he
    ·exact HJ.out j aC
  ·obtain rfl:i=16:=by omega
   go_wp2_with fail;go_ret;exact⟨congrArg (fun x=>Ending.returned (Value.int .i64 x)) (MN c HJ.out).symm,rfl⟩
def vP(o:Option (List UInt8)):Value:=match o with
 |some d=>.tuple #[nH d,.int .i64 0]
 |none=>.tuple #[nH zeroD,.int .i64 4]
theorem E9{w:World}{b:Nat}{t:List UInt8}{i:Nat}(h:w.heap[b]?=some (.cells (zY t (2*i)).toArray 33 (0,0)))(hi:i<32):
  (∃v,w.cell? ⟨b,i,none⟩=some v)∧(w.setCell ⟨b,i,none⟩ (.int .u8 ((16*rA t (2*i)+rA t (2*i+1):Nat):Int))).heap[b]?=some (.cells (zY t (2*(i+1))).toArray 33 (0,0)):=by
 refine⟨⟨_,by rw[lF h,List.getElem?_toArray,sW _ _ hi]⟩,?_⟩;rw[lY h,lM (lH h),List.setIfInBounds_toArray];refine congrArg (fun l:List Value=>some (Obj.cells l.toArray 33 (0,0))) (List.ext_getElem? fun k=>?_);rw[List.getElem?_set,BU];by_cases hk:i=k
 ·subst hk;rw[if_pos rfl,if_pos aC,sW _ _ aC];refine congrArg some (congrArg (Value.int .u8) (congrArg Int.ofNat ?_));rw[if_pos aC]
 ·rw[if_neg hk];by_cases hk2:k<32
  ·rw[sW _ _ hk2,sW _ _ hk2];refine congrArg some (congrArg (Value.int .u8) (congrArg Int.ofNat ?_));by_cases h1:2*k+1<2*i
   ·rw[if_pos h1,if_pos aC]
   ·rw[if_neg h1,if_neg (show¬2*k<2*i by omega),if_neg aC,if_neg aC]
  ·rw[List.getElem?_eq_none iP,List.getElem?_eq_none iP]
theorem Fa{c:UInt8}{n:Nat}(h:hv c=some n):hvI c=n:=by unfold hvI;rw[h]
theorem Fb{c:UInt8}(h:hv c=none):hvI c=-1:=by unfold hvI;rw[h]
theorem tM(s:ByteArray)(w:World):
  Calls Tryz.prog 118 #[.string s] w fun e w'=>e=.returned (vP (nI s))∧Below w.heap.size w w':=by
 obtain⟨P0,hP0⟩:∃p,nI s=p:=⟨_,rfl⟩
 rw[hP0];have HP:=hZ hP0
 clear hP0;have hI32:(Tryz.prog.info? 33).map (·.size)=some (zeroD.map lG).toArray.size:=aE
 have h1z:(zeroD.map lG).toArray.all (·.oneCell')=true:=all_oneCell_toArray fun v hv=>bY
 have hnone:∀W:World,Hid (Below w.heap.size w W)→Hid (W.heap[w.heap.size]?=some (.cells z32 33 (0,0)))→
   Hid ((setBlk W w.heap.size (.cells (zeroD.map lG).toArray 33 (0,0))).heap[w.heap.size]?=some (.cells (zeroD.map lG).toArray 33 (0,0)))∧Hid (Below w.heap.size w (setBlk W w.heap.size (.cells (zeroD.map lG).toArray 33 (0,0)))):=fun W hB hG=>
  ⟨hZ (lM (lH hG.out)),hZ (hB.out.setBlk (Nat.le_refl _))⟩
 go_enter Tryz.func118,Tryz.ntmps118
 obtain⟨W1,hW1⟩:∃W,(w.alloc (.cells z32 33))=W:=⟨_,rfl⟩
 have HG1:Hid (W1.heap[w.heap.size]?=some (.cells z32 33 (0,0))):=hZ (by rw[←hW1];exact Array.getElem?_push_size);have HB1:Hid (Below w.heap.size w W1):=hZ (by rw[←hW1];exact(Below.refl w.heap.size w).alloc (Nat.le_refl _) _)
 have hW2:w.alloc (.cells #[.int .u8 0,.int .u8 0,.int .u8 0,.int .u8 0,.int .u8 0,.int .u8 0,.int .u8 0,.int .u8 0,.int .u8 0,.int .u8 0,.int .u8 0,.int .u8 0,.int .u8 0,.int .u8 0,.int .u8 0,.int .u8 0,.int .u8 0,.int .u8 0,.int .u8 0,.int .u8 0,.int .u8 0,.int .u8 0,.int .u8 0,.int .u8 0,.int .u8 0,.int .u8 0,.int .u8 0,.int .u8 0,.int .u8 0,.int .u8 0,.int .u8 0,.int .u8 0] 33)=W1:=hW1;clear hW1;by_cases hsz:s.size=71
 ·obtain⟨t,ht⟩:∃t:List UInt8,s.data.toList.drop 7=t:=⟨_,rfl⟩
  have hTl:t.length=64:=by
   rw[←ht,List.length_drop,Array.length_toList];have h0:s.data.size=71:=hsz
   rw[h0]
  have hpn:sT t=none→P0=none:=fun h=>by
   rw[←HP.out];unfold nI;split
   ·rw[ht];exact h
   ·rfl
  have hget:∀j (hj:7+j<s.size),s[7+j]'hj=t.getD j 0:=fun j hj=>by
   rw[←ht,List.getD_eq_getElem?_getD,List.getElem?_drop,Array.getElem?_toList,Array.getElem?_eq_getElem (show 7+j<s.data.size from hj)]
   rfl
  have HT:=hZ ht;have HTL:=hZ hTl
  have HPN:=hZ hpn;have HGET:=hZ hget
  have hI71:(((s.size:Nat):Int) !=71)=false:=by rw[hsz];rfl
  obtain⟨W3,hW3⟩:∃W,W1.alloc (.cells #[.int .u8 0,.int .u8 0,.int .u8 0,.int .u8 0,.int .u8 0,.int .u8 0,.int .u8 0,.int .u8 0,.int .u8 0,.int .u8 0,.int .u8 0,.int .u8 0,.int .u8 0,.int .u8 0,.int .u8 0,.int .u8 0,.int .u8 0,.int .u8 0,.int .u8 0,.int .u8 0,.int .u8 0,.int .u8 0,.int .u8 0,.int .u8 0,.int .u8 0,.int .u8 0,.int .u8 0,.int .u8 0,.int .u8 0,.int .u8 0,.int .u8 0,.int .u8 0] 33)=W:=⟨_,rfl⟩
  have hz1:W1.heap.size=w.heap.size+1:=by rw[←hW2];exact Array.size_push ..
  have HG2:Hid (W3.heap[w.heap.size]?=some (.cells z32 33 (0,0))):=hZ (by rw[←hW3];exact((Below.refl W1.heap.size W1).alloc (Nat.le_refl _) _).block _ aC|>.trans HG1.out);have HX2:Hid (W3.heap[w.heap.size+1]?=some (.cells (zY t 0).toArray 33 (0,0))):=hZ (by rw[←hW3,←hz1];exact Array.getElem?_push_size)
  have HB2:Hid (Below w.heap.size w W3):=hZ (by rw[←hW3];exact HB1.out.alloc aC _);clear ht hTl hpn hget;go_wp2_with fail;go_loopw [5] (fun iv wr=>∃i:Nat,(i:Int)≤32∧iv=.int .i64 i∧Hid (∀j,j<2*i→(hv (t.getD j 0)).isSome=true)∧Hid (Below w.heap.size w wr)∧Hid (wr.heap[w.heap.size]?=some (.cells z32 33 (0,0)))∧Hid (wr.heap[w.heap.size+1]?=some (.cells (zY t (2*i)).toArray 33 (0,0)))) (fun iv _=>32-(intOf iv).toNat)
  case atStart=>exact⟨0,aC,rfl,hZ (fun j hj=>aC),HB2,HG2,HX2⟩
  case round=>
   obtain⟨i,hi,rfl,HA,HB,HR,HX⟩:=hrel;by_cases hlt:(i:Int)<32
   ·have hi32:i<32:=by omega
    have h7:7+2*i<s.size:=aC;have h8:7+(2*i+1)<s.size:=aC
    obtain⟨c1,hc1⟩:∃c,t.getD (2*i) 0=c:=⟨_,rfl⟩
    obtain⟨c2,hc2⟩:∃c,t.getD (2*i+1) 0=c:=⟨_,rfl⟩
    have hg1:s[7+2*i]'h7=c1:=(HGET.out _ h7).trans hc1
    have hg2:s[8+2*i]'aC=c2:=by
     rw[←hc2,←HGET.out _ h8];exact getElem_congr rfl aC _
    have HC1:=hZ hc1;have HC2:=hZ hc2
    obtain⟨v0,hv0⟩:=(E9 HX.out hi32).1;have HSET:=hZ (E9 HX.out hi32).2
    have f0:wr.frozen? ⟨w.heap.size+1,i,none⟩=false:=lI HX.out;clear hc1 hc2;go_wp2_with fail;refine(C1 c1 _).mono ?_;rintro e w2 ⟨rfl,rfl⟩;go_wp2_with fail;refine(C1 c2 _).mono ?_;rintro e w2 ⟨rfl,rfl⟩
    cases h1:hv c1 with
    |none=>
     have hno:P0=none:=HPN.out (zX t (2*i) (by rw[HTL.out];omega) (by rw[HC1.out];exact h1));have HNO:=hZ hno
     obtain⟨HG3,HB3⟩:=hnone _ HB HR;have e1:=Fb h1
     rw[e1];clear hno hnone;go_wp2_with (first|(refine wpList_store_row rfl _ _ _ rfl w.heap.size (zeroD.map lG).toArray rfl rfl 33 z32 HR.out hI32 rfl h1z ?_;rw[lZ HR.out]));refine bodyPost_ret (v:=.tuple #[nH zeroD,.int .i64 4]) (mT (fn:=Tryz.f118) (p:=2) (u:=3) rfl _ _ w.heap.size _ _ rfl HG3.out rfl) rfl ⟨cH,HB3.out⟩
    |some n1=>
     have e1:=Fa h1;have l1:=(AA h1).2
     rw[e1]
     cases h2:hv c2 with
     |none=>
      have hno:P0=none:=HPN.out (zX t (2*i+1) (by rw[HTL.out];omega) (by rw[HC2.out];exact h2));have HNO:=hZ hno
      obtain⟨HG3,HB3⟩:=hnone _ HB HR;have e2:=Fb h2
      rw[e2];clear hno hnone;go_wp2_with (first|(refine wpList_store_row rfl _ _ _ rfl w.heap.size (zeroD.map lG).toArray rfl rfl 33 z32 HR.out hI32 rfl h1z ?_;rw[lZ HR.out]));refine bodyPost_ret (v:=.tuple #[nH zeroD,.int .i64 4]) (mT (fn:=Tryz.f118) (p:=2) (u:=3) rfl _ _ w.heap.size _ _ rfl HG3.out rfl) rfl ⟨cH,HB3.out⟩
     |some n2=>
      have e2:=Fa h2;have l2:=(AA h2).2
      rw[e2];have q1:rA t (2*i)=n1:=by unfold rA;rw[HC1.out,h1];rfl
      have q2:rA t (2*i+1)=n2:=by unfold rA;rw[HC2.out,h2];rfl
      have S1:Hid ((hv (t.getD (2*i) 0)).isSome=true):=hZ (by rw[HC1.out,h1];rfl);have S2:Hid ((hv (t.getD (2*i+1) 0)).isSome=true):=hZ (by rw[HC2.out,h2];rfl)
      have Q1:=hZ q1;have Q2:=hZ q2
      clear q1 q2 h1 h2 e1 e2;go_wp2_with fail;refine⟨⟨i+1,aC,aG,hZ ?_,hZ (HB.out.setCell (p:=⟨w.heap.size+1,i,none⟩) gO _),hZ ((Below.heap_setCell _ _ _ _ gP).trans HR.out),hZ ?_⟩,cN⟩
      ·intro j hj;by_cases hj1:j=2*i
       ·rw[hj1];exact S1.out
       ·by_cases hj2:j=2*i+1
        ·rw[hj2];exact S2.out
        ·exact HA.out j aC
      ·have h:=HSET.out;rw[Q1.out,Q2.out,Int.natCast_add,Int.natCast_mul]at h;exact h
   ·obtain rfl:i=32:=by omega
    obtain⟨d,h1,h2,h3⟩:=E7 HTL.out HA.out;have hx2:wr.heap[w.heap.size+1]?=some (.cells (d.map lG).toArray 33 (0,0)):=by rw[←h3];exact HX.out
    have hI2:(Tryz.prog.info? 33).map (·.size)=some (d.map lG).toArray.size:=kJ;have hI3:(Tryz.prog.info? 33).map (·.size)=some (d.map lG).length:=by rw[List.length_map,h2];exact hI32
    have hU:Tryz.prog.underlying 33=some _:=Tryz.underlying33
    have HRG:Hid (wr.rangeAt (w.heap.size+1) 0 (d.map lG)):=hZ (fun j v hv=>by
     rw[Nat.zero_add,lF hx2,List.getElem?_toArray];exact hv)
    have HX3:=hZ hx2;have HU3:=hZ h1
    have HD:=hZ h2;clear hx2 h1 h2 h3 hnone;go_wp2_with (first|refine wpList_load_mid rfl _ _ rfl (w.heap.size+1) 0 rfl (d.map lG) _ HRG.out hU rfl hI3 ?_);refine(xS d HD.out _).mono ?_;rintro e w2 ⟨rfl,hb2⟩;have HR2:Hid (w2.heap[w.heap.size]?=some (.cells z32 33 (0,0))):=hZ ((hb2.block _ (lH HR.out)).trans HR.out)
    have HRG2:Hid (w2.rangeAt (w.heap.size+1) 0 (d.map lG)):=hZ (fun j v hv=>by
     rw[Nat.zero_add,lF ((hb2.block _ (lH HX3.out)).trans HX3.out),List.getElem?_toArray];exact hv)
    have HB2:=hZ (HB.out.trans (hb2.mono HB.out.size));clear hb2;by_cases hq:nA d=s
    ·have hpd:P0=some d:=by
      rw[←HP.out,←hq];exact tI d HD.out
     have HPD:=hZ hpd;have hs32:z32.size=(d.map lG).toArray.size:=show(32:Nat)=(d.map lG).length by rw[List.length_map,HD.out]
     have h1c:(d.map lG).toArray.all (·.oneCell')=true:=all_oneCell_toArray fun v hv=>bY
     have HG5:Hid ((setBlk w2 w.heap.size (.cells (d.map lG).toArray 33 (0,0))).heap[w.heap.size]?=some (.cells (d.map lG).toArray 33 (0,0))):=hZ (lM (lH HR2.out));have HB5:Hid (Below w.heap.size w (setBlk w2 w.heap.size (.cells (d.map lG).toArray 33 (0,0)))):=hZ (HB2.out.setBlk (Nat.le_refl _))
     have HD32:Hid ((d.map lG).toArray.size=32):=hZ (by rw[List.size_toArray,List.length_map,HD.out]);have hqb:((nA d).toList==s.toList)=true:=by rw[hq];exact beq_self_eq_true _
     clear hpd hq;go_wp2_with (first|refine wpList_load_mid rfl _ _ rfl (w.heap.size+1) 0 rfl (d.map lG) _ HRG2.out hU rfl hI3 ?_|(refine wpList_store_row rfl _ _ _ rfl w.heap.size (d.map lG).toArray rfl rfl 33 z32 HR2.out hI2 hs32 h1c ?_;rw[lZ HR2.out]));refine bodyPost_ret (v:=.tuple #[nH d,.int .i64 0]) (mT (fn:=Tryz.f118) (p:=2) (u:=3) rfl _ _ w.heap.size _ _ rfl HG5.out HD32.out) rfl ⟨by rw[HPD.out];rfl,HB5.out⟩
    ·have hno:P0=none:=by
      cases hp:P0 with
      |none=>rfl
      |some d'=>
       have hp2:=HP.out.trans hp;obtain⟨g1,g2⟩:=sF hp2
       have g3:uB d'=t:=by
        rw[←HT.out,g1];show _=(shaHead++uB d').drop 7
        rw[List.drop_append_of_le_length aA]
        rfl
       have g4:sT t=some d':=by rw[←g3];exact zH d'
       rw[HU3.out]at g4
       injection g4 with g5
       exact absurd (by rw[g5,g1]) hq
     have HNO:=hZ hno;have HG3:Hid ((setBlk w2 w.heap.size (.cells (zeroD.map lG).toArray 33 (0,0))).heap[w.heap.size]?=some (.cells (zeroD.map lG).toArray 33 (0,0))):=hZ (lM (lH HR2.out))
     have HB3:Hid (Below w.heap.size w (setBlk w2 w.heap.size (.cells (zeroD.map lG).toArray 33 (0,0)))):=hZ (HB2.out.setBlk (Nat.le_refl _))
     have hqb:((nA d).toList==s.toList)=false:=beq_eq_false_iff_ne.2 (fun h=>hq (by
      cases hs:s;rw[hs]at h;rw[Lib.toList_data,Lib.toList_data]at h;unfold nA at h⊢;exact congrArg ByteArray.mk (Array.toList_inj.1 h)))
     clear hno hq;go_wp2_with (first|(refine wpList_store_row rfl _ _ _ rfl w.heap.size (zeroD.map lG).toArray rfl rfl 33 z32 HR2.out hI32 rfl h1z ?_;rw[lZ HR2.out]));refine bodyPost_ret (v:=.tuple #[nH zeroD,.int .i64 4]) (mT (fn:=Tryz.f118) (p:=2) (u:=3) rfl _ _ w.heap.size _ _ rfl HG3.out rfl) rfl ⟨cH,HB3.out⟩
 ·have hno:P0=none:=by
   rw[←HP.out];unfold nI;exact if_neg (fun h=>hsz h.2)
  have HNO:=hZ hno;obtain⟨HG3,HB3⟩:=hnone W1 HB1 HG1;have hI71:(((s.size:Nat):Int) !=71)=true:=bne_iff_ne.2 aC
  clear hno hnone;go_wp2_with (first|(refine wpList_store_row rfl _ _ _ rfl w.heap.size (zeroD.map lG).toArray rfl rfl 33 z32 HG1.out hI32 rfl h1z ?_;rw[lZ HG1.out]));refine bodyPost_ret (v:=.tuple #[nH zeroD,.int .i64 4]) (mT (fn:=Tryz.f118) (p:=2) (u:=3) rfl _ _ w.heap.size _ _ rfl HG3.out rfl) rfl ⟨cH,HB3.out⟩
end Go.Proofs.YtdkedmngeahjiaaGreatDoor
