/- Texts of the seat, one behind the other: DigP, BlobA. -/
import Derived.Test.YtecgikanophonaaGreatDoorDigT
import Derived.Laws.ResultCell
import Derived.Lib.IndexBytes
import Derived.Test.YtecgikanophonaaGreatDoorBlobM
set_option maxRecDepth 100000
set_option maxHeartbeats 25600000
/- Contract of digest.Parse. -/
namespace Go.Proofs.YtecgikanophonaaGreatDoor
open Go Go.RowKit
theorem results_dig {fn:Func} {p u:Tmp} (h:fn.results=#[.cell p 33,.tmp u]) (tmps:Array Value) (w:World) (g:Nat) (cs:Array Value) (t:TypeId) (hp:tmps.getD p undef=.pointer (some ⟨g,0,none⟩)) (hg:w.heap[g]?=some (.cells cs t (0,0))) (hz:cs.size=32) :
  (results fn tmps).run Tryz.prog w=.ok (.tuple #[.agg cs,tmps.getD u undef]) w:=by
 have hI:(Tryz.prog.info? 33).map (·.size)=some cs.size:=by rw [hz];kernel_rfl
 rw [results_cell_tmp h,hp]
 have h1:=run_loadVar_row (P:=Tryz.prog) w g t 33 cs (0,0) _ hg Tryz.underlying33 rfl hI
 simp [asAddr,h1,Result.andThen]
def nibV (t:List UInt8) (j:Nat):Nat:=(hv (t.getD j 0)).getD 0
theorem unhex_ok:∀ (n:Nat) (l:List UInt8),l.length=2 * n→(∀ j,j < 2 * n→(hv (l.getD j 0)).isSome=true)→unhex l=some ((List.range n).map fun j=>UInt8.ofNat (16 * nibV l (2 * j)+nibV l (2 * j+1)))
 |0,l,h,_=>by
  rw [List.length_eq_zero_iff.1 (by omega:l.length=0)]
  rfl
 |n+1,l,h,ha=>by
  match l,h with
  |x :: y :: r,h =>
   have h0:=ha 0 (by omega)
   have h1:=ha 1 (by omega)
   have hr:=unhex_ok n r (by simp only [List.length_cons] at h;omega) (fun j hj=>by
    have:=ha (j+2) (by omega)
    simpa using this)
   obtain ⟨a,hxa⟩:=Option.isSome_iff_exists.1 (show (hv x).isSome=true from h0)
   obtain ⟨b,hyb⟩:=Option.isSome_iff_exists.1 (show (hv y).isSome=true from h1)
   rw [unhex,hxa,hyb,hr]
   show some (_ :: _)=_
   rw [List.range_succ_eq_map,List.map_cons,List.map_map]
   refine congrArg some (congr (congrArg List.cons ?_) (List.map_congr_left fun j _=>?_))
   ·have e0:nibV (x :: y :: r) (2 * 0)=a:=by show (hv x).getD 0=a;rw [hxa];rfl
    have e1:nibV (x :: y :: r) (2 * 0+1)=b:=by show (hv y).getD 0=b;rw [hyb];rfl
    rw [e0,e1]
   ·have e0:nibV (x :: y :: r) (2 * (j+1))=nibV r (2 * j):=by unfold nibV;rw [show 2 * (j+1)=2 * j+1+1 by omega];rfl
    have e1:nibV (x :: y :: r) (2 * (j+1)+1)=nibV r (2 * j+1):=by unfold nibV;rw [show 2 * (j+1)+1=2 * j+1+1+1 by omega];rfl
    show _=UInt8.ofNat (16 * nibV (x :: y :: r) (2 * (j+1))+nibV (x :: y :: r) (2 * (j+1)+1))
    rw [e0,e1]
theorem unhex_no:∀ (l:List UInt8) (j:Nat),j < l.length→hv (l.getD j 0)=none→unhex l=none
 |[],j,h,_=>by cases h
 |[x],j,h,_=>rfl
 |x :: y :: r,0,_,h=>by
  have:hv x=none:=h
  rw [unhex,this]
 |x :: y :: r,1,_,h=>by
  have:hv y=none:=h
  rw [unhex,this]
  cases hv x <;> rfl
 |x :: y :: r,j+2,hj,h=>by
  have:=unhex_no r j (by simpa using hj) h
  rw [unhex,this]
  cases hv x <;> cases hv y <;> rfl
def nibC (t:List UInt8) (i:Nat):List Value:=(List.range 32).map fun j=>.int .u8 ((if 2 * j+1 < i then 16 * nibV t (2 * j)+nibV t (2 * j+1) else if 2 * j < i then nibV t (2 * j) else 0:Nat):Int)
theorem nibC_len (t:List UInt8) (i:Nat):(nibC t i).length=32:=by unfold nibC;rw [List.length_map,List.length_range]
theorem nibC_get (t:List UInt8) (i:Nat) {j:Nat} (h:j < 32):(nibC t i)[j]?=some (.int .u8 ((if 2 * j+1 < i then 16 * nibV t (2 * j)+nibV t (2 * j+1) else if 2 * j < i then nibV t (2 * j) else 0:Nat):Int)):=by
 unfold nibC
 rw [List.getElem?_map,List.getElem?_range h]
 rfl
theorem nibV_lt (t:List UInt8) (j:Nat):nibV t j < 16:=by
 unfold nibV
 cases h:hv (t.getD j 0) with
 |none=>decide
 |some n=>exact (hv_inv h).2
theorem nibC_all {t:List UInt8} (h:t.length=64) (ha:∀ j,j < 64→(hv (t.getD j 0)).isSome=true):∃ d,unhex t=some d∧d.length=32∧nibC t 64=d.map byteV:=by
 refine ⟨_,unhex_ok 32 t h ha,by rw [List.length_map,List.length_range],?_⟩
 unfold nibC
 rw [List.map_map]
 refine List.map_congr_left fun j hj=>?_
 have hj:=List.mem_range.1 hj
 have h1:=nibV_lt t (2 * j)
 have h2:=nibV_lt t (2 * j+1)
 show Value.int .u8 _=Value.int .u8 _
 rw [if_pos (by omega),UInt8.toNat_ofNat',Nat.mod_eq_of_lt (by omega)]
theorem or4:∀ a,a < 16→∀ b,b < 16→bits .or .u8 (((a:Nat):Int) * 16) ((b:Nat):Int)=((16 * a+b:Nat):Int):=by decide +kernel
theorem nib_set {w:World} {b:Nat} {t:List UInt8} {i:Nat} (h:w.heap[b]?=some (.cells (nibC t i).toArray 33 (0,0))) (hi:i < 64) :
  ∃ a:Nat,a < 16∧w.cell? ⟨b,i / 2,none⟩=some (.int .u8 (a:Int))∧(w.setCell ⟨b,i / 2,none⟩ (.int .u8 ((16 * a+nibV t i:Nat):Int))).heap[b]?=some (.cells (nibC t (i+1)).toArray 33 (0,0)):=by
 refine ⟨if i % 2=0 then 0 else nibV t (i - 1),?_,?_,?_⟩
 ·split
  ·decide
  ·exact nibV_lt _ _
 ·rw [cell_of_heapN h,List.getElem?_toArray,nibC_get _ _ (by omega)]
  refine congrArg some (congrArg (Value.int .u8) (congrArg Int.ofNat ?_))
  by_cases hp:i % 2=0
  ·rw [if_pos hp,if_neg (by omega),if_neg (by omega)]
  ·rw [if_neg hp,if_neg (by omega),if_pos (by omega)]
   exact congrArg (nibV t) (by omega)
 ·rw [setCell_blk h,setBlk_heap (blk_lt h),List.setIfInBounds_toArray]
  refine congrArg (fun l:List Value=>some (Obj.cells l.toArray 33 (0,0))) (List.ext_getElem? fun k=>?_)
  rw [List.getElem?_set,nibC_len]
  by_cases hk:i / 2=k
  ·subst hk
   rw [if_pos rfl,if_pos (by omega),nibC_get _ _ (by omega)]
   refine congrArg some (congrArg (Value.int .u8) (congrArg Int.ofNat ?_))
   by_cases hp:i % 2=0
   ·rw [if_pos hp,if_neg (by omega),if_pos (by omega)]
    rw [show 2 * (i / 2)=i by omega]
    omega
   ·rw [if_neg hp,if_pos (by omega),show 2 * (i / 2)=i - 1 by omega,show i - 1+1=i by omega]
  ·rw [if_neg hk]
   by_cases hk2:k < 32
   ·rw [nibC_get _ _ hk2,nibC_get _ _ hk2]
    refine congrArg some (congrArg (Value.int .u8) (congrArg Int.ofNat ?_))
    by_cases h1:2 * k+1 < i
    ·rw [if_pos h1,if_pos (by omega)]
    ·rw [if_neg h1,if_neg (show ¬ 2 * k < i by omega),if_neg (by omega),if_neg (by omega)]
   ·rw [List.getElem?_eq_none (by rw [nibC_len];omega),List.getElem?_eq_none (by rw [nibC_len];omega)]
def parseV (o:Option (List UInt8)):Value:=match o with
 |some d=>.tuple #[digV d,.nilIface]
 |none=>.tuple #[digV zeroD,errV 4]
theorem trim_head {l:List UInt8} (h:Lib.hasPrefix l shaHead=true):Lib.trimPrefix l shaHead=l.drop 7:=by
 unfold Lib.trimPrefix
 rw [if_pos h]
 rfl
theorem head_take (l:List UInt8):Lib.hasPrefix l shaHead=true ↔ l.take 7=shaHead:=by
 unfold Lib.hasPrefix
 rw [List.isPrefixOf_iff_prefix]
 constructor
 ·rintro ⟨r,rfl⟩
  rfl
 ·intro h
  exact ⟨l.drop 7,by rw [← h];exact List.take_append_drop 7 l⟩
theorem parse_dig (s:ByteArray) (w:World) :
  Calls Tryz.prog 125 #[.string s] w fun e w'=>e=.returned (parseV (parseD s))∧Below w.heap.size w w':=by
 have hcut:=fun W:World=>Tryz.strings_CutPrefix s ⟨#[115,104,97,50,53,54,58]⟩ W
 obtain ⟨t,ht⟩:∃ t:ByteArray,(⟨(Lib.trimPrefix s.data.toList shaHead).toArray⟩:ByteArray)=t:=⟨_,rfl⟩
 obtain ⟨ok,hok⟩:∃ ok:Bool,Lib.hasPrefix s.data.toList shaHead=ok:=⟨_,rfl⟩
 have hcut2:∀ W,Calls Tryz.prog 153 #[.string s,.string ⟨#[115,104,97,50,53,54,58]⟩] W fun e w'=>e=.returned (.tuple #[.string t,.bool ok])∧w'=W:=fun W=>by
  rw [← ht,← hok]
  exact hcut W
 have HT:=hZ ht
 have HOK:=hZ hok
 clear hcut ht hok
 obtain ⟨P0,hP0⟩:∃ p,parseD s=p:=⟨_,rfl⟩
 rw [hP0]
 have HP:=hZ hP0
 clear hP0
 go_enter Tryz.func125,Tryz.ntmps125
 go_wp2_with fail
 refine (hcut2 _).mono ?_
 rintro e w1 ⟨rfl,rfl⟩
 clear hcut2
 obtain ⟨W0,hW0⟩:∃ W,(w.alloc (.cells z32 33)).alloc (.cells z32 33)=W:=⟨_,rfl⟩
 obtain ⟨hb0,hz0,g0,g1⟩:=box2 w (.cells z32 33) (.cells z32 33)
 rw [hW0] at hb0 hz0 g0 g1
 have HB0:=hZ hb0
 have HZ0:=hZ hz0
 have HG0:=hZ g0
 have HG1:=hZ g1
 have hW1:(w.alloc (.cells #[.int .u8 0,.int .u8 0,.int .u8 0,.int .u8 0,.int .u8 0,.int .u8 0,.int .u8 0,.int .u8 0,.int .u8 0,.int .u8 0,.int .u8 0,.int .u8 0,.int .u8 0,.int .u8 0,.int .u8 0,.int .u8 0,.int .u8 0,.int .u8 0,.int .u8 0,.int .u8 0,.int .u8 0,.int .u8 0,.int .u8 0,.int .u8 0,.int .u8 0,.int .u8 0,.int .u8 0,.int .u8 0,.int .u8 0,.int .u8 0,.int .u8 0,.int .u8 0] 33)).alloc (.cells #[.int .u8 0,.int .u8 0,.int .u8 0,.int .u8 0,.int .u8 0,.int .u8 0,.int .u8 0,.int .u8 0,.int .u8 0,.int .u8 0,.int .u8 0,.int .u8 0,.int .u8 0,.int .u8 0,.int .u8 0,.int .u8 0,.int .u8 0,.int .u8 0,.int .u8 0,.int .u8 0,.int .u8 0,.int .u8 0,.int .u8 0,.int .u8 0,.int .u8 0,.int .u8 0,.int .u8 0,.int .u8 0,.int .u8 0,.int .u8 0,.int .u8 0,.int .u8 0] 33)=W0:=hW0
 rw [hW1]
 clear hW0 hW1 hb0 hz0 g0 g1
 have hnone:∀ W:World,Hid (Below w.heap.size w W)→Hid (W.heap[w.heap.size]?=some (.cells z32 33 (0,0))) →
   (storeCells ⟨w.heap.size,0,none⟩ (zeroD.map byteV)).run Tryz.prog W=.ok () (setBlk W w.heap.size (.cells (zeroD.map byteV).toArray 33 (0,0)))∧Hid ((setBlk W w.heap.size (.cells (zeroD.map byteV).toArray 33 (0,0))).heap[w.heap.size]?=some (.cells (zeroD.map byteV).toArray 33 (0,0)))∧Hid (Below w.heap.size w (setBlk W w.heap.size (.cells (zeroD.map byteV).toArray 33 (0,0)))):=fun W hB hG =>
  ⟨store_digest hG.out rfl (fun u hu=>by obtain ⟨x,_,rfl⟩:=List.mem_map.1 hu;rfl),hZ (setBlk_heap (blk_lt hG.out)),hZ (hB.out.setBlk (Nat.le_refl _))⟩
 have h1z:(zeroD.map byteV).toArray.all (·.oneCell')=true:=all_oneCell_toArray fun v hv=>by obtain ⟨x,_,rfl⟩:=List.mem_map.1 hv;rfl
 have hI32:(Tryz.prog.info? 33).map (·.size)=some (zeroD.map byteV).toArray.size:=by kernel_rfl
 by_cases hg:ok=true∧t.size=64
 ·obtain ⟨rfl,hsz⟩:=hg
  have htl:t.data.toList=s.data.toList.drop 7:=by rw [← HT.out,trim_head HOK.out]
  have hTl:t.data.toList.length=64:=by rw [Array.length_toList];exact hsz
  have hps:unhex t.data.toList=P0:=by
   rw [htl,← HP.out]
   unfold parseD
   refine (if_pos ⟨(head_take _).1 HOK.out,?_⟩).symm
   rw [htl,List.length_drop,Array.length_toList] at hTl
   show s.data.size=71
   omega
  have HPS:=hZ hps
  have HTL:=hZ hTl
  have HG2:Hid (W0.heap[w.heap.size+1]?=some (.cells (nibC t.data.toList 0).toArray 33 (0,0))):=HG1
  clear htl hTl hps
  go_wp2_with fail
  go_loopw [23] (fun iv wr=>∃ i:Nat,(i:Int)≤64∧iv=.int .i64 i∧Hid (∀ j,j < i→(hv (t.data.toList.getD j 0)).isSome=true)∧Hid (Below w.heap.size w wr)∧Hid (wr.heap[w.heap.size]?=some (.cells z32 33 (0,0)))∧Hid (wr.heap[w.heap.size+1]?=some (.cells (nibC t.data.toList i).toArray 33 (0,0)))) (fun iv _=>64 - (intOf iv).toNat)
  case atStart=>exact ⟨0,by omega,rfl,hZ (fun j hj=>by omega),HB0,HG0,HG2⟩
  case round =>
   obtain ⟨i,hi,rfl,HA,HB,HR,HX⟩:=hrel
   by_cases hlt:(i:Int) < 64
   ·have hi64:i < 64:=by omega
    have his:i < t.size:=by rw [hsz];exact hi64
    obtain ⟨c,hc⟩:∃ c,t[i]'his=c:=⟨_,rfl⟩
    have hcl:t.data.toList.getD i 0=c:=by
     rw [← hc,List.getD_eq_getElem?_getD,Array.getElem?_toList,Array.getElem?_eq_getElem (show i < t.data.size from his)]
     rfl
    obtain ⟨a,ha,d0,hset⟩:=nib_set HX.out hi64
    have f0:wr.frozen? ⟨w.heap.size+1,i / 2,none⟩=false:=frozen_blk HX.out
    have hq:i / 2 < 32:=by omega
    have HCL:=hZ hcl
    have HSET:=hZ hset
    have hcn:=c.toNat_lt
    clear hcl hset
    by_cases hd:48≤(c.toNat:Int)∧(c.toNat:Int)≤57
    ·obtain ⟨h1,h2⟩:=hd
     have hn:nibV t.data.toList i=c.toNat - 48:=by
      unfold nibV hv
      rw [HCL.out,if_pos (by omega)]
      rfl
     have hsm:(hv (t.data.toList.getD i 0)).isSome=true:=by
      unfold hv
      rw [HCL.out,if_pos (by omega)]
      rfl
     have hor:=or4 a ha (c.toNat - 48) (by omega)
     have e0:((c.toNat - 48:Nat):Int)=(c.toNat:Int) - 48:=by omega
     rw [e0] at hor
     have HN:=hZ hn
     have HSM:=hZ hsm
     clear hn hsm e0
     go_wp2_with fail
     refine ⟨⟨i+1,by omega,by rw [Int.natCast_add];rfl,hZ ?_,hZ (HB.out.setCell (p:=⟨w.heap.size+1,i / 2,none⟩) (by show w.heap.size≤w.heap.size+1;omega) _),hZ ((Below.heap_setCell _ _ _ _ (by show w.heap.size≠w.heap.size+1;omega)).trans HR.out),hZ ?_⟩,by simp [intOf];omega⟩
     ·intro j hj
      by_cases hji:j=i
      ·rw [hji];exact HSM.out
      ·exact HA.out j (by omega)
     ·have h:=HSET.out
      rw [HN.out,Int.natCast_add,Int.natCast_mul] at h
      exact h
    ·by_cases hd2:97≤(c.toNat:Int)∧(c.toNat:Int)≤102
     ·obtain ⟨h1,h2⟩:=hd2
      have h3:¬ (c.toNat:Int)≤57:=by omega
      have h4:48≤(c.toNat:Int):=by omega
      have hn:nibV t.data.toList i=c.toNat - 87:=by
       unfold nibV hv
       rw [HCL.out,if_neg (by omega),if_pos (by omega)]
       rfl
      have hsm:(hv (t.data.toList.getD i 0)).isSome=true:=by
       unfold hv
       rw [HCL.out,if_neg (by omega),if_pos (by omega)]
       rfl
      have hor:=or4 a ha (c.toNat - 87) (by omega)
      have e0:((c.toNat - 87:Nat):Int)=(c.toNat:Int) - 87:=by omega
      rw [e0] at hor
      have HN:=hZ hn
      have HSM:=hZ hsm
      clear hn hsm e0
      go_wp2_with fail
      refine ⟨⟨i+1,by omega,by rw [Int.natCast_add];rfl,hZ ?_,hZ (HB.out.setCell (p:=⟨w.heap.size+1,i / 2,none⟩) (by show w.heap.size≤w.heap.size+1;omega) _),hZ ((Below.heap_setCell _ _ _ _ (by show w.heap.size≠w.heap.size+1;omega)).trans HR.out),hZ ?_⟩,by simp [intOf];omega⟩
      ·intro j hj
       by_cases hji:j=i
       ·rw [hji];exact HSM.out
       ·exact HA.out j (by omega)
      ·have h:=HSET.out
       rw [HN.out,Int.natCast_add,Int.natCast_mul] at h
       exact h
     ·have hnone2:P0=none:=by
       rw [← HPS.out]
       refine unhex_no _ i (by rw [HTL.out];exact hi64) ?_
       rw [HCL.out]
       unfold hv
       rw [if_neg (by omega),if_neg (by omega)]
      have HNO:=hZ hnone2
      obtain ⟨-,HG3,HB3⟩:=hnone wr HB HR
      clear hnone2 hnone
      by_cases h1:48≤(c.toNat:Int)
      ·have h2:¬ (c.toNat:Int)≤57:=fun h=>hd ⟨h1,h⟩
       by_cases h3:97≤(c.toNat:Int)
       ·have h4:¬ (c.toNat:Int)≤102:=fun h=>hd2 ⟨h3,h⟩
        clear hd hd2
        go_wp2_with (first | (refine wpList_store_row rfl _ _ _ rfl w.heap.size (zeroD.map byteV).toArray rfl rfl 33 z32 HR.out hI32 rfl h1z ?_;rw [setRow_setBlk HR.out]))
        refine bodyPost_ret (v:=.tuple #[digV zeroD,errV 4]) (results_dig (fn:=Tryz.f125) (p:=2) (u:=3) rfl _ _ w.heap.size _ _ rfl HG3.out rfl) rfl ⟨by rw [HNO.out];rfl,HB3.out⟩
       ·clear hd hd2
        go_wp2_with (first | (refine wpList_store_row rfl _ _ _ rfl w.heap.size (zeroD.map byteV).toArray rfl rfl 33 z32 HR.out hI32 rfl h1z ?_;rw [setRow_setBlk HR.out]))
        refine bodyPost_ret (v:=.tuple #[digV zeroD,errV 4]) (results_dig (fn:=Tryz.f125) (p:=2) (u:=3) rfl _ _ w.heap.size _ _ rfl HG3.out rfl) rfl ⟨by rw [HNO.out];rfl,HB3.out⟩
      ·have h3:¬ 97≤(c.toNat:Int):=by omega
       clear hd hd2
       go_wp2_with (first | (refine wpList_store_row rfl _ _ _ rfl w.heap.size (zeroD.map byteV).toArray rfl rfl 33 z32 HR.out hI32 rfl h1z ?_;rw [setRow_setBlk HR.out]))
       refine bodyPost_ret (v:=.tuple #[digV zeroD,errV 4]) (results_dig (fn:=Tryz.f125) (p:=2) (u:=3) rfl _ _ w.heap.size _ _ rfl HG3.out rfl) rfl ⟨by rw [HNO.out];rfl,HB3.out⟩
   ·obtain rfl:i=64:=by omega
    obtain ⟨d,h1,h2,h3⟩:=nibC_all HTL.out HA.out
    have hpd:P0=some d:=HPS.out.symm.trans h1
    have HPD:=hZ hpd
    have hx2:=HX.out
    rw [h3] at hx2
    have hI2:(Tryz.prog.info? 33).map (·.size)=some (d.map byteV).toArray.size:=by rw [List.size_toArray,List.length_map,h2];exact hI32
    have hI3:(Tryz.prog.info? 33).map (·.size)=some (d.map byteV).length:=by rw [List.length_map,h2];exact hI32
    have hU:Tryz.prog.underlying 33=some _:=Tryz.underlying33
    have HRG:Hid (wr.rangeAt (w.heap.size+1) 0 (d.map byteV)):=hZ (fun j v hv=>by
     rw [Nat.zero_add,cell_of_heapN hx2,List.getElem?_toArray]
     exact hv)
    have hs32:z32.size=(d.map byteV).toArray.size:=show (32:Nat)=(d.map byteV).length by rw [List.length_map,h2]
    have h1c:(d.map byteV).toArray.all (·.oneCell')=true:=all_oneCell_toArray fun v hv=>by obtain ⟨x,_,rfl⟩:=List.mem_map.1 hv;rfl
    have HG5:Hid ((setBlk wr w.heap.size (.cells (d.map byteV).toArray 33 (0,0))).heap[w.heap.size]?=some (.cells (d.map byteV).toArray 33 (0,0))):=hZ (setBlk_heap (blk_lt HR.out))
    have HB5:Hid (Below w.heap.size w (setBlk wr w.heap.size (.cells (d.map byteV).toArray 33 (0,0)))):=hZ (HB.out.setBlk (Nat.le_refl _))
    have HD32:Hid ((d.map byteV).toArray.size=32):=hZ (by rw [List.size_toArray,List.length_map,h2])
    clear hx2 h1 h2 h3 hpd hnone
    go_wp2_with (first | refine wpList_load_mid rfl _ _ rfl (w.heap.size+1) 0 rfl (d.map byteV) _ HRG.out hU rfl hI3 ?_ | (refine wpList_store_row rfl _ _ _ rfl w.heap.size (d.map byteV).toArray rfl rfl 33 z32 HR.out hI2 hs32 h1c ?_;rw [setRow_setBlk HR.out]))
    refine bodyPost_ret (v:=.tuple #[digV d,.nilIface]) (results_dig (fn:=Tryz.f125) (p:=2) (u:=3) rfl _ _ w.heap.size _ _ rfl HG5.out HD32.out) rfl ⟨by rw [HPD.out];rfl,HB5.out⟩
 ·have hno:P0=none:=by
   rw [← HP.out]
   unfold parseD
   refine if_neg fun hc=>hg ?_
   have h1:Lib.hasPrefix s.data.toList shaHead=true:=(head_take _).2 hc.1
   refine ⟨HOK.out.symm.trans h1,?_⟩
   rw [← HT.out,trim_head h1]
   show (s.data.toList.drop 7).length=64
   rw [List.length_drop,Array.length_toList]
   have:s.data.size=71:=hc.2
   omega
  have HNO:=hZ hno
  obtain ⟨-,HG2,HB2⟩:=hnone W0 HB0 HG0
  clear hnone hno
  cases ok
  ·go_wp2_with (first | (refine wpList_store_row rfl _ _ _ rfl w.heap.size (zeroD.map byteV).toArray rfl rfl 33 z32 HG0.out hI32 rfl h1z ?_;rw [setRow_setBlk HG0.out]))
   refine bodyPost_ret (v:=.tuple #[digV zeroD,errV 4]) (results_dig (fn:=Tryz.f125) (p:=2) (u:=3) rfl _ _ w.heap.size _ _ rfl HG2.out rfl) rfl ⟨by rw [HNO.out];rfl,HB2.out⟩
  ·have hts:¬ (t.size:Int)=64:=fun h=>hg ⟨rfl,by omega⟩
   go_wp2_with (first | (refine wpList_store_row rfl _ _ _ rfl w.heap.size (zeroD.map byteV).toArray rfl rfl 33 z32 HG0.out hI32 rfl h1z ?_;rw [setRow_setBlk HG0.out]))
   refine bodyPost_ret (v:=.tuple #[digV zeroD,errV 4]) (results_dig (fn:=Tryz.f125) (p:=2) (u:=3) rfl _ _ w.heap.size _ _ rfl HG2.out rfl) rfl ⟨by rw [HNO.out];rfl,HB2.out⟩
end Go.Proofs.YtecgikanophonaaGreatDoor
/- Contracts of blobs.digits, file and named. -/
namespace Go.Proofs.YtecgikanophonaaGreatDoor
open Go Go.RowKit
theorem dig_info {d:List UInt8} (hd:d.length=32):(Tryz.prog.info? 33).map (·.size)=some (d.map byteV).length:=by rw [List.length_map,hd];kernel_rfl
theorem dig_info2 {d:List UInt8} (hd:d.length=32):(Tryz.prog.info? 33).map (·.size)=some (d.map byteV).toArray.size:=by rw [List.size_toArray];exact dig_info hd
theorem dig_one (d:List UInt8):(d.map byteV).toArray.all (·.oneCell')=true:=all_oneCell_toArray fun v hv=>by obtain ⟨x,_,rfl⟩:=List.mem_map.1 hv;rfl
theorem dig_und:Tryz.prog.underlying 33=some (.array 32 5):=Tryz.underlying33
theorem dig_size {d:List UInt8} (hd:d.length=32):z32.size=(d.map byteV).toArray.size:=show (32:Nat)=(d.map byteV).length by rw [List.length_map,hd]
theorem dig_range {w:World} {b:Nat} {d:List UInt8} (h:w.heap[b]?=some (.cells (d.map byteV).toArray 33 (0,0))):w.rangeAt b 0 (d.map byteV):=fun j v hv=>by
 rw [Nat.zero_add,cell_of_heapN h,List.getElem?_toArray]
 exact hv
theorem hexB_trim (d:List UInt8):(⟨(Lib.trimPrefix (textD d).data.toList shaHead).toArray⟩:ByteArray)=⟨(hexB d).toArray⟩:=by
 have h1:(textD d).data.toList=shaHead ++ hexB d:=rfl
 rw [h1,trim_head ((head_take _).2 (by rw [List.take_append_of_le_length (by decide)];rfl)),List.drop_append_of_le_length (by decide)]
 rfl
theorem digits_any (d:List UInt8) (hd:d.length=32) (w:World) :
  Calls Tryz.prog 89 #[digV d] w fun e w'=>e=.returned (.string ⟨(hexB d).toArray⟩)∧Below w.heap.size w w':=by
 have htr:=fun W:World=>Tryz.strings_TrimPrefix (textD d) ⟨#[115,104,97,50,53,54,58]⟩ W
 have htr2:∀ W:World,Calls Tryz.prog 126 #[.string (textD d),.string ⟨#[115,104,97,50,53,54,58]⟩] W fun e w'=>e=.returned (.string ⟨(hexB d).toArray⟩)∧w'=W:=fun W=>by
  rw [← hexB_trim d]
  exact htr W
 have hte:=fun W:World=>text_dig d hd W
 generalize textD d=T at htr2 hte
 have hI:=dig_info hd
 have hU:=dig_und
 have HRG:=hZ (dig_range (heap_new w (.cells (d.map byteV).toArray 33)))
 have HB:=hZ ((Below.refl w.heap.size w).alloc (Nat.le_refl _) (.cells (d.map byteV).toArray 33))
 clear htr
 unfold digV at hte ⊢
 go_enter Tryz.func89,Tryz.ntmps89
 go_wp2_with (first | refine wpList_load_mid rfl _ _ rfl w.heap.size 0 rfl (d.map byteV) _ HRG.out hU rfl hI ?_ | (go_at_call 130;refine (hte _).mono ?_;rintro e w2 ⟨rfl,hb2⟩;have HB2:=hZ (HB.out.trans (hb2.mono (by rw [World.size_alloc];omega)));clear hb2) | (go_at_call 126;refine (htr2 _).mono ?_;rintro e w3 ⟨rfl,rfl⟩))
 go_ret
 exact ⟨rfl,HB2.out⟩
theorem bytes_same {a b:ByteArray} (h:a.data.toList=b.data.toList):a=b:=Classical.byContradiction fun hne=>bytes_ne hne h
theorem fileN_eq (d:List UInt8):(⟨#[98,108,111,98,115,47]⟩:ByteArray) ++ ⟨(hexB d).toArray⟩=fileN d:=bytes_same (by unfold fileN blobHead;simp)
theorem file_any (d:List UInt8) (hd:d.length=32) (w:World) :
  Calls Tryz.prog 39 #[digV d] w fun e w'=>e=.returned (.string (fileN d))∧Below w.heap.size w w':=by
 have hte:=fun W:World=>digits_any d hd W
 have hf:=fileN_eq d
 have hts:(⟨(hexB d).toArray⟩:ByteArray).size=64:=by show (hexB d).length=64;rw [hexB_len,hd]
 have hI:=dig_info hd
 have hU:=dig_und
 have HRG:=hZ (dig_range (heap_new w (.cells (d.map byteV).toArray 33)))
 have HB:=hZ ((Below.refl w.heap.size w).alloc (Nat.le_refl _) (.cells (d.map byteV).toArray 33))
 unfold digV at hte ⊢
 generalize (⟨(hexB d).toArray⟩:ByteArray)=T at hte hf hts
 generalize fileN d=F at hf ⊢
 go_enter Tryz.func39,Tryz.ntmps39
 go_wp2_with (first | refine wpList_load_mid rfl _ _ rfl w.heap.size 0 rfl (d.map byteV) _ HRG.out hU rfl hI ?_ | (go_at_call 89;refine (hte _).mono ?_;rintro e w2 ⟨rfl,hb2⟩;have HB2:=hZ (HB.out.trans (hb2.mono (by rw [World.size_alloc];omega)));clear hb2))
 go_ret
 exact ⟨rfl,HB2.out⟩
theorem namedM_eq (n:ByteArray):namedM n=parseD (⟨#[115,104,97,50,53,54,58]⟩ ++ ⟨(Lib.trimPrefix n.data.toList blobHead).toArray⟩):=by
 unfold namedM
 refine congrArg parseD (bytes_same ?_)
 have h1:Lib.trimPrefix n.data.toList blobHead=if n.data.toList.take 6=blobHead then n.data.toList.drop 6 else n.data.toList:=by
  unfold Lib.trimPrefix Lib.hasPrefix
  by_cases hp:n.data.toList.take 6=blobHead
  ·rw [if_pos hp,if_pos]
   ·rfl
   ·rw [List.isPrefixOf_iff_prefix]
    exact ⟨n.data.toList.drop 6,by rw [← hp];exact List.take_append_drop 6 _⟩
  ·rw [if_neg hp,if_neg]
   rw [List.isPrefixOf_iff_prefix]
   rintro ⟨r,hr⟩
   exact hp (by rw [← hr];rfl)
 rw [h1]
 simp [shaHead]
def NmdW (W3:World) (r:Nat) (D:List UInt8) (L:Nat→Bool) (_:Unit) (W:World):Prop:=Off (fun b=>b=r) W3 W∧W.heap[r]?=some (.cells (if L 3 then (D.map byteV).toArray else z32) 33 (0,0))
theorem NmdW.upd {W3 W:World} {r i:Nat} {D:List UInt8} {L:Nat→Bool} {γ:Unit} (h:NmdW W3 r D L γ W) (_:i=i) (hi:i≠3):NmdW W3 r D (updL L i) γ W:=by
 refine ⟨h.1,?_⟩
 rw [updL_ne (show 3≠i by omega)]
 exact h.2
def namedV (o:Option (List UInt8)):Value:=.tuple #[digV (o.getD zeroD),.bool o.isSome]
theorem parseD_len {s:ByteArray} {d:List UInt8} (h:parseD s=some d):d.length=32:=(parseD_inv h).2
theorem getD_len (n:ByteArray):((namedM n).getD zeroD).length=32:=by
 cases h:namedM n with
 |none=>rfl
 |some d=>exact parseD_len h
theorem named_any (n:ByteArray) (hn:n.size≤140737488355328) (w:World) :
  Calls Tryz.prog 77 #[.string n] w fun e w'=>e=.returned (namedV (namedM n))∧Below w.heap.size w w':=by
 have htr:=fun W:World=>Tryz.strings_TrimPrefix n ⟨#[98,108,111,98,115,47]⟩ W
 have hl:=getD_len n
 have hpa:=fun W:World=>parse_dig (⟨#[115,104,97,50,53,54,58]⟩ ++ ⟨(Lib.trimPrefix n.data.toList blobHead).toArray⟩) W
 rw [← namedM_eq] at hpa
 have htr2:∀ W:World,Calls Tryz.prog 126 #[.string n,.string ⟨#[98,108,111,98,115,47]⟩] W fun e w'=>e=.returned (.string ⟨(Lib.trimPrefix n.data.toList blobHead).toArray⟩)∧w'=W:=htr
 have hts:(⟨(Lib.trimPrefix n.data.toList blobHead).toArray⟩:ByteArray).size≤140737488355328:=by
  show (Lib.trimPrefix n.data.toList blobHead).length≤_
  have h2:n.data.toList.length=n.size:=Array.length_toList
  unfold Lib.trimPrefix
  split
  ·rw [List.length_drop];omega
  ·omega
 generalize (⟨(Lib.trimPrefix n.data.toList blobHead).toArray⟩:ByteArray)=T at htr2 hpa hts
 generalize namedM n=O at hl hpa ⊢
 obtain ⟨D,hD⟩:∃ D,O.getD zeroD=D:=⟨_,rfl⟩
 have hpv:∃ x:Value,parseV O=.tuple #[.agg (D.map byteV).toArray,x]∧((x=.nilIface∧O.isSome=true)∨(x=.iface 76 (.int .i64 4)∧O.isSome=false)):=by
  cases O with
  |none=>subst hD;exact ⟨_,rfl,.inr ⟨rfl,rfl⟩⟩
  |some d=>subst hD;exact ⟨_,rfl,.inl ⟨rfl,rfl⟩⟩
 obtain ⟨x,hx,hxo⟩:=hpv
 rw [hx] at hpa
 rw [hD] at hl
 have hrv:namedV O=.tuple #[.agg (D.map byteV).toArray,.bool O.isSome]:=by rw [← hD];rfl
 rw [hrv]
 generalize O.isSome=ok at hxo ⊢
 have hI:=dig_info hl
 have hI2:=dig_info2 hl
 have h1:=dig_one D
 have hU:=dig_und
 have hz:=dig_size hl
 have HL:=hZ hl
 clear htr hD hx hrv hl
 rcases hxo with ⟨rfl,rfl⟩ | ⟨rfl,rfl⟩
 ·go_enter Tryz.func77,Tryz.ntmps77
  go_wp2_with (first | (go_at_call 126;refine (htr2 _).mono ?_;rintro e w3 ⟨rfl,rfl⟩) | (go_at_call 125;refine (hpa _).mono ?_;rintro e w2 ⟨rfl,hb2⟩;rw [World.size_alloc] at hb2;have HG2:=hZ ((hb2.block w.heap.size (by omega)).trans (heap_new w (.cells z32 33)));have HB2:=hZ (((Below.refl w.heap.size w).alloc (Nat.le_refl _) (.cells z32 33)).trans (hb2.mono (by omega)));clear hb2) | refine wpList_store_new rfl _ _ _ rfl _ (D.map byteV).toArray _ rfl rfl rfl hI2 hz h1 ?_)
  obtain ⟨W3,hW3⟩:∃ W,w2.alloc (.cells (D.map byteV).toArray 33)=W:=⟨_,rfl⟩
  have hx3:W3.heap[w2.heap.size]?=some (.cells (D.map byteV).toArray 33 (0,0)):=by rw [← hW3];exact heap_new _ _
  have hb3:Below w2.heap.size w2 W3:=by rw [← hW3];exact (Below.refl _ _).alloc (Nat.le_refl _) _
  have hr3:W3.heap[w.heap.size]?=some (.cells z32 33 (0,0)):=(hb3.block _ (blk_lt HG2.out)).trans HG2.out
  have HX3:=hZ hx3
  have HR3:=hZ hr3
  have HB3:=hZ (HB2.out.trans (hb3.mono HB2.out.size))
  have HNE:=hZ (show w2.heap.size≠w.heap.size from fun e=>by have:=blk_lt HG2.out;omega)
  rw [hW3]
  clear hW3 hx3 hb3 hr3
  have hI0:NmdW W3 w.heap.size D (fun _=>false) () W3.drew:=⟨⟨rfl,rfl,rfl,Nat.le_refl _,fun _ _ _=>rfl⟩,HR3.out⟩
  refine wp_region_flowG (fun _:Unit=>[.agg (D.map byteV).toArray,.nilIface,.bool true,undef,.bool true]) (NmdW W3 w.heap.size D)
   [[],[],[1],[0,0],[2,3,0,1,2,3]] 16 () mixedD rfl (by kernel_rfl) (fun _=>rfl) hI0 ?_ ?_
  ·refine ⟨?_,?_,?_,?_,?_,rfl⟩
   all_goals intro L γ W ev hL hd hW hc hf hg he h0
   ·have e4:ev (.tmp 4)=.pointer (some ⟨w2.heap.size,0,none⟩):=h0 4 rfl
    have hlv:=run_loadVar_row (P:=Tryz.prog) W w2.heap.size 33 33 (D.map byteV).toArray (0,0) _ ((hW.1.block _ (blk_lt HX3.out) HNE.out).trans HX3.out) hU rfl hI2
    clear he h0 hc hf hg
    refine .inl ⟨rfl,.inl ⟨_,W,?_,.still (hW.upd rfl (by decide)) rfl⟩⟩
    unfold execOp
    simp only [e4,Instr.loadAt,Instr.sureAddr,Sem.run_bind,Sem.run_pure,Result.andThen_ok,hlv]
    try rfl
   ·have e5:ev (.tmp 5)=.nilIface:=h0 5 rfl
    clear he h0 hc hf hg
    exact flS rfl (by go_simp <;> rfl) (hW.upd rfl (by decide)) rfl
   ·have e14:ev (.tmp 14)=.nilIface:=he 1 (by decide) _ 14 rfl rfl
    clear he h0 hf hg
    exact flS rfl (by go_simp <;> rfl) (hW.upd rfl (by decide)) rfl
   ·have e2:ev (.tmp 2)=.pointer (some ⟨w.heap.size,0,none⟩):=h0 2 rfl
    have e13:ev (.tmp 13)=.agg (D.map byteV).toArray:=he 0 (by decide) _ 13 rfl rfl
    have hw2:W.heap[w.heap.size]?=some (.cells z32 33 (0,0)):=by have:=hW.2;rw [hL] at this;exact this
    have hst:=run_storeVar_row (P:=Tryz.prog) W w.heap.size 33 33 z32 (D.map byteV).toArray hw2 hI2 hz h1
    rw [setRow_setBlk hw2] at hst
    clear he h0 hc hf hg
    refine .inl ⟨rfl,.inr (.inl ⟨setBlk W w.heap.size (.cells (D.map byteV).toArray 33 (0,0)),?_,.still ⟨hW.1.setBlk (fun _=>rfl),?_⟩ rfl⟩)⟩
    ·unfold execOp
     simp only [e2,e13,Instr.storeAt,Instr.sureAddr,Sem.run_bind,Sem.run_pure,Result.andThen_ok,hst]
    ·exact (setBlk_heap (blk_lt hw2)).trans (by rw [if_pos updL_self])
   ·have e15:ev (.tmp 15)=.bool true:=he 2 (by decide) _ 15 rfl rfl
    clear he h0 hc hf hg
    exact flS rfl (by go_simp <;> rfl) (hW.upd rfl (by decide)) rfl
  intro γ L W hL hW
  have hg4:W.heap[w.heap.size]?=some (.cells (D.map byteV).toArray 33 (0,0)):=hW.2.trans (by rw [if_pos (hL 3 (by decide))])
  have hb4:Below w.heap.size w W:=HB3.out.trans (hW.1.toBelow (B:=w.heap.size) (fun k hk=>by omega) HB3.out.size)
  have HG4:=hZ hg4
  have HB4:=hZ hb4
  clear hL hW hg4 hb4
  simp only [putAll,Act.put,List.setIfInBounds_toArray,List.set_cons_succ,List.set_cons_zero]
  go_wp2_with fail
  exact bodyPost_ret (v:=.tuple #[.agg (D.map byteV).toArray,.bool true]) (results_dig (fn:=Tryz.f77) (p:=2) (u:=3) rfl _ _ w.heap.size _ _ rfl HG4.out (by rw [List.size_toArray,List.length_map];exact HL.out)) rfl ⟨rfl,HB4.out⟩
 ·go_enter Tryz.func77,Tryz.ntmps77
  go_wp2_with (first | (go_at_call 126;refine (htr2 _).mono ?_;rintro e w3 ⟨rfl,rfl⟩) | (go_at_call 125;refine (hpa _).mono ?_;rintro e w2 ⟨rfl,hb2⟩;rw [World.size_alloc] at hb2;have HG2:=hZ ((hb2.block w.heap.size (by omega)).trans (heap_new w (.cells z32 33)));have HB2:=hZ (((Below.refl w.heap.size w).alloc (Nat.le_refl _) (.cells z32 33)).trans (hb2.mono (by omega)));clear hb2) | refine wpList_store_new rfl _ _ _ rfl _ (D.map byteV).toArray _ rfl rfl rfl hI2 hz h1 ?_)
  obtain ⟨W3,hW3⟩:∃ W,w2.alloc (.cells (D.map byteV).toArray 33)=W:=⟨_,rfl⟩
  have hx3:W3.heap[w2.heap.size]?=some (.cells (D.map byteV).toArray 33 (0,0)):=by rw [← hW3];exact heap_new _ _
  have hb3:Below w2.heap.size w2 W3:=by rw [← hW3];exact (Below.refl _ _).alloc (Nat.le_refl _) _
  have hr3:W3.heap[w.heap.size]?=some (.cells z32 33 (0,0)):=(hb3.block _ (blk_lt HG2.out)).trans HG2.out
  have HX3:=hZ hx3
  have HR3:=hZ hr3
  have HB3:=hZ (HB2.out.trans (hb3.mono HB2.out.size))
  have HNE:=hZ (show w2.heap.size≠w.heap.size from fun e=>by have:=blk_lt HG2.out;omega)
  rw [hW3]
  clear hW3 hx3 hb3 hr3
  have hI0:NmdW W3 w.heap.size D (fun _=>false) () W3.drew:=⟨⟨rfl,rfl,rfl,Nat.le_refl _,fun _ _ _=>rfl⟩,HR3.out⟩
  refine wp_region_flowG (fun _:Unit=>[.agg (D.map byteV).toArray,.iface 76 (.int .i64 4),.bool false,undef,.bool false]) (NmdW W3 w.heap.size D)
   [[],[],[1],[0,0],[2,3,0,1,2,3]] 16 () mixedD rfl (by kernel_rfl) (fun _=>rfl) hI0 ?_ ?_
  ·refine ⟨?_,?_,?_,?_,?_,rfl⟩
   all_goals intro L γ W ev hL hd hW hc hf hg he h0
   ·have e4:ev (.tmp 4)=.pointer (some ⟨w2.heap.size,0,none⟩):=h0 4 rfl
    have hlv:=run_loadVar_row (P:=Tryz.prog) W w2.heap.size 33 33 (D.map byteV).toArray (0,0) _ ((hW.1.block _ (blk_lt HX3.out) HNE.out).trans HX3.out) hU rfl hI2
    clear he h0 hc hf hg
    refine .inl ⟨rfl,.inl ⟨_,W,?_,.still (hW.upd rfl (by decide)) rfl⟩⟩
    unfold execOp
    simp only [e4,Instr.loadAt,Instr.sureAddr,Sem.run_bind,Sem.run_pure,Result.andThen_ok,hlv]
    try rfl
   ·have e5:ev (.tmp 5)=.iface 76 (.int .i64 4):=h0 5 rfl
    clear he h0 hc hf hg
    exact flS rfl (by go_simp <;> rfl) (hW.upd rfl (by decide)) rfl
   ·have e14:ev (.tmp 14)=.iface 76 (.int .i64 4):=he 1 (by decide) _ 14 rfl rfl
    clear he h0 hf hg
    exact flS rfl (by go_simp <;> rfl) (hW.upd rfl (by decide)) rfl
   ·have e2:ev (.tmp 2)=.pointer (some ⟨w.heap.size,0,none⟩):=h0 2 rfl
    have e13:ev (.tmp 13)=.agg (D.map byteV).toArray:=he 0 (by decide) _ 13 rfl rfl
    have hw2:W.heap[w.heap.size]?=some (.cells z32 33 (0,0)):=by have:=hW.2;rw [hL] at this;exact this
    have hst:=run_storeVar_row (P:=Tryz.prog) W w.heap.size 33 33 z32 (D.map byteV).toArray hw2 hI2 hz h1
    rw [setRow_setBlk hw2] at hst
    clear he h0 hc hf hg
    refine .inl ⟨rfl,.inr (.inl ⟨setBlk W w.heap.size (.cells (D.map byteV).toArray 33 (0,0)),?_,.still ⟨hW.1.setBlk (fun _=>rfl),?_⟩ rfl⟩)⟩
    ·unfold execOp
     simp only [e2,e13,Instr.storeAt,Instr.sureAddr,Sem.run_bind,Sem.run_pure,Result.andThen_ok,hst]
    ·exact (setBlk_heap (blk_lt hw2)).trans (by rw [if_pos updL_self])
   ·have e15:ev (.tmp 15)=.bool false:=he 2 (by decide) _ 15 rfl rfl
    clear he h0 hc hf hg
    exact flS rfl (by go_simp <;> rfl) (hW.upd rfl (by decide)) rfl
  intro γ L W hL hW
  have hg4:W.heap[w.heap.size]?=some (.cells (D.map byteV).toArray 33 (0,0)):=hW.2.trans (by rw [if_pos (hL 3 (by decide))])
  have hb4:Below w.heap.size w W:=HB3.out.trans (hW.1.toBelow (B:=w.heap.size) (fun k hk=>by omega) HB3.out.size)
  have HG4:=hZ hg4
  have HB4:=hZ hb4
  clear hL hW hg4 hb4
  simp only [putAll,Act.put,List.setIfInBounds_toArray,List.set_cons_succ,List.set_cons_zero]
  go_wp2_with fail
  exact bodyPost_ret (v:=.tuple #[.agg (D.map byteV).toArray,.bool false]) (results_dig (fn:=Tryz.f77) (p:=2) (u:=3) rfl _ _ w.heap.size _ _ rfl HG4.out (by rw [List.size_toArray,List.length_map];exact HL.out)) rfl ⟨rfl,HB4.out⟩
end Go.Proofs.YtecgikanophonaaGreatDoor
