/- Texts of the seat, one behind the other: DigP, RefDig. -/
import Derived.Test.YtdkedmngeahjiaaGreatDoorM27
import Derived.Laws.ResultCell
import Derived.Lib.IndexBytes
set_option maxRecDepth 100000
set_option maxHeartbeats 25600000
/- Contract of digest.Parse. -/
namespace Go.Proofs.YtdkedmngeahjiaaGreatDoor
open Go Go.RowKit
theorem results_dig {fn:Func} {p u:Tmp} (h:fn.results=#[.cell p 33,.tmp u]) (tmps:Array Value) (w:World) (g:Nat) (cs:Array Value) (t:TypeId) (hp:tmps.getD p undef=.pointer (some ⟨g,0,none⟩)) (hg:w.heap[g]?=some (.cells cs t (0,0))) (hz:cs.size=32) :
  (results fn tmps).run Tryz.prog w=.ok (.tuple #[.agg cs,tmps.getD u undef]) w:=by
 have hI:(Tryz.prog.info? 33).map (·.size)=some cs.size:=by rw [hz];kernel_rfl
 rw [results_cell_tmp h,hp]
 have h1:=run_loadVar_row (P:=Tryz.prog) w g t 33 cs (0,0) _ hg Tryz.underlying33 rfl hI
 simp [asAddr,h1,Result.andThen]
def nibV (t:List UInt8) (j:Nat):Nat:=(hv (t.getD j 0)).getD 0
theorem unhex_ok:∀ (n:Nat) (l:List UInt8),l.length=2 * n→(∀ j,j < 2 * n→(hv (l.getD j 0)).isSome=true)→unhex l=some ((List.range n).map fun j=>UInt8.ofNat (16 * nibV l (2 * j)+nibV l (2 * j+1)))
 |0,l,h,_=>by
  rw [List.length_eq_zero_iff.1 (by omega:l.length=0)]
  rfl
 |n+1,l,h,ha=>by
  match l,h with
  |x :: y :: r,h =>
   have h0:=ha 0 (by omega)
   have h1:=ha 1 (by omega)
   have hr:=unhex_ok n r (by simp only [List.length_cons] at h;omega) (fun j hj=>by
    have:=ha (j+2) (by omega)
    simpa using this)
   obtain ⟨a,hxa⟩:=Option.isSome_iff_exists.1 (show (hv x).isSome=true from h0)
   obtain ⟨b,hyb⟩:=Option.isSome_iff_exists.1 (show (hv y).isSome=true from h1)
   rw [unhex,hxa,hyb,hr]
   show some (_ :: _)=_
   rw [List.range_succ_eq_map,List.map_cons,List.map_map]
   refine congrArg some (congr (congrArg List.cons ?_) (List.map_congr_left fun j _=>?_))
   ·have e0:nibV (x :: y :: r) (2 * 0)=a:=by show (hv x).getD 0=a;rw [hxa];rfl
    have e1:nibV (x :: y :: r) (2 * 0+1)=b:=by show (hv y).getD 0=b;rw [hyb];rfl
    rw [e0,e1]
   ·have e0:nibV (x :: y :: r) (2 * (j+1))=nibV r (2 * j):=by unfold nibV;rw [show 2 * (j+1)=2 * j+1+1 by omega];rfl
    have e1:nibV (x :: y :: r) (2 * (j+1)+1)=nibV r (2 * j+1):=by unfold nibV;rw [show 2 * (j+1)+1=2 * j+1+1+1 by omega];rfl
    show _=UInt8.ofNat (16 * nibV (x :: y :: r) (2 * (j+1))+nibV (x :: y :: r) (2 * (j+1)+1))
    rw [e0,e1]
theorem unhex_no:∀ (l:List UInt8) (j:Nat),j < l.length→hv (l.getD j 0)=none→unhex l=none
 |[],j,h,_=>by cases h
 |[x],j,h,_=>rfl
 |x :: y :: r,0,_,h=>by
  have:hv x=none:=h
  rw [unhex,this]
 |x :: y :: r,1,_,h=>by
  have:hv y=none:=h
  rw [unhex,this]
  cases hv x <;> rfl
 |x :: y :: r,j+2,hj,h=>by
  have:=unhex_no r j (by simpa using hj) h
  rw [unhex,this]
  cases hv x <;> cases hv y <;> rfl
def nibC (t:List UInt8) (i:Nat):List Value:=(List.range 32).map fun j=>.int .u8 ((if 2 * j+1 < i then 16 * nibV t (2 * j)+nibV t (2 * j+1) else if 2 * j < i then nibV t (2 * j) else 0:Nat):Int)
theorem nibC_len (t:List UInt8) (i:Nat):(nibC t i).length=32:=by unfold nibC;rw [List.length_map,List.length_range]
theorem nibC_get (t:List UInt8) (i:Nat) {j:Nat} (h:j < 32):(nibC t i)[j]?=some (.int .u8 ((if 2 * j+1 < i then 16 * nibV t (2 * j)+nibV t (2 * j+1) else if 2 * j < i then nibV t (2 * j) else 0:Nat):Int)):=by
 unfold nibC
 rw [List.getElem?_map,List.getElem?_range h]
 rfl
theorem nibC_one (t:List UInt8) (i:Nat):∀ u∈nibC t i,u.oneCell'=true:=by
 intro u hu
 unfold nibC at hu
 obtain ⟨x,_,rfl⟩:=List.mem_map.1 hu
 rfl
theorem nibV_lt (t:List UInt8) (j:Nat):nibV t j < 16:=by
 unfold nibV
 cases h:hv (t.getD j 0) with
 |none=>decide
 |some n=>exact (hv_inv h).2
theorem nibC_all {t:List UInt8} (h:t.length=64) (ha:∀ j,j < 64→(hv (t.getD j 0)).isSome=true):∃ d,unhex t=some d∧d.length=32∧nibC t 64=d.map byteV:=by
 refine ⟨_,unhex_ok 32 t h ha,by rw [List.length_map,List.length_range],?_⟩
 unfold nibC
 rw [List.map_map]
 refine List.map_congr_left fun j hj=>?_
 have hj:=List.mem_range.1 hj
 have h1:=nibV_lt t (2 * j)
 have h2:=nibV_lt t (2 * j+1)
 show Value.int .u8 _=Value.int .u8 _
 rw [if_pos (by omega),UInt8.toNat_ofNat',Nat.mod_eq_of_lt (by omega)]
theorem or4:∀ a,a < 16→∀ b,b < 16→bits .or .u8 (((a:Nat):Int) * 16) ((b:Nat):Int)=((16 * a+b:Nat):Int):=by decide +kernel
theorem nib_set {w:World} {b:Nat} {t:List UInt8} {i:Nat} (h:w.heap[b]?=some (.cells (nibC t i).toArray 33 (0,0))) (hi:i < 64) :
  ∃ a:Nat,a < 16∧w.cell? ⟨b,i / 2,none⟩=some (.int .u8 (a:Int))∧(w.setCell ⟨b,i / 2,none⟩ (.int .u8 ((16 * a+nibV t i:Nat):Int))).heap[b]?=some (.cells (nibC t (i+1)).toArray 33 (0,0)):=by
 refine ⟨if i % 2=0 then 0 else nibV t (i - 1),?_,?_,?_⟩
 ·split
  ·decide
  ·exact nibV_lt _ _
 ·rw [cell_of_heapN h,List.getElem?_toArray,nibC_get _ _ (by omega)]
  refine congrArg some (congrArg (Value.int .u8) (congrArg Int.ofNat ?_))
  by_cases hp:i % 2=0
  ·rw [if_pos hp,if_neg (by omega),if_neg (by omega)]
  ·rw [if_neg hp,if_neg (by omega),if_pos (by omega)]
   exact congrArg (nibV t) (by omega)
 ·rw [setCell_blk h,setBlk_heap (blk_lt h),List.setIfInBounds_toArray]
  refine congrArg (fun l:List Value=>some (Obj.cells l.toArray 33 (0,0))) (List.ext_getElem? fun k=>?_)
  rw [List.getElem?_set,nibC_len]
  by_cases hk:i / 2=k
  ·subst hk
   rw [if_pos rfl,if_pos (by omega),nibC_get _ _ (by omega)]
   refine congrArg some (congrArg (Value.int .u8) (congrArg Int.ofNat ?_))
   by_cases hp:i % 2=0
   ·rw [if_pos hp,if_neg (by omega),if_pos (by omega)]
    rw [show 2 * (i / 2)=i by omega]
    omega
   ·rw [if_neg hp,if_pos (by omega),show 2 * (i / 2)=i - 1 by omega,show i - 1+1=i by omega]
  ·rw [if_neg hk]
   by_cases hk2:k < 32
   ·rw [nibC_get _ _ hk2,nibC_get _ _ hk2]
    refine congrArg some (congrArg (Value.int .u8) (congrArg Int.ofNat ?_))
    by_cases h1:2 * k+1 < i
    ·rw [if_pos h1,if_pos (by omega)]
    ·rw [if_neg h1,if_neg (show ¬ 2 * k < i by omega),if_neg (by omega),if_neg (by omega)]
   ·rw [List.getElem?_eq_none (by rw [nibC_len];omega),List.getElem?_eq_none (by rw [nibC_len];omega)]
def parseV (o:Option (List UInt8)):Value:=match o with
 |some d=>.tuple #[digV d,.nilIface]
 |none=>.tuple #[digV zeroD,errV 4]
theorem trim_head {l:List UInt8} (h:Lib.hasPrefix l shaHead=true):Lib.trimPrefix l shaHead=l.drop 7:=by
 unfold Lib.trimPrefix
 rw [if_pos h]
 rfl
theorem head_take (l:List UInt8):Lib.hasPrefix l shaHead=true ↔ l.take 7=shaHead:=by
 unfold Lib.hasPrefix
 rw [List.isPrefixOf_iff_prefix]
 constructor
 ·rintro ⟨r,rfl⟩
  rfl
 ·intro h
  exact ⟨l.drop 7,by rw [← h];exact List.take_append_drop 7 l⟩
theorem u8_of_nat (w:World) (b:Nat) (h:w.heap[b]?=some (.cells z32 33 (0,0))):w.heap[b]?=some (.cells (zeroD.map byteV).toArray 33 (0,0)):=h
theorem parse_dig (s:ByteArray) (w:World) :
  Calls Tryz.prog 42 #[.string s] w fun e w'=>e=.returned (parseV (parseD s))∧Below w.heap.size w w':=by
 have hcut:=fun W:World=>Tryz.strings_CutPrefix s ⟨#[115,104,97,50,53,54,58]⟩ W
 obtain ⟨t,ht⟩:∃ t:ByteArray,(⟨(Lib.trimPrefix s.data.toList shaHead).toArray⟩:ByteArray)=t:=⟨_,rfl⟩
 obtain ⟨ok,hok⟩:∃ ok:Bool,Lib.hasPrefix s.data.toList shaHead=ok:=⟨_,rfl⟩
 have hcut2:∀ W,Calls Tryz.prog 88 #[.string s,.string ⟨#[115,104,97,50,53,54,58]⟩] W fun e w'=>e=.returned (.tuple #[.string t,.bool ok])∧w'=W:=fun W=>by
  rw [← ht,← hok]
  exact hcut W
 have HT:=hZ ht
 have HOK:=hZ hok
 clear hcut ht hok
 obtain ⟨P0,hP0⟩:∃ p,parseD s=p:=⟨_,rfl⟩
 rw [hP0]
 have HP:=hZ hP0
 clear hP0
 go_enter Tryz.func42,Tryz.ntmps42
 go_wp2_with fail
 refine (hcut2 _).mono ?_
 rintro e w1 ⟨rfl,rfl⟩
 clear hcut2
 obtain ⟨W0,hW0⟩:∃ W,(w.alloc (.cells z32 33)).alloc (.cells z32 33)=W:=⟨_,rfl⟩
 obtain ⟨hb0,hz0,g0,g1⟩:=box2 w (.cells z32 33) (.cells z32 33)
 rw [hW0] at hb0 hz0 g0 g1
 have HB0:=hZ hb0
 have HZ0:=hZ hz0
 have HG0:=hZ g0
 have HG1:=hZ g1
 have hW1:(w.alloc (.cells #[.int .u8 0,.int .u8 0,.int .u8 0,.int .u8 0,.int .u8 0,.int .u8 0,.int .u8 0,.int .u8 0,.int .u8 0,.int .u8 0,.int .u8 0,.int .u8 0,.int .u8 0,.int .u8 0,.int .u8 0,.int .u8 0,.int .u8 0,.int .u8 0,.int .u8 0,.int .u8 0,.int .u8 0,.int .u8 0,.int .u8 0,.int .u8 0,.int .u8 0,.int .u8 0,.int .u8 0,.int .u8 0,.int .u8 0,.int .u8 0,.int .u8 0,.int .u8 0] 33)).alloc (.cells #[.int .u8 0,.int .u8 0,.int .u8 0,.int .u8 0,.int .u8 0,.int .u8 0,.int .u8 0,.int .u8 0,.int .u8 0,.int .u8 0,.int .u8 0,.int .u8 0,.int .u8 0,.int .u8 0,.int .u8 0,.int .u8 0,.int .u8 0,.int .u8 0,.int .u8 0,.int .u8 0,.int .u8 0,.int .u8 0,.int .u8 0,.int .u8 0,.int .u8 0,.int .u8 0,.int .u8 0,.int .u8 0,.int .u8 0,.int .u8 0,.int .u8 0,.int .u8 0] 33)=W0:=hW0
 rw [hW1]
 clear hW0 hW1 hb0 hz0 g0 g1
 have hnone:∀ W:World,Hid (Below w.heap.size w W)→Hid (W.heap[w.heap.size]?=some (.cells z32 33 (0,0))) →
   (storeCells ⟨w.heap.size,0,none⟩ (zeroD.map byteV)).run Tryz.prog W=.ok () (setBlk W w.heap.size (.cells (zeroD.map byteV).toArray 33 (0,0)))∧Hid ((setBlk W w.heap.size (.cells (zeroD.map byteV).toArray 33 (0,0))).heap[w.heap.size]?=some (.cells (zeroD.map byteV).toArray 33 (0,0)))∧Hid (Below w.heap.size w (setBlk W w.heap.size (.cells (zeroD.map byteV).toArray 33 (0,0)))):=fun W hB hG =>
  ⟨store_digest hG.out rfl (fun u hu=>by obtain ⟨x,_,rfl⟩:=List.mem_map.1 hu;rfl),hZ (setBlk_heap (blk_lt hG.out)),hZ (hB.out.setBlk (Nat.le_refl _))⟩
 have h1z:(zeroD.map byteV).toArray.all (·.oneCell')=true:=all_oneCell_toArray fun v hv=>by obtain ⟨x,_,rfl⟩:=List.mem_map.1 hv;rfl
 have hI32:(Tryz.prog.info? 33).map (·.size)=some (zeroD.map byteV).toArray.size:=by kernel_rfl
 by_cases hg:ok=true∧t.size=64
 ·obtain ⟨rfl,hsz⟩:=hg
  have htl:t.data.toList=s.data.toList.drop 7:=by rw [← HT.out,trim_head HOK.out]
  have hTl:t.data.toList.length=64:=by rw [Array.length_toList];exact hsz
  have hps:unhex t.data.toList=P0:=by
   rw [htl,← HP.out]
   unfold parseD
   refine (if_pos ⟨(head_take _).1 HOK.out,?_⟩).symm
   rw [htl,List.length_drop,Array.length_toList] at hTl
   show s.data.size=71
   omega
  have HPS:=hZ hps
  have HTL:=hZ hTl
  have HG2:Hid (W0.heap[w.heap.size+1]?=some (.cells (nibC t.data.toList 0).toArray 33 (0,0))):=HG1
  clear htl hTl hps
  go_wp2_with fail
  go_loopw [23] (fun iv wr=>∃ i:Nat,(i:Int)≤64∧iv=.int .i64 i∧Hid (∀ j,j < i→(hv (t.data.toList.getD j 0)).isSome=true)∧Hid (Below w.heap.size w wr)∧Hid (wr.heap[w.heap.size]?=some (.cells z32 33 (0,0)))∧Hid (wr.heap[w.heap.size+1]?=some (.cells (nibC t.data.toList i).toArray 33 (0,0)))) (fun iv _=>64 - (intOf iv).toNat)
  case atStart=>exact ⟨0,by omega,rfl,hZ (fun j hj=>by omega),HB0,HG0,HG2⟩
  case round =>
   obtain ⟨i,hi,rfl,HA,HB,HR,HX⟩:=hrel
   by_cases hlt:(i:Int) < 64
   ·have hi64:i < 64:=by omega
    have his:i < t.size:=by rw [hsz];exact hi64
    obtain ⟨c,hc⟩:∃ c,t[i]'his=c:=⟨_,rfl⟩
    have hcl:t.data.toList.getD i 0=c:=by
     rw [← hc,List.getD_eq_getElem?_getD,Array.getElem?_toList,Array.getElem?_eq_getElem (show i < t.data.size from his)]
     rfl
    obtain ⟨a,ha,d0,hset⟩:=nib_set HX.out hi64
    have f0:wr.frozen? ⟨w.heap.size+1,i / 2,none⟩=false:=frozen_blk HX.out
    have hq:i / 2 < 32:=by omega
    have HCL:=hZ hcl
    have HSET:=hZ hset
    have hcn:=c.toNat_lt
    clear hcl hset
    by_cases hd:48≤(c.toNat:Int)∧(c.toNat:Int)≤57
    ·obtain ⟨h1,h2⟩:=hd
     have hn:nibV t.data.toList i=c.toNat - 48:=by
      unfold nibV hv
      rw [HCL.out,if_pos (by omega)]
      rfl
     have hsm:(hv (t.data.toList.getD i 0)).isSome=true:=by
      unfold hv
      rw [HCL.out,if_pos (by omega)]
      rfl
     have hor:=or4 a ha (c.toNat - 48) (by omega)
     have e0:((c.toNat - 48:Nat):Int)=(c.toNat:Int) - 48:=by omega
     rw [e0] at hor
     have HN:=hZ hn
     have HSM:=hZ hsm
     clear hn hsm e0
     go_wp2_with fail
     refine ⟨⟨i+1,by omega,by rw [Int.natCast_add];rfl,hZ ?_,hZ (HB.out.setCell (p:=⟨w.heap.size+1,i / 2,none⟩) (by show w.heap.size≤w.heap.size+1;omega) _),hZ ((Below.heap_setCell _ _ _ _ (by show w.heap.size≠w.heap.size+1;omega)).trans HR.out),hZ ?_⟩,by simp [intOf];omega⟩
     ·intro j hj
      by_cases hji:j=i
      ·rw [hji];exact HSM.out
      ·exact HA.out j (by omega)
     ·have h:=HSET.out
      rw [HN.out,Int.natCast_add,Int.natCast_mul] at h
      exact h
    ·by_cases hd2:97≤(c.toNat:Int)∧(c.toNat:Int)≤102
     ·obtain ⟨h1,h2⟩:=hd2
      have h3:¬ (c.toNat:Int)≤57:=by omega
      have h4:48≤(c.toNat:Int):=by omega
      have hn:nibV t.data.toList i=c.toNat - 87:=by
       unfold nibV hv
       rw [HCL.out,if_neg (by omega),if_pos (by omega)]
       rfl
      have hsm:(hv (t.data.toList.getD i 0)).isSome=true:=by
       unfold hv
       rw [HCL.out,if_neg (by omega),if_pos (by omega)]
       rfl
      have hor:=or4 a ha (c.toNat - 87) (by omega)
      have e0:((c.toNat - 87:Nat):Int)=(c.toNat:Int) - 87:=by omega
      rw [e0] at hor
      have HN:=hZ hn
      have HSM:=hZ hsm
      clear hn hsm e0
      go_wp2_with fail
      refine ⟨⟨i+1,by omega,by rw [Int.natCast_add];rfl,hZ ?_,hZ (HB.out.setCell (p:=⟨w.heap.size+1,i / 2,none⟩) (by show w.heap.size≤w.heap.size+1;omega) _),hZ ((Below.heap_setCell _ _ _ _ (by show w.heap.size≠w.heap.size+1;omega)).trans HR.out),hZ ?_⟩,by simp [intOf];omega⟩
      ·intro j hj
       by_cases hji:j=i
       ·rw [hji];exact HSM.out
       ·exact HA.out j (by omega)
      ·have h:=HSET.out
       rw [HN.out,Int.natCast_add,Int.natCast_mul] at h
       exact h
     ·have hnone2:P0=none:=by
       rw [← HPS.out]
       refine unhex_no _ i (by rw [HTL.out];exact hi64) ?_
       rw [HCL.out]
       unfold hv
       rw [if_neg (by omega),if_neg (by omega)]
      have HNO:=hZ hnone2
      obtain ⟨-,HG3,HB3⟩:=hnone wr HB HR
      clear hnone2 hnone
      by_cases h1:48≤(c.toNat:Int)
      ·have h2:¬ (c.toNat:Int)≤57:=fun h=>hd ⟨h1,h⟩
       by_cases h3:97≤(c.toNat:Int)
       ·have h4:¬ (c.toNat:Int)≤102:=fun h=>hd2 ⟨h3,h⟩
        clear hd hd2
        go_wp2_with (first | (refine wpList_store_row rfl _ _ _ rfl w.heap.size (zeroD.map byteV).toArray rfl rfl 33 z32 HR.out hI32 rfl h1z ?_;rw [setRow_setBlk HR.out]))
        refine bodyPost_ret (v:=.tuple #[digV zeroD,errV 4]) (results_dig (fn:=Tryz.f42) (p:=2) (u:=3) rfl _ _ w.heap.size _ _ rfl HG3.out rfl) rfl ⟨by rw [HNO.out];rfl,HB3.out⟩
       ·clear hd hd2
        go_wp2_with (first | (refine wpList_store_row rfl _ _ _ rfl w.heap.size (zeroD.map byteV).toArray rfl rfl 33 z32 HR.out hI32 rfl h1z ?_;rw [setRow_setBlk HR.out]))
        refine bodyPost_ret (v:=.tuple #[digV zeroD,errV 4]) (results_dig (fn:=Tryz.f42) (p:=2) (u:=3) rfl _ _ w.heap.size _ _ rfl HG3.out rfl) rfl ⟨by rw [HNO.out];rfl,HB3.out⟩
      ·have h3:¬ 97≤(c.toNat:Int):=by omega
       clear hd hd2
       go_wp2_with (first | (refine wpList_store_row rfl _ _ _ rfl w.heap.size (zeroD.map byteV).toArray rfl rfl 33 z32 HR.out hI32 rfl h1z ?_;rw [setRow_setBlk HR.out]))
       refine bodyPost_ret (v:=.tuple #[digV zeroD,errV 4]) (results_dig (fn:=Tryz.f42) (p:=2) (u:=3) rfl _ _ w.heap.size _ _ rfl HG3.out rfl) rfl ⟨by rw [HNO.out];rfl,HB3.out⟩
   ·obtain rfl:i=64:=by omega
    obtain ⟨d,h1,h2,h3⟩:=nibC_all HTL.out HA.out
    have hpd:P0=some d:=HPS.out.symm.trans h1
    have HPD:=hZ hpd
    have hx2:=HX.out
    rw [h3] at hx2
    have hI2:(Tryz.prog.info? 33).map (·.size)=some (d.map byteV).toArray.size:=by rw [List.size_toArray,List.length_map,h2];exact hI32
    have hI3:(Tryz.prog.info? 33).map (·.size)=some (d.map byteV).length:=by rw [List.length_map,h2];exact hI32
    have hU:Tryz.prog.underlying 33=some _:=Tryz.underlying33
    have HRG:Hid (wr.rangeAt (w.heap.size+1) 0 (d.map byteV)):=hZ (fun j v hv=>by
     rw [Nat.zero_add,cell_of_heapN hx2,List.getElem?_toArray]
     exact hv)
    have hs32:z32.size=(d.map byteV).toArray.size:=show (32:Nat)=(d.map byteV).length by rw [List.length_map,h2]
    have h1c:(d.map byteV).toArray.all (·.oneCell')=true:=all_oneCell_toArray fun v hv=>by obtain ⟨x,_,rfl⟩:=List.mem_map.1 hv;rfl
    have HG5:Hid ((setBlk wr w.heap.size (.cells (d.map byteV).toArray 33 (0,0))).heap[w.heap.size]?=some (.cells (d.map byteV).toArray 33 (0,0))):=hZ (setBlk_heap (blk_lt HR.out))
    have HB5:Hid (Below w.heap.size w (setBlk wr w.heap.size (.cells (d.map byteV).toArray 33 (0,0)))):=hZ (HB.out.setBlk (Nat.le_refl _))
    have HD32:Hid ((d.map byteV).toArray.size=32):=hZ (by rw [List.size_toArray,List.length_map,h2])
    clear hx2 h1 h2 h3 hpd hnone
    go_wp2_with (first | refine wpList_load_mid rfl _ _ rfl (w.heap.size+1) 0 rfl (d.map byteV) _ HRG.out hU rfl hI3 ?_ | (refine wpList_store_row rfl _ _ _ rfl w.heap.size (d.map byteV).toArray rfl rfl 33 z32 HR.out hI2 hs32 h1c ?_;rw [setRow_setBlk HR.out]))
    refine bodyPost_ret (v:=.tuple #[digV d,.nilIface]) (results_dig (fn:=Tryz.f42) (p:=2) (u:=3) rfl _ _ w.heap.size _ _ rfl HG5.out HD32.out) rfl ⟨by rw [HPD.out];rfl,HB5.out⟩
 ·have hno:P0=none:=by
   rw [← HP.out]
   unfold parseD
   refine if_neg fun hc=>hg ?_
   have h1:Lib.hasPrefix s.data.toList shaHead=true:=(head_take _).2 hc.1
   refine ⟨HOK.out.symm.trans h1,?_⟩
   rw [← HT.out,trim_head h1]
   show (s.data.toList.drop 7).length=64
   rw [List.length_drop,Array.length_toList]
   have:s.data.size=71:=hc.2
   omega
  have HNO:=hZ hno
  obtain ⟨-,HG2,HB2⟩:=hnone W0 HB0 HG0
  clear hnone hno
  cases ok
  ·go_wp2_with (first | (refine wpList_store_row rfl _ _ _ rfl w.heap.size (zeroD.map byteV).toArray rfl rfl 33 z32 HG0.out hI32 rfl h1z ?_;rw [setRow_setBlk HG0.out]))
   refine bodyPost_ret (v:=.tuple #[digV zeroD,errV 4]) (results_dig (fn:=Tryz.f42) (p:=2) (u:=3) rfl _ _ w.heap.size _ _ rfl HG2.out rfl) rfl ⟨by rw [HNO.out];rfl,HB2.out⟩
  ·have hts:¬ (t.size:Int)=64:=fun h=>hg ⟨rfl,by omega⟩
   go_wp2_with (first | (refine wpList_store_row rfl _ _ _ rfl w.heap.size (zeroD.map byteV).toArray rfl rfl 33 z32 HG0.out hI32 rfl h1z ?_;rw [setRow_setBlk HG0.out]))
   refine bodyPost_ret (v:=.tuple #[digV zeroD,errV 4]) (results_dig (fn:=Tryz.f42) (p:=2) (u:=3) rfl _ _ w.heap.size _ _ rfl HG2.out rfl) rfl ⟨by rw [HNO.out];rfl,HB2.out⟩
end Go.Proofs.YtdkedmngeahjiaaGreatDoor
/- Contracts of the reference's digests' texts: strataref03.Text, value, Parse. -/
namespace Go.Proofs.YtdkedmngeahjiaaGreatDoor
open Go Go.RowKit
def hexT:ByteArray:=⟨#[48,49,50,51,52,53,54,55,56,57,97,98,99,100,101,102]⟩
theorem hexT_ext:∀ n,n < 16→(⟨#[48,49,50,51,52,53,54,55,56,57,97,98,99,100,101,102]⟩:ByteArray).extract n (n+1)=⟨#[hx n]⟩:=by decide
theorem textD_size (d:List UInt8):(textD d).size=7+2 * d.length:=by
 show (shaHead ++ hexB d).length=_
 rw [List.length_append,hexB_len]
 rfl
theorem textD_snoc (d:List UInt8) (x:UInt8):textD (d ++ [x])=textD d ++ ⟨#[hx (x.toNat / 16)]⟩ ++ ⟨#[hx (x.toNat % 16)]⟩:=by
 refine ByteArray.ext ?_
 rw [ByteArray.data_append,ByteArray.data_append]
 unfold textD
 rw [hexB_append,← List.append_assoc]
 show ((shaHead ++ hexB d) ++ [hx (x.toNat / 16),hx (x.toNat % 16)]).toArray=_
 simp
theorem refText_any (d:List UInt8) (hd:d.length=32) (w:World) :
  Calls Tryz.prog 72 #[digV d] w fun e w'=>e=.returned (.string (textD d))∧Below w.heap.size w w':=by
 unfold digV
 go_enter Tryz.func72,Tryz.ntmps72
 obtain ⟨W0,hW0⟩:∃ W,(w.alloc (.cells (d.map byteV).toArray 33))=W:=⟨_,rfl⟩
 have hx0:W0.heap[w.heap.size]?=some (.cells (d.map byteV).toArray 33 (0,0)):=by rw [← hW0];exact Array.getElem?_push_size
 have HX0:=hZ hx0
 have hb0:Below w.heap.size w W0:=by rw [← hW0];exact (Below.refl w.heap.size w).alloc (Nat.le_refl _) _
 have HB0:=hZ hb0
 have HW0:=hZ hW0
 clear hx0 hb0 hW0
 go_wp2_with fail
 rw [HW0.out]
 go_loopw [3,4] (fun sv iv wr=>∃ i:Nat,(i:Int)≤32∧iv=.int .i64 i∧sv=.string (textD (d.take i))∧Hid (wr.heap=W0.heap)∧Hid (Below w.heap.size w wr)) (fun _ iv _=>32 - (intOf iv).toNat)
 case atStart=>exact ⟨0,by omega,rfl,rfl,hZ rfl,HB0⟩
 case round =>
  obtain ⟨i,hi,rfl,rfl,HH,HB⟩:=hrel
  by_cases hlt:(i:Int) < 32
  ·have hil:i < d.length:=by rw [hd];omega
   obtain ⟨x,hx⟩:∃ x,d[i]?=some x:=⟨_,List.getElem?_eq_getElem hil⟩
   have hxn:=x.toNat_lt
   have hc:wr.cell? ⟨w.heap.size,i,none⟩=some (.int .u8 x.toNat):=by
    rw [cell_of_heapN ((congrArg (fun h:Array Obj=>h[w.heap.size]?) HH.out).trans HX0.out),List.getElem?_toArray,List.getElem?_map,hx];rfl
   have HTK:Hid (d.take (i+1)=d.take i ++ [x]):=hZ (by rw [List.take_add_one,hx];rfl)
   have h1:=hexT_ext (x.toNat / 16) (by omega)
   have h2:=hexT_ext (x.toNat % 16) (by omega)
   have h3:=textD_size (d.take i)
   rw [List.length_take] at h3
   have h4:(textD (d.take i)).size+1≤100:=by omega
   have h5:(textD (d.take i)).size+1+1≤100:=by omega
   obtain ⟨T,hT⟩:∃ T,textD (d.take i)=T:=⟨_,rfl⟩
   rw [hT] at h4 h5
   rw [hT]
   have HT:=hZ hT
   clear hx hil h3 hT
   go_wp2_with fail
   go_region
   go_wp2_with fail
   refine ⟨⟨i+1,by omega,by rw [Int.natCast_add];rfl,?_,hZ HH.out,hZ ⟨HB.out.os,HB.out.tape,HB.out.output,HB.out.size,HB.out.block⟩⟩,by simp [intOf];omega⟩
   refine congrArg Value.string ?_
   have h6:=HT.out
   subst h6
   rw [HTK.out]
   exact (textD_snoc _ x).symm
  ·obtain rfl:i=32:=by omega
   go_wp2_with fail
   go_ret
   rw [List.take_of_length_le (by rw [hd];omega)]
   exact ⟨rfl,HB.out⟩
def hvI (c:UInt8):Int:=match hv c with
 |some n=>n
 |none=>-1
theorem hvI_at:∀ c:UInt8,∀ i,i < 16→(hx i).toNat=c.toNat→hvI c=i:=by
 intro c i hi h
 have h1:hx i=c:=UInt8.toNat_inj.1 h
 subst h1
 unfold hvI
 rw [hv_hx i hi]
theorem hvI_no (c:UInt8) (h:∀ i,i < 16→(hx i).toNat≠c.toNat):hvI c=-1:=by
 unfold hvI
 cases hc:hv c with
 |none=>rfl
 |some n =>
  obtain ⟨h1,h2⟩:=hv_inv hc
  exact absurd (by rw [h1]) (h n h2)
theorem value_any (c:UInt8) (w:World) :
  Calls Tryz.prog 154 #[.int .u8 c.toNat] w fun e w'=>e=.returned (.int .i64 (hvI c))∧w=w':=by
 have hcn:=c.toNat_lt
 go_enter Tryz.func154,Tryz.ntmps154
 go_wp2_with fail
 go_loopw [3] (fun iv wr=>∃ i:Nat,(i:Int)≤16∧iv=.int .i64 i∧Hid (∀ j,j < i→(hx j).toNat≠c.toNat)∧wr=w) (fun iv _=>16 - (intOf iv).toNat)
 case atStart=>exact ⟨0,by omega,rfl,hZ (fun j hj=>absurd hj (by omega)),rfl⟩
 case round =>
  obtain ⟨i,hi,rfl,HJ,rfl⟩:=hrel
  by_cases hlt:(i:Int) < 16
  ·have hg:(⟨#[48,49,50,51,52,53,54,55,56,57,97,98,99,100,101,102]⟩:ByteArray)[i]'(show i < 16 by omega)=hx i:=hexGet i _
   by_cases he:(hx i).toNat=c.toNat
   ·have hd:((((hx i).toNat:Nat):Int) == (c.toNat:Int))=true:=by rw [he];simp
    go_wp2_with fail
    go_ret
    exact ⟨congrArg (fun x=>Ending.returned (Value.int .i64 x)) (hvI_at c i (by omega) he).symm,rfl⟩
   ·have hd:((((hx i).toNat:Nat):Int) == (c.toNat:Int))=false:=beq_eq_false_iff_ne.2 (by omega)
    go_wp2_with fail
    refine ⟨⟨i+1,by omega,by rw [Int.natCast_add];rfl,hZ (fun j hj=>?_),trivial⟩,by simp [intOf];omega⟩
    by_cases hji:j=i
    ·rw [hji];exact he
    ·exact HJ.out j (by omega)
  ·obtain rfl:i=16:=by omega
   go_wp2_with fail
   go_ret
   exact ⟨congrArg (fun x=>Ending.returned (Value.int .i64 x)) (hvI_no c HJ.out).symm,rfl⟩
def refParseV (o:Option (List UInt8)):Value:=match o with
 |some d=>.tuple #[digV d,.int .i64 0]
 |none=>.tuple #[digV zeroD,.int .i64 4]
theorem nib_set2 {w:World} {b:Nat} {t:List UInt8} {i:Nat} (h:w.heap[b]?=some (.cells (nibC t (2 * i)).toArray 33 (0,0))) (hi:i < 32) :
  (∃ v,w.cell? ⟨b,i,none⟩=some v)∧(w.setCell ⟨b,i,none⟩ (.int .u8 ((16 * nibV t (2 * i)+nibV t (2 * i+1):Nat):Int))).heap[b]?=some (.cells (nibC t (2 * (i+1))).toArray 33 (0,0)):=by
 refine ⟨⟨_,by rw [cell_of_heapN h,List.getElem?_toArray,nibC_get _ _ hi]⟩,?_⟩
 rw [setCell_blk h,setBlk_heap (blk_lt h),List.setIfInBounds_toArray]
 refine congrArg (fun l:List Value=>some (Obj.cells l.toArray 33 (0,0))) (List.ext_getElem? fun k=>?_)
 rw [List.getElem?_set,nibC_len]
 by_cases hk:i=k
 ·subst hk
  rw [if_pos rfl,if_pos (by omega),nibC_get _ _ (by omega)]
  refine congrArg some (congrArg (Value.int .u8) (congrArg Int.ofNat ?_))
  rw [if_pos (by omega)]
 ·rw [if_neg hk]
  by_cases hk2:k < 32
  ·rw [nibC_get _ _ hk2,nibC_get _ _ hk2]
   refine congrArg some (congrArg (Value.int .u8) (congrArg Int.ofNat ?_))
   by_cases h1:2 * k+1 < 2 * i
   ·rw [if_pos h1,if_pos (by omega)]
   ·rw [if_neg h1,if_neg (show ¬ 2 * k < 2 * i by omega),if_neg (by omega),if_neg (by omega)]
  ·rw [List.getElem?_eq_none (by rw [nibC_len];omega),List.getElem?_eq_none (by rw [nibC_len];omega)]
theorem hvI_some {c:UInt8} {n:Nat} (h:hv c=some n):hvI c=n:=by unfold hvI;rw [h]
theorem hvI_none {c:UInt8} (h:hv c=none):hvI c=-1:=by unfold hvI;rw [h]
theorem refParse_any (s:ByteArray) (w:World) :
  Calls Tryz.prog 118 #[.string s] w fun e w'=>e=.returned (refParseV (parseD s))∧Below w.heap.size w w':=by
 obtain ⟨P0,hP0⟩:∃ p,parseD s=p:=⟨_,rfl⟩
 rw [hP0]
 have HP:=hZ hP0
 clear hP0
 have hI32:(Tryz.prog.info? 33).map (·.size)=some (zeroD.map byteV).toArray.size:=by kernel_rfl
 have h1z:(zeroD.map byteV).toArray.all (·.oneCell')=true:=all_oneCell_toArray fun v hv=>by obtain ⟨x,_,rfl⟩:=List.mem_map.1 hv;rfl
 have hnone:∀ W:World,Hid (Below w.heap.size w W)→Hid (W.heap[w.heap.size]?=some (.cells z32 33 (0,0))) →
   Hid ((setBlk W w.heap.size (.cells (zeroD.map byteV).toArray 33 (0,0))).heap[w.heap.size]?=some (.cells (zeroD.map byteV).toArray 33 (0,0)))∧Hid (Below w.heap.size w (setBlk W w.heap.size (.cells (zeroD.map byteV).toArray 33 (0,0)))):=fun W hB hG =>
  ⟨hZ (setBlk_heap (blk_lt hG.out)),hZ (hB.out.setBlk (Nat.le_refl _))⟩
 go_enter Tryz.func118,Tryz.ntmps118
 obtain ⟨W1,hW1⟩:∃ W,(w.alloc (.cells z32 33))=W:=⟨_,rfl⟩
 have HG1:Hid (W1.heap[w.heap.size]?=some (.cells z32 33 (0,0))):=hZ (by rw [← hW1];exact Array.getElem?_push_size)
 have HB1:Hid (Below w.heap.size w W1):=hZ (by rw [← hW1];exact (Below.refl w.heap.size w).alloc (Nat.le_refl _) _)
 have hW2:w.alloc (.cells #[.int .u8 0,.int .u8 0,.int .u8 0,.int .u8 0,.int .u8 0,.int .u8 0,.int .u8 0,.int .u8 0,.int .u8 0,.int .u8 0,.int .u8 0,.int .u8 0,.int .u8 0,.int .u8 0,.int .u8 0,.int .u8 0,.int .u8 0,.int .u8 0,.int .u8 0,.int .u8 0,.int .u8 0,.int .u8 0,.int .u8 0,.int .u8 0,.int .u8 0,.int .u8 0,.int .u8 0,.int .u8 0,.int .u8 0,.int .u8 0,.int .u8 0,.int .u8 0] 33)=W1:=hW1
 clear hW1
 by_cases hsz:s.size=71
 ·obtain ⟨t,ht⟩:∃ t:List UInt8,s.data.toList.drop 7=t:=⟨_,rfl⟩
  have hTl:t.length=64:=by
   rw [← ht,List.length_drop,Array.length_toList]
   have h0:s.data.size=71:=hsz
   rw [h0]
  have hpn:unhex t=none→P0=none:=fun h=>by
   rw [← HP.out]
   unfold parseD
   split
   ·rw [ht];exact h
   ·rfl
  have hget:∀ j (hj:7+j < s.size),s[7+j]'hj=t.getD j 0:=fun j hj=>by
   rw [← ht,List.getD_eq_getElem?_getD,List.getElem?_drop,Array.getElem?_toList,Array.getElem?_eq_getElem (show 7+j < s.data.size from hj)]
   rfl
  have HT:=hZ ht
  have HTL:=hZ hTl
  have HPN:=hZ hpn
  have HGET:=hZ hget
  have hI71:(((s.size:Nat):Int) != 71)=false:=by rw [hsz];rfl
  obtain ⟨W3,hW3⟩:∃ W,W1.alloc (.cells #[.int .u8 0,.int .u8 0,.int .u8 0,.int .u8 0,.int .u8 0,.int .u8 0,.int .u8 0,.int .u8 0,.int .u8 0,.int .u8 0,.int .u8 0,.int .u8 0,.int .u8 0,.int .u8 0,.int .u8 0,.int .u8 0,.int .u8 0,.int .u8 0,.int .u8 0,.int .u8 0,.int .u8 0,.int .u8 0,.int .u8 0,.int .u8 0,.int .u8 0,.int .u8 0,.int .u8 0,.int .u8 0,.int .u8 0,.int .u8 0,.int .u8 0,.int .u8 0] 33)=W:=⟨_,rfl⟩
  have hz1:W1.heap.size=w.heap.size+1:=by rw [← hW2];exact Array.size_push ..
  have HG2:Hid (W3.heap[w.heap.size]?=some (.cells z32 33 (0,0))):=hZ (by rw [← hW3];exact ((Below.refl W1.heap.size W1).alloc (Nat.le_refl _) _).block _ (by omega) |>.trans HG1.out)
  have HX2:Hid (W3.heap[w.heap.size+1]?=some (.cells (nibC t 0).toArray 33 (0,0))):=hZ (by rw [← hW3,← hz1];exact Array.getElem?_push_size)
  have HB2:Hid (Below w.heap.size w W3):=hZ (by rw [← hW3];exact HB1.out.alloc (by omega) _)
  clear ht hTl hpn hget
  go_wp2_with fail
  go_loopw [5] (fun iv wr=>∃ i:Nat,(i:Int)≤32∧iv=.int .i64 i∧Hid (∀ j,j < 2 * i→(hv (t.getD j 0)).isSome=true)∧Hid (Below w.heap.size w wr)∧Hid (wr.heap[w.heap.size]?=some (.cells z32 33 (0,0)))∧Hid (wr.heap[w.heap.size+1]?=some (.cells (nibC t (2 * i)).toArray 33 (0,0)))) (fun iv _=>32 - (intOf iv).toNat)
  case atStart=>exact ⟨0,by omega,rfl,hZ (fun j hj=>by omega),HB2,HG2,HX2⟩
  case round =>
   obtain ⟨i,hi,rfl,HA,HB,HR,HX⟩:=hrel
   by_cases hlt:(i:Int) < 32
   ·have hi32:i < 32:=by omega
    have h7:7+2 * i < s.size:=by omega
    have h8:7+(2 * i+1) < s.size:=by omega
    obtain ⟨c1,hc1⟩:∃ c,t.getD (2 * i) 0=c:=⟨_,rfl⟩
    obtain ⟨c2,hc2⟩:∃ c,t.getD (2 * i+1) 0=c:=⟨_,rfl⟩
    have hg1:s[7+2 * i]'h7=c1:=(HGET.out _ h7).trans hc1
    have hg2:s[8+2 * i]'(by omega)=c2:=by
     rw [← hc2,← HGET.out _ h8]
     exact getElem_congr rfl (by omega) _
    have HC1:=hZ hc1
    have HC2:=hZ hc2
    obtain ⟨v0,hv0⟩:=(nib_set2 HX.out hi32).1
    have HSET:=hZ (nib_set2 HX.out hi32).2
    have f0:wr.frozen? ⟨w.heap.size+1,i,none⟩=false:=frozen_blk HX.out
    clear hc1 hc2
    go_wp2_with fail
    refine (value_any c1 _).mono ?_
    rintro e w2 ⟨rfl,rfl⟩
    go_wp2_with fail
    refine (value_any c2 _).mono ?_
    rintro e w2 ⟨rfl,rfl⟩
    cases h1:hv c1 with
    |none =>
     have hno:P0=none:=HPN.out (unhex_no t (2 * i) (by rw [HTL.out];omega) (by rw [HC1.out];exact h1))
     have HNO:=hZ hno
     obtain ⟨HG3,HB3⟩:=hnone _ HB HR
     have e1:=hvI_none h1
     rw [e1]
     clear hno hnone
     go_wp2_with (first | (refine wpList_store_row rfl _ _ _ rfl w.heap.size (zeroD.map byteV).toArray rfl rfl 33 z32 HR.out hI32 rfl h1z ?_;rw [setRow_setBlk HR.out]))
     refine bodyPost_ret (v:=.tuple #[digV zeroD,.int .i64 4]) (results_dig (fn:=Tryz.f118) (p:=2) (u:=3) rfl _ _ w.heap.size _ _ rfl HG3.out rfl) rfl ⟨by rw [HNO.out];rfl,HB3.out⟩
    |some n1 =>
     have e1:=hvI_some h1
     have l1:=(hv_inv h1).2
     rw [e1]
     cases h2:hv c2 with
     |none =>
      have hno:P0=none:=HPN.out (unhex_no t (2 * i+1) (by rw [HTL.out];omega) (by rw [HC2.out];exact h2))
      have HNO:=hZ hno
      obtain ⟨HG3,HB3⟩:=hnone _ HB HR
      have e2:=hvI_none h2
      rw [e2]
      clear hno hnone
      go_wp2_with (first | (refine wpList_store_row rfl _ _ _ rfl w.heap.size (zeroD.map byteV).toArray rfl rfl 33 z32 HR.out hI32 rfl h1z ?_;rw [setRow_setBlk HR.out]))
      refine bodyPost_ret (v:=.tuple #[digV zeroD,.int .i64 4]) (results_dig (fn:=Tryz.f118) (p:=2) (u:=3) rfl _ _ w.heap.size _ _ rfl HG3.out rfl) rfl ⟨by rw [HNO.out];rfl,HB3.out⟩
     |some n2 =>
      have e2:=hvI_some h2
      have l2:=(hv_inv h2).2
      rw [e2]
      have q1:nibV t (2 * i)=n1:=by unfold nibV;rw [HC1.out,h1];rfl
      have q2:nibV t (2 * i+1)=n2:=by unfold nibV;rw [HC2.out,h2];rfl
      have S1:Hid ((hv (t.getD (2 * i) 0)).isSome=true):=hZ (by rw [HC1.out,h1];rfl)
      have S2:Hid ((hv (t.getD (2 * i+1) 0)).isSome=true):=hZ (by rw [HC2.out,h2];rfl)
      have Q1:=hZ q1
      have Q2:=hZ q2
      clear q1 q2 h1 h2 e1 e2
      go_wp2_with fail
      refine ⟨⟨i+1,by omega,by rw [Int.natCast_add];rfl,hZ ?_,hZ (HB.out.setCell (p:=⟨w.heap.size+1,i,none⟩) (by show w.heap.size≤w.heap.size+1;omega) _),hZ ((Below.heap_setCell _ _ _ _ (by show w.heap.size≠w.heap.size+1;omega)).trans HR.out),hZ ?_⟩,by simp [intOf];omega⟩
      ·intro j hj
       by_cases hj1:j=2 * i
       ·rw [hj1];exact S1.out
       ·by_cases hj2:j=2 * i+1
        ·rw [hj2];exact S2.out
        ·exact HA.out j (by omega)
      ·have h:=HSET.out
       rw [Q1.out,Q2.out,Int.natCast_add,Int.natCast_mul] at h
       exact h
   ·obtain rfl:i=32:=by omega
    obtain ⟨d,h1,h2,h3⟩:=nibC_all HTL.out HA.out
    have hx2:wr.heap[w.heap.size+1]?=some (.cells (d.map byteV).toArray 33 (0,0)):=by rw [← h3];exact HX.out
    have hI2:(Tryz.prog.info? 33).map (·.size)=some (d.map byteV).toArray.size:=by rw [List.size_toArray,List.length_map,h2];exact hI32
    have hI3:(Tryz.prog.info? 33).map (·.size)=some (d.map byteV).length:=by rw [List.length_map,h2];exact hI32
    have hU:Tryz.prog.underlying 33=some _:=Tryz.underlying33
    have HRG:Hid (wr.rangeAt (w.heap.size+1) 0 (d.map byteV)):=hZ (fun j v hv=>by
     rw [Nat.zero_add,cell_of_heapN hx2,List.getElem?_toArray]
     exact hv)
    have HX3:=hZ hx2
    have HU3:=hZ h1
    have HD:=hZ h2
    clear hx2 h1 h2 h3 hnone
    go_wp2_with (first | refine wpList_load_mid rfl _ _ rfl (w.heap.size+1) 0 rfl (d.map byteV) _ HRG.out hU rfl hI3 ?_)
    refine (refText_any d HD.out _).mono ?_
    rintro e w2 ⟨rfl,hb2⟩
    have HR2:Hid (w2.heap[w.heap.size]?=some (.cells z32 33 (0,0))):=hZ ((hb2.block _ (blk_lt HR.out)).trans HR.out)
    have HRG2:Hid (w2.rangeAt (w.heap.size+1) 0 (d.map byteV)):=hZ (fun j v hv=>by
     rw [Nat.zero_add,cell_of_heapN ((hb2.block _ (blk_lt HX3.out)).trans HX3.out),List.getElem?_toArray]
     exact hv)
    have HB2:=hZ (HB.out.trans (hb2.mono HB.out.size))
    clear hb2
    by_cases hq:textD d=s
    ·have hpd:P0=some d:=by
      rw [← HP.out,← hq]
      exact parseD_textD d HD.out
     have HPD:=hZ hpd
     have hs32:z32.size=(d.map byteV).toArray.size:=show (32:Nat)=(d.map byteV).length by rw [List.length_map,HD.out]
     have h1c:(d.map byteV).toArray.all (·.oneCell')=true:=all_oneCell_toArray fun v hv=>by obtain ⟨x,_,rfl⟩:=List.mem_map.1 hv;rfl
     have HG5:Hid ((setBlk w2 w.heap.size (.cells (d.map byteV).toArray 33 (0,0))).heap[w.heap.size]?=some (.cells (d.map byteV).toArray 33 (0,0))):=hZ (setBlk_heap (blk_lt HR2.out))
     have HB5:Hid (Below w.heap.size w (setBlk w2 w.heap.size (.cells (d.map byteV).toArray 33 (0,0)))):=hZ (HB2.out.setBlk (Nat.le_refl _))
     have HD32:Hid ((d.map byteV).toArray.size=32):=hZ (by rw [List.size_toArray,List.length_map,HD.out])
     have hqb:((textD d).toList == s.toList)=true:=by rw [hq];exact beq_self_eq_true _
     clear hpd hq
     go_wp2_with (first | refine wpList_load_mid rfl _ _ rfl (w.heap.size+1) 0 rfl (d.map byteV) _ HRG2.out hU rfl hI3 ?_ | (refine wpList_store_row rfl _ _ _ rfl w.heap.size (d.map byteV).toArray rfl rfl 33 z32 HR2.out hI2 hs32 h1c ?_;rw [setRow_setBlk HR2.out]))
     refine bodyPost_ret (v:=.tuple #[digV d,.int .i64 0]) (results_dig (fn:=Tryz.f118) (p:=2) (u:=3) rfl _ _ w.heap.size _ _ rfl HG5.out HD32.out) rfl ⟨by rw [HPD.out];rfl,HB5.out⟩
    ·have hno:P0=none:=by
      cases hp:P0 with
      |none=>rfl
      |some d' =>
       have hp2:=HP.out.trans hp
       obtain ⟨g1,g2⟩:=parseD_inv hp2
       have g3:hexB d'=t:=by
        rw [← HT.out,g1]
        show _=(shaHead ++ hexB d').drop 7
        rw [List.drop_append_of_le_length (by decide)]
        rfl
       have g4:unhex t=some d':=by rw [← g3];exact unhex_hexB d'
       rw [HU3.out] at g4
       injection g4 with g5
       exact absurd (by rw [g5,g1]) hq
     have HNO:=hZ hno
     have HG3:Hid ((setBlk w2 w.heap.size (.cells (zeroD.map byteV).toArray 33 (0,0))).heap[w.heap.size]?=some (.cells (zeroD.map byteV).toArray 33 (0,0))):=hZ (setBlk_heap (blk_lt HR2.out))
     have HB3:Hid (Below w.heap.size w (setBlk w2 w.heap.size (.cells (zeroD.map byteV).toArray 33 (0,0)))):=hZ (HB2.out.setBlk (Nat.le_refl _))
     have hqb:((textD d).toList == s.toList)=false:=beq_eq_false_iff_ne.2 (fun h=>hq (by
      cases hs:s
      rw [hs] at h
      rw [Lib.toList_data,Lib.toList_data] at h
      unfold textD at h ⊢
      exact congrArg ByteArray.mk (Array.toList_inj.1 h)))
     clear hno hq
     go_wp2_with (first | (refine wpList_store_row rfl _ _ _ rfl w.heap.size (zeroD.map byteV).toArray rfl rfl 33 z32 HR2.out hI32 rfl h1z ?_;rw [setRow_setBlk HR2.out]))
     refine bodyPost_ret (v:=.tuple #[digV zeroD,.int .i64 4]) (results_dig (fn:=Tryz.f118) (p:=2) (u:=3) rfl _ _ w.heap.size _ _ rfl HG3.out rfl) rfl ⟨by rw [HNO.out];rfl,HB3.out⟩
 ·have hno:P0=none:=by
   rw [← HP.out]
   unfold parseD
   exact if_neg (fun h=>hsz h.2)
  have HNO:=hZ hno
  obtain ⟨HG3,HB3⟩:=hnone W1 HB1 HG1
  have hI71:(((s.size:Nat):Int) != 71)=true:=bne_iff_ne.2 (by omega)
  clear hno hnone
  go_wp2_with (first | (refine wpList_store_row rfl _ _ _ rfl w.heap.size (zeroD.map byteV).toArray rfl rfl 33 z32 HG1.out hI32 rfl h1z ?_;rw [setRow_setBlk HG1.out]))
  refine bodyPost_ret (v:=.tuple #[digV zeroD,.int .i64 4]) (results_dig (fn:=Tryz.f118) (p:=2) (u:=3) rfl _ _ w.heap.size _ _ rfl HG3.out rfl) rfl ⟨by rw [HNO.out];rfl,HB3.out⟩
end Go.Proofs.YtdkedmngeahjiaaGreatDoor
