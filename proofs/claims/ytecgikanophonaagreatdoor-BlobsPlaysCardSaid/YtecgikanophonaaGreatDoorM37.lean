/- Texts of the seat, one behind the other: BlobB, BlobC, BlobD. -/
import Derived.Test.YtecgikanophonaaGreatDoorM34
import Derived.Test.YtecgikanophonaaGreatDoorM36
import Derived.Test.YtecgikanophonaaGreatDoorM12
import Derived.Test.YtecgikanophonaaGreatDoorM16
import Derived.Stop.BytesEq
import Derived.Deep.RegionWith
set_option maxRecDepth 100000
set_option maxHeartbeats 25600000
/- Contracts of blobs' right, Get, Has and Remove. -/
namespace Go.Proofs.YtecgikanophonaaGreatDoor
open Go Go.RowKit
theorem size_u8 (w:World):(Go.sizeOf 5).run Tryz.prog w=.ok 1 w:=by
 obtain ⟨i0,h1,h2⟩:=Option.map_eq_some_iff.1 (show (Tryz.prog.info? 5).map (·.size)=some 1 by kernel_rfl)
 simp [Go.sizeOf,Go.typeInfo,h1,h2,go_sem]
theorem dig_in (w:World) {d e:List UInt8} (hd:d.length=32) (he:e.length=32):(Op.equalIn 10000 33 (.agg (d.map byteV).toArray) (.agg (e.map byteV).toArray)).run Tryz.prog w=.ok (d == e) w :=
 run_equalIn_bytes (P:=Tryz.prog) w 9998 33 5 32 dig_und Tryz.underlying5 size_u8 d e hd he
theorem dig_eql (w:World) {d e:List UInt8} (hd:d.length=32) (he:e.length=32):(binOp .eql 33 (.agg (d.map byteV).toArray) (.agg (e.map byteV).toArray)).run Tryz.prog w=.ok (.bool (d == e)) w :=
 run_eql_bytes w 33 5 32 dig_und Tryz.underlying5 size_u8 d e hd he
theorem RoundsT.belowR {w w':World} (h:RoundsT w) (hb:Below w.heap.size w w'):RoundsT w' :=
 ⟨fun i k hk=>(hb.cell (p:=⟨3,i,none⟩) h.2).trans (h.1 i k hk),Nat.lt_of_lt_of_le h.2 hb.size⟩
def RightPost (m:DM) (x:Int) (nm:ByteArray) (w:World) (e:Ending) (w':World):Prop :=
 (∃ t,e=.returned (.tuple #[.string t,.bool (rightM m x nm).isSome])∧∀ u,rightM m x nm=some u→t=u)∧Below w.heap.size w w'
theorem rightB_any {w:World} {sb a n:Nat} {x:Int} {m:DM} {S:Nat→Prop} (hd:DiskAt w a n m S) (hsb:w.heap[sb]?=some (storeO a x)) (hK:RoundsT w) (nm:ByteArray) (hn:nm.size≤140737488355328) :
  Calls Tryz.prog 35 #[.pointer (some ⟨sb,0,none⟩),.string nm] w (RightPost m x nm w):=by
 have hna:=fun W:World=>named_any nm hn W
 have hrd:=fun W (hb:Below w.heap.size w W)=>read_any (hd.below hb) nm (Nat.le_trans hn (by unfold maxLen;omega))
 have hts:=reads_size hd.ok nm
 have HK0:=hZ hK
 have HSB0:=hZ hsb
 have hev:(m.reads nm).2=0∨(m.reads nm).2≠0:=Classical.em _
 have hrt:∀ D,namedM nm=some D→rightM m x nm=if (m.reads nm).2=0∧shaU x (m.reads nm).1=D then some (m.reads nm).1 else none:=fun D hD=>by unfold rightM;rw [hD]
 have hrn:namedM nm=none→rightM m x nm=none:=fun hD=>by unfold rightM;rw [hD]
 have hdl:=getD_len nm
 generalize namedM nm=O at hna hrt hrn hdl
 generalize (m.reads nm).1=t at hrd hts hrt
 generalize (m.reads nm).2=ex at hrd hev hrt
 have HTS:=hZ (show t.size≤140737488355328 by omega)
 obtain ⟨R,hR⟩:∃ R,rightM m x nm=R:=⟨_,rfl⟩
 unfold RightPost
 rw [hR] at hrt hrn ⊢
 have HRD:=hZ hrd
 clear hsb hK hR hd hrd hts
 cases O with
 |none =>
  obtain rfl:R=none:=hrn rfl
  have hna':∀ W:World,Calls Tryz.prog 77 #[.string nm] W fun e w'=>e=.returned (.tuple #[.agg (zeroD.map byteV).toArray,.bool false])∧Below W.heap.size W w':=hna
  have hI2:=dig_info2 (d:=zeroD) rfl
  have h1:=dig_one zeroD
  have hz:=dig_size (d:=zeroD) rfl
  clear hna hrt hrn hev
  go_enter Tryz.func35,Tryz.ntmps35
  go_wp2_with (first | (go_at_call 77;refine (hna' _).mono ?_;rintro e w2 ⟨rfl,hb2⟩;have HB2:=hZ hb2;clear hb2) | refine wpList_store_new rfl _ _ _ rfl _ (zeroD.map byteV).toArray _ rfl rfl rfl hI2 hz h1 ?_)
  go_ret2
  exact ⟨⟨_,rfl,fun u hu=>by cases hu⟩,HB2.out.alloc HB2.out.size _⟩
 |some D =>
  have hna':∀ W:World,Calls Tryz.prog 77 #[.string nm] W fun e w'=>e=.returned (.tuple #[.agg (D.map byteV).toArray,.bool true])∧Below W.heap.size W w':=hna
  have hdl2:D.length=32:=hdl
  have hI2:=dig_info2 hdl2
  have h1:=dig_one D
  have hz:=dig_size hdl2
  have HDL:=hZ hdl2
  have HRT:=hZ (hrt D rfl)
  clear hna hrt hrn hdl hdl2
  rcases hev with rfl | hex
  ·have hrd2:∀ W,Below w.heap.size w W→Calls Tryz.prog 34 #[.pointer (some ⟨a,0,none⟩),.string nm] W fun e w'=>e=.returned (.tuple #[.string t,.nilIface])∧W=w':=fun W hb=>by
    have h:=HRD.out W hb
    exact h
   go_enter Tryz.func35,Tryz.ntmps35
   go_wp2_with (first | (go_at_call 77;refine (hna' _).mono ?_;rintro e w2 ⟨rfl,hb2⟩;have HB2:=hZ hb2;clear hb2) | refine wpList_store_new rfl _ _ _ rfl _ (D.map byteV).toArray _ rfl rfl rfl hI2 hz h1 ?_;(obtain ⟨W4,hW4⟩:∃ W,w2.alloc (.cells (D.map byteV).toArray 33)=W:=⟨_,rfl⟩;have hb4:Below w2.heap.size w2 W4:=(by rw [← hW4];exact (Below.refl _ _).alloc (Nat.le_refl _) _);have HXD:Hid (W4.heap[w2.heap.size]?=some (.cells (D.map byteV).toArray 33 (0,0))):=hZ (by rw [← hW4];exact heap_new _ _);have HB4:=hZ (HB2.out.trans (hb4.mono HB2.out.size));rw [hW4];have HSB:Hid (W4.heap[sb]?=some (storeO a x)):=hZ ((HB4.out.block sb (blk_lt HSB0.out)).trans HSB0.out);have c0:W4.cell? ⟨sb,0,none⟩=some (.pointer (some ⟨a,0,none⟩)):=(by rw [cell_of_heapN HSB.out];rfl);have HK:=hZ (HK0.out.belowR HB4.out);clear hW4 hb4) | (go_at_call 34;refine (hrd2 _ HB4.out).mono ?_;rintro e w5 ⟨rfl,rfl⟩))
   have hI0:Below W4.heap.size W4 W4.drew:=⟨rfl,rfl,rfl,Nat.le_refl _,fun _ _=>rfl⟩
   refine wp_region_flowG (fun _:Unit=>[.string t,.nilIface,.bool true,.bool true,.pointer (some ⟨sb,0,none⟩),.pointer (some ⟨sb,0,none⟩),.pointer (some ⟨sb,1,none⟩),.int .i64 x,.string t,.agg ((shaU x t).map byteV).toArray,.agg (D.map byteV).toArray,.bool (shaU x t == D),.bool (shaU x t == D),.string t,.bool (shaU x t == D)]) (fun _ _ W=>Below W4.heap.size W4 W)
    [[],[],[1],[2],[3],[4,3],[5,3],[6,3],[3],[7,8,3,3],[3],[9,10,3],[3,11],[0,9,0],[12,13,0,1,2,3,4,5,6,7,8,9,10,11,12,13]] 39 () mixedD rfl (by kernel_rfl) (fun _=>rfl) hI0 ?_ ?_
   ·refine ⟨?_,?_,?_,?_,?_,?_,?_,?_,?_,?_,?_,?_,?_,?_,?_,rfl⟩
    all_goals intro L γ W ev hL hd hW hc hf hg he h0
    ·have e8:ev (.tmp 8)=.string t:=h0 8 rfl
     clear he h0 hc hf hg
     exact flS rfl (by go_simp <;> rfl) (hW) rfl
    ·have e9:ev (.tmp 9)=.nilIface:=h0 9 rfl
     clear he h0 hc hf hg
     exact flS rfl (by go_simp <;> rfl) (hW) rfl
    ·have e27:ev (.tmp 27)=.nilIface:=he 1 (by decide) _ 27 rfl rfl
     have hcc:=hc
     clear he h0 hc hf hg
     exact flS rfl (by go_simp <;> rfl) (hW) rfl
    ·have e28:ev (.tmp 28)=.bool true:=he 2 (by decide) _ 28 rfl rfl
     clear he h0 hc hf hg
     exact flS rfl (by go_simp <;> rfl) (hW) rfl
    ·have e0:ev (.tmp 0)=.pointer (some ⟨sb,0,none⟩):=h0 0 rfl
     clear he h0 hc hf hg
     exact flS rfl (by go_simp <;> rfl) (hW) rfl
    ·have e30:ev (.tmp 30)=.pointer (some ⟨sb,0,none⟩):=he 4 (by decide) _ 30 rfl rfl
     clear he h0 hc hf hg
     exact flS rfl (by go_simp <;> rfl) (hW) rfl
    ·have e31:ev (.tmp 31)=.pointer (some ⟨sb,0,none⟩):=he 5 (by decide) _ 31 rfl rfl
     clear he h0 hc hf hg
     exact flS rfl (by go_simp <;> rfl) (hW) rfl
    ·have e32:ev (.tmp 32)=.pointer (some ⟨sb,1,none⟩):=he 6 (by decide) _ 32 rfl rfl
     have c1:W.cell? ⟨sb,1,none⟩=some (.int .i64 x):=(hW.cell (p:=⟨sb,1,none⟩) (blk_lt HSB.out)).trans (by rw [cell_of_heapN HSB.out];rfl)
     clear he h0 hc hf hg
     exact flS rfl (by go_simp <;> rfl) (hW) rfl
    ·have e8:ev (.tmp 8)=.string t:=h0 8 rfl
     clear he h0 hc hf hg
     exact flS rfl (by go_simp <;> rfl) (hW) rfl
    ·have e33:ev (.tmp 33)=.int .i64 x:=he 7 (by decide) _ 33 rfl rfl
     have e34:ev (.tmp 34)=.string t:=he 8 (by decide) _ 34 rfl rfl
     clear he h0 hc hg
     refine .inl ⟨rfl,.inr (.inr ⟨38,#[.int .i64 x,.string t],W,(by have hff:=hf 38;clear hf;go_simp <;> rfl),?_⟩)⟩
     refine (digest_sum x t W (HK.out.belowR hW) HTS.out).mono ?_
     rintro e w' ⟨rfl,hb⟩
     refine ⟨_,rfl,.still (hW.trans (hb.mono hW.size)) (congrArg (fun l:List Value=>Value.agg l.toArray) (shaL_shaU x t).symm)⟩
    ·have e6:ev (.tmp 6)=.pointer (some ⟨w2.heap.size,0,none⟩):=h0 6 rfl
     clear he h0 hc hg
     have hlv:=run_loadVar_row (P:=Tryz.prog) W w2.heap.size 33 33 (D.map byteV).toArray (0,0) _ ((hW.block _ (blk_lt HXD.out)).trans HXD.out) dig_und rfl (dig_info2 HDL.out)
     refine .inl ⟨rfl,.inl ⟨_,W,?_,.still (hW) rfl⟩⟩
     unfold execOp
     simp only [e6,Instr.loadAt,Instr.sureAddr,Sem.run_bind,Sem.run_pure,Result.andThen_ok,hlv]
     try rfl
    ·have e35:ev (.tmp 35)=.agg ((shaU x t).map byteV).toArray:=he 9 (by decide) _ 35 rfl rfl
     have e36:ev (.tmp 36)=.agg (D.map byteV).toArray:=he 10 (by decide) _ 36 rfl rfl
     clear he h0 hc hg
     have hq:=dig_in W (shaU_len x t) HDL.out
     refine .inl ⟨rfl,.inl ⟨_,W,(by go_simp <;> rfl),.still (hW) rfl⟩⟩
    ·have e29:ev (.tmp 29)=.bool true:=he 3 (by decide) _ 29 rfl rfl
     have e37:ev (.tmp 37)=.bool (shaU x t == D):=he 11 (by decide) _ 37 rfl rfl
     have hcc:=hc
     clear he h0 hc hf hg
     exact flS rfl (by go_simp <;> rfl) (hW) rfl
    ·have e26:ev (.tmp 26)=.string t:=he 0 (by decide) _ 26 rfl rfl
     clear he h0 hc hf hg
     exact flS rfl (by go_simp <;> rfl) (hW) rfl
    ·have e38:ev (.tmp 38)=.bool (shaU x t == D):=he 12 (by decide) _ 38 rfl rfl
     clear he h0 hc hf hg
     exact flS rfl (by go_simp <;> rfl) (hW) rfl
   intro γ L W hL hW
   have HB5:=hZ (HB4.out.trans (hW.mono HB4.out.size))
   clear hL hW
   simp only [putAll,Act.put,List.setIfInBounds_toArray,List.set_cons_succ,List.set_cons_zero]
   go_wp2_with fail
   go_ret2
   refine ⟨⟨t,?_,fun u hu=>?_⟩,HB5.out⟩
   ·have e1:(R.isSome:Bool)=(shaU x t == D):=by
     rw [HRT.out]
     by_cases hs:shaU x t=D
     ·rw [if_pos ⟨by trivial,hs⟩,hs];simp
     ·rw [if_neg (fun h=>hs h.2)];simp [hs]
    rw [e1]
    rfl
   ·rw [HRT.out] at hu
    split at hu
    ·exact Option.some.inj hu
    ·cases hu
  ·have hrd2:∀ W,Below w.heap.size w W→Calls Tryz.prog 34 #[.pointer (some ⟨a,0,none⟩),.string nm] W fun e w'=>e=.returned (.tuple #[.string t,.iface 76 (.int .i64 ex)])∧W=w':=fun W hb=>by
    have h:=HRD.out W hb
    rw [show errE ex=.iface 76 (.int .i64 ex) from if_neg hex] at h
    exact h
   go_enter Tryz.func35,Tryz.ntmps35
   go_wp2_with (first | (go_at_call 77;refine (hna' _).mono ?_;rintro e w2 ⟨rfl,hb2⟩;have HB2:=hZ hb2;clear hb2) | refine wpList_store_new rfl _ _ _ rfl _ (D.map byteV).toArray _ rfl rfl rfl hI2 hz h1 ?_;(obtain ⟨W4,hW4⟩:∃ W,w2.alloc (.cells (D.map byteV).toArray 33)=W:=⟨_,rfl⟩;have hb4:Below w2.heap.size w2 W4:=(by rw [← hW4];exact (Below.refl _ _).alloc (Nat.le_refl _) _);have HXD:Hid (W4.heap[w2.heap.size]?=some (.cells (D.map byteV).toArray 33 (0,0))):=hZ (by rw [← hW4];exact heap_new _ _);have HB4:=hZ (HB2.out.trans (hb4.mono HB2.out.size));rw [hW4];have HSB:Hid (W4.heap[sb]?=some (storeO a x)):=hZ ((HB4.out.block sb (blk_lt HSB0.out)).trans HSB0.out);have c0:W4.cell? ⟨sb,0,none⟩=some (.pointer (some ⟨a,0,none⟩)):=(by rw [cell_of_heapN HSB.out];rfl);have HK:=hZ (HK0.out.belowR HB4.out);clear hW4 hb4) | (go_at_call 34;refine (hrd2 _ HB4.out).mono ?_;rintro e w5 ⟨rfl,rfl⟩))
   have hI0:Below W4.heap.size W4 W4.drew:=⟨rfl,rfl,rfl,Nat.le_refl _,fun _ _=>rfl⟩
   refine wp_region_flowG (fun _:Unit=>[.string t,.iface 76 (.int .i64 ex),.bool false,.bool false,undef,undef,undef,undef,undef,undef,undef,undef,.bool false,.string t,.bool false]) (fun _ _ W=>Below W4.heap.size W4 W)
    [[],[],[1],[2],[3],[4,3],[5,3],[6,3],[3],[7,8,3,3],[3],[9,10,3],[3,11],[0,9,0],[12,13,0,1,2,3,4,5,6,7,8,9,10,11,12,13]] 39 () mixedD rfl (by kernel_rfl) (fun _=>rfl) hI0 ?_ ?_
   ·refine ⟨?_,?_,?_,?_,?_,?_,?_,?_,?_,?_,?_,?_,?_,?_,?_,rfl⟩
    all_goals intro L γ W ev hL hd hW hc hf hg he h0
    ·have e8:ev (.tmp 8)=.string t:=h0 8 rfl
     clear he h0 hc hf hg
     exact flS rfl (by go_simp <;> rfl) (hW) rfl
    ·have e9:ev (.tmp 9)=.iface 76 (.int .i64 ex):=h0 9 rfl
     clear he h0 hc hf hg
     exact flS rfl (by go_simp <;> rfl) (hW) rfl
    ·have e27:ev (.tmp 27)=.iface 76 (.int .i64 ex):=he 1 (by decide) _ 27 rfl rfl
     have hcc:=hc
     clear he h0 hc hf hg
     exact flS rfl (by go_simp <;> rfl) (hW) rfl
    ·have e28:ev (.tmp 28)=.bool false:=he 2 (by decide) _ 28 rfl rfl
     clear he h0 hc hf hg
     exact flS rfl (by go_simp <;> rfl) (hW) rfl
    ·exact .inr ⟨rfl,.still (hW) rfl⟩
    ·exact .inr ⟨rfl,.still (hW) rfl⟩
    ·exact .inr ⟨rfl,.still (hW) rfl⟩
    ·exact .inr ⟨rfl,.still (hW) rfl⟩
    ·exact .inr ⟨rfl,.still (hW) rfl⟩
    ·exact .inr ⟨rfl,.still (hW) rfl⟩
    ·exact .inr ⟨rfl,.still (hW) rfl⟩
    ·exact .inr ⟨rfl,.still (hW) rfl⟩
    ·have e29:ev (.tmp 29)=.bool false:=he 3 (by decide) _ 29 rfl rfl
     have e37:ev (.tmp 37)=undef:=he 11 (by decide) _ 37 rfl rfl
     have hcc:=hc
     clear he h0 hc hf hg
     exact flS rfl (by go_simp <;> rfl) (hW) rfl
    ·have e26:ev (.tmp 26)=.string t:=he 0 (by decide) _ 26 rfl rfl
     clear he h0 hc hf hg
     exact flS rfl (by go_simp <;> rfl) (hW) rfl
    ·have e38:ev (.tmp 38)=.bool false:=he 12 (by decide) _ 38 rfl rfl
     clear he h0 hc hf hg
     exact flS rfl (by go_simp <;> rfl) (hW) rfl
   intro γ L W hL hW
   have HB5:=hZ (HB4.out.trans (hW.mono HB4.out.size))
   clear hL hW
   simp only [putAll,Act.put,List.setIfInBounds_toArray,List.set_cons_succ,List.set_cons_zero]
   go_wp2_with fail
   go_ret2
   have e1:R=none:=by rw [HRT.out];exact if_neg (fun h=>hex h.1)
   refine ⟨⟨t,by rw [e1];rfl,fun u hu=>by rw [e1] at hu;cases hu⟩,HB5.out⟩
end Go.Proofs.YtecgikanophonaaGreatDoor
/- Contracts of blobs' Get and Remove. -/
namespace Go.Proofs.YtecgikanophonaaGreatDoor
open Go Go.RowKit
theorem get_any {w:World} {sb a n:Nat} {x:Int} {m:DM} {S:Nat→Prop} (hd:DiskAt w a n m S) (hsb:w.heap[sb]?=some (storeO a x)) (hK:RoundsT w) (D:List UInt8) (hD:D.length=32) :
  Calls Tryz.prog 12 #[.pointer (some ⟨sb,0,none⟩),digV D] w fun e w'=>e=.returned (.tuple #[.string (getM m x D).1,errE (getM m x D).2])∧Below w.heap.size w w':=by
 have hfi:=fun W:World=>file_any D hD W
 have hfs:(fileN D).size≤maxLen:=by rw [fileN_size,hD];decide
 have hrd0:=fun W (hb:Below w.heap.size w W)=>read_any (hd.below hb) (fileN D) hfs
 have hts:=reads_size hd.ok (fileN D)
 have hG:getM m x D=if (m.reads (fileN D)).2≠0 then (⟨#[]⟩,(m.reads (fileN D)).2) else if shaU x (m.reads (fileN D)).1=D then ((m.reads (fileN D)).1,0) else (⟨#[]⟩,30):=rfl
 generalize getM m x D=G at hG ⊢
 generalize (m.reads (fileN D)).1=t at hrd0 hts hG
 generalize (m.reads (fileN D)).2=ex at hrd0 hG
 generalize fileN D=F at hfi hrd0
 have HTS:=hZ (show t.size≤140737488355328 by omega)
 have HDL:=hZ hD
 have HGG:=hZ hG
 unfold digV at hfi ⊢
 have HFI:=hZ hfi
 obtain ⟨W1,hW1⟩:∃ W,w.alloc (.cells (D.map byteV).toArray 33)=W:=⟨_,rfl⟩
 have HXD:Hid (W1.heap[w.heap.size]?=some (.cells (D.map byteV).toArray 33 (0,0))):=hZ (by rw [← hW1];exact heap_new _ _)
 have HB1:Hid (Below w.heap.size w W1):=hZ (by rw [← hW1];exact (Below.refl _ _).alloc (Nat.le_refl _) _)
 have HSB:Hid (W1.heap[sb]?=some (storeO a x)):=hZ ((HB1.out.block sb (blk_lt hsb)).trans hsb)
 have HK0:=hZ hK
 clear hfi hD hG hd hsb hK hts hfs
 by_cases hex:ex=0
 ·subst hex
  have hrd:∀ W,Below w.heap.size w W→Calls Tryz.prog 34 #[.pointer (some ⟨a,0,none⟩),.string F] W fun e w'=>e=.returned (.tuple #[.string t,.nilIface])∧W=w':=hrd0
  clear hrd0
  go_enter Tryz.func12,Tryz.ntmps12
  go_wp2_with fail
  clear hW1
  have hI0:Below W1.heap.size W1 W1.drew:=⟨rfl,rfl,rfl,Nat.le_refl _,fun _ _=>rfl⟩
  refine wp_region_flowG (fun _:Unit=>[.pointer (some ⟨sb,0,none⟩),.pointer (some ⟨sb,0,none⟩),.pointer (some ⟨sb,0,none⟩),.pointer (some ⟨a,0,none⟩),.agg (D.map byteV).toArray,.string F,.tuple #[.string t,.nilIface],.tuple #[.string t,.nilIface],.string t,.nilIface,.string t,.nilIface]) (fun _ _ W=>Below W1.heap.size W1 W)
   [[],[0],[1],[2],[],[4],[3,5,5],[6],[7],[7],[8,6,0,1,2,3,4,5,6,7,8],[9,10,0,1,2,3,4,5,6,7,8,9,10]] 31 () mixedD rfl (by kernel_rfl) (fun _=>rfl) hI0 ?_ ?_
  ·refine ⟨?_,?_,?_,?_,?_,?_,?_,?_,?_,?_,?_,?_,rfl⟩
   all_goals intro L γ W ev hL hd hW hc hf hg he h0
   ·have e0:ev (.tmp 0)=.pointer (some ⟨sb,0,none⟩):=h0 0 rfl
    clear he h0 hc hf hg
    exact flS rfl (by go_simp <;> rfl) (hW) rfl
   ·have e9:ev (.tmp 9)=.pointer (some ⟨sb,0,none⟩):=he 0 (by decide) _ 9 rfl rfl
    clear he h0 hc hf hg
    exact flS rfl (by go_simp <;> rfl) (hW) rfl
   ·have e10:ev (.tmp 10)=.pointer (some ⟨sb,0,none⟩):=he 1 (by decide) _ 10 rfl rfl
    clear he h0 hc hf hg
    exact flS rfl (by go_simp <;> rfl) (hW) rfl
   ·have e11:ev (.tmp 11)=.pointer (some ⟨sb,0,none⟩):=he 2 (by decide) _ 11 rfl rfl
    have c0:W.cell? ⟨sb,0,none⟩=some (.pointer (some ⟨a,0,none⟩)):=(hW.cell (p:=⟨sb,0,none⟩) (blk_lt HSB.out)).trans (by rw [cell_of_heapN HSB.out];rfl)
    clear he h0 hc hf hg
    exact flS rfl (by go_simp <;> rfl) (hW) rfl
   ·have e3:ev (.tmp 3)=.pointer (some ⟨w.heap.size,0,none⟩):=h0 3 rfl
    clear he h0 hc hg
    have hlv:=run_loadVar_row (P:=Tryz.prog) W w.heap.size 33 33 (D.map byteV).toArray (0,0) _ ((hW.block _ (blk_lt HXD.out)).trans HXD.out) dig_und rfl (dig_info2 HDL.out)
    refine .inl ⟨rfl,.inl ⟨_,W,?_,.still (hW) rfl⟩⟩
    unfold execOp
    simp only [e3,Instr.loadAt,Instr.sureAddr,Sem.run_bind,Sem.run_pure,Result.andThen_ok,hlv]
    try rfl
   ·have e13:ev (.tmp 13)=.agg (D.map byteV).toArray:=he 4 (by decide) _ 13 rfl rfl
    clear he h0 hc hg
    refine .inl ⟨rfl,.inr (.inr ⟨39,#[.agg (D.map byteV).toArray],W,(by have hff:=hf 39;clear hf;go_simp <;> rfl),?_⟩)⟩
    refine (HFI.out W).mono ?_
    rintro e w' ⟨rfl,hb⟩
    exact ⟨_,rfl,.still (hW.trans (hb.mono hW.size)) rfl⟩
   ·have e12:ev (.tmp 12)=.pointer (some ⟨a,0,none⟩):=he 3 (by decide) _ 12 rfl rfl
    have e14:ev (.tmp 14)=.string F:=he 5 (by decide) _ 14 rfl rfl
    clear he h0 hc hg
    refine .inl ⟨rfl,.inr (.inr ⟨34,#[.pointer (some ⟨a,0,none⟩),.string F],W,(by have hff:=hf 34;clear hf;go_simp <;> rfl),?_⟩)⟩
    refine (hrd W (HB1.out.trans (hW.mono HB1.out.size))).mono ?_
    rintro e w' ⟨rfl,rfl⟩
    exact ⟨_,rfl,.still hW rfl⟩
   ·have e15:ev (.tmp 15)=.tuple #[.string t,.nilIface]:=he 6 (by decide) _ 15 rfl rfl
    clear he h0 hc hf hg
    exact flS rfl (by go_simp <;> rfl) (hW) rfl
   ·have e8:ev (.tmp 8)=.tuple #[.string t,.nilIface]:=he 7 (by decide) _ 8 rfl rfl
    clear he h0 hc hf hg
    exact flS rfl (by go_simp <;> rfl) (hW) rfl
   ·have e8:ev (.tmp 8)=.tuple #[.string t,.nilIface]:=he 7 (by decide) _ 8 rfl rfl
    clear he h0 hc hf hg
    exact flS rfl (by go_simp <;> rfl) (hW) rfl
   ·have e16:ev (.tmp 16)=.string t:=he 8 (by decide) _ 16 rfl rfl
    clear he h0 hc hf hg
    exact flS rfl (by go_simp <;> rfl) (hW) rfl
   ·have e17:ev (.tmp 17)=.nilIface:=he 9 (by decide) _ 17 rfl rfl
    clear he h0 hc hf hg
    exact flS rfl (by go_simp <;> rfl) (hW) rfl
  intro γ L W2 hL hW
  have HB2:=hZ (HB1.out.trans (hW.mono HB1.out.size))
  have HXD2:Hid (W2.heap[w.heap.size]?=some (.cells (D.map byteV).toArray 33 (0,0))):=hZ ((hW.block _ (blk_lt HXD.out)).trans HXD.out)
  have HSB2:Hid (W2.heap[sb]?=some (storeO a x)):=hZ ((hW.block sb (blk_lt HSB.out)).trans HSB.out)
  clear hL hW
  simp only [putAll,Act.put,List.setIfInBounds_toArray,List.set_cons_succ,List.set_cons_zero]
  go_wp2_with fail
  have HK2:=hZ (HK0.out.belowR HB2.out)
  have hI0:Below W2.heap.size W2 W2.drew:=⟨rfl,rfl,rfl,Nat.le_refl _,fun _ _=>rfl⟩
  refine wp_region_flowG (fun _:Unit=>[.pointer (some ⟨sb,0,none⟩),.pointer (some ⟨sb,0,none⟩),.pointer (some ⟨sb,1,none⟩),.int .i64 x,.string t,.agg ((shaU x t).map byteV).toArray,.agg (D.map byteV).toArray,.bool (!(shaU x t == D))]) (fun _ _ W=>Below W2.heap.size W2 W)
   [[],[0],[1],[2],[],[3,4],[],[5,6]] 31 () mixedD rfl (by kernel_rfl) (fun _=>rfl) hI0 ?_ ?_
  ·refine ⟨?_,?_,?_,?_,?_,?_,?_,?_,rfl⟩
   all_goals intro L γ W ev hL hd hW hc hf hg he h0
   ·have e0:ev (.tmp 0)=.pointer (some ⟨sb,0,none⟩):=h0 0 rfl
    clear he h0 hc hf hg
    exact flS rfl (by go_simp <;> rfl) (hW) rfl
   ·have e21:ev (.tmp 21)=.pointer (some ⟨sb,0,none⟩):=he 0 (by decide) _ 21 rfl rfl
    clear he h0 hc hf hg
    exact flS rfl (by go_simp <;> rfl) (hW) rfl
   ·have e22:ev (.tmp 22)=.pointer (some ⟨sb,0,none⟩):=he 1 (by decide) _ 22 rfl rfl
    clear he h0 hc hf hg
    exact flS rfl (by go_simp <;> rfl) (hW) rfl
   ·have e23:ev (.tmp 23)=.pointer (some ⟨sb,1,none⟩):=he 2 (by decide) _ 23 rfl rfl
    have c1:W.cell? ⟨sb,1,none⟩=some (.int .i64 x):=(hW.cell (p:=⟨sb,1,none⟩) (blk_lt HSB2.out)).trans (by rw [cell_of_heapN HSB2.out];rfl)
    clear he h0 hc hf hg
    exact flS rfl (by go_simp <;> rfl) (hW) rfl
   ·have e6:ev (.tmp 6)=.string t:=h0 6 rfl
    clear he h0 hc hf hg
    exact flS rfl (by go_simp <;> rfl) (hW) rfl
   ·have e24:ev (.tmp 24)=.int .i64 x:=he 3 (by decide) _ 24 rfl rfl
    have e25:ev (.tmp 25)=.string t:=he 4 (by decide) _ 25 rfl rfl
    clear he h0 hc hg
    refine .inl ⟨rfl,.inr (.inr ⟨38,#[.int .i64 x,.string t],W,(by have hff:=hf 38;clear hf;go_simp <;> rfl),?_⟩)⟩
    refine (digest_sum x t W (HK2.out.belowR hW) HTS.out).mono ?_
    rintro e w' ⟨rfl,hb⟩
    refine ⟨_,rfl,.still (hW.trans (hb.mono hW.size)) (congrArg (fun l:List Value=>Value.agg l.toArray) (shaL_shaU x t).symm)⟩
   ·have e3:ev (.tmp 3)=.pointer (some ⟨w.heap.size,0,none⟩):=h0 3 rfl
    clear he h0 hc hg
    have hlv:=run_loadVar_row (P:=Tryz.prog) W w.heap.size 33 33 (D.map byteV).toArray (0,0) _ ((hW.block _ (blk_lt HXD2.out)).trans HXD2.out) dig_und rfl (dig_info2 HDL.out)
    refine .inl ⟨rfl,.inl ⟨_,W,?_,.still (hW) rfl⟩⟩
    unfold execOp
    simp only [e3,Instr.loadAt,Instr.sureAddr,Sem.run_bind,Sem.run_pure,Result.andThen_ok,hlv]
    try rfl
   ·have e26:ev (.tmp 26)=.agg ((shaU x t).map byteV).toArray:=he 5 (by decide) _ 26 rfl rfl
    have e27:ev (.tmp 27)=.agg (D.map byteV).toArray:=he 6 (by decide) _ 27 rfl rfl
    clear he h0 hc hg
    have hq:=dig_in W (shaU_len x t) HDL.out
    refine .inl ⟨rfl,.inl ⟨_,W,(by go_simp <;> rfl),.still (hW) rfl⟩⟩
  intro γ L W3 hL hW
  have HB3:=hZ (HB2.out.trans (hW.mono HB2.out.size))
  clear hL hW
  simp only [putAll,Act.put,List.setIfInBounds_toArray,List.set_cons_succ,List.set_cons_zero]
  by_cases hs:shaU x t=D
  ·have hq:(shaU x t == D)=true:=by rw [hs];simp
   rw [hq]
   go_wp2_with fail
   go_ret2
   exact ⟨by rw [HGG.out,if_neg (fun h=>h rfl),if_pos hs];rfl,HB3.out⟩
  ·have hq:(shaU x t == D)=false:=by simp [hs]
   rw [hq]
   go_wp2_with fail
   go_ret2
   exact ⟨by rw [HGG.out,if_neg (fun h=>h rfl),if_neg hs];rfl,HB3.out⟩
 ·have hrd:∀ W,Below w.heap.size w W→Calls Tryz.prog 34 #[.pointer (some ⟨a,0,none⟩),.string F] W fun e w'=>e=.returned (.tuple #[.string t,.iface 76 (.int .i64 ex)])∧W=w':=fun W hb=>by
   have h:=hrd0 W hb
   rw [show errE ex=.iface 76 (.int .i64 ex) from if_neg hex] at h
   exact h
  have HEX:=hZ hex
  clear hrd0 hex
  go_enter Tryz.func12,Tryz.ntmps12
  go_wp2_with fail
  clear hW1
  have hI0:Below W1.heap.size W1 W1.drew:=⟨rfl,rfl,rfl,Nat.le_refl _,fun _ _=>rfl⟩
  refine wp_region_flowG (fun _:Unit=>[.pointer (some ⟨sb,0,none⟩),.pointer (some ⟨sb,0,none⟩),.pointer (some ⟨sb,0,none⟩),.pointer (some ⟨a,0,none⟩),.agg (D.map byteV).toArray,.string F,.tuple #[.string t,.iface 76 (.int .i64 ex)],.tuple #[.string t,.iface 76 (.int .i64 ex)],.string t,.iface 76 (.int .i64 ex),.string t,.iface 76 (.int .i64 ex)]) (fun _ _ W=>Below W1.heap.size W1 W)
   [[],[0],[1],[2],[],[4],[3,5,5],[6],[7],[7],[8,6,0,1,2,3,4,5,6,7,8],[9,10,0,1,2,3,4,5,6,7,8,9,10]] 31 () mixedD rfl (by kernel_rfl) (fun _=>rfl) hI0 ?_ ?_
  ·refine ⟨?_,?_,?_,?_,?_,?_,?_,?_,?_,?_,?_,?_,rfl⟩
   all_goals intro L γ W ev hL hd hW hc hf hg he h0
   ·have e0:ev (.tmp 0)=.pointer (some ⟨sb,0,none⟩):=h0 0 rfl
    clear he h0 hc hf hg
    exact flS rfl (by go_simp <;> rfl) (hW) rfl
   ·have e9:ev (.tmp 9)=.pointer (some ⟨sb,0,none⟩):=he 0 (by decide) _ 9 rfl rfl
    clear he h0 hc hf hg
    exact flS rfl (by go_simp <;> rfl) (hW) rfl
   ·have e10:ev (.tmp 10)=.pointer (some ⟨sb,0,none⟩):=he 1 (by decide) _ 10 rfl rfl
    clear he h0 hc hf hg
    exact flS rfl (by go_simp <;> rfl) (hW) rfl
   ·have e11:ev (.tmp 11)=.pointer (some ⟨sb,0,none⟩):=he 2 (by decide) _ 11 rfl rfl
    have c0:W.cell? ⟨sb,0,none⟩=some (.pointer (some ⟨a,0,none⟩)):=(hW.cell (p:=⟨sb,0,none⟩) (blk_lt HSB.out)).trans (by rw [cell_of_heapN HSB.out];rfl)
    clear he h0 hc hf hg
    exact flS rfl (by go_simp <;> rfl) (hW) rfl
   ·have e3:ev (.tmp 3)=.pointer (some ⟨w.heap.size,0,none⟩):=h0 3 rfl
    clear he h0 hc hg
    have hlv:=run_loadVar_row (P:=Tryz.prog) W w.heap.size 33 33 (D.map byteV).toArray (0,0) _ ((hW.block _ (blk_lt HXD.out)).trans HXD.out) dig_und rfl (dig_info2 HDL.out)
    refine .inl ⟨rfl,.inl ⟨_,W,?_,.still (hW) rfl⟩⟩
    unfold execOp
    simp only [e3,Instr.loadAt,Instr.sureAddr,Sem.run_bind,Sem.run_pure,Result.andThen_ok,hlv]
    try rfl
   ·have e13:ev (.tmp 13)=.agg (D.map byteV).toArray:=he 4 (by decide) _ 13 rfl rfl
    clear he h0 hc hg
    refine .inl ⟨rfl,.inr (.inr ⟨39,#[.agg (D.map byteV).toArray],W,(by have hff:=hf 39;clear hf;go_simp <;> rfl),?_⟩)⟩
    refine (HFI.out W).mono ?_
    rintro e w' ⟨rfl,hb⟩
    exact ⟨_,rfl,.still (hW.trans (hb.mono hW.size)) rfl⟩
   ·have e12:ev (.tmp 12)=.pointer (some ⟨a,0,none⟩):=he 3 (by decide) _ 12 rfl rfl
    have e14:ev (.tmp 14)=.string F:=he 5 (by decide) _ 14 rfl rfl
    clear he h0 hc hg
    refine .inl ⟨rfl,.inr (.inr ⟨34,#[.pointer (some ⟨a,0,none⟩),.string F],W,(by have hff:=hf 34;clear hf;go_simp <;> rfl),?_⟩)⟩
    refine (hrd W (HB1.out.trans (hW.mono HB1.out.size))).mono ?_
    rintro e w' ⟨rfl,rfl⟩
    exact ⟨_,rfl,.still hW rfl⟩
   ·have e15:ev (.tmp 15)=.tuple #[.string t,.iface 76 (.int .i64 ex)]:=he 6 (by decide) _ 15 rfl rfl
    clear he h0 hc hf hg
    exact flS rfl (by go_simp <;> rfl) (hW) rfl
   ·have e8:ev (.tmp 8)=.tuple #[.string t,.iface 76 (.int .i64 ex)]:=he 7 (by decide) _ 8 rfl rfl
    clear he h0 hc hf hg
    exact flS rfl (by go_simp <;> rfl) (hW) rfl
   ·have e8:ev (.tmp 8)=.tuple #[.string t,.iface 76 (.int .i64 ex)]:=he 7 (by decide) _ 8 rfl rfl
    clear he h0 hc hf hg
    exact flS rfl (by go_simp <;> rfl) (hW) rfl
   ·have e16:ev (.tmp 16)=.string t:=he 8 (by decide) _ 16 rfl rfl
    clear he h0 hc hf hg
    exact flS rfl (by go_simp <;> rfl) (hW) rfl
   ·have e17:ev (.tmp 17)=.iface 76 (.int .i64 ex):=he 9 (by decide) _ 17 rfl rfl
    clear he h0 hc hf hg
    exact flS rfl (by go_simp <;> rfl) (hW) rfl
  intro γ L W2 hL hW
  have HB2:=hZ (HB1.out.trans (hW.mono HB1.out.size))
  have HXD2:Hid (W2.heap[w.heap.size]?=some (.cells (D.map byteV).toArray 33 (0,0))):=hZ ((hW.block _ (blk_lt HXD.out)).trans HXD.out)
  have HSB2:Hid (W2.heap[sb]?=some (storeO a x)):=hZ ((hW.block sb (blk_lt HSB.out)).trans HSB.out)
  clear hL hW
  simp only [putAll,Act.put,List.setIfInBounds_toArray,List.set_cons_succ,List.set_cons_zero]
  go_wp2_with fail
  go_ret2
  exact ⟨by rw [HGG.out,if_pos HEX.out];show _=Ending.returned (.tuple #[.string ⟨#[]⟩,errE ex]);rw [show errE ex=.iface 76 (.int .i64 ex) from if_neg HEX.out];rfl,HB2.out⟩
structure Sto (w:World) (S P:Nat→Prop) (sb a:Nat) (x:Int) (w1:World) (n:Nat) (m:DM):Prop where
 st:St w S P a w1 n m
 box:w1.heap[sb]?=some (storeO a x)
 pb:P sb
 rnd:RoundsT w1
 pr:P 3
theorem RoundsT.same {w w':World} (h:RoundsT w) (hb:w'.heap[3]?=w.heap[3]?) (hz:3 < w'.heap.size):RoundsT w' :=
 ⟨fun i k hk=>(cell_of_heap hb).trans (h.1 i k hk),hz⟩
theorem Sto.step {w:World} {S P:Nat→Prop} {sb a:Nat} {x:Int} {w1 w2:World} {n n':Nat} {m m':DM} (h:Sto w S P sb a x w1 n m) (hs:St w S P a w2 n' m') (hk:SameP P w1 w2):Sto w S P sb a x w2 n' m' :=
 ⟨hs,(hk sb h.pb).trans h.box,h.pb,h.rnd.same (hk _ h.pr) (hs.pl _ h.pr),h.pr⟩
structure RemW (w:World) (S P:Nat→Prop) (a n':Nat) (m':DM) (W1:World) (L:Nat→Bool) (_:Unit) (W:World):Prop where
 lo:L 6=false→Below W1.heap.size W1 W
 hi:L 6=true→St w S P a W n' m'∧SameP P W1 W
 dep:L 6=true→L 3=true∧L 4=true∧L 5=true
 dep5:L 5=true→L 4=true
section
variable {w:World} {S P:Nat→Prop} {a n':Nat} {m':DM} {W1 W W':World} {L:Nat→Bool} {γ:Unit}
theorem RemW.upd {i:Nat} (h:RemW w S P a n' m' W1 L γ W) (h6:i≠6) (h5:i≠5) (_:i=i):RemW w S P a n' m' W1 (updL L i) γ W:=by
 have e6:updL L i 6=L 6:=updL_ne (fun e=>h6 e.symm)
 have e5:updL L i 5=L 5:=updL_ne (fun e=>h5 e.symm)
 refine ⟨fun e=>h.lo (e6 ▸ e),fun e=>h.hi (e6 ▸ e),fun e=>?_,fun e=>updL_keep (h.dep5 (e5 ▸ e))⟩
 obtain ⟨h3,h4,h5⟩:=h.dep (e6 ▸ e)
 exact ⟨updL_keep h3,updL_keep h4,updL_keep h5⟩
theorem RemW.no3 (h:RemW w S P a n' m' W1 L γ W) (h3:L 3=false):L 6=false:=by
 cases e:L 6 with
 |false=>rfl
 |true=>have:=(h.dep e).1;rw [h3] at this;cases this
theorem RemW.no4 (h:RemW w S P a n' m' W1 L γ W) (h3:L 4=false):L 6=false:=by
 cases e:L 6 with
 |false=>rfl
 |true=>have:=(h.dep e).2.1;rw [h3] at this;cases this
theorem RemW.no5 (h:RemW w S P a n' m' W1 L γ W) (h3:L 5=false):L 6=false:=by
 cases e:L 6 with
 |false=>rfl
 |true=>have:=(h.dep e).2.2;rw [h3] at this;cases this
theorem RemW.grew (h:RemW w S P a n' m' W1 L γ W) (hb:Below W.heap.size W W') (h6:L 6=false) (h4:L 4=true):RemW w S P a n' m' W1 (updL L 5) γ W':=by
 have e6:updL L 5 6=L 6:=updL_ne (by decide)
 have hB:=h.lo h6
 exact ⟨fun _=>hB.trans (hb.mono hB.size),fun e=>(by rw [e6,h6] at e;cases e),fun e=>(by rw [e6,h6] at e;cases e),fun _=>updL_keep h4⟩
theorem RemW.did (h:RemW w S P a n' m' W1 L γ W) (h3:L 3=true) (h5:L 5=true) (hs:St w S P a W' n' m') (hk:SameP P W1 W'):RemW w S P a n' m' W1 (updL L 6) γ W' :=
 ⟨fun e=>(by rw [updL_self] at e;cases e),fun _=>⟨hs,hk⟩,fun _=>⟨updL_keep h3,updL_keep (h.dep5 h5),updL_keep h5⟩,fun _=>updL_keep (h.dep5 h5)⟩
end
theorem take_any {w w1:World} {S P:Nat→Prop} {sb a n:Nat} {x:Int} {m:DM} (h:Sto w S P sb a x w1 n m) (hn:n+2≤4000000000) (D:List UInt8) (hD:D.length=32) :
  Calls Tryz.prog 15 #[.pointer (some ⟨sb,0,none⟩),digV D] w1 fun e w'=>e=.returned (errE (takeM m D).2)∧St w S P a w' (n+2) (takeM m D).1∧SameP P w1 w':=by
 have hfi:=fun W:World=>file_any D hD W
 have hfs:(fileN D).size≤maxLen:=by rw [fileN_size,hD];decide
 have hT:takeM m D=seqM (m.op (.remove (fileN D))) fun m=>m.op .flush:=rfl
 rw [hT]
 clear hT
 generalize fileN D=F at hfi hfs ⊢
 have HFS:=hZ hfs
 have HDL:=hZ hD
 unfold digV at hfi ⊢
 have HFI:=hZ hfi
 obtain ⟨W1,hW1⟩:∃ W,w1.alloc (.cells (D.map byteV).toArray 33)=W:=⟨_,rfl⟩
 have HXD:Hid (W1.heap[w1.heap.size]?=some (.cells (D.map byteV).toArray 33 (0,0))):=hZ (by rw [← hW1];exact heap_new _ _)
 have hb1:Below w1.heap.size w1 W1:=by rw [← hW1];exact (Below.refl _ _).alloc (Nat.le_refl _) _
 have HST:=hZ (h.st.bel hb1 P (fun b hb=>.inl hb))
 have HSM:=hZ (h.st.same hb1)
 have HSB:Hid (W1.heap[sb]?=some (storeO a x)):=hZ ((hb1.block sb (blk_lt h.box)).trans h.box)
 have HPB:=hZ h.pb
 clear hfi hD h hb1 hfs
 by_cases hex:(m.op (.remove F)).2=0
 ·have HEV:Hid (errE (m.op (.remove F)).2=.nilIface):=hZ (by rw [hex];rfl)
  have hop:m.op (.remove F)=((m.op (.remove F)).1,0):=by rw [← hex]
  have HOP:=hZ hop
  clear hex hop
  go_enter Tryz.func15,Tryz.ntmps15
  go_wp2_with fail
  clear hW1
  have hI0:RemW w S P a (n+1) (m.op (.remove F)).1 W1 (fun _=>false) () W1.drew:=⟨fun _=>⟨rfl,rfl,rfl,Nat.le_refl _,fun _ _=>rfl⟩,fun h=>(by cases h),fun h=>(by cases h),fun h=>(by cases h)⟩
  refine wp_region_flowG (fun _:Unit=>[.pointer (some ⟨sb,0,none⟩),.pointer (some ⟨sb,0,none⟩),.pointer (some ⟨sb,0,none⟩),.pointer (some ⟨a,0,none⟩),.agg (D.map byteV).toArray,.string F,.nilIface,.nilIface]) (RemW w S P a (n+1) (m.op (.remove F)).1 W1)
   [[],[0],[1],[2],[],[4],[3,5,5],[6,6,0,1,2,3,4,5,6]] 21 () mixedD rfl (by kernel_rfl) (fun _=>rfl) hI0 ?_ ?_
  ·refine ⟨?_,?_,?_,?_,?_,?_,?_,?_,rfl⟩
   all_goals intro L γ W ev hL hd hW hc hf hg he h0
   ·have e0:ev (.tmp 0)=.pointer (some ⟨sb,0,none⟩):=h0 0 rfl
    clear he h0 hc hf hg
    exact flS rfl (by go_simp <;> rfl) (hW.upd (by decide) (by decide) (by decide)) rfl
   ·have e6:ev (.tmp 6)=.pointer (some ⟨sb,0,none⟩):=he 0 (by decide) _ 6 rfl rfl
    clear he h0 hc hf hg
    exact flS rfl (by go_simp <;> rfl) (hW.upd (by decide) (by decide) (by decide)) rfl
   ·have e7:ev (.tmp 7)=.pointer (some ⟨sb,0,none⟩):=he 1 (by decide) _ 7 rfl rfl
    clear he h0 hc hf hg
    exact flS rfl (by go_simp <;> rfl) (hW.upd (by decide) (by decide) (by decide)) rfl
   ·have e8:ev (.tmp 8)=.pointer (some ⟨sb,0,none⟩):=he 2 (by decide) _ 8 rfl rfl
    have hB:=hW.lo (hW.no3 hL)
    have c0:W.cell? ⟨sb,0,none⟩=some (.pointer (some ⟨a,0,none⟩)):=(hB.cell (p:=⟨sb,0,none⟩) (blk_lt HSB.out)).trans (by rw [cell_of_heapN HSB.out];rfl)
    clear he h0 hc hf hg
    exact flS rfl (by go_simp <;> rfl) (hW.upd (by decide) (by decide) (by decide)) rfl
   ·have e3:ev (.tmp 3)=.pointer (some ⟨w1.heap.size,0,none⟩):=h0 3 rfl
    clear he h0 hc hg
    have hB:=hW.lo (hW.no4 hL)
    have hlv:=run_loadVar_row (P:=Tryz.prog) W w1.heap.size 33 33 (D.map byteV).toArray (0,0) _ ((hB.block _ (blk_lt HXD.out)).trans HXD.out) dig_und rfl (dig_info2 HDL.out)
    refine .inl ⟨rfl,.inl ⟨_,W,?_,.still (hW.upd (by decide) (by decide) (by decide)) rfl⟩⟩
    unfold execOp
    simp only [e3,Instr.loadAt,Instr.sureAddr,Sem.run_bind,Sem.run_pure,Result.andThen_ok,hlv]
    try rfl
   ·have e10:ev (.tmp 10)=.agg (D.map byteV).toArray:=he 4 (by decide) _ 10 rfl rfl
    clear he h0 hc hg
    refine .inl ⟨rfl,.inr (.inr ⟨39,#[.agg (D.map byteV).toArray],W,(by have hff:=hf 39;clear hf;go_simp <;> rfl),?_⟩)⟩
    refine (HFI.out W).mono ?_
    rintro e w' ⟨rfl,hb⟩
    exact ⟨_,rfl,.still (hW.grew hb (hW.no5 hL) (hd 4 (by decide))) rfl⟩
   ·have e9:ev (.tmp 9)=.pointer (some ⟨a,0,none⟩):=he 3 (by decide) _ 9 rfl rfl
    have e11:ev (.tmp 11)=.string F:=he 5 (by decide) _ 11 rfl rfl
    clear he h0 hc hg
    have hB:=hW.lo hL
    have hst:=HST.out.bel hB P (fun b hb=>.inl hb)
    refine .inl ⟨rfl,.inr (.inr ⟨36,#[.pointer (some ⟨a,0,none⟩),.string F],W,(by have hff:=hf 36;clear hf;go_simp <;> rfl),?_⟩)⟩
    refine (st_remove hst F HFS.out (by omega)).mono ?_
    rintro e w' ⟨rfl,h2,h3⟩
    exact ⟨_,rfl,.still (hW.did (hd 3 (by decide)) (hd 5 (by decide)) h2 (fun b hb=>(h3 b hb).trans (HST.out.same hB b hb))) HEV.out.symm⟩
   ·have e12:ev (.tmp 12)=.nilIface:=he 6 (by decide) _ 12 rfl rfl
    clear he h0 hc hf hg
    exact flS rfl (by go_simp <;> rfl) (hW.upd (by decide) (by decide) (by decide)) rfl
  intro γ L W2 hL hW
  obtain ⟨hst2,hsm2⟩:=hW.hi (hL 6 (by decide))
  have HST2:=hZ hst2
  have HSM2:=hZ hsm2
  clear hL hW hst2 hsm2
  simp only [putAll,Act.put,List.setIfInBounds_toArray,List.set_cons_succ,List.set_cons_zero]
  have c0:W2.cell? ⟨sb,0,none⟩=some (.pointer (some ⟨a,0,none⟩)):=by rw [cell_of_heapN ((HSM2.out sb HPB.out).trans HSB.out)];rfl
  go_wp2_with (go_at_call 37;refine (st_flush HST2.out (by omega)).mono ?_;rintro e w3 ⟨rfl,hst3,hsm3⟩;have HST3:=hZ hst3;have HSM3:=hZ hsm3;clear hst3 hsm3)
  go_ret
  rw [seqM_ok _ HOP.out]
  exact ⟨rfl,HST3.out,fun b hb=>(HSM3.out b hb).trans ((HSM2.out b hb).trans (HSM.out b hb))⟩
 ·obtain ⟨ex,hxx⟩:∃ ex,(m.op (.remove F)).2=ex:=⟨_,rfl⟩
  rw [hxx] at hex
  have HEV:Hid (errE (m.op (.remove F)).2=.iface 76 (.int .i64 ex)):=hZ (by rw [hxx];exact if_neg hex)
  have hop:m.op (.remove F)=((m.op (.remove F)).1,ex):=by rw [← hxx]
  have HOP:=hZ hop
  have HEX:=hZ hex
  clear hex hop hxx
  go_enter Tryz.func15,Tryz.ntmps15
  go_wp2_with fail
  clear hW1
  have hI0:RemW w S P a (n+1) (m.op (.remove F)).1 W1 (fun _=>false) () W1.drew:=⟨fun _=>⟨rfl,rfl,rfl,Nat.le_refl _,fun _ _=>rfl⟩,fun h=>(by cases h),fun h=>(by cases h),fun h=>(by cases h)⟩
  refine wp_region_flowG (fun _:Unit=>[.pointer (some ⟨sb,0,none⟩),.pointer (some ⟨sb,0,none⟩),.pointer (some ⟨sb,0,none⟩),.pointer (some ⟨a,0,none⟩),.agg (D.map byteV).toArray,.string F,.iface 76 (.int .i64 ex),.iface 76 (.int .i64 ex)]) (RemW w S P a (n+1) (m.op (.remove F)).1 W1)
   [[],[0],[1],[2],[],[4],[3,5,5],[6,6,0,1,2,3,4,5,6]] 21 () mixedD rfl (by kernel_rfl) (fun _=>rfl) hI0 ?_ ?_
  ·refine ⟨?_,?_,?_,?_,?_,?_,?_,?_,rfl⟩
   all_goals intro L γ W ev hL hd hW hc hf hg he h0
   ·have e0:ev (.tmp 0)=.pointer (some ⟨sb,0,none⟩):=h0 0 rfl
    clear he h0 hc hf hg
    exact flS rfl (by go_simp <;> rfl) (hW.upd (by decide) (by decide) (by decide)) rfl
   ·have e6:ev (.tmp 6)=.pointer (some ⟨sb,0,none⟩):=he 0 (by decide) _ 6 rfl rfl
    clear he h0 hc hf hg
    exact flS rfl (by go_simp <;> rfl) (hW.upd (by decide) (by decide) (by decide)) rfl
   ·have e7:ev (.tmp 7)=.pointer (some ⟨sb,0,none⟩):=he 1 (by decide) _ 7 rfl rfl
    clear he h0 hc hf hg
    exact flS rfl (by go_simp <;> rfl) (hW.upd (by decide) (by decide) (by decide)) rfl
   ·have e8:ev (.tmp 8)=.pointer (some ⟨sb,0,none⟩):=he 2 (by decide) _ 8 rfl rfl
    have hB:=hW.lo (hW.no3 hL)
    have c0:W.cell? ⟨sb,0,none⟩=some (.pointer (some ⟨a,0,none⟩)):=(hB.cell (p:=⟨sb,0,none⟩) (blk_lt HSB.out)).trans (by rw [cell_of_heapN HSB.out];rfl)
    clear he h0 hc hf hg
    exact flS rfl (by go_simp <;> rfl) (hW.upd (by decide) (by decide) (by decide)) rfl
   ·have e3:ev (.tmp 3)=.pointer (some ⟨w1.heap.size,0,none⟩):=h0 3 rfl
    clear he h0 hc hg
    have hB:=hW.lo (hW.no4 hL)
    have hlv:=run_loadVar_row (P:=Tryz.prog) W w1.heap.size 33 33 (D.map byteV).toArray (0,0) _ ((hB.block _ (blk_lt HXD.out)).trans HXD.out) dig_und rfl (dig_info2 HDL.out)
    refine .inl ⟨rfl,.inl ⟨_,W,?_,.still (hW.upd (by decide) (by decide) (by decide)) rfl⟩⟩
    unfold execOp
    simp only [e3,Instr.loadAt,Instr.sureAddr,Sem.run_bind,Sem.run_pure,Result.andThen_ok,hlv]
    try rfl
   ·have e10:ev (.tmp 10)=.agg (D.map byteV).toArray:=he 4 (by decide) _ 10 rfl rfl
    clear he h0 hc hg
    refine .inl ⟨rfl,.inr (.inr ⟨39,#[.agg (D.map byteV).toArray],W,(by have hff:=hf 39;clear hf;go_simp <;> rfl),?_⟩)⟩
    refine (HFI.out W).mono ?_
    rintro e w' ⟨rfl,hb⟩
    exact ⟨_,rfl,.still (hW.grew hb (hW.no5 hL) (hd 4 (by decide))) rfl⟩
   ·have e9:ev (.tmp 9)=.pointer (some ⟨a,0,none⟩):=he 3 (by decide) _ 9 rfl rfl
    have e11:ev (.tmp 11)=.string F:=he 5 (by decide) _ 11 rfl rfl
    clear he h0 hc hg
    have hB:=hW.lo hL
    have hst:=HST.out.bel hB P (fun b hb=>.inl hb)
    refine .inl ⟨rfl,.inr (.inr ⟨36,#[.pointer (some ⟨a,0,none⟩),.string F],W,(by have hff:=hf 36;clear hf;go_simp <;> rfl),?_⟩)⟩
    refine (st_remove hst F HFS.out (by omega)).mono ?_
    rintro e w' ⟨rfl,h2,h3⟩
    exact ⟨_,rfl,.still (hW.did (hd 3 (by decide)) (hd 5 (by decide)) h2 (fun b hb=>(h3 b hb).trans (HST.out.same hB b hb))) HEV.out.symm⟩
   ·have e12:ev (.tmp 12)=.iface 76 (.int .i64 ex):=he 6 (by decide) _ 12 rfl rfl
    clear he h0 hc hf hg
    exact flS rfl (by go_simp <;> rfl) (hW.upd (by decide) (by decide) (by decide)) rfl
  intro γ L W2 hL hW
  obtain ⟨hst2,hsm2⟩:=hW.hi (hL 6 (by decide))
  have HST2:=hZ hst2
  have HSM2:=hZ hsm2
  clear hL hW hst2 hsm2
  simp only [putAll,Act.put,List.setIfInBounds_toArray,List.set_cons_succ,List.set_cons_zero]
  go_wp2_with fail
  go_ret
  rw [seqM_no _ HOP.out HEX.out]
  exact ⟨congrArg Ending.returned (if_neg HEX.out).symm,HST2.out.more (by omega),fun b hb=>(HSM2.out b hb).trans (HSM.out b hb)⟩
end Go.Proofs.YtecgikanophonaaGreatDoor
/- Contracts of errors.Is at an error or none, of blobs' Has, and of what lay defers. -/
namespace Go.Proofs.YtecgikanophonaaGreatDoor
open Go Go.RowKit
theorem nil_iface (v:Value) (w:World):(binOp .eql 26 .nilIface (.iface 76 v)).run Tryz.prog w=.ok (.bool false) w:=by
 have h:∀ d:Nat,(Op.equalIn (d+1) 26 .nilIface (.iface 76 v)).run Tryz.prog w=.ok false w:=fun d=>by
  simp [Op.equalIn,run_underlying Tryz.underlying26]
 simp only [binOp]
 simp [Op.equal,Op.maxDepth,h 9999]
theorem is_nilE (k:Int) (w:World) :
  Calls Tryz.prog 44 #[.nilIface,errV k] w fun e w'=>e=.returned (.bool false)∧w=w':=by
 unfold errV
 have hq:=nil_iface (.int .i64 k) w
 go_enter Tryz.func44,Tryz.ntmps44
 go_wp2_with fail
 go_ret
 exact ⟨rfl,rfl⟩
theorem is_E (n k:Int) (hk:k≠0) (w:World) :
  Calls Tryz.prog 44 #[errE n,errV k] w fun e w'=>e=.returned (.bool (n == k))∧w=w':=by
 unfold errE
 split
 ·rename_i h
  refine (is_nilE k w).mono ?_
  rintro e w' ⟨rfl,hw⟩
  refine ⟨?_,hw⟩
  have:(n == k)=false:=by
   rw [h]
   exact beq_eq_false_iff_ne.2 (fun e=>hk e.symm)
  rw [this]
 ·exact is_errno n k w
theorem has_any {w:World} {sb a n:Nat} {x:Int} {m:DM} {S:Nat→Prop} (hd:DiskAt w a n m S) (hsb:w.heap[sb]?=some (storeO a x)) (hK:RoundsT w) (D:List UInt8) (hD:D.length=32) :
  Calls Tryz.prog 16 #[.pointer (some ⟨sb,0,none⟩),digV D] w fun e w'=>e=.returned (.tuple #[.bool (hasM m x D).1,errE (hasM m x D).2])∧Below w.heap.size w w':=by
 have hga:=fun W (hb:Below w.heap.size w W)=>get_any (hd.below hb) ((hb.block sb (blk_lt hsb)).trans hsb) (hK.belowR hb) D hD
 have hH:hasM m x D=if (getM m x D).2=10∨(getM m x D).2=30 then (false,0) else ((getM m x D).2=0,(getM m x D).2):=rfl
 rw [hH]
 clear hH
 generalize (getM m x D).1=t at hga
 generalize (getM m x D).2=ex at hga ⊢
 have hI:=dig_info hD
 have hU:=dig_und
 have HRG:=hZ (dig_range (heap_new w (.cells (D.map byteV).toArray 33)))
 have HB:=hZ ((Below.refl w.heap.size w).alloc (Nat.le_refl _) (.cells (D.map byteV).toArray 33))
 have hga2:=hga _ HB.out
 unfold digV at hga2 ⊢
 clear hga hd hsb hK hD
 have H10:=fun W=>is_E ex 10 (by decide) W
 have H30:=fun W=>is_E ex 30 (by decide) W
 by_cases h0:ex=0
 ·subst h0
  rw [show errE 0=.nilIface from rfl] at hga2
  have h10:∀ W:World,Calls Tryz.prog 44 #[.nilIface,.iface 76 (.int .i64 10)] W fun e w'=>e=.returned (.bool false)∧W=w':=H10
  have h30:∀ W:World,Calls Tryz.prog 44 #[.nilIface,.iface 76 (.int .i64 30)] W fun e w'=>e=.returned (.bool false)∧W=w':=H30
  clear H10 H30
  go_enter Tryz.func16,Tryz.ntmps16
  go_wp2_with (first | refine wpList_load_mid rfl _ _ rfl w.heap.size 0 rfl (D.map byteV) _ HRG.out hU rfl hI ?_ | (go_at_call 12;refine hga2.mono ?_;rintro e w2 ⟨rfl,hb2⟩;have HB2:=hZ (HB.out.trans (hb2.mono (by rw [World.size_alloc];omega)));clear hb2 hga2) | (go_at_call_of 44 (Value.int .i64 (10:Int));refine (h10 _).mono ?_;rintro e w3 ⟨rfl,rfl⟩) | (go_at_call_of 44 (Value.int .i64 (30:Int));refine (h30 _).mono ?_;rintro e w3 ⟨rfl,rfl⟩))
  go_ret2
  exact ⟨rfl,HB2.out⟩
 ·have hv:errE ex=.iface 76 (.int .i64 ex):=if_neg h0
  rw [hv] at hga2 H10 H30
  have HV:=hZ hv
  have H0:=hZ h0
  clear hv
  by_cases ha:ex=10
  ·subst ha
   have h10:∀ W:World,Calls Tryz.prog 44 #[.iface 76 (.int .i64 10),.iface 76 (.int .i64 10)] W fun e w'=>e=.returned (.bool true)∧W=w':=H10
   have h30:∀ W:World,Calls Tryz.prog 44 #[.iface 76 (.int .i64 10),.iface 76 (.int .i64 30)] W fun e w'=>e=.returned (.bool false)∧W=w':=H30
   clear H10 H30
   clear h0
   go_enter Tryz.func16,Tryz.ntmps16
   go_wp2_with (first | refine wpList_load_mid rfl _ _ rfl w.heap.size 0 rfl (D.map byteV) _ HRG.out hU rfl hI ?_ | (go_at_call 12;refine hga2.mono ?_;rintro e w2 ⟨rfl,hb2⟩;have HB2:=hZ (HB.out.trans (hb2.mono (by rw [World.size_alloc];omega)));clear hb2 hga2) | (go_at_call_of 44 (Value.int .i64 (10:Int));refine (h10 _).mono ?_;rintro e w3 ⟨rfl,rfl⟩) | (go_at_call_of 44 (Value.int .i64 (30:Int));refine (h30 _).mono ?_;rintro e w3 ⟨rfl,rfl⟩))
   go_ret2
   exact ⟨rfl,HB2.out⟩
  ·by_cases hb:ex=30
   ·subst hb
    have h10:∀ W:World,Calls Tryz.prog 44 #[.iface 76 (.int .i64 30),.iface 76 (.int .i64 10)] W fun e w'=>e=.returned (.bool false)∧W=w':=H10
    have h30:∀ W:World,Calls Tryz.prog 44 #[.iface 76 (.int .i64 30),.iface 76 (.int .i64 30)] W fun e w'=>e=.returned (.bool true)∧W=w':=H30
    clear H10 H30
    clear h0 ha
    go_enter Tryz.func16,Tryz.ntmps16
    go_wp2_with (first | refine wpList_load_mid rfl _ _ rfl w.heap.size 0 rfl (D.map byteV) _ HRG.out hU rfl hI ?_ | (go_at_call 12;refine hga2.mono ?_;rintro e w2 ⟨rfl,hb2⟩;have HB2:=hZ (HB.out.trans (hb2.mono (by rw [World.size_alloc];omega)));clear hb2 hga2) | (go_at_call_of 44 (Value.int .i64 (10:Int));refine (h10 _).mono ?_;rintro e w3 ⟨rfl,rfl⟩) | (go_at_call_of 44 (Value.int .i64 (30:Int));refine (h30 _).mono ?_;rintro e w3 ⟨rfl,rfl⟩))
    go_ret2
    exact ⟨rfl,HB2.out⟩
   ·rw [show (ex == 10)=false from beq_eq_false_iff_ne.2 ha] at H10
    rw [show (ex == 30)=false from beq_eq_false_iff_ne.2 hb] at H30
    have HN:=hZ (show ¬ (ex=10∨ex=30) from fun h=>h.elim ha hb)
    have h10:∀ W:World,Calls Tryz.prog 44 #[.iface 76 (.int .i64 ex),.iface 76 (.int .i64 10)] W fun e w'=>e=.returned (.bool false)∧W=w':=H10
    have h30:∀ W:World,Calls Tryz.prog 44 #[.iface 76 (.int .i64 ex),.iface 76 (.int .i64 30)] W fun e w'=>e=.returned (.bool false)∧W=w':=H30
    clear H10 H30
    clear h0 ha hb
    go_enter Tryz.func16,Tryz.ntmps16
    go_wp2_with (first | refine wpList_load_mid rfl _ _ rfl w.heap.size 0 rfl (D.map byteV) _ HRG.out hU rfl hI ?_ | (go_at_call 12;refine hga2.mono ?_;rintro e w2 ⟨rfl,hb2⟩;have HB2:=hZ (HB.out.trans (hb2.mono (by rw [World.size_alloc];omega)));clear hb2 hga2) | (go_at_call_of 44 (Value.int .i64 (10:Int));refine (h10 _).mono ?_;rintro e w3 ⟨rfl,rfl⟩) | (go_at_call_of 44 (Value.int .i64 (30:Int));refine (h30 _).mono ?_;rintro e w3 ⟨rfl,rfl⟩))
    go_ret2
    refine ⟨?_,HB2.out⟩
    try rw [if_neg HN.out]
    show _=Ending.returned (.tuple #[.bool (decide (ex=0)),errE ex])
    rw [HV.out,decide_eq_false H0.out]
    rfl
theorem StPost.eq {w w1 w':World} {S P:Nat→Prop} {a n:Nat} {m m':DM} {c:DCall} {e:Ending} {y:Int} {v:Value} (hp:StPost w S P a w1 n m c e w') (he:m.op c=(m',y)) (hv:errE y=v):e=.returned v∧St w S P a w' (n+1) m'∧SameP P w1 w':=by
 unfold StPost at hp
 rw [he,hv] at hp
 exact hp
theorem op_no28 (m:DM) (c:DCall) (hc:∀ n s,c≠.write n s):(m.op c).2≠28:=by
 unfold DM.op
 split
 ·show (27:Int)≠28
  decide
 split
 ·show m.refused c≠28
  cases c with
  |write n s=>exact absurd rfl (hc n s)
  |create n=>rw [refused_create];split <;> (try split) <;> decide
  |sync n=>rw [refused_sync];split <;> decide
  |rename o n=>rw [refused_rename];split <;> (try split) <;> decide
  |remove n=>rw [refused_remove];split <;> decide
  |flush=>show (0:Int)≠28;decide
 split
 ·show (27:Int)≠28
  decide
 ·show (0:Int)≠28
  decide
structure LayW (w1:World) (w:World) (S P:Nat→Prop) (sb a:Nat) (x:Int) (W:World) (n:Nat) (m:DM) (v:Value):Prop where
 sto:Sto w S (fun b=>P b∨b=w1.heap.size∨b=w1.heap.size+1) sb a x W n m
 b0:W.heap[w1.heap.size]?=some (.cells #[.pointer (some ⟨sb,0,none⟩)] 24 (0,0))
 b1:W.heap[w1.heap.size+1]?=some (.cells #[v] 26 (0,0))
 sm:SameP P w1 W
 pl:∀ b,P b→b < w1.heap.size
 le:w.heap.size≤w1.heap.size
section
variable {w1 w W W':World} {S P:Nat→Prop} {sb a n n':Nat} {x:Int} {m m':DM} {v:Value}
theorem LayW.step (h:LayW w1 w S P sb a x W n m v) (hs:St w S (fun b=>P b∨b=w1.heap.size∨b=w1.heap.size+1) a W' n' m') (hk:SameP (fun b=>P b∨b=w1.heap.size∨b=w1.heap.size+1) W W'):LayW w1 w S P sb a x W' n' m' v :=
 ⟨h.sto.step hs hk,(hk _ (.inr (.inl rfl))).trans h.b0,(hk _ (.inr (.inr rfl))).trans h.b1,fun b hb=>(hk b (.inl hb)).trans (h.sm b hb),h.pl,h.le⟩
theorem LayW.set (h:LayW w1 w S P sb a x W n m v) (hne:sb < w1.heap.size) (hr:3 < w1.heap.size) (u:Value):LayW w1 w S P sb a x (W.setCell ⟨w1.heap.size+1,0,none⟩ u) n m u:=by
 have hle:=h.le
 have ho:∀ b,b≠w1.heap.size+1→(W.setCell ⟨w1.heap.size+1,0,none⟩ u).heap[b]?=W.heap[b]?:=fun b hb=>Below.heap_setCell _ _ _ _ hb
 refine ⟨⟨h.sto.st.setBox (by omega) (.inr (.inr rfl)) u,(ho _ (by omega)).trans h.sto.box,h.sto.pb,h.sto.rnd.same (ho _ (by omega)) (by rw [World.size_setCell];exact h.sto.rnd.2),h.sto.pr⟩,(ho _ (by omega)).trans h.b0,?_,fun b hb=>(ho b (by have:=h.pl b hb;omega)).trans (h.sm b hb),h.pl,h.le⟩
 rw [setCell_blk h.b1,setBlk_heap (blk_lt h.b1)]
 rfl
theorem LayW.cells (h:LayW w1 w S P sb a x W n m v):W.cell? ⟨w1.heap.size,0,none⟩=some (.pointer (some ⟨sb,0,none⟩))∧W.cell? ⟨sb,0,none⟩=some (.pointer (some ⟨a,0,none⟩))∧W.cell? ⟨w1.heap.size+1,0,none⟩=some v∧W.frozen? ⟨w1.heap.size+1,0,none⟩=false :=
 ⟨cell_of_heapN h.b0,cell_of_heapN h.sto.box,cell_of_heapN h.b1,frozen_blk h.b1⟩
theorem LayW.fin (h:LayW w1 w S P sb a x W n m v) {k:Nat} (hk:n≤k):St w S P a W k m∧SameP P w1 W:=⟨(h.sto.st.sub P (fun b hb=>.inl hb)).more hk,h.sm⟩
end
theorem layDef_no {w1 w W:World} {S P:Nat→Prop} {sb a n:Nat} {x:Int} {m:DM} (y:Int) (h:LayW w1 w S P sb a x W n m (errE y)) (hy:y≠28) (u:FrameMode) :
  CallsD Tryz.prog 90 #[.pointer (some ⟨w1.heap.size+1,0,none⟩),.pointer (some ⟨w1.heap.size,0,none⟩)] u W fun e u' w'=>u'=u∧(e=.returned (.tuple #[])∧w'=W):=by
 obtain ⟨c0,c1,c2,f2⟩:=h.cells
 have h28:=fun W=>is_E y 28 (by decide) W
 rw [show (y == 28)=false from beq_eq_false_iff_ne.2 hy] at h28
 clear h
 generalize errE y=v at h28 c2
 unfold errV at h28
 go_enter_d Tryz.func90,Tryz.ntmps90
 go_wp2_with (go_at_call 44;refine (h28 _).mono ?_;rintro e w3 ⟨rfl,rfl⟩)
 go_end0
 exact ⟨rfl,rfl⟩
theorem layDef_yes {w1 w W:World} {S P:Nat→Prop} {sb a n:Nat} {x:Int} {m:DM} (h:LayW w1 w S P sb a x W n m (errE 28)) (hn:n+2≤4000000000) (u:FrameMode) :
  CallsD Tryz.prog 90 #[.pointer (some ⟨w1.heap.size+1,0,none⟩),.pointer (some ⟨w1.heap.size,0,none⟩)] u W fun e u' w'=>u'=u∧(e=.returned (.tuple #[])∧LayW w1 w S P sb a x w' (n+2) ((m.op (.remove handN)).1.op .flush).1 (errE 28)):=by
 obtain ⟨c0,c1,c2,f2⟩:=h.cells
 have h28:=fun W=>is_E 28 28 (by decide) W
 have HL:=hZ h
 clear h
 rw [show errE 28=.iface 76 (.int .i64 28) from rfl] at h28 c2
 unfold errV at h28
 have hrm:=fun W' (hs:St w S (fun b=>P b∨b=w1.heap.size∨b=w1.heap.size+1) a W' n m)=>st_remove hs handN (by decide) (by omega)
 unfold handN at hrm
 go_enter_d Tryz.func90,Tryz.ntmps90
 go_wp2_with (first | (go_at_call 44;refine (h28 _).mono ?_;rintro e w3 ⟨rfl,rfl⟩) | (go_at_call 36;refine (hrm _ HL.out.sto.st).mono ?_;rintro e w4 ⟨rfl,hs4,hk4⟩;have HL4:=hZ (HL.out.step hs4 hk4);obtain ⟨d0,d1,d2,g2⟩:=HL4.out.cells;clear hs4 hk4) | (go_at_call 37;refine (st_flush HL4.out.sto.st (by omega)).mono ?_;rintro e w5 ⟨rfl,hs5,hk5⟩;have HL5:=hZ (HL4.out.step hs5 hk5);clear hs5 hk5))
 go_end0
 exact ⟨rfl,HL5.out⟩
end Go.Proofs.YtecgikanophonaaGreatDoor
