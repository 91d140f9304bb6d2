import Derived.Test.YtdkedmngeahjiaaGreatDoorM1
import Derived.Test.YtdkedmngeahjiaaGreatDoorShelf
import Derived.Test.YtdkedmngeahjiaaGreatDoorM15
import Derived.Test.YtdkedmngeahjiaaGreatDoorM3
import Derived.Lib.FrozenHead2
import Derived.Lib.OthersKept
set_option maxRecDepth 100000
set_option maxHeartbeats 25600000
namespace Go.Proofs.YtdkedmngeahjiaaGreatDoor
open Go Go.RowKit
def Bld(B b:Nat)(l:Bs)(w:World):Prop:=Lib.IsBuilderF 157 5 B b (Lib.byteCells l) w
theorem yV(l m:Bs):Lib.byteCells (l++m)=Lib.byteCells l++Lib.byteCells m:=by simp[Lib.byteCells]
theorem LE(w:World):Bld w.heap.size w.heap.size [] (w.alloc (.cells #[.pointer none,.slice none 0 0] 157)):=
 Lib.IsBuilderF.of (Lib.fresh_isBuilder 157 5 w)
theorem Gv(B b:Nat)(l:Bs)(w:World)(h:Bld B b l w)(hB:B≤w.heap.size):
  Calls Tryz.prog 106 #[.pointer (some ⟨b,0,none⟩)] w fun e w'=>e=.returned (.string ⟨l.toArray⟩)∧Bld B b l w'∧Below B w w'∧Lib.OthersKept 5 (some b) w w':=
 Tryz.Builder_String_any_k B b l w h hB
theorem Kb:(Tryz.prog.info? 157).map (·.size)=some 2:=aE
theorem CM{B b:Nat}{bs:List Value}{w:World}(h:Lib.IsBuilderF 157 5 B b bs w):
  Calls Tryz.prog 150 #[.pointer (some ⟨b,0,none⟩)] w fun e w'=>e=.returned (.tuple #[])∧Lib.BuilderAtF 157 5 B b (.pointer (some ⟨b,0,none⟩)) bs w'∧Below B w w':=by
 obtain⟨j,hj,hjs⟩:=Option.map_eq_some_iff.1 Kb;rcases h with h|h
 ·have h0:=h.cell0;have hsh:=h.shape
  have hfz:=h.frozen0
  have hE:∀W:World,W=w.setCell ⟨b,0,none⟩ (.pointer (some ⟨b,0,none⟩))→Lib.BuilderAtF 157 5 B b (.pointer (some ⟨b,0,none⟩)) bs W∧Below B w W:=fun W hW=>by
   rw[hW];exact⟨h.used _,(Below.refl B w).setCell (p:=⟨b,0,none⟩) h.1 _⟩
  have HE:=hZ hE;clear hE h;go_enter Tryz.func150,Tryz.ntmps150;go_wp2_with fail;rw[Lib.run_to_unsafe w ⟨b,0,none⟩ Tryz.underlying154 Tryz.underlying134 hj (by rw[hjs];decide) hsh (Nat.zero_lt_succ 1)];simp only[Result.andThen];rw[Oper.upon_value];go_wp2_with fail;rw[run_callFunc_extern Tryz.func173 aE aE aE (e:=Extern.AbiNoEscape.same) aE];rw[Lib.run_noEscape];simp only[Result.andThen];rw[Oper.upon_value];go_wp2_with fail;rw[Lib.run_from_unsafe w ⟨b,0,none⟩ Tryz.underlying134 Tryz.underlying154 hj hsh aE];simp only[Result.andThen];rw[Oper.upon_value];go_wp2_with fail;exact bodyPost_end (fn:=Tryz.f150) (v:=.tuple #[]) (results_none rfl _ _ _) rfl ⟨rfl,HE.out _ rfl⟩
 ·have h0:=h.cell0;have HE:=hZ h
  clear h;go_enter Tryz.func150,Tryz.ntmps150;go_wp2_with fail;rw[Lib.run_neq_ptr_same w _ Tryz.underlying154 hj];go_wp2_with fail;go_end0;exact⟨rfl,HE.out,Below.refl _ _⟩
theorem EL(B b:Nat)(l:Bs)(c:UInt8)(w:World)(h:Bld B b l w)(hlen:l.length+1≤140737488355328)(hB:B≤w.heap.size):
  Calls Tryz.prog 105 #[.pointer (some ⟨b,0,none⟩),.int .u8 c.toNat] w fun e w'=>e=.returned .nilIface∧Bld B b (l++[c]) w'∧Below B w w':=by
 obtain⟨i0,hi,hz0,hz1,hz2⟩:=info_parts Ip;have hc:=CM h
 have hbl:(Lib.byteCells l).length=l.length:=Lib.byteCells_length l;generalize hbs:Lib.byteCells l=bs at hc hbl;have HBS:=hZ hbs
 have HBL:=hZ hbl;clear hbs h hbl;go_enter Tryz.func105,Tryz.ntmps105;go_wp2_with fail;refine hc.mono ?_;rintro e w1 ⟨rfl,⟨hB1,v,hbk,hown,hne⟩,hb1⟩;have c1:w1.cell? ⟨b,1,none⟩=some v:=lF hbk
 have hlt:=lH hbk;have HK:=hZ hbk
 have HO:=hZ hown;have HB1:=hZ hb1
 have HN:=hZ hne;have hz:=hb1.size
 clear hbk hown hb1 hne hc;go_wp2_with (at_builtin;(refine wpList_append_ownF _ rfl _ _ 155 rfl B 5 i0 (.int .u8 0) 1 1 Tryz.underlying155 hi hz0 hz1 hz2 rfl aA _ _ _ rfl (HO.out.kept (World.grownBy_alloc _ _ none) (by cases v.ownBlock<;>simp)) ⟨w1.heap.size,0,none⟩ 1 1 [.int .u8 c.toNat] rfl rfl ?k1 ?k2 ?k3 ?k4 ?k5 ?_))
 case k1=>
  intro j u hj
  match j,hj with
  |0,hj=>cases hj;rw[show((⟨w1.heap.size,0,none⟩:Addr).add 0)=⟨w1.heap.size,0,none⟩ by simp[Addr.add]];exact lF (lP w1 _)
 case k2=>intro u hu;rw[List.mem_singleton.1 hu];rfl
 case k3=>rw[HBL.out];unfold maxLen;omega
 case k4=>rw[HBL.out];omega
 case k5=>rw[World.size_alloc];omega
 intro v' w2 hown' hgrow _
 have hb2:w2.heap[b]?=some (.cells #[.pointer (some ⟨b,0,none⟩),v] 157 (0,0)):=
  (hgrow.block b cO (fun e=>HN.out e.symm)).trans ((Below.heap_alloc w1 _ b hlt).trans HK.out)
 have d1:w2.cell? ⟨b,1,none⟩=some v:=lF hb2;have f1:w2.frozen? ⟨b,1,none⟩=false:=lI hb2
 have HX:=hZ hown';have HB2:=hZ hb2
 have HG:Hid (Below B w w2):=hZ (((HB1.out).alloc aC _).grown hgrow cO (fun k hk=>(HO.out.lt k hk).1))
 obtain⟨g,cap,rfl⟩:∃g cap,v'=.slice (some ⟨g,0,none⟩) (bs.length+1) cap:=by
  rcases hown'.2 with⟨_,h0⟩|⟨g,cap,cur,fz,hv,_⟩
  ·omega
  ·exact⟨g,cap,hv⟩
 clear hown' hgrow hb2;go_wp2_with fail;go_ret;refine⟨rfl,?_,HG.out.setCell (p:=⟨b,1,none⟩) hB1 _⟩;unfold Bld;rw[yV,HBS.out]
 exact .inr (Lib.BuilderAtF.put (T:=157) (e:=5) hB1 HB2.out (bs':=bs++Lib.byteCells [c]) (by
  have h1:(bs++Lib.byteCells [c]).length=bs.length+1:=by rw[List.length_append,Lib.byteCells_length];rfl
  rw[h1];exact HX.out) aA)
theorem IL(B b:Nat)(l:Bs)(s:ByteArray)(w:World)(h:Bld B b l w)(hlen:l.length+s.size≤140737488355328)(hB:B≤w.heap.size):
  Calls Tryz.prog 104 #[.pointer (some ⟨b,0,none⟩),.string s] w fun e w'=>e=.returned (.tuple #[.int .i64 s.size,.nilIface])∧Bld B b (l++s.data.toList) w'∧Below B w w':=by
 obtain⟨i0,hi,hz0,hz1,hz2⟩:=info_parts Ip;have hc:=CM h
 have hbl:(Lib.byteCells l).length=l.length:=Lib.byteCells_length l;generalize hbs:Lib.byteCells l=bs at hc hbl;have HBS:=hZ hbs
 have HBL:=hZ hbl;clear hbs h hbl;go_enter Tryz.func104,Tryz.ntmps104;go_wp2_with fail;refine hc.mono ?_;rintro e w1 ⟨rfl,⟨hB1,v,hbk,hown,hne⟩,hb1⟩;have c1:w1.cell? ⟨b,1,none⟩=some v:=lF hbk
 have hlt:=lH hbk;have HK:=hZ hbk
 have HO:=hZ hown;have HB1:=hZ hb1
 have HN:=hZ hne;have hz:=hb1.size
 clear hbk hown hb1 hne hc;go_wp2_with (at_builtin;refine Lib.wpList_append_own_stringF _ rfl _ _ 155 9 rfl B 5 i0 Tryz.underlying155 Tryz.underlying9 hi hz0 hz1 hz2 _ _ _ rfl HO.out s rfl ?k3 ?k4 ?k5 ?_)
 case k3=>rw[HBL.out];unfold maxLen;omega
 case k4=>rw[HBL.out];omega
 case k5=>omega
 intro v' w2 hown' hgrow _;have hb2:w2.heap[b]?=some (.cells #[.pointer (some ⟨b,0,none⟩),v] 157 (0,0)):=(hgrow.block b hlt (fun e=>HN.out e.symm)).trans HK.out
 have d1:w2.cell? ⟨b,1,none⟩=some v:=lF hb2;have f1:w2.frozen? ⟨b,1,none⟩=false:=lI hb2
 have HX:=hZ hown';have HB2:=hZ hb2
 have HG:Hid (Below B w w2):=hZ (HB1.out.grown hgrow aC (fun k hk=>(HO.out.lt k hk).1))
 obtain⟨ao,n',cap,rfl⟩:∃ao n' cap,v'=.slice ao n' cap:=by
  rcases hown'.2 with⟨hv,_⟩|⟨g,cap,cur,fz,hv,_⟩
  ·exact⟨_,_,_,hv⟩
  ·exact⟨_,_,_,hv⟩
 clear hown' hgrow hb2;go_wp2_with fail;go_ret2;refine⟨rfl,?_,HG.out.setCell (p:=⟨b,1,none⟩) hB1 _⟩;unfold Bld;rw[yV,HBS.out]
 exact .inr (Lib.BuilderAtF.put (T:=157) (e:=5) hB1 HB2.out (bs':=bs++Lib.byteCells s.data.toList) (by
  have h1:(bs++Lib.byteCells s.data.toList).length=bs.length+s.size:=by rw[List.length_append,Lib.byteCells_length,Array.length_toList];rfl
  rw[h1];exact HX.out) aA)
end Go.Proofs.YtdkedmngeahjiaaGreatDoor
