/- Texts of the seat, one behind the other: RefSt, RefRight, RefGet, RefLay, RefPut. -/
import Derived.Test.YtecgikanophonaaGreatDoorM24
import Derived.Test.YtecgikanophonaaGreatDoorRefDig
import Derived.Test.YtecgikanophonaaGreatDoorM37
set_option maxRecDepth 100000
set_option maxHeartbeats 25600000
/- The reference's disk that came in, or one of the call's own, beside blocks that it leaves alone; a reference's store over it. -/
namespace Go.Proofs.YtecgikanophonaaGreatDoor
open Go Go.RowKit Go.Maps Go.Shelf
structure RSt (w:World) (S P:Nat→Prop) (a:Nat) (w1:World) (n:Nat) (m:DM):Prop where
 ex:∃ S1:Nat→Prop,RefAt w1 a n m S1∧∀ b,S1 b→(S b∨w.heap.size≤b)∧¬ P b
 pl:∀ b,P b→b < w1.heap.size
 off:Off S w w1
 sl:∀ b,S b→b < w.heap.size
section
variable {w w1 w2 w':World} {S P:Nat→Prop} {a n n':Nat} {m m':DM}
theorem RSt.ok (h:RSt w S P a w1 n m):m.Ok n:=by
 obtain ⟨⟨S1,h1,h2⟩,-⟩:=h
 exact h1.ok
theorem RSt.more (h:RSt w S P a w1 n m) (hn:n≤n'):RSt w S P a w1 n' m:=by
 obtain ⟨⟨S1,h1,h2⟩,h3,h4,h5⟩:=h
 exact ⟨⟨S1,h1.more hn,h2⟩,h3,h4,h5⟩
theorem RSt.size (h:RSt w S P a w1 n m):w.heap.size≤w1.heap.size:=h.off.size
theorem RSt.bel (h:RSt w S P a w1 n m) (hb:Below w1.heap.size w1 w2) (Q:Nat→Prop) (hQ:∀ b,Q b→P b∨(w1.heap.size≤b∧b < w2.heap.size)):RSt w S Q a w2 n m:=by
 obtain ⟨⟨S1,h1,h2⟩,h3,h4,h5⟩:=h
 refine ⟨⟨S1,h1.below hb,fun b hb1=>⟨(h2 b hb1).1,fun hq=>?_⟩⟩,fun b hb1=>?_,h4.below hb h4.size,h5⟩
 ·rcases hQ b hq with hp | ⟨hp,_⟩
  ·exact (h2 b hb1).2 hp
  ·have:=h1.lt b hb1
   omega
 ·rcases hQ b hb1 with hp | ⟨_,hp⟩
  ·exact Nat.lt_of_lt_of_le (h3 b hp) hb.size
  ·exact hp
theorem RSt.same (h:RSt w S P a w1 n m) (hb:Below w1.heap.size w1 w2):SameP P w1 w2:=fun b hp=>hb.block b (h.pl b hp)
theorem RSt.sub (h:RSt w S P a w1 n m) (Q:Nat→Prop) (hQ:∀ b,Q b→P b):RSt w S Q a w1 n m:=h.bel (Below.refl _ _) Q (fun b hb=>.inl (hQ b hb))
theorem RSt.setBox {k:Nat} (h:RSt w S P a w1 n m) (hk:w.heap.size≤k) (hp:P k) (v:Value):RSt w S P a (w1.setCell ⟨k,0,none⟩ v) n m:=by
 obtain ⟨⟨S1,h1,h2⟩,h3,h4,h5⟩:=h
 exact ⟨⟨S1,h1.frame (fun b hb=>Below.heap_setCell _ _ _ _ (fun e=>(h2 b hb).2 (by have e':b=k:=e;rw [e'];exact hp))) (by rw [World.size_setCell];exact Nat.le_refl _),h2⟩,fun b hb=>by rw [World.size_setCell];exact h3 b hb,h4.setCell _ _ (fun hlt=>by have:k < w.heap.size:=hlt;omega),h5⟩
theorem RSt.setBlk {k:Nat} (h:RSt w S P a w1 n m) (hk:w.heap.size≤k) (hp:P k) (o:Obj):RSt w S P a (Go.Proofs.YtecgikanophonaaGreatDoor.setBlk w1 k o) n m:=by
 obtain ⟨⟨S1,h1,h2⟩,h3,h4,h5⟩:=h
 refine ⟨⟨S1,h1.frame (fun b hb=>?_) (by rw [setBlk_size];exact Nat.le_refl _),h2⟩,fun b hb=>by rw [setBlk_size];exact h3 b hb,h4.setBlk (fun hlt=>by omega),h5⟩
 exact setBlk_other (fun e=>(h2 b hb).2 (by rw [e];exact hp))
theorem RSt.post {S1:Nat→Prop} (h2:∀ b,S1 b→(S b∨w.heap.size≤b)∧¬ P b) (h3:∀ b,P b→b < w1.heap.size) (h4:Off S w w1) (h5:∀ b,S b→b < w.heap.size) (hp:RefPost a n' m' S1 w1 w'):RSt w S P a w' n' m'∧SameP P w1 w':=by
 have hz:=h4.size
 have hz2:=hp.2.size
 refine ⟨⟨⟨_,hp.1,?_⟩,fun b hb=>Nat.lt_of_lt_of_le (h3 b hb) hz2,h4.trans hp.2 (fun i hi hs=>?_),h5⟩,fun b hb=>hp.2.block b (h3 b hb) (fun hs=>(h2 b hs).2 hb)⟩
 ·rintro b (hb | ⟨hb,_⟩)
  ·exact h2 b hb
  ·exact ⟨.inr (by omega),fun hpb=>by have:=h3 b hpb;omega⟩
 ·rcases (h2 i hs).1 with h | h
  ·exact h
  ·omega
end
theorem RoundsR.same {w w':World} (h:RoundsR w) (hb:w'.heap[2]?=w.heap[2]?) (hz:2 < w'.heap.size):RoundsR w' :=
 ⟨fun i k hk=>(cell_of_heap hb).trans (h.1 i k hk),hz⟩
theorem BeginR.same {w w':World} (h:BeginR w) (hb:w'.heap[0]?=w.heap[0]?) (hz:0 < w'.heap.size):BeginR w' :=
 ⟨fun j hj=>(cell_of_heap hb).trans (h.1 j hj),hz⟩
theorem RoundsR.bel {w w':World} (h:RoundsR w) (hb:Below w.heap.size w w'):RoundsR w':=h.same (hb.block _ h.2) (Nat.lt_of_lt_of_le h.2 hb.size)
theorem BeginR.bel {w w':World} (h:BeginR w) (hb:Below w.heap.size w w'):BeginR w':=h.same (hb.block _ h.2) (Nat.lt_of_lt_of_le h.2 hb.size)
def storeR (r:Nat) (x:Int):Obj:=.cells #[.pointer (some ⟨r,0,none⟩),.int .i64 x] 70 (0,0)
structure RSto (w:World) (S P:Nat→Prop) (sb r:Nat) (x:Int) (w1:World) (n:Nat) (m:DM):Prop where
 st:RSt w S P r w1 n m
 box:w1.heap[sb]?=some (storeR r x)
 pb:P sb
 rnd:RoundsR w1
 pr:P 2
 beg:BeginR w1
 pg:P 0
section
variable {w w1 w2:World} {S P:Nat→Prop} {sb r n n':Nat} {x:Int} {m m':DM}
theorem RSto.step (h:RSto w S P sb r x w1 n m) (hs:RSt w S P r w2 n' m') (hk:SameP P w1 w2):RSto w S P sb r x w2 n' m' :=
 ⟨hs,(hk sb h.pb).trans h.box,h.pb,h.rnd.same (hk _ h.pr) (hs.pl _ h.pr),h.pr,h.beg.same (hk _ h.pg) (hs.pl _ h.pg),h.pg⟩
theorem RSto.bel (h:RSto w S P sb r x w1 n m) (hb:Below w1.heap.size w1 w2):RSto w S P sb r x w2 n m:=h.step (h.st.bel hb P (fun b hb=>.inl hb)) (h.st.same hb)
theorem RSto.more (h:RSto w S P sb r x w1 n m) (hb:Below w1.heap.size w1 w2) (Q:Nat→Prop) (hp:∀ b,P b→Q b) (hQ:∀ b,Q b→P b∨(w1.heap.size≤b∧b < w2.heap.size)):RSto w S Q sb r x w2 n m :=
 ⟨h.st.bel hb Q hQ,(hb.block sb (h.st.pl sb h.pb)).trans h.box,hp _ h.pb,h.rnd.bel hb,hp _ h.pr,h.beg.bel hb,hp _ h.pg⟩
def RPost (w:World) (S P:Nat→Prop) (r:Nat) (w1:World) (n:Nat) (m:DM) (c:DCall) (e:Ending) (w':World):Prop:=e=.returned (.int .i64 (m.op c).2)∧RSt w S P r w' (n+1) (m.op c).1∧SameP P w1 w'
theorem rdo_any (h:RSto w S P sb r x w1 n m) (o:ROp) (s:ByteArray) (hk1:1≤o.kind) (hk2:o.kind≤6) (hf:o.file=0) (hn:n≤4000000000) (hs:s.size≤140737488355328) :
  Calls Tryz.prog 65 #[.pointer (some ⟨sb,0,none⟩),.int .i64 o.kind,.string o.old,.string o.name,.string s] w1 (RPost w S P r w1 n m (rcall o s)):=by
 have hbx:=h.box
 unfold storeR at hbx
 have c0:w1.cell? ⟨sb,0,none⟩=some (.pointer (some ⟨r,0,none⟩)):=by rw [cell_of_heapN hbx];rfl
 obtain ⟨⟨S1,h1,h2⟩,h3,h4,h5⟩:=h.st
 have hd:=refDo_any h1 o s hk1 hk2 (room_fit h1.ok hn) (by omega) hs (by rw [hf];decide)
 clear hbx
 go_enter Tryz.func65,Tryz.ntmps65
 go_wp2_with fail
 have hd':Calls Tryz.prog 58 #[.pointer (some ⟨r,0,none⟩),.agg #[.int .i64 o.kind,.string o.old,.string o.name,.int .i64 0],.string s] w1 fun e w'=>e=.returned (.int .i64 (m.op (rcall o s)).2)∧RefPost r (n+1) (m.op (rcall o s)).1 S1 w1 w':=by
  have h:=hd
  unfold ropCl at h
  rw [hf] at h
  exact h
 refine hd'.mono ?_
 rintro e w2 ⟨rfl,hp⟩
 go_wp2_with fail
 go_ret
 obtain ⟨q1,q2⟩:=RSt.post h2 h3 h4 h5 hp
 exact ⟨rfl,q1,q2⟩
theorem rread_any (h:RSto w S P sb r x w1 n m) (hn:n≤4000000000) (s:ByteArray):Calls Tryz.prog 63 #[.pointer (some ⟨r,0,none⟩),.string s] w1 fun e w'=>e=.returned (.tuple #[.string (m.reads s).1,.int .i64 (m.reads s).2])∧Below w1.heap.size w1 w':=by
 obtain ⟨⟨S1,h1,h2⟩,-⟩:=h.st
 refine (refRead_any h1 s (by omega)).mono ?_
 rintro e w' ⟨rfl,q,rfl⟩
 exact ⟨rfl,rfl,rfl,rfl,Nat.le_refl _,fun _ _=>rfl⟩
theorem rlist_any (h:RSto w S P sb r x w1 n m) (hn:n≤4000000000) (hnm:∀ p∈m.now,(nameB p).size≤140737488355328) (hd:ByteArray) (hhd:hd.size≤140737488355328):Calls Tryz.prog 62 #[.pointer (some ⟨r,0,none⟩),.string hd] w1 fun e w'=>∃ u,e=.returned (.tuple #[u,.int .i64 (if m.off then 27 else 0)])∧GathT w1 w' u (m.lists hd):=by
 obtain ⟨⟨S1,h1,h2⟩,-⟩:=h.st
 exact refList_any h1 hd (by omega) hnm hhd
theorem RSto.cells (h:RSto w S P sb r x w1 n m):w1.cell? ⟨sb,0,none⟩=some (.pointer (some ⟨r,0,none⟩))∧w1.cell? ⟨sb,1,none⟩=some (.int .i64 x):=by
 have hbx:=h.box
 unfold storeR at hbx
 exact ⟨by rw [cell_of_heapN hbx];rfl,by rw [cell_of_heapN hbx];rfl⟩
theorem rsum_any (h:RSto w S P sb r x w1 n m) (t:ByteArray) (ht:t.size≤140737488351232):Calls Tryz.prog 13 #[.int .i64 x,.string t] w1 fun e w'=>e=.returned (digV (shaU x t))∧Below w1.heap.size w1 w':=by
 refine (refSumB_any x t w1 h.rnd h.beg (Nat.le_trans ht (by decide))).mono ?_
 rintro e w' ⟨rfl,hb⟩
 exact ⟨congrArg (fun l:List Value=>Ending.returned (Value.agg l.toArray)) (shaL_shaU x t),hb⟩
end
theorem textD_head (D:List UInt8):(⟨#[98,108,111,98,115,47]⟩:ByteArray) ++ (textD D).extract 7 (textD D).size=fileN D:=by
 refine ByteArray.ext ?_
 rw [ByteArray.data_append,ByteArray.data_extract]
 refine Array.ext' ?_
 rw [Array.toList_append,Array.toList_extract]
 have h1:(textD D).data.toList=shaHead ++ hexB D:=rfl
 have h2:(textD D).size=7+(hexB D).length:=by
  show (shaHead ++ hexB D).length=_
  rw [List.length_append];rfl
 rw [h1,h2]
 show [98,108,111,98,115,47] ++ List.take (7+(hexB D).length - 7) ((shaHead ++ hexB D).drop 7)=blobHead ++ hexB D
 rw [List.drop_append_of_le_length (by decide)]
 show [98,108,111,98,115,47] ++ List.take (7+(hexB D).length - 7) (hexB D)=blobHead ++ hexB D
 rw [List.take_of_length_le (by omega)]
 rfl
theorem refFile_any (D:List UInt8) (hD:D.length=32) (w:World) :
  Calls Tryz.prog 108 #[digV D] w fun e w'=>e=.returned (.string (fileN D))∧Below w.heap.size w w':=by
 have hI2:=dig_info2 hD
 have hI3:(Tryz.prog.info? 33).map (·.size)=some (D.map byteV).length:=by rw [List.length_map,hD];kernel_rfl
 have hU:Tryz.prog.underlying 33=some _:=Tryz.underlying33
 have hx:=refText_any D hD
 have hsz:(textD D).size=71:=by rw [textD_size,hD]
 unfold digV at hx ⊢
 obtain ⟨W1,hW1⟩:∃ W,w.alloc (.cells (D.map byteV).toArray 33)=W:=⟨_,rfl⟩
 have HXD:Hid (W1.heap[w.heap.size]?=some (.cells (D.map byteV).toArray 33 (0,0))):=hZ (by rw [← hW1];exact heap_new _ _)
 have HB1:Hid (Below w.heap.size w W1):=hZ (by rw [← hW1];exact (Below.refl _ _).alloc (Nat.le_refl _) _)
 have HRG:Hid (W1.rangeAt w.heap.size 0 (D.map byteV)):=hZ (fun j v hv=>by
  rw [Nat.zero_add,cell_of_heapN HXD.out,List.getElem?_toArray]
  exact hv)
 have HD:=hZ hD
 have HX:=hZ hx
 clear hx hD hI2
 go_enter Tryz.func108,Tryz.ntmps108
 go_wp2_with (first | refine wpList_load_mid rfl _ _ rfl w.heap.size 0 rfl (D.map byteV) _ HRG.out hU rfl hI3 ?_)
 refine (HX.out _).mono ?_
 rintro e w2 ⟨rfl,hb2⟩
 have HB2:=hZ (HB1.out.trans (hb2.mono HB1.out.size))
 clear hb2
 go_wp2_with fail
 go_ret
 have h:=textD_head D
 rw [hsz] at h
 exact ⟨congrArg (fun s=>Ending.returned (Value.string s)) h,HB2.out⟩
end Go.Proofs.YtecgikanophonaaGreatDoor
/- The contract of the reference's Right. -/
namespace Go.Proofs.YtecgikanophonaaGreatDoor
open Go Go.RowKit
theorem dig_size2 {d:List UInt8} (h:d.length=32):(d.map byteV).toArray.size=32:=by rw [List.size_toArray,List.length_map,h]
theorem results_cell_tmp2 {fn:Func} {p u v:Tmp} {ty:TypeId} (h:fn.results=#[.cell p ty,.tmp u,.tmp v]) (tmps:Array Value) (P:Program) (w:World) :
  (results fn tmps).run P w =
   ((asAddr (tmps.getD p undef)).run P w).andThen fun a w₁=>((loadVar ty a).run P w₁).andThen fun x w₂=>.ok (.tuple #[x,tmps.getD u undef,tmps.getD v undef]) w₂:=by
 simp only [results,h]
 simp [Sem.run_bind,Result.andThen]
theorem results_dig3 {fn:Func} {p u v:Tmp} (h:fn.results=#[.cell p 33,.tmp u,.tmp v]) (tmps:Array Value) (w:World) (g:Nat) (cs:Array Value) (t:TypeId) (hp:tmps.getD p undef=.pointer (some ⟨g,0,none⟩)) (hg:w.heap[g]?=some (.cells cs t (0,0))) (hz:cs.size=32) :
  (results fn tmps).run Tryz.prog w=.ok (.tuple #[.agg cs,tmps.getD u undef,tmps.getD v undef]) w:=by
 have hI:(Tryz.prog.info? 33).map (·.size)=some cs.size:=by rw [hz];kernel_rfl
 rw [results_cell_tmp2 h,hp]
 have h1:=run_loadVar_row (P:=Tryz.prog) w g t 33 cs (0,0) _ hg Tryz.underlying33 rfl hI
 simp [asAddr,h1,Result.andThen]
def RgtW (W3:World) (r:Nat) (D:List UInt8) (k:Nat) (L:Nat→Bool) (_:Unit) (W:World):Prop:=Off (fun b=>b=r) W3 W∧W.heap[r]?=some (.cells (if L k then (D.map byteV).toArray else z32) 33 (0,0))
theorem RgtW.upd {W3 W:World} {r i k:Nat} {D:List UInt8} {L:Nat→Bool} {γ:Unit} (h:RgtW W3 r D k L γ W) (_:i=i) (hi:i≠k):RgtW W3 r D k (updL L i) γ W:=by
 refine ⟨h.1,?_⟩
 rw [updL_ne (show k≠i by omega)]
 exact h.2
theorem RgtW.grew {W3 W W':World} {r i k:Nat} {D:List UInt8} {L:Nat→Bool} {γ:Unit} (h:RgtW W3 r D k L γ W) (hb:Below W.heap.size W W') (hi:i≠k):RgtW W3 r D k (updL L i) γ W':=by
 refine ⟨h.1.below hb h.1.size,?_⟩
 rw [updL_ne (show k≠i by omega)]
 exact (hb.block _ (blk_lt h.2)).trans h.2
def rightRV (m:DM) (x:Int) (nm:ByteArray):Value:=match namedM nm with
 |none=>.tuple #[digV zeroD,.string ⟨#[]⟩,.bool false]
 |some d=>.tuple #[digV d,.string (m.reads nm).1,.bool (rightM m x nm).isSome]
theorem named_cut {nm:ByteArray} (hp:nm.data.toList.take 6=blobHead):namedM nm=parseD (⟨#[115,104,97,50,53,54,58]⟩ ++ nm.extract 6 nm.size):=by
 unfold namedM
 rw [if_pos hp]
 refine congrArg parseD (ByteArray.ext ?_)
 rw [ByteArray.data_append,ByteArray.data_extract]
 refine Array.ext' ?_
 rw [Array.toList_append,Array.toList_extract]
 show shaHead ++ nm.data.toList.drop 6=shaHead ++ List.take (nm.data.size - 6) (nm.data.toList.drop 6)
 rw [List.take_of_length_le (by rw [List.length_drop,Array.length_toList];omega)]
theorem head_six {nm:ByteArray} (hp:nm.data.toList.take 6=blobHead):6≤nm.size:=by
 have h:=congrArg List.length hp
 rw [List.length_take,Array.length_toList] at h
 have h2:blobHead.length=6:=rfl
 show 6≤nm.data.size
 omega
theorem refRightB_any {w w0:World} {S P:Nat→Prop} {sb r n:Nat} {x:Int} {m:DM} (h:RSto w0 S P sb r x w n m) (hn4:n≤4000000000) (nm:ByteArray) (hp:nm.data.toList.take 6=blobHead) (hn:nm.size≤140737488355328) :
  Calls Tryz.prog 64 #[.pointer (some ⟨sb,0,none⟩),.string nm] w fun e w'=>e=.returned (rightRV m x nm)∧Below w.heap.size w w':=by
 have hpa:=fun W:World=>refParse_any (⟨#[115,104,97,50,53,54,58]⟩ ++ nm.extract 6 nm.size) W
 rw [← named_cut hp] at hpa
 have h6:=head_six hp
 have hrd:=fun W (hb:Below w.heap.size w W)=>rread_any (h.bel hb) hn4 nm
 have hts:=reads_size h.st.ok nm
 have HK0:=hZ h.rnd
 have HG0:=hZ h.beg
 have HSB0:=hZ h.box
 have hsz:((⟨#[115,104,97,50,53,54,58]⟩:ByteArray).size:Int)+((nm.extract 6 nm.size).size:Nat)≤200000000000000:=by
  have e1:(⟨#[115,104,97,50,53,54,58]⟩:ByteArray).size=7:=rfl
  have e2:(nm.extract 6 nm.size).size=min nm.size nm.size - 6:=ByteArray.size_extract
  rw [e1,e2]
  omega
 have hev:(m.reads nm).2=0∨(m.reads nm).2≠0:=Classical.em _
 have hrv:rightRV m x nm=match namedM nm with | none=>.tuple #[digV zeroD,.string ⟨#[]⟩,.bool false] | some d=>.tuple #[digV d,.string (m.reads nm).1,.bool (decide ((m.reads nm).2=0) && (shaU x (m.reads nm).1 == d))]:=by
  unfold rightRV rightM
  cases hO:namedM nm with
  |none=>rfl
  |some d =>
   simp only
   by_cases h0:(m.reads nm).2=0
   ·by_cases hs:shaU x (m.reads nm).1=d
    ·rw [if_pos ⟨h0,hs⟩];simp [h0,hs]
    ·rw [if_neg (fun h=>hs h.2)];simp [h0,hs]
   ·rw [if_neg (fun h=>h0 h.1)];simp [h0]
 rw [hrv]
 have hdl:=getD_len nm
 clear hrv hp
 generalize namedM nm=O at hpa hdl ⊢
 generalize (m.reads nm).1=t at hrd hts ⊢
 generalize (m.reads nm).2=ex at hrd hev ⊢
 have HTS:=hZ (show t.size≤140737488351232 by omega)
 have HRD:=hZ hrd
 have HNS:=hZ h6
 clear hrd hts h
 obtain ⟨W0,hW0⟩:∃ W,w.alloc (.cells z32 33)=W:=⟨_,rfl⟩
 have HG1:Hid (W0.heap[w.heap.size]?=some (.cells z32 33 (0,0))):=hZ (by rw [← hW0];exact heap_new _ _)
 have HB1:Hid (Below w.heap.size w W0):=hZ (by rw [← hW0];exact (Below.refl w.heap.size w).alloc (Nat.le_refl _) _)
 have hW1:w.alloc (.cells #[.int .u8 0,.int .u8 0,.int .u8 0,.int .u8 0,.int .u8 0,.int .u8 0,.int .u8 0,.int .u8 0,.int .u8 0,.int .u8 0,.int .u8 0,.int .u8 0,.int .u8 0,.int .u8 0,.int .u8 0,.int .u8 0,.int .u8 0,.int .u8 0,.int .u8 0,.int .u8 0,.int .u8 0,.int .u8 0,.int .u8 0,.int .u8 0,.int .u8 0,.int .u8 0,.int .u8 0,.int .u8 0,.int .u8 0,.int .u8 0,.int .u8 0,.int .u8 0] 33)=W0:=hW0
 clear hW0
 have hxs:((nm.size:Nat):Int)≤140737488355328:=by omega
 have h6i:(6:Int)≤((nm.size:Nat):Int):=by omega
 cases O with
 |none =>
  have hpa':∀ W:World,Calls Tryz.prog 122 #[.string (⟨#[115,104,97,50,53,54,58]⟩ ++ nm.extract 6 nm.size)] W fun e w'=>e=.returned (.tuple #[.agg (zeroD.map byteV).toArray,.int .i64 4])∧Below W.heap.size W w':=hpa
  have hI2:=dig_info2 (d:=zeroD) rfl
  have h1:=dig_one zeroD
  have hz:=dig_size (d:=zeroD) rfl
  clear hpa hev
  go_enter Tryz.func64,Tryz.ntmps64
  go_wp2_with fail
  refine (hpa' _).mono ?_
  rintro e w2 ⟨rfl,hb2⟩
  have HG2:Hid (w2.heap[w.heap.size]?=some (.cells z32 33 (0,0))):=hZ ((hb2.block _ (blk_lt HG1.out)).trans HG1.out)
  have HB2:=hZ (HB1.out.trans (hb2.mono HB1.out.size))
  obtain ⟨W4,hW4⟩:∃ W,w2.alloc (.cells (zeroD.map byteV).toArray 33)=W:=⟨_,rfl⟩
  have hb4:Below w2.heap.size w2 W4:=by rw [← hW4];exact (Below.refl _ _).alloc (Nat.le_refl _) _
  have HXD:Hid (W4.heap[w2.heap.size]?=some (.cells (zeroD.map byteV).toArray 33 (0,0))):=hZ (by rw [← hW4];exact heap_new _ _)
  have HG4:Hid (W4.heap[w.heap.size]?=some (.cells z32 33 (0,0))):=hZ ((hb4.block _ (blk_lt HG2.out)).trans HG2.out)
  have HB4:=hZ (HB2.out.trans (hb4.mono HB2.out.size))
  have HRG:Hid (W4.rangeAt w2.heap.size 0 (zeroD.map byteV)):=hZ (fun j v hv=>by
   rw [Nat.zero_add,cell_of_heapN HXD.out,List.getElem?_toArray]
   exact hv)
  have HW4:=hZ hW4
  have hI3:(Tryz.prog.info? 33).map (·.size)=some (zeroD.map byteV).length:=by kernel_rfl
  have hU:=dig_und
  have HG5:Hid ((setBlk W4 w.heap.size (.cells (zeroD.map byteV).toArray 33 (0,0))).heap[w.heap.size]?=some (.cells (zeroD.map byteV).toArray 33 (0,0))):=hZ (setBlk_heap (blk_lt HG4.out))
  have HB5:Hid (Below w.heap.size w (setBlk W4 w.heap.size (.cells (zeroD.map byteV).toArray 33 (0,0)))):=hZ (HB4.out.setBlk (Nat.le_refl _))
  clear hb2 hb4 hW4
  go_wp2_with (first | (refine wpList_store_new rfl _ _ _ rfl _ (zeroD.map byteV).toArray _ rfl rfl rfl hI2 hz h1 ?_;rw [HW4.out]) | refine wpList_load_mid rfl _ _ rfl w2.heap.size 0 rfl (zeroD.map byteV) _ HRG.out hU rfl hI3 ?_ | (refine wpList_store_row rfl _ _ _ rfl w.heap.size (zeroD.map byteV).toArray rfl rfl 33 z32 HG4.out hI2 hz h1 ?_;rw [setRow_setBlk HG4.out]))
  refine bodyPost_ret (v:=.tuple #[digV zeroD,.string ⟨#[]⟩,.bool false]) (results_dig3 (fn:=Tryz.f64) (p:=4) (u:=5) (v:=6) rfl _ _ w.heap.size _ _ rfl HG5.out rfl) rfl ⟨rfl,HB5.out⟩
 |some D =>
  have hpa':∀ W:World,Calls Tryz.prog 122 #[.string (⟨#[115,104,97,50,53,54,58]⟩ ++ nm.extract 6 nm.size)] W fun e w'=>e=.returned (.tuple #[.agg (D.map byteV).toArray,.int .i64 0])∧Below W.heap.size W w':=hpa
  have hdl2:D.length=32:=hdl
  have hI2:=dig_info2 hdl2
  have h1:=dig_one D
  have hz:=dig_size hdl2
  have HDL:=hZ hdl2
  clear hpa hdl hdl2
  go_enter Tryz.func64,Tryz.ntmps64
  go_wp2_with fail
  refine (hpa' _).mono ?_
  rintro e w2 ⟨rfl,hb2⟩
  have HG2:Hid (w2.heap[w.heap.size]?=some (.cells z32 33 (0,0))):=hZ ((hb2.block _ (blk_lt HG1.out)).trans HG1.out)
  have HB2:=hZ (HB1.out.trans (hb2.mono HB1.out.size))
  obtain ⟨W3,hW3⟩:∃ W,w2.alloc (.cells (D.map byteV).toArray 33)=W:=⟨_,rfl⟩
  have hb3:Below w2.heap.size w2 W3:=by rw [← hW3];exact (Below.refl _ _).alloc (Nat.le_refl _) _
  have HX3:Hid (W3.heap[w2.heap.size]?=some (.cells (D.map byteV).toArray 33 (0,0))):=hZ (by rw [← hW3];exact heap_new _ _)
  have HR3:Hid (W3.heap[w.heap.size]?=some (.cells z32 33 (0,0))):=hZ ((hb3.block _ (blk_lt HG2.out)).trans HG2.out)
  have HB3:=hZ (HB2.out.trans (hb3.mono HB2.out.size))
  have HSB3:Hid (W3.heap[sb]?=some (storeR r x)):=hZ ((HB3.out.block sb (blk_lt HSB0.out)).trans HSB0.out)
  have c0:W3.cell? ⟨sb,0,none⟩=some (.pointer (some ⟨r,0,none⟩)):=by rw [cell_of_heapN HSB3.out];rfl
  have HNE:=hZ (show w2.heap.size≠w.heap.size from fun e=>by have:=blk_lt HG2.out;omega)
  have HW3:=hZ hW3
  clear hb2 hb3 hW3
  go_wp2_with (first | (refine wpList_store_new rfl _ _ _ rfl _ (D.map byteV).toArray _ rfl rfl rfl hI2 hz h1 ?_;rw [HW3.out]))
  refine (HRD.out _ HB3.out).mono ?_
  rintro e W4 ⟨rfl,hb4⟩
  have HXD:Hid (W4.heap[w2.heap.size]?=some (.cells (D.map byteV).toArray 33 (0,0))):=hZ ((hb4.block _ (blk_lt HX3.out)).trans HX3.out)
  have HR4:Hid (W4.heap[w.heap.size]?=some (.cells z32 33 (0,0))):=hZ ((hb4.block _ (blk_lt HR3.out)).trans HR3.out)
  have HB4:=hZ (HB3.out.trans (hb4.mono HB3.out.size))
  have HSB:Hid (W4.heap[sb]?=some (storeR r x)):=hZ ((HB4.out.block sb (blk_lt HSB0.out)).trans HSB0.out)
  have HSN:=hZ (show sb≠w.heap.size from fun e=>by have:=blk_lt HSB0.out;omega)
  have HK:=hZ (HK0.out.bel HB4.out)
  have HG:=hZ (HG0.out.bel HB4.out)
  have HRK:=hZ (show 2≠w.heap.size∧0≠w.heap.size from ⟨fun e=>by have:=HK0.out.2;omega,fun e=>by have:=HG0.out.2;omega⟩)
  clear hb4
  rcases hev with rfl | hex
  ·go_wp2_with fail
   have hI0:RgtW W4 w.heap.size D 14 (fun _=>false) () W4.drew:=⟨⟨rfl,rfl,rfl,Nat.le_refl _,fun _ _ _=>rfl⟩,HR4.out⟩
   refine wp_region_flowG (fun _:Unit=>[.agg (D.map byteV).toArray,.string t,.int .i64 0,.bool true,.bool true,.pointer (some ⟨sb,0,none⟩),.pointer (some ⟨sb,0,none⟩),.pointer (some ⟨sb,1,none⟩),.int .i64 x,.string t,.agg ((shaU x t).map byteV).toArray,.agg (D.map byteV).toArray,.bool (shaU x t == D),.bool (shaU x t == D),undef,.string t,.bool (shaU x t == D)]) (RgtW W4 w.heap.size D 14)
    [[],[],[],[2],[3],[4],[5,4],[6,4],[7,4],[4],[8,9,4,4],[4],[10,11,4],[4,12],[0,10,0],[1,14,0,1,14],[13,15,0,1,2,3,4,5,6,7,8,9,10,11,12,13,14,15]] 43 () mixedD rfl (by kernel_rfl) (fun _=>rfl) hI0 ?_ ?_
   ·refine ⟨?_,?_,?_,?_,?_,?_,?_,?_,?_,?_,?_,?_,?_,?_,?_,?_,?_,rfl⟩
    all_goals intro L γ W ev hL hd hW hc hf hg he h0
    ·have e7:ev (.tmp 7)=.pointer (some ⟨w2.heap.size,0,none⟩):=h0 7 rfl
     clear he h0 hc hg
     have hlv:=run_loadVar_row (P:=Tryz.prog) W w2.heap.size 33 33 (D.map byteV).toArray (0,0) _ ((hW.1.block _ (blk_lt HXD.out) HNE.out).trans HXD.out) dig_und rfl (dig_info2 HDL.out)
     refine .inl ⟨rfl,.inl ⟨_,W,?_,.still (hW.upd rfl (by decide)) rfl⟩⟩
     unfold execOp
     simp only [e7,Instr.loadAt,Instr.sureAddr,Sem.run_bind,Sem.run_pure,Result.andThen_ok,hlv]
     try rfl
    ·have e9:ev (.tmp 9)=.string t:=h0 9 rfl
     clear he h0 hc hf hg
     exact flS rfl (by go_simp <;> rfl) (hW.upd rfl (by decide)) rfl
    ·have e8:ev (.tmp 8)=.int .i64 0:=h0 8 rfl
     clear he h0 hc hf hg
     exact flS rfl (by go_simp <;> rfl) (hW.upd rfl (by decide)) rfl
    ·have e31:ev (.tmp 31)=.int .i64 0:=he 2 (by decide) _ 31 rfl rfl
     have hcc:=hc
     clear he h0 hc hf hg
     exact flS rfl (by go_simp <;> rfl) (hW.upd rfl (by decide)) rfl
    ·have e32:ev (.tmp 32)=.bool true:=he 3 (by decide) _ 32 rfl rfl
     clear he h0 hc hf hg
     exact flS rfl (by go_simp <;> rfl) (hW.upd rfl (by decide)) rfl
    ·have e0:ev (.tmp 0)=.pointer (some ⟨sb,0,none⟩):=h0 0 rfl
     clear he h0 hc hf hg
     exact flS rfl (by go_simp <;> rfl) (hW.upd rfl (by decide)) rfl
    ·have e34:ev (.tmp 34)=.pointer (some ⟨sb,0,none⟩):=he 5 (by decide) _ 34 rfl rfl
     clear he h0 hc hf hg
     exact flS rfl (by go_simp <;> rfl) (hW.upd rfl (by decide)) rfl
    ·have e35:ev (.tmp 35)=.pointer (some ⟨sb,0,none⟩):=he 6 (by decide) _ 35 rfl rfl
     clear he h0 hc hf hg
     exact flS rfl (by go_simp <;> rfl) (hW.upd rfl (by decide)) rfl
    ·have e36:ev (.tmp 36)=.pointer (some ⟨sb,1,none⟩):=he 7 (by decide) _ 36 rfl rfl
     have c1:W.cell? ⟨sb,1,none⟩=some (.int .i64 x):=(hW.1.cell (p:=⟨sb,1,none⟩) (blk_lt HSB.out) HSN.out).trans (by rw [cell_of_heapN HSB.out];rfl)
     clear he h0 hc hf hg
     exact flS rfl (by go_simp <;> rfl) (hW.upd rfl (by decide)) rfl
    ·have e9:ev (.tmp 9)=.string t:=h0 9 rfl
     clear he h0 hc hf hg
     exact flS rfl (by go_simp <;> rfl) (hW.upd rfl (by decide)) rfl
    ·have e37:ev (.tmp 37)=.int .i64 x:=he 8 (by decide) _ 37 rfl rfl
     have e38:ev (.tmp 38)=.string t:=he 9 (by decide) _ 38 rfl rfl
     clear he h0 hc hg
     refine .inl ⟨rfl,.inr (.inr ⟨13,#[.int .i64 x,.string t],W,(by have hff:=hf 13;clear hf;go_simp <;> rfl),?_⟩)⟩
     have hK:=HK.out.same (hW.1.block _ HK.out.2 HRK.out.1) (Nat.lt_of_lt_of_le HK.out.2 hW.1.size)
     have hG:=HG.out.same (hW.1.block _ HG.out.2 HRK.out.2) (Nat.lt_of_lt_of_le HG.out.2 hW.1.size)
     refine (refSumB_any x t W hK hG (Nat.le_trans HTS.out (by decide))).mono ?_
     rintro e w' ⟨rfl,hb⟩
     refine ⟨_,rfl,.still (hW.grew hb (by decide)) (congrArg (fun l:List Value=>Value.agg l.toArray) (shaL_shaU x t).symm)⟩
    ·have e7:ev (.tmp 7)=.pointer (some ⟨w2.heap.size,0,none⟩):=h0 7 rfl
     clear he h0 hc hg
     have hlv:=run_loadVar_row (P:=Tryz.prog) W w2.heap.size 33 33 (D.map byteV).toArray (0,0) _ ((hW.1.block _ (blk_lt HXD.out) HNE.out).trans HXD.out) dig_und rfl (dig_info2 HDL.out)
     refine .inl ⟨rfl,.inl ⟨_,W,?_,.still (hW.upd rfl (by decide)) rfl⟩⟩
     unfold execOp
     simp only [e7,Instr.loadAt,Instr.sureAddr,Sem.run_bind,Sem.run_pure,Result.andThen_ok,hlv]
     try rfl
    ·have e39:ev (.tmp 39)=.agg ((shaU x t).map byteV).toArray:=he 10 (by decide) _ 39 rfl rfl
     have e40:ev (.tmp 40)=.agg (D.map byteV).toArray:=he 11 (by decide) _ 40 rfl rfl
     clear he h0 hc hg
     have hq:=dig_in W (shaU_len x t) HDL.out
     refine .inl ⟨rfl,.inl ⟨_,W,(by go_simp <;> rfl),.still (hW.upd rfl (by decide)) rfl⟩⟩
    ·have e33:ev (.tmp 33)=.bool true:=he 4 (by decide) _ 33 rfl rfl
     have e41:ev (.tmp 41)=.bool (shaU x t == D):=he 12 (by decide) _ 41 rfl rfl
     have hcc:=hc
     clear he h0 hc hf hg
     exact flS rfl (by go_simp <;> rfl) (hW.upd rfl (by decide)) rfl
    ·have e4:ev (.tmp 4)=.pointer (some ⟨w.heap.size,0,none⟩):=h0 4 rfl
     have e29:ev (.tmp 29)=.agg (D.map byteV).toArray:=he 0 (by decide) _ 29 rfl rfl
     clear he h0 hc hg
     have hw2:W.heap[w.heap.size]?=some (.cells z32 33 (0,0)):=by have:=hW.2;rw [hL] at this;exact this
     have hst:=run_storeVar_row (P:=Tryz.prog) W w.heap.size 33 33 z32 (D.map byteV).toArray hw2 hI2 hz h1
     rw [setRow_setBlk hw2] at hst
     refine .inl ⟨rfl,.inr (.inl ⟨setBlk W w.heap.size (.cells (D.map byteV).toArray 33 (0,0)),?_,.still ⟨hW.1.setBlk (fun _=>rfl),?_⟩ rfl⟩)⟩
     ·unfold execOp
      simp only [e4,e29,Instr.storeAt,Instr.sureAddr,Sem.run_bind,Sem.run_pure,Result.andThen_ok,hst]
     ·exact (setBlk_heap (blk_lt hw2)).trans (by rw [if_pos updL_self])
    ·have e30:ev (.tmp 30)=.string t:=he 1 (by decide) _ 30 rfl rfl
     clear he h0 hc hf hg
     exact flS rfl (by go_simp <;> rfl) (hW.upd rfl (by decide)) rfl
    ·have e42:ev (.tmp 42)=.bool (shaU x t == D):=he 13 (by decide) _ 42 rfl rfl
     clear he h0 hc hf hg
     exact flS rfl (by go_simp <;> rfl) (hW.upd rfl (by decide)) rfl
   intro γ L W hL hW
   have hg4:W.heap[w.heap.size]?=some (.cells (D.map byteV).toArray 33 (0,0)):=hW.2.trans (by rw [if_pos (hL 14 (by decide))])
   have hb4:Below w.heap.size w W:=HB4.out.trans (hW.1.toBelow (B:=w.heap.size) (fun k hk=>by omega) HB4.out.size)
   have HG5:=hZ hg4
   have HB5:=hZ hb4
   clear hL hW hg4 hb4
   simp only [putAll,Act.put,List.setIfInBounds_toArray,List.set_cons_succ,List.set_cons_zero]
   go_wp2_with fail
   refine bodyPost_ret (v:=.tuple #[digV D,.string t,.bool (shaU x t == D)]) (results_dig3 (fn:=Tryz.f64) (p:=4) (u:=5) (v:=6) rfl _ _ w.heap.size _ _ rfl HG5.out (dig_size2 HDL.out)) rfl ⟨?_,HB5.out⟩
   simp
  ·have hex0:(ex == 0)=false:=beq_eq_false_iff_ne.2 hex
   go_wp2_with fail
   have hI0:RgtW W4 w.heap.size D 14 (fun _=>false) () W4.drew:=⟨⟨rfl,rfl,rfl,Nat.le_refl _,fun _ _ _=>rfl⟩,HR4.out⟩
   refine wp_region_flowG (fun _:Unit=>[.agg (D.map byteV).toArray,.string t,.int .i64 ex,.bool false,.bool false,undef,undef,undef,undef,undef,undef,undef,undef,.bool false,undef,.string t,.bool false]) (RgtW W4 w.heap.size D 14)
    [[],[],[],[2],[3],[4],[5,4],[6,4],[7,4],[4],[8,9,4,4],[4],[10,11,4],[4,12],[0,10,0],[1,14,0,1,14],[13,15,0,1,2,3,4,5,6,7,8,9,10,11,12,13,14,15]] 43 () mixedD rfl (by kernel_rfl) (fun _=>rfl) hI0 ?_ ?_
   ·refine ⟨?_,?_,?_,?_,?_,?_,?_,?_,?_,?_,?_,?_,?_,?_,?_,?_,?_,rfl⟩
    all_goals intro L γ W ev hL hd hW hc hf hg he h0
    ·have e7:ev (.tmp 7)=.pointer (some ⟨w2.heap.size,0,none⟩):=h0 7 rfl
     clear he h0 hc hg
     have hlv:=run_loadVar_row (P:=Tryz.prog) W w2.heap.size 33 33 (D.map byteV).toArray (0,0) _ ((hW.1.block _ (blk_lt HXD.out) HNE.out).trans HXD.out) dig_und rfl (dig_info2 HDL.out)
     refine .inl ⟨rfl,.inl ⟨_,W,?_,.still (hW.upd rfl (by decide)) rfl⟩⟩
     unfold execOp
     simp only [e7,Instr.loadAt,Instr.sureAddr,Sem.run_bind,Sem.run_pure,Result.andThen_ok,hlv]
     try rfl
    ·have e9:ev (.tmp 9)=.string t:=h0 9 rfl
     clear he h0 hc hf hg
     exact flS rfl (by go_simp <;> rfl) (hW.upd rfl (by decide)) rfl
    ·have e8:ev (.tmp 8)=.int .i64 ex:=h0 8 rfl
     clear he h0 hc hf hg
     exact flS rfl (by go_simp <;> rfl) (hW.upd rfl (by decide)) rfl
    ·have e31:ev (.tmp 31)=.int .i64 ex:=he 2 (by decide) _ 31 rfl rfl
     have hcc:=hc
     have hce:=hex0
     clear he h0 hc hf hg
     exact flS rfl (by go_simp <;> rfl) (hW.upd rfl (by decide)) rfl
    ·have e32:ev (.tmp 32)=.bool false:=he 3 (by decide) _ 32 rfl rfl
     clear he h0 hc hf hg
     exact flS rfl (by go_simp <;> rfl) (hW.upd rfl (by decide)) rfl
    ·exact .inr ⟨rfl,.still (hW.upd rfl (by decide)) rfl⟩
    ·exact .inr ⟨rfl,.still (hW.upd rfl (by decide)) rfl⟩
    ·exact .inr ⟨rfl,.still (hW.upd rfl (by decide)) rfl⟩
    ·exact .inr ⟨rfl,.still (hW.upd rfl (by decide)) rfl⟩
    ·exact .inr ⟨rfl,.still (hW.upd rfl (by decide)) rfl⟩
    ·exact .inr ⟨rfl,.still (hW.upd rfl (by decide)) rfl⟩
    ·exact .inr ⟨rfl,.still (hW.upd rfl (by decide)) rfl⟩
    ·exact .inr ⟨rfl,.still (hW.upd rfl (by decide)) rfl⟩
    ·have e33:ev (.tmp 33)=.bool false:=he 4 (by decide) _ 33 rfl rfl
     have e41:ev (.tmp 41)=undef:=he 12 (by decide) _ 41 rfl rfl
     have hcc:=hc
     clear he h0 hc hf hg
     exact flS rfl (by go_simp <;> rfl) (hW.upd rfl (by decide)) rfl
    ·have e4:ev (.tmp 4)=.pointer (some ⟨w.heap.size,0,none⟩):=h0 4 rfl
     have e29:ev (.tmp 29)=.agg (D.map byteV).toArray:=he 0 (by decide) _ 29 rfl rfl
     clear he h0 hc hg
     have hw2:W.heap[w.heap.size]?=some (.cells z32 33 (0,0)):=by have:=hW.2;rw [hL] at this;exact this
     have hst:=run_storeVar_row (P:=Tryz.prog) W w.heap.size 33 33 z32 (D.map byteV).toArray hw2 hI2 hz h1
     rw [setRow_setBlk hw2] at hst
     refine .inl ⟨rfl,.inr (.inl ⟨setBlk W w.heap.size (.cells (D.map byteV).toArray 33 (0,0)),?_,.still ⟨hW.1.setBlk (fun _=>rfl),?_⟩ rfl⟩)⟩
     ·unfold execOp
      simp only [e4,e29,Instr.storeAt,Instr.sureAddr,Sem.run_bind,Sem.run_pure,Result.andThen_ok,hst]
     ·exact (setBlk_heap (blk_lt hw2)).trans (by rw [if_pos updL_self])
    ·have e30:ev (.tmp 30)=.string t:=he 1 (by decide) _ 30 rfl rfl
     clear he h0 hc hf hg
     exact flS rfl (by go_simp <;> rfl) (hW.upd rfl (by decide)) rfl
    ·have e42:ev (.tmp 42)=.bool false:=he 13 (by decide) _ 42 rfl rfl
     clear he h0 hc hf hg
     exact flS rfl (by go_simp <;> rfl) (hW.upd rfl (by decide)) rfl
   intro γ L W hL hW
   have hg4:W.heap[w.heap.size]?=some (.cells (D.map byteV).toArray 33 (0,0)):=hW.2.trans (by rw [if_pos (hL 14 (by decide))])
   have hb4:Below w.heap.size w W:=HB4.out.trans (hW.1.toBelow (B:=w.heap.size) (fun k hk=>by omega) HB4.out.size)
   have HG5:=hZ hg4
   have HB5:=hZ hb4
   clear hL hW hg4 hb4
   simp only [putAll,Act.put,List.setIfInBounds_toArray,List.set_cons_succ,List.set_cons_zero]
   go_wp2_with fail
   refine bodyPost_ret (v:=.tuple #[digV D,.string t,.bool false]) (results_dig3 (fn:=Tryz.f64) (p:=4) (u:=5) (v:=6) rfl _ _ w.heap.size _ _ rfl HG5.out (dig_size2 HDL.out)) rfl ⟨?_,HB5.out⟩
   have e1:(decide (ex=0) && (shaU x t == D))=false:=by simp [hex]
   rw [e1]
end Go.Proofs.YtecgikanophonaaGreatDoor
/- Contracts of the reference's Get, Has, Remove. -/
namespace Go.Proofs.YtecgikanophonaaGreatDoor
open Go Go.RowKit
theorem refGet_any {w w0:World} {S P:Nat→Prop} {sb r n:Nat} {x:Int} {m:DM} (h:RSto w0 S P sb r x w n m) (hn4:n≤4000000000) (D:List UInt8) (hD:D.length=32) :
  Calls Tryz.prog 70 #[.pointer (some ⟨sb,0,none⟩),digV D] w fun e w'=>e=.returned (.tuple #[.string (getM m x D).1,.int .i64 (getM m x D).2])∧Below w.heap.size w w':=by
 have hfi:=fun W:World=>refFile_any D hD W
 have hrd:=fun W (hb:Below w.heap.size w W)=>rread_any (h.bel hb) hn4 (fileN D)
 have hts:=reads_size h.st.ok (fileN D)
 have hG:getM m x D=if (m.reads (fileN D)).2≠0 then (⟨#[]⟩,(m.reads (fileN D)).2) else if shaU x (m.reads (fileN D)).1=D then ((m.reads (fileN D)).1,0) else (⟨#[]⟩,30):=rfl
 generalize getM m x D=G at hG ⊢
 generalize (m.reads (fileN D)).1=t at hrd hts hG
 generalize (m.reads (fileN D)).2=ex at hrd hG
 generalize fileN D=F at hfi hrd
 have HTS:=hZ (show t.size≤140737488351232 by omega)
 have HDL:=hZ hD
 have HGG:=hZ hG
 have HRD:=hZ hrd
 unfold digV at hfi ⊢
 have HFI:=hZ hfi
 obtain ⟨W1,hW1⟩:∃ W,w.alloc (.cells (D.map byteV).toArray 33)=W:=⟨_,rfl⟩
 have HXD:Hid (W1.heap[w.heap.size]?=some (.cells (D.map byteV).toArray 33 (0,0))):=hZ (by rw [← hW1];exact heap_new _ _)
 have HB1:Hid (Below w.heap.size w W1):=hZ (by rw [← hW1];exact (Below.refl _ _).alloc (Nat.le_refl _) _)
 have HSB:Hid (W1.heap[sb]?=some (storeR r x)):=hZ ((HB1.out.block sb (blk_lt h.box)).trans h.box)
 have HK0:=hZ h.rnd
 have HG0:=hZ h.beg
 clear hfi hD hG h hts hrd
 go_enter Tryz.func70,Tryz.ntmps70
 go_wp2_with fail
 clear hW1
 have hI0:Below W1.heap.size W1 W1.drew:=⟨rfl,rfl,rfl,Nat.le_refl _,fun _ _=>rfl⟩
 refine wp_region_flowG (fun _:Unit=>[.pointer (some ⟨sb,0,none⟩),.pointer (some ⟨sb,0,none⟩),.pointer (some ⟨sb,0,none⟩),.pointer (some ⟨r,0,none⟩),.agg (D.map byteV).toArray,.string F,.tuple #[.string t,.int .i64 ex],.tuple #[.string t,.int .i64 ex],.string t,.int .i64 ex,.string t,.int .i64 ex]) (fun _ _ W=>Below W1.heap.size W1 W)
  [[],[0],[1],[2],[],[4],[3,5,5],[6],[7],[7],[8,6,0,1,2,3,4,5,6,7,8],[9,10,0,1,2,3,4,5,6,7,8,9,10]] 30 () mixedD rfl (by kernel_rfl) (fun _=>rfl) hI0 ?_ ?_
 ·refine ⟨?_,?_,?_,?_,?_,?_,?_,?_,?_,?_,?_,?_,rfl⟩
  all_goals intro L γ W ev hL hd hW hc hf hg he h0
  ·have e0:ev (.tmp 0)=.pointer (some ⟨sb,0,none⟩):=h0 0 rfl
   clear he h0 hc hf hg
   exact flS rfl (by go_simp <;> rfl) (hW) rfl
  ·have e9:ev (.tmp 9)=.pointer (some ⟨sb,0,none⟩):=he 0 (by decide) _ 9 rfl rfl
   clear he h0 hc hf hg
   exact flS rfl (by go_simp <;> rfl) (hW) rfl
  ·have e10:ev (.tmp 10)=.pointer (some ⟨sb,0,none⟩):=he 1 (by decide) _ 10 rfl rfl
   clear he h0 hc hf hg
   exact flS rfl (by go_simp <;> rfl) (hW) rfl
  ·have e11:ev (.tmp 11)=.pointer (some ⟨sb,0,none⟩):=he 2 (by decide) _ 11 rfl rfl
   have c0:W.cell? ⟨sb,0,none⟩=some (.pointer (some ⟨r,0,none⟩)):=(hW.cell (p:=⟨sb,0,none⟩) (blk_lt HSB.out)).trans (by rw [cell_of_heapN HSB.out];rfl)
   clear he h0 hc hf hg
   exact flS rfl (by go_simp <;> rfl) (hW) rfl
  ·have e3:ev (.tmp 3)=.pointer (some ⟨w.heap.size,0,none⟩):=h0 3 rfl
   clear he h0 hc hg
   have hlv:=run_loadVar_row (P:=Tryz.prog) W w.heap.size 33 33 (D.map byteV).toArray (0,0) _ ((hW.block _ (blk_lt HXD.out)).trans HXD.out) dig_und rfl (dig_info2 HDL.out)
   refine .inl ⟨rfl,.inl ⟨_,W,?_,.still (hW) rfl⟩⟩
   unfold execOp
   simp only [e3,Instr.loadAt,Instr.sureAddr,Sem.run_bind,Sem.run_pure,Result.andThen_ok,hlv]
   try rfl
  ·have e13:ev (.tmp 13)=.agg (D.map byteV).toArray:=he 4 (by decide) _ 13 rfl rfl
   clear he h0 hc hg
   refine .inl ⟨rfl,.inr (.inr ⟨108,#[.agg (D.map byteV).toArray],W,(by have hff:=hf 108;clear hf;go_simp <;> rfl),?_⟩)⟩
   refine (HFI.out W).mono ?_
   rintro e w' ⟨rfl,hb⟩
   exact ⟨_,rfl,.still (hW.trans (hb.mono hW.size)) rfl⟩
  ·have e12:ev (.tmp 12)=.pointer (some ⟨r,0,none⟩):=he 3 (by decide) _ 12 rfl rfl
   have e14:ev (.tmp 14)=.string F:=he 5 (by decide) _ 14 rfl rfl
   clear he h0 hc hg
   refine .inl ⟨rfl,.inr (.inr ⟨63,#[.pointer (some ⟨r,0,none⟩),.string F],W,(by have hff:=hf 63;clear hf;go_simp <;> rfl),?_⟩)⟩
   refine (HRD.out W (HB1.out.trans (hW.mono HB1.out.size))).mono ?_
   rintro e w' ⟨rfl,hb⟩
   exact ⟨_,rfl,.still (hW.trans (hb.mono hW.size)) rfl⟩
  ·have e15:ev (.tmp 15)=.tuple #[.string t,.int .i64 ex]:=he 6 (by decide) _ 15 rfl rfl
   clear he h0 hc hf hg
   exact flS rfl (by go_simp <;> rfl) (hW) rfl
  ·have e8:ev (.tmp 8)=.tuple #[.string t,.int .i64 ex]:=he 7 (by decide) _ 8 rfl rfl
   clear he h0 hc hf hg
   exact flS rfl (by go_simp <;> rfl) (hW) rfl
  ·have e8:ev (.tmp 8)=.tuple #[.string t,.int .i64 ex]:=he 7 (by decide) _ 8 rfl rfl
   clear he h0 hc hf hg
   exact flS rfl (by go_simp <;> rfl) (hW) rfl
  ·have e16:ev (.tmp 16)=.string t:=he 8 (by decide) _ 16 rfl rfl
   clear he h0 hc hf hg
   exact flS rfl (by go_simp <;> rfl) (hW) rfl
  ·have e17:ev (.tmp 17)=.int .i64 ex:=he 9 (by decide) _ 17 rfl rfl
   clear he h0 hc hf hg
   exact flS rfl (by go_simp <;> rfl) (hW) rfl
 intro γ L W2 hL hW
 have HB2:=hZ (HB1.out.trans (hW.mono HB1.out.size))
 have HXD2:Hid (W2.heap[w.heap.size]?=some (.cells (D.map byteV).toArray 33 (0,0))):=hZ ((hW.block _ (blk_lt HXD.out)).trans HXD.out)
 have HSB2:Hid (W2.heap[sb]?=some (storeR r x)):=hZ ((hW.block sb (blk_lt HSB.out)).trans HSB.out)
 clear hL hW
 simp only [putAll,Act.put,List.setIfInBounds_toArray,List.set_cons_succ,List.set_cons_zero]
 have HK2:=hZ (HK0.out.bel HB2.out)
 have HG2:=hZ (HG0.out.bel HB2.out)
 by_cases hex:ex=0
 ·subst hex
  go_wp2_with fail
  have hI0:Below W2.heap.size W2 W2.drew:=⟨rfl,rfl,rfl,Nat.le_refl _,fun _ _=>rfl⟩
  refine wp_region_flowG (fun _:Unit=>[.pointer (some ⟨sb,0,none⟩),.pointer (some ⟨sb,0,none⟩),.pointer (some ⟨sb,1,none⟩),.int .i64 x,.string t,.agg ((shaU x t).map byteV).toArray,.agg (D.map byteV).toArray,.bool (!(shaU x t == D))]) (fun _ _ W=>Below W2.heap.size W2 W)
   [[],[0],[1],[2],[],[3,4],[],[5,6]] 30 () mixedD rfl (by kernel_rfl) (fun _=>rfl) hI0 ?_ ?_
  ·refine ⟨?_,?_,?_,?_,?_,?_,?_,?_,rfl⟩
   all_goals intro L γ W ev hL hd hW hc hf hg he h0
   ·have e0:ev (.tmp 0)=.pointer (some ⟨sb,0,none⟩):=h0 0 rfl
    clear he h0 hc hf hg
    exact flS rfl (by go_simp <;> rfl) (hW) rfl
   ·have e21:ev (.tmp 21)=.pointer (some ⟨sb,0,none⟩):=he 0 (by decide) _ 21 rfl rfl
    clear he h0 hc hf hg
    exact flS rfl (by go_simp <;> rfl) (hW) rfl
   ·have e22:ev (.tmp 22)=.pointer (some ⟨sb,0,none⟩):=he 1 (by decide) _ 22 rfl rfl
    clear he h0 hc hf hg
    exact flS rfl (by go_simp <;> rfl) (hW) rfl
   ·have e23:ev (.tmp 23)=.pointer (some ⟨sb,1,none⟩):=he 2 (by decide) _ 23 rfl rfl
    have c1:W.cell? ⟨sb,1,none⟩=some (.int .i64 x):=(hW.cell (p:=⟨sb,1,none⟩) (blk_lt HSB2.out)).trans (by rw [cell_of_heapN HSB2.out];rfl)
    clear he h0 hc hf hg
    exact flS rfl (by go_simp <;> rfl) (hW) rfl
   ·have e6:ev (.tmp 6)=.string t:=h0 6 rfl
    clear he h0 hc hf hg
    exact flS rfl (by go_simp <;> rfl) (hW) rfl
   ·have e24:ev (.tmp 24)=.int .i64 x:=he 3 (by decide) _ 24 rfl rfl
    have e25:ev (.tmp 25)=.string t:=he 4 (by decide) _ 25 rfl rfl
    clear he h0 hc hg
    refine .inl ⟨rfl,.inr (.inr ⟨13,#[.int .i64 x,.string t],W,(by have hff:=hf 13;clear hf;go_simp <;> rfl),?_⟩)⟩
    refine (refSumB_any x t W (HK2.out.bel hW) (HG2.out.bel hW) (Nat.le_trans HTS.out (by decide))).mono ?_
    rintro e w' ⟨rfl,hb⟩
    refine ⟨_,rfl,.still (hW.trans (hb.mono hW.size)) (congrArg (fun l:List Value=>Value.agg l.toArray) (shaL_shaU x t).symm)⟩
   ·have e3:ev (.tmp 3)=.pointer (some ⟨w.heap.size,0,none⟩):=h0 3 rfl
    clear he h0 hc hg
    have hlv:=run_loadVar_row (P:=Tryz.prog) W w.heap.size 33 33 (D.map byteV).toArray (0,0) _ ((hW.block _ (blk_lt HXD2.out)).trans HXD2.out) dig_und rfl (dig_info2 HDL.out)
    refine .inl ⟨rfl,.inl ⟨_,W,?_,.still (hW) rfl⟩⟩
    unfold execOp
    simp only [e3,Instr.loadAt,Instr.sureAddr,Sem.run_bind,Sem.run_pure,Result.andThen_ok,hlv]
    try rfl
   ·have e26:ev (.tmp 26)=.agg ((shaU x t).map byteV).toArray:=he 5 (by decide) _ 26 rfl rfl
    have e27:ev (.tmp 27)=.agg (D.map byteV).toArray:=he 6 (by decide) _ 27 rfl rfl
    clear he h0 hc hg
    have hq:=dig_in W (shaU_len x t) HDL.out
    refine .inl ⟨rfl,.inl ⟨_,W,(by go_simp <;> rfl),.still (hW) rfl⟩⟩
  intro γ L W3 hL hW
  have HB3:=hZ (HB2.out.trans (hW.mono HB2.out.size))
  clear hL hW
  simp only [putAll,Act.put,List.setIfInBounds_toArray,List.set_cons_succ,List.set_cons_zero]
  by_cases hs:shaU x t=D
  ·have hq:(shaU x t == D)=true:=by rw [hs];simp
   rw [hq]
   go_wp2_with fail
   go_ret2
   exact ⟨by rw [HGG.out,if_neg (fun h=>h rfl),if_pos hs];rfl,HB3.out⟩
  ·have hq:(shaU x t == D)=false:=by simp [hs]
   rw [hq]
   go_wp2_with fail
   go_ret2
   exact ⟨by rw [HGG.out,if_neg (fun h=>h rfl),if_neg hs];rfl,HB3.out⟩
 ·have hxb:(ex != 0)=true:=bne_iff_ne.2 hex
  have HEX:=hZ hex
  clear hex
  go_wp2_with fail
  go_ret2
  exact ⟨by rw [HGG.out,if_pos HEX.out];rfl,HB2.out⟩
theorem refHas_any {w w0:World} {S P:Nat→Prop} {sb r n:Nat} {x:Int} {m:DM} (h:RSto w0 S P sb r x w n m) (hn4:n≤4000000000) (D:List UInt8) (hD:D.length=32) :
  Calls Tryz.prog 71 #[.pointer (some ⟨sb,0,none⟩),digV D] w fun e w'=>e=.returned (.tuple #[.bool (hasM m x D).1,.int .i64 (hasM m x D).2])∧Below w.heap.size w w':=by
 have hg:=fun W (hb:Below w.heap.size w W)=>refGet_any (h.bel hb) hn4 D hD
 have hH:hasM m x D=if (getM m x D).2=10∨(getM m x D).2=30 then (false,0) else ((getM m x D).2=0,(getM m x D).2):=rfl
 rw [hH]
 clear hH
 generalize (getM m x D).1=t at hg
 generalize (getM m x D).2=ex at hg ⊢
 have hI3:(Tryz.prog.info? 33).map (·.size)=some (D.map byteV).length:=by rw [List.length_map,hD];kernel_rfl
 have hU:=dig_und
 unfold digV at hg ⊢
 have HG:=hZ hg
 obtain ⟨W1,hW1⟩:∃ W,w.alloc (.cells (D.map byteV).toArray 33)=W:=⟨_,rfl⟩
 have HXD:Hid (W1.heap[w.heap.size]?=some (.cells (D.map byteV).toArray 33 (0,0))):=hZ (by rw [← hW1];exact heap_new _ _)
 have HB1:Hid (Below w.heap.size w W1):=hZ (by rw [← hW1];exact (Below.refl _ _).alloc (Nat.le_refl _) _)
 have HRG:Hid (W1.rangeAt w.heap.size 0 (D.map byteV)):=hZ (fun j v hv=>by
  rw [Nat.zero_add,cell_of_heapN HXD.out,List.getElem?_toArray]
  exact hv)
 clear hg h hD
 go_enter Tryz.func71,Tryz.ntmps71
 go_wp2_with (first | refine wpList_load_mid rfl _ _ rfl w.heap.size 0 rfl (D.map byteV) _ HRG.out hU rfl hI3 ?_)
 refine (HG.out _ HB1.out).mono ?_
 rintro e w2 ⟨rfl,hb2⟩
 have HB2:=hZ (HB1.out.trans (hb2.mono HB1.out.size))
 clear hb2
 by_cases h1:ex=10
 ·subst h1
  go_wp2_with fail
  go_ret2
  exact ⟨rfl,HB2.out⟩
 ·by_cases h2:ex=30
  ·subst h2
   go_wp2_with fail
   go_ret2
   exact ⟨rfl,HB2.out⟩
  ·have b1:(ex == 10)=false:=beq_eq_false_iff_ne.2 h1
   have b2:(ex == 30)=false:=beq_eq_false_iff_ne.2 h2
   have HN:=hZ (show ¬ (ex=10∨ex=30) from fun h=>h.elim h1 h2)
   clear h1 h2
   go_wp2_with fail
   go_ret2
   have e0:(ex == 0)=decide (ex=0):=by
    by_cases h0:ex=0
    ·subst h0;rfl
    ·rw [beq_eq_false_iff_ne.2 h0,decide_eq_false h0]
   exact ⟨congrArg (fun b=>Ending.returned (.tuple #[.bool b,.int .i64 ex])) e0,HB2.out⟩
theorem RPost.eq {w w1 w':World} {S P:Nat→Prop} {r n:Nat} {m m':DM} {c:DCall} {e:Ending} {y:Int} (hp:RPost w S P r w1 n m c e w') (he:m.op c=(m',y)):e=.returned (.int .i64 y)∧RSt w S P r w' (n+1) m'∧SameP P w1 w':=by
 obtain ⟨h1,h2,h3⟩:=hp
 rw [he] at h1 h2
 exact ⟨h1,h2,h3⟩
theorem refTake_any {w w1:World} {S P:Nat→Prop} {sb r n:Nat} {x:Int} {m:DM} (h:RSto w S P sb r x w1 n m) (hn:n+2≤4000000000) (D:List UInt8) (hD:D.length=32) :
  Calls Tryz.prog 72 #[.pointer (some ⟨sb,0,none⟩),digV D] w1 fun e w'=>e=.returned (.int .i64 (takeM m D).2)∧RSt w S P r w' (n+2) (takeM m D).1∧SameP P w1 w':=by
 have hfi:=fun W:World=>refFile_any D hD W
 have hT:takeM m D=seqM (m.op (.remove (fileN D))) fun m=>m.op .flush:=rfl
 rw [hT]
 clear hT
 generalize fileN D=F at hfi ⊢
 have hI3:(Tryz.prog.info? 33).map (·.size)=some (D.map byteV).length:=by rw [List.length_map,hD];kernel_rfl
 have hU:=dig_und
 unfold digV at hfi ⊢
 have HFI:=hZ hfi
 obtain ⟨W1,hW1⟩:∃ W,w1.alloc (.cells (D.map byteV).toArray 33)=W:=⟨_,rfl⟩
 have HXD:Hid (W1.heap[w1.heap.size]?=some (.cells (D.map byteV).toArray 33 (0,0))):=hZ (by rw [← hW1];exact heap_new _ _)
 have hb1:Below w1.heap.size w1 W1:=by rw [← hW1];exact (Below.refl _ _).alloc (Nat.le_refl _) _
 have HRG:Hid (W1.rangeAt w1.heap.size 0 (D.map byteV)):=hZ (fun j v hv=>by
  rw [Nat.zero_add,cell_of_heapN HXD.out,List.getElem?_toArray]
  exact hv)
 have H:=hZ (h.bel hb1)
 have HSM:=hZ (h.st.same hb1)
 clear hfi hD h hb1
 go_enter Tryz.func72,Tryz.ntmps72
 go_wp2_with (first | refine wpList_load_mid rfl _ _ rfl w1.heap.size 0 rfl (D.map byteV) _ HRG.out hU rfl hI3 ?_)
 refine (HFI.out _).mono ?_
 rintro e W2 ⟨rfl,hb2⟩
 have H2:=hZ (H.out.bel hb2)
 have HSM2:=hZ (H.out.st.same hb2)
 clear hb2
 go_wp2_with fail
 have hdo:=rdo_any H2.out ⟨5,⟨#[]⟩,F,0⟩ ⟨#[]⟩ (show 1≤5 by decide) (show 5≤6 by decide) rfl (by omega) (by decide)
 have hrc:rcall ⟨5,⟨#[]⟩,F,0⟩ ⟨#[]⟩=.remove F:=rfl
 rw [hrc] at hdo
 obtain ⟨m1,y,hop⟩:∃ m1 y,m.op (.remove F)=(m1,y):=⟨_,_,rfl⟩
 refine hdo.mono fun e W3 hp=>?_
 obtain ⟨rfl,q1,q2⟩:=hp.eq hop
 have H3:=hZ (H2.out.step q1 q2)
 have HSM3:=hZ q2
 have HOP:=hZ hop
 clear hdo hrc hp q1 q2 hop
 by_cases hy:y=0
 ·subst hy
  go_wp2_with fail
  have hdo:=rdo_any H3.out ⟨6,⟨#[]⟩,⟨#[]⟩,0⟩ ⟨#[]⟩ (by decide) (by decide) rfl (by omega) (by decide)
  have hrc:rcall ⟨6,⟨#[]⟩,⟨#[]⟩,0⟩ ⟨#[]⟩=.flush:=rfl
  rw [hrc] at hdo
  refine hdo.mono fun e W4 hp=>?_
  obtain ⟨m2,y2,hop2⟩:∃ m2 y2,m1.op .flush=(m2,y2):=⟨_,_,rfl⟩
  obtain ⟨rfl,q1,q2⟩:=hp.eq hop2
  have HOP2:=hZ hop2
  clear hp hop2 hdo
  go_wp2_with fail
  go_ret
  rw [seqM_ok _ HOP.out,HOP2.out]
  exact ⟨rfl,q1,fun b hb=>(q2 b hb).trans ((HSM3.out b hb).trans ((HSM2.out b hb).trans (HSM.out b hb)))⟩
 ·have hyb:(y != 0)=true:=bne_iff_ne.2 hy
  have HY:=hZ hy
  clear hy
  go_wp2_with fail
  go_ret
  rw [seqM_no _ HOP.out HY.out]
  exact ⟨rfl,H3.out.st.more (by omega),fun b hb=>(HSM3.out b hb).trans ((HSM2.out b hb).trans (HSM.out b hb))⟩
end Go.Proofs.YtecgikanophonaaGreatDoor
/- The contract of the reference's lay. -/
namespace Go.Proofs.YtecgikanophonaaGreatDoor
open Go Go.RowKit
theorem fix_no {m:DM} {y:Int} (h:y≠28):fixM (m,y)=(m,y):=if_neg h
theorem fix_yes {m m1 m2:DM} {y1 y2:Int} (h1:m.op (.remove handN)=(m1,y1)) (h2:m1.op .flush=(m2,y2)):fixM (m,28)=(m2,28):=by
 unfold fixM
 rw [if_pos rfl]
 show ((((m.op (.remove handN)).1.op .flush).1,28):DM × Int)=_
 rw [h1,h2]
theorem layM_eq (m:DM) (name t:ByteArray):layM m name t=seqM (clearM m) fun m=>seqM (m.op (.create handN)) fun m =>
  fixM (seqM (m.op (.write handN t)) fun m=>seqM (m.op (.sync handN)) fun m=>seqM (m.op (.rename handN name)) fun m=>m.op .flush):=rfl
theorem clear_no {m:DM} (h:(m.reads handN).2≠0):clearM m=(m,0):=if_neg h
theorem clear_yes {m m1:DM} {y1:Int} (h:(m.reads handN).2=0) (h1:m.op (.remove handN)=(m1,y1)) (hy:y1≠0):clearM m=(m1,y1):=(if_pos h).trans (seqM_no _ h1 hy)
theorem clear_ok {m m1 m2:DM} {y2:Int} (h:(m.reads handN).2=0) (h1:m.op (.remove handN)=(m1,0)) (h2:m1.op .flush=(m2,y2)):clearM m=(m2,y2):=((if_pos h).trans (seqM_ok _ h1)).trans h2
theorem refLay_any {w w1:World} {S P:Nat→Prop} {sb r n:Nat} {x:Int} {m:DM} (h:RSto w S P sb r x w1 n m) (hn:n+9≤4000000000) (name t:ByteArray) (ht:t.size≤140737488355328) :
  Calls Tryz.prog 123 #[.pointer (some ⟨sb,0,none⟩),.string name,.string t] w1 fun e w'=>e=.returned (.int .i64 (layM m name t).2)∧RSt w S P r w' (n+9) (layM m name t).1∧SameP P w1 w':=by
 have hrd:=rread_any h (by omega) handN
 obtain ⟨c0,-⟩:=h.cells
 have H0:=hZ h
 have S0:Hid (SameP P w1 w1):=hZ (fun _ _=>rfl)
 have hR:∃ u ex,(m.reads handN).1=u∧(m.reads handN).2=ex:=⟨_,_,rfl,rfl⟩
 obtain ⟨u,ex,hu,hx⟩:=hR
 rw [hu,hx] at hrd
 have HX:=hZ hx
 rw [layM_eq]
 clear h hu hx
 go_enter Tryz.func123,Tryz.ntmps123
 go_wp2_with fail
 refine hrd.mono ?_
 rintro e W1 ⟨rfl,hb1⟩
 have H1:=hZ (H0.out.bel hb1)
 have S1:=hZ (H0.out.st.same hb1)
 clear hb1 hrd
 by_cases hex:ex=0
 ·subst hex
  go_wp2_with fail
  have hdo:=rdo_any H1.out ⟨5,⟨#[]⟩,handN,0⟩ ⟨#[]⟩ (show 1≤5 by decide) (show 5≤6 by decide) rfl (by omega) (by decide)
  have hrc:rcall ⟨5,⟨#[]⟩,handN,0⟩ ⟨#[]⟩=.remove handN:=rfl
  rw [hrc] at hdo
  obtain ⟨m2,y2,hop⟩:∃ m' y,m.op (.remove handN)=(m',y):=⟨_,_,rfl⟩
  refine hdo.mono fun e W2 hp=>?_
  obtain ⟨rfl,q1,q2⟩:=hp.eq hop
  have H2:=hZ (H1.out.step q1 q2)
  have S2:Hid (SameP P w1 W2):=hZ (fun b hb=>(q2 b hb).trans (S1.out b hb))
  have O2:=hZ hop
  clear hdo hrc hp q1 q2 hop
  by_cases h2:y2=0
  ·subst h2
   go_wp2_with fail
   have hdo:=rdo_any H2.out ⟨6,⟨#[]⟩,⟨#[]⟩,0⟩ ⟨#[]⟩ (show 1≤6 by decide) (show 6≤6 by decide) rfl (by omega) (by decide)
   have hrc:rcall ⟨6,⟨#[]⟩,⟨#[]⟩,0⟩ ⟨#[]⟩=.flush:=rfl
   rw [hrc] at hdo
   obtain ⟨m3,y3,hop⟩:∃ m' y,m2.op (.flush)=(m',y):=⟨_,_,rfl⟩
   refine hdo.mono fun e W3 hp=>?_
   obtain ⟨rfl,q1,q2⟩:=hp.eq hop
   have H3:=hZ (H2.out.step q1 q2)
   have S3:Hid (SameP P w1 W3):=hZ (fun b hb=>(q2 b hb).trans (S2.out b hb))
   have O3:=hZ hop
   clear hdo hrc hp q1 q2 hop
   by_cases h3:y3=0
   ·subst h3
    go_wp2_with fail
    have hdo:=rdo_any H3.out ⟨1,⟨#[]⟩,handN,0⟩ ⟨#[]⟩ (show 1≤1 by decide) (show 1≤6 by decide) rfl (by omega) (by decide)
    have hrc:rcall ⟨1,⟨#[]⟩,handN,0⟩ ⟨#[]⟩=.create handN:=rfl
    rw [hrc] at hdo
    obtain ⟨m10,y10,hop⟩:∃ m' y,m3.op (.create handN)=(m',y):=⟨_,_,rfl⟩
    refine hdo.mono fun e W10 hp=>?_
    obtain ⟨rfl,q1,q2⟩:=hp.eq hop
    have H10:=hZ (H3.out.step q1 q2)
    have S10:Hid (SameP P w1 W10):=hZ (fun b hb=>(q2 b hb).trans (S3.out b hb))
    have O10:=hZ hop
    clear hdo hrc hp q1 q2 hop
    by_cases h10:y10=0
    ·subst h10
     go_wp2_with fail
     have hdo:=rdo_any H10.out ⟨2,⟨#[]⟩,handN,0⟩ t (show 1≤2 by decide) (show 2≤6 by decide) rfl (by omega) ht
     have hrc:rcall ⟨2,⟨#[]⟩,handN,0⟩ t=.write handN t:=rfl
     rw [hrc] at hdo
     obtain ⟨m11,y11,hop⟩:∃ m' y,m10.op (.write handN t)=(m',y):=⟨_,_,rfl⟩
     refine hdo.mono fun e W11 hp=>?_
     obtain ⟨rfl,q1,q2⟩:=hp.eq hop
     have H11:=hZ (H10.out.step q1 q2)
     have S11:Hid (SameP P w1 W11):=hZ (fun b hb=>(q2 b hb).trans (S10.out b hb))
     have O11:=hZ hop
     clear hdo hrc hp q1 q2 hop
     by_cases h28:y11=28
     ·subst h28
      go_wp2_with fail
      have hdo:=rdo_any H11.out ⟨5,⟨#[]⟩,handN,0⟩ ⟨#[]⟩ (show 1≤5 by decide) (show 5≤6 by decide) rfl (by omega) (by decide)
      have hrc:rcall ⟨5,⟨#[]⟩,handN,0⟩ ⟨#[]⟩=.remove handN:=rfl
      rw [hrc] at hdo
      obtain ⟨m12,y12,hop⟩:∃ m' y,m11.op (.remove handN)=(m',y):=⟨_,_,rfl⟩
      refine hdo.mono fun e W12 hp=>?_
      obtain ⟨rfl,q1,q2⟩:=hp.eq hop
      have H12:=hZ (H11.out.step q1 q2)
      have S12:Hid (SameP P w1 W12):=hZ (fun b hb=>(q2 b hb).trans (S11.out b hb))
      have O12:=hZ hop
      clear hdo hrc hp q1 q2 hop
      go_wp2_with fail
      have hdo:=rdo_any H12.out ⟨6,⟨#[]⟩,⟨#[]⟩,0⟩ ⟨#[]⟩ (show 1≤6 by decide) (show 6≤6 by decide) rfl (by omega) (by decide)
      have hrc:rcall ⟨6,⟨#[]⟩,⟨#[]⟩,0⟩ ⟨#[]⟩=.flush:=rfl
      rw [hrc] at hdo
      obtain ⟨m13,y13,hop⟩:∃ m' y,m12.op (.flush)=(m',y):=⟨_,_,rfl⟩
      refine hdo.mono fun e W13 hp=>?_
      obtain ⟨rfl,q1,q2⟩:=hp.eq hop
      have H13:=hZ (H12.out.step q1 q2)
      have S13:Hid (SameP P w1 W13):=hZ (fun b hb=>(q2 b hb).trans (S12.out b hb))
      have O13:=hZ hop
      clear hdo hrc hp q1 q2 hop
      go_wp2_with fail
      go_ret
      rw [seqM_ok _ (clear_ok HX.out O2.out O3.out),seqM_ok _ O10.out,seqM_no _ O11.out (by decide),fix_yes O12.out O13.out]
      exact ⟨rfl,H13.out.st.more (by omega),S13.out⟩
     ·have b28:(y11 == 28)=false:=beq_eq_false_iff_ne.2 h28
      have N28:=hZ h28
      clear h28
      by_cases h11:y11=0
      ·subst h11
       go_wp2_with fail
       have hdo:=rdo_any H11.out ⟨3,⟨#[]⟩,handN,0⟩ ⟨#[]⟩ (show 1≤3 by decide) (show 3≤6 by decide) rfl (by omega) (by decide)
       have hrc:rcall ⟨3,⟨#[]⟩,handN,0⟩ ⟨#[]⟩=.sync handN:=rfl
       rw [hrc] at hdo
       obtain ⟨m12,y12,hop⟩:∃ m' y,m11.op (.sync handN)=(m',y):=⟨_,_,rfl⟩
       refine hdo.mono fun e W12 hp=>?_
       obtain ⟨rfl,q1,q2⟩:=hp.eq hop
       have H12:=hZ (H11.out.step q1 q2)
       have S12:Hid (SameP P w1 W12):=hZ (fun b hb=>(q2 b hb).trans (S11.out b hb))
       have O12:=hZ hop
       clear hdo hrc hp q1 q2 hop
       have N12:=hZ (show y12≠28 from by have h:=op_no28 m11 (.sync handN) (fun _ _ e=>by cases e);rw [O12.out] at h;exact h)
       by_cases h12:y12=0
       ·subst h12
        go_wp2_with fail
        have hdo:=rdo_any H12.out ⟨4,handN,name,0⟩ ⟨#[]⟩ (show 1≤4 by decide) (show 4≤6 by decide) rfl (by omega) (by decide)
        have hrc:rcall ⟨4,handN,name,0⟩ ⟨#[]⟩=.rename handN name:=rfl
        rw [hrc] at hdo
        obtain ⟨m13,y13,hop⟩:∃ m' y,m12.op (.rename handN name)=(m',y):=⟨_,_,rfl⟩
        refine hdo.mono fun e W13 hp=>?_
        obtain ⟨rfl,q1,q2⟩:=hp.eq hop
        have H13:=hZ (H12.out.step q1 q2)
        have S13:Hid (SameP P w1 W13):=hZ (fun b hb=>(q2 b hb).trans (S12.out b hb))
        have O13:=hZ hop
        clear hdo hrc hp q1 q2 hop
        have N13:=hZ (show y13≠28 from by have h:=op_no28 m12 (.rename handN name) (fun _ _ e=>by cases e);rw [O13.out] at h;exact h)
        by_cases h13:y13=0
        ·subst h13
         go_wp2_with fail
         have hdo:=rdo_any H13.out ⟨6,⟨#[]⟩,⟨#[]⟩,0⟩ ⟨#[]⟩ (show 1≤6 by decide) (show 6≤6 by decide) rfl (by omega) (by decide)
         have hrc:rcall ⟨6,⟨#[]⟩,⟨#[]⟩,0⟩ ⟨#[]⟩=.flush:=rfl
         rw [hrc] at hdo
         obtain ⟨m14,y14,hop⟩:∃ m' y,m13.op (.flush)=(m',y):=⟨_,_,rfl⟩
         refine hdo.mono fun e W14 hp=>?_
         obtain ⟨rfl,q1,q2⟩:=hp.eq hop
         have H14:=hZ (H13.out.step q1 q2)
         have S14:Hid (SameP P w1 W14):=hZ (fun b hb=>(q2 b hb).trans (S13.out b hb))
         have O14:=hZ hop
         clear hdo hrc hp q1 q2 hop
         have N14:=hZ (show y14≠28 from by have h:=op_no28 m13 .flush (fun _ _ e=>by cases e);rw [O14.out] at h;exact h)
         go_wp2_with fail
         go_ret
         rw [seqM_ok _ (clear_ok HX.out O2.out O3.out),seqM_ok _ O10.out,seqM_ok _ O11.out,seqM_ok _ O12.out,seqM_ok _ O13.out,O14.out,fix_no N14.out]
         exact ⟨rfl,H14.out.st.more (by omega),S14.out⟩
        ·have b13:(y13 == 0)=false:=beq_eq_false_iff_ne.2 h13
         have Z13:=hZ h13
         clear h13
         go_wp2_with fail
         go_ret
         rw [seqM_ok _ (clear_ok HX.out O2.out O3.out),seqM_ok _ O10.out,seqM_ok _ O11.out,seqM_ok _ O12.out,seqM_no _ O13.out Z13.out,fix_no N13.out]
         exact ⟨rfl,H13.out.st.more (by omega),S13.out⟩
       ·have b12:(y12 == 0)=false:=beq_eq_false_iff_ne.2 h12
        have Z12:=hZ h12
        clear h12
        go_wp2_with fail
        go_ret
        rw [seqM_ok _ (clear_ok HX.out O2.out O3.out),seqM_ok _ O10.out,seqM_ok _ O11.out,seqM_no _ O12.out Z12.out,fix_no N12.out]
        exact ⟨rfl,H12.out.st.more (by omega),S12.out⟩
      ·have b11:(y11 == 0)=false:=beq_eq_false_iff_ne.2 h11
       have Z11:=hZ h11
       clear h11
       go_wp2_with fail
       go_ret
       rw [seqM_ok _ (clear_ok HX.out O2.out O3.out),seqM_ok _ O10.out,seqM_no _ O11.out Z11.out,fix_no N28.out]
       exact ⟨rfl,H11.out.st.more (by omega),S11.out⟩
    ·have b10:(y10 != 0)=true:=bne_iff_ne.2 h10
     have Z10:=hZ h10
     clear h10
     go_wp2_with fail
     go_ret
     rw [seqM_ok _ (clear_ok HX.out O2.out O3.out),seqM_no _ O10.out Z10.out]
     exact ⟨rfl,H10.out.st.more (by omega),S10.out⟩
   ·have b3:(y3 != 0)=true:=bne_iff_ne.2 h3
    have Z3:=hZ h3
    clear h3
    go_wp2_with fail
    go_ret
    rw [seqM_no _ (clear_ok HX.out O2.out O3.out) Z3.out]
    exact ⟨rfl,H3.out.st.more (by omega),S3.out⟩
  ·have b2:(y2 == 0)=false:=beq_eq_false_iff_ne.2 h2
   have b3:(y2 != 0)=true:=bne_iff_ne.2 h2
   have Z2:=hZ h2
   clear h2
   go_wp2_with fail
   go_ret
   rw [seqM_no _ (clear_yes HX.out O2.out Z2.out) Z2.out]
   exact ⟨rfl,H2.out.st.more (by omega),S2.out⟩
 ·have bx:(ex == 0)=false:=beq_eq_false_iff_ne.2 hex
  have ZX:=hZ (show (m.reads handN).2≠0 from by rw [HX.out];exact hex)
  clear hex
  go_wp2_with fail
  have hdo:=rdo_any H1.out ⟨1,⟨#[]⟩,handN,0⟩ ⟨#[]⟩ (show 1≤1 by decide) (show 1≤6 by decide) rfl (by omega) (by decide)
  have hrc:rcall ⟨1,⟨#[]⟩,handN,0⟩ ⟨#[]⟩=.create handN:=rfl
  rw [hrc] at hdo
  obtain ⟨m10,y10,hop⟩:∃ m' y,m.op (.create handN)=(m',y):=⟨_,_,rfl⟩
  refine hdo.mono fun e W10 hp=>?_
  obtain ⟨rfl,q1,q2⟩:=hp.eq hop
  have H10:=hZ (H1.out.step q1 q2)
  have S10:Hid (SameP P w1 W10):=hZ (fun b hb=>(q2 b hb).trans (S1.out b hb))
  have O10:=hZ hop
  clear hdo hrc hp q1 q2 hop
  by_cases h10:y10=0
  ·subst h10
   go_wp2_with fail
   have hdo:=rdo_any H10.out ⟨2,⟨#[]⟩,handN,0⟩ t (show 1≤2 by decide) (show 2≤6 by decide) rfl (by omega) ht
   have hrc:rcall ⟨2,⟨#[]⟩,handN,0⟩ t=.write handN t:=rfl
   rw [hrc] at hdo
   obtain ⟨m11,y11,hop⟩:∃ m' y,m10.op (.write handN t)=(m',y):=⟨_,_,rfl⟩
   refine hdo.mono fun e W11 hp=>?_
   obtain ⟨rfl,q1,q2⟩:=hp.eq hop
   have H11:=hZ (H10.out.step q1 q2)
   have S11:Hid (SameP P w1 W11):=hZ (fun b hb=>(q2 b hb).trans (S10.out b hb))
   have O11:=hZ hop
   clear hdo hrc hp q1 q2 hop
   by_cases h28:y11=28
   ·subst h28
    go_wp2_with fail
    have hdo:=rdo_any H11.out ⟨5,⟨#[]⟩,handN,0⟩ ⟨#[]⟩ (show 1≤5 by decide) (show 5≤6 by decide) rfl (by omega) (by decide)
    have hrc:rcall ⟨5,⟨#[]⟩,handN,0⟩ ⟨#[]⟩=.remove handN:=rfl
    rw [hrc] at hdo
    obtain ⟨m12,y12,hop⟩:∃ m' y,m11.op (.remove handN)=(m',y):=⟨_,_,rfl⟩
    refine hdo.mono fun e W12 hp=>?_
    obtain ⟨rfl,q1,q2⟩:=hp.eq hop
    have H12:=hZ (H11.out.step q1 q2)
    have S12:Hid (SameP P w1 W12):=hZ (fun b hb=>(q2 b hb).trans (S11.out b hb))
    have O12:=hZ hop
    clear hdo hrc hp q1 q2 hop
    go_wp2_with fail
    have hdo:=rdo_any H12.out ⟨6,⟨#[]⟩,⟨#[]⟩,0⟩ ⟨#[]⟩ (show 1≤6 by decide) (show 6≤6 by decide) rfl (by omega) (by decide)
    have hrc:rcall ⟨6,⟨#[]⟩,⟨#[]⟩,0⟩ ⟨#[]⟩=.flush:=rfl
    rw [hrc] at hdo
    obtain ⟨m13,y13,hop⟩:∃ m' y,m12.op (.flush)=(m',y):=⟨_,_,rfl⟩
    refine hdo.mono fun e W13 hp=>?_
    obtain ⟨rfl,q1,q2⟩:=hp.eq hop
    have H13:=hZ (H12.out.step q1 q2)
    have S13:Hid (SameP P w1 W13):=hZ (fun b hb=>(q2 b hb).trans (S12.out b hb))
    have O13:=hZ hop
    clear hdo hrc hp q1 q2 hop
    go_wp2_with fail
    go_ret
    rw [seqM_ok _ (clear_no ZX.out),seqM_ok _ O10.out,seqM_no _ O11.out (by decide),fix_yes O12.out O13.out]
    exact ⟨rfl,H13.out.st.more (by omega),S13.out⟩
   ·have b28:(y11 == 28)=false:=beq_eq_false_iff_ne.2 h28
    have N28:=hZ h28
    clear h28
    by_cases h11:y11=0
    ·subst h11
     go_wp2_with fail
     have hdo:=rdo_any H11.out ⟨3,⟨#[]⟩,handN,0⟩ ⟨#[]⟩ (show 1≤3 by decide) (show 3≤6 by decide) rfl (by omega) (by decide)
     have hrc:rcall ⟨3,⟨#[]⟩,handN,0⟩ ⟨#[]⟩=.sync handN:=rfl
     rw [hrc] at hdo
     obtain ⟨m12,y12,hop⟩:∃ m' y,m11.op (.sync handN)=(m',y):=⟨_,_,rfl⟩
     refine hdo.mono fun e W12 hp=>?_
     obtain ⟨rfl,q1,q2⟩:=hp.eq hop
     have H12:=hZ (H11.out.step q1 q2)
     have S12:Hid (SameP P w1 W12):=hZ (fun b hb=>(q2 b hb).trans (S11.out b hb))
     have O12:=hZ hop
     clear hdo hrc hp q1 q2 hop
     have N12:=hZ (show y12≠28 from by have h:=op_no28 m11 (.sync handN) (fun _ _ e=>by cases e);rw [O12.out] at h;exact h)
     by_cases h12:y12=0
     ·subst h12
      go_wp2_with fail
      have hdo:=rdo_any H12.out ⟨4,handN,name,0⟩ ⟨#[]⟩ (show 1≤4 by decide) (show 4≤6 by decide) rfl (by omega) (by decide)
      have hrc:rcall ⟨4,handN,name,0⟩ ⟨#[]⟩=.rename handN name:=rfl
      rw [hrc] at hdo
      obtain ⟨m13,y13,hop⟩:∃ m' y,m12.op (.rename handN name)=(m',y):=⟨_,_,rfl⟩
      refine hdo.mono fun e W13 hp=>?_
      obtain ⟨rfl,q1,q2⟩:=hp.eq hop
      have H13:=hZ (H12.out.step q1 q2)
      have S13:Hid (SameP P w1 W13):=hZ (fun b hb=>(q2 b hb).trans (S12.out b hb))
      have O13:=hZ hop
      clear hdo hrc hp q1 q2 hop
      have N13:=hZ (show y13≠28 from by have h:=op_no28 m12 (.rename handN name) (fun _ _ e=>by cases e);rw [O13.out] at h;exact h)
      by_cases h13:y13=0
      ·subst h13
       go_wp2_with fail
       have hdo:=rdo_any H13.out ⟨6,⟨#[]⟩,⟨#[]⟩,0⟩ ⟨#[]⟩ (show 1≤6 by decide) (show 6≤6 by decide) rfl (by omega) (by decide)
       have hrc:rcall ⟨6,⟨#[]⟩,⟨#[]⟩,0⟩ ⟨#[]⟩=.flush:=rfl
       rw [hrc] at hdo
       obtain ⟨m14,y14,hop⟩:∃ m' y,m13.op (.flush)=(m',y):=⟨_,_,rfl⟩
       refine hdo.mono fun e W14 hp=>?_
       obtain ⟨rfl,q1,q2⟩:=hp.eq hop
       have H14:=hZ (H13.out.step q1 q2)
       have S14:Hid (SameP P w1 W14):=hZ (fun b hb=>(q2 b hb).trans (S13.out b hb))
       have O14:=hZ hop
       clear hdo hrc hp q1 q2 hop
       have N14:=hZ (show y14≠28 from by have h:=op_no28 m13 .flush (fun _ _ e=>by cases e);rw [O14.out] at h;exact h)
       go_wp2_with fail
       go_ret
       rw [seqM_ok _ (clear_no ZX.out),seqM_ok _ O10.out,seqM_ok _ O11.out,seqM_ok _ O12.out,seqM_ok _ O13.out,O14.out,fix_no N14.out]
       exact ⟨rfl,H14.out.st.more (by omega),S14.out⟩
      ·have b13:(y13 == 0)=false:=beq_eq_false_iff_ne.2 h13
       have Z13:=hZ h13
       clear h13
       go_wp2_with fail
       go_ret
       rw [seqM_ok _ (clear_no ZX.out),seqM_ok _ O10.out,seqM_ok _ O11.out,seqM_ok _ O12.out,seqM_no _ O13.out Z13.out,fix_no N13.out]
       exact ⟨rfl,H13.out.st.more (by omega),S13.out⟩
     ·have b12:(y12 == 0)=false:=beq_eq_false_iff_ne.2 h12
      have Z12:=hZ h12
      clear h12
      go_wp2_with fail
      go_ret
      rw [seqM_ok _ (clear_no ZX.out),seqM_ok _ O10.out,seqM_ok _ O11.out,seqM_no _ O12.out Z12.out,fix_no N12.out]
      exact ⟨rfl,H12.out.st.more (by omega),S12.out⟩
    ·have b11:(y11 == 0)=false:=beq_eq_false_iff_ne.2 h11
     have Z11:=hZ h11
     clear h11
     go_wp2_with fail
     go_ret
     rw [seqM_ok _ (clear_no ZX.out),seqM_ok _ O10.out,seqM_no _ O11.out Z11.out,fix_no N28.out]
     exact ⟨rfl,H11.out.st.more (by omega),S11.out⟩
  ·have b10:(y10 != 0)=true:=bne_iff_ne.2 h10
   have Z10:=hZ h10
   clear h10
   go_wp2_with fail
   go_ret
   rw [seqM_ok _ (clear_no ZX.out),seqM_no _ O10.out Z10.out]
   exact ⟨rfl,H10.out.st.more (by omega),S10.out⟩
end Go.Proofs.YtecgikanophonaaGreatDoor
/- The contract of the reference's Put. -/
namespace Go.Proofs.YtecgikanophonaaGreatDoor
open Go Go.RowKit
section
variable {w w1 w2:World} {S P:Nat→Prop} {sb r n n':Nat} {x:Int} {m m':DM}
theorem RSto.off (h:RSto w S P sb r x w1 n m):w1.cell? ⟨r,0,none⟩=some (.bool m.off):=by
 obtain ⟨⟨S1,⟨⟨fv,nv,sv,pv,kv,ro,hr⟩,-,-⟩,-⟩,-⟩:=h.st
 exact hr.cells.1
end
theorem RSto.result {m':DM} {w w1 W:World} {S P Q:Nat→Prop} {sb r n:Nat} {x:Int} {m:DM} {k n':Nat} (h:RSto w S Q sb r x W n m) (h0:RSto w S P sb r x w1 n' m') (hQ:∀ b,P b→Q b) (hk:k=w1.heap.size) (hq:Q k) (hs:SameP P w1 W) (o:Obj) {n2:Nat} (hn:n≤n2) :
  RSt w S P r (Go.Proofs.YtecgikanophonaaGreatDoor.setBlk W k o) n2 m∧SameP P w1 (Go.Proofs.YtecgikanophonaaGreatDoor.setBlk W k o):=by
 subst hk
 refine ⟨((h.st.setBlk h0.st.size hq o).sub P hQ).more hn,fun b hb=>?_⟩
 have hlt:=h0.st.pl b hb
 exact (setBlk_other (fun e=>by omega)).trans (hs b hb)
theorem refPut_any {w w1:World} {S P:Nat→Prop} {sb r n:Nat} {x:Int} {m:DM} (h:RSto w S P sb r x w1 n m) (hn:n+9≤4000000000) (t:ByteArray) (ht:t.size≤140737488351232) :
  Calls Tryz.prog 69 #[.pointer (some ⟨sb,0,none⟩),.string t] w1 fun e w'=>e=.returned (.tuple #[digV (putM m x t).2.1,.int .i64 (putM m x t).2.2])∧RSt w S P r w' (n+9) (putM m x t).1∧SameP P w1 w':=by
 have hI2z:(Tryz.prog.info? 33).map (·.size)=some (zeroD.map byteV).toArray.size:=by kernel_rfl
 have h1z:(zeroD.map byteV).toArray.all (·.oneCell')=true:=dig_one zeroD
 have H00:=hZ h
 obtain ⟨W0,hW0⟩:∃ W,w1.alloc (.cells z32 33)=W:=⟨_,rfl⟩
 have G0:Hid (W0.heap[w1.heap.size]?=some (.cells z32 33 (0,0))):=hZ (by rw [← hW0];exact heap_new _ _)
 have hb0:Below w1.heap.size w1 W0:=by rw [← hW0];exact (Below.refl _ _).alloc (Nat.le_refl _) _
 have hz0:W0.heap.size=w1.heap.size+1:=by rw [← hW0];exact Array.size_push ..
 have H0:=hZ (h.more hb0 (fun b=>P b∨b=w1.heap.size) (fun b hb=>.inl hb) (fun b hb=>hb.elim .inl (fun e=>.inr ⟨by omega,by omega⟩)))
 have S0:=hZ (h.st.same hb0)
 have Z0:=hZ hz0
 have hW1:w1.alloc (.cells #[.int .u8 0,.int .u8 0,.int .u8 0,.int .u8 0,.int .u8 0,.int .u8 0,.int .u8 0,.int .u8 0,.int .u8 0,.int .u8 0,.int .u8 0,.int .u8 0,.int .u8 0,.int .u8 0,.int .u8 0,.int .u8 0,.int .u8 0,.int .u8 0,.int .u8 0,.int .u8 0,.int .u8 0,.int .u8 0,.int .u8 0,.int .u8 0,.int .u8 0,.int .u8 0,.int .u8 0,.int .u8 0,.int .u8 0,.int .u8 0,.int .u8 0,.int .u8 0] 33)=W0:=hW0
 obtain ⟨c0,c1⟩:=H0.out.cells
 have cf:=H0.out.off
 have HNE:=hZ (show sb≠w1.heap.size∧2≠w1.heap.size∧0≠w1.heap.size from ⟨fun e=>by have:=h.st.pl _ h.pb;omega,fun e=>by have:=h.st.pl _ h.pr;omega,fun e=>by have:=h.st.pl _ h.pg;omega⟩)
 clear hW0 hb0 hz0
 cases hoff:m.off with
 |true =>
  have hP:putM m x t=(m,zeroD,27):=if_pos hoff
  rw [hP]
  rw [hoff] at cf
  obtain ⟨q1,q2⟩:=H0.out.result H00.out (fun b hb=>.inl hb) rfl (.inr rfl) S0.out (.cells (zeroD.map byteV).toArray 33 (0,0)) (show n≤n+9 by omega)
  have Q1:=hZ q1
  have Q2:=hZ q2
  have HG:Hid ((setBlk W0 w1.heap.size (.cells (zeroD.map byteV).toArray 33 (0,0))).heap[w1.heap.size]?=some (.cells (zeroD.map byteV).toArray 33 (0,0))):=hZ (setBlk_heap (blk_lt G0.out))
  clear h hP hoff q1 q2
  go_enter Tryz.func69,Tryz.ntmps69
  go_wp2_with (first | (refine wpList_store_row rfl _ _ _ rfl w1.heap.size (zeroD.map byteV).toArray rfl rfl 33 z32 G0.out hI2z rfl h1z ?_;rw [setRow_setBlk G0.out]))
  refine bodyPost_ret (v:=.tuple #[digV zeroD,.int .i64 27]) (results_dig (fn:=Tryz.f69) (p:=4) (u:=5) rfl _ _ w1.heap.size _ _ rfl HG.out rfl) rfl ⟨rfl,Q1.out,Q2.out⟩
 |false =>
  obtain ⟨D,hD⟩:∃ D,shaU x t=D:=⟨_,rfl⟩
  have hl:D.length=32:=by rw [← hD];exact shaU_len x t
  have hP:putM m x t=match rightM m x (fileN D) with
   |some u=>if u=t then (m,D,0) else (m,zeroD,29)
   |none=>if (layM m (fileN D) t).2=0 then ((layM m (fileN D) t).1,D,0) else ((layM m (fileN D) t).1,zeroD,(layM m (fileN D) t).2):=by
   rw [← hD]
   exact if_neg (by rw [hoff];decide)
  have hsum:=rsum_any H0.out t ht
  rw [hD] at hsum
  have hfi:=fun W:World=>refFile_any D hl W
  have hrt:∀ (Q:Nat→Prop) W,RSto w S Q sb r x W n m→Calls Tryz.prog 64 #[.pointer (some ⟨sb,0,none⟩),.string (fileN D)] W fun e w'=>e=.returned (.tuple #[.agg (D.map byteV).toArray,.string (m.reads (fileN D)).1,.bool (rightM m x (fileN D)).isSome])∧Below W.heap.size W w':=fun Q W hW=>by
   have h1:=refRightB_any hW (by omega) (fileN D) (by rw [fileN_list,List.take_append_of_le_length (by decide)];rfl) (by rw [fileN_size,hl];decide)
   unfold rightRV at h1
   rw [namedM_fileN hl] at h1
   exact h1
  have hu:∀ u,rightM m x (fileN D)=some u→(m.reads (fileN D)).1=u:=fun u hu=>by rw [(rightM_inv hl hu).1]
  have hlay:∀ (Q:Nat→Prop) W,RSto w S Q sb r x W n m→Calls Tryz.prog 123 #[.pointer (some ⟨sb,0,none⟩),.string (fileN D),.string t] W fun e w'=>e=.returned (.int .i64 (layM m (fileN D) t).2)∧RSt w S Q r w' (n+9) (layM m (fileN D) t).1∧SameP Q W w':=fun Q W hW=>refLay_any hW hn (fileN D) t (by omega)
  obtain ⟨R,hR⟩:∃ R,putM m x t=R:=⟨_,rfl⟩
  rw [hR]
  rw [hR] at hP
  rw [hoff] at cf
  clear hR hoff hD h
  generalize rightM m x (fileN D)=O at hrt hu hP
  generalize (m.reads (fileN D)).1=u0 at hrt hu
  generalize layM m (fileN D) t=LM at hlay hP
  generalize fileN D=F at hfi hrt hlay
  obtain ⟨ml,yl⟩:=LM
  have HP:=hZ hP
  have HRT:=hZ hrt
  have HU:=hZ hu
  have HLAY:=hZ hlay
  have hI3:(Tryz.prog.info? 33).map (·.size)=some (D.map byteV).length:=by rw [List.length_map,hl];kernel_rfl
  have hU:=dig_und
  have hI2:=dig_info2 hl
  have h1d:=dig_one D
  have hzd:=dig_size hl
  have HL:=hZ hl
  unfold digV at hfi hsum
  have HFI:=hZ hfi
  clear hrt hu hlay hl hfi hP
  go_enter Tryz.func69,Tryz.ntmps69
  go_wp2_with fail
  refine hsum.mono ?_
  rintro e W1 ⟨rfl,hb1⟩
  obtain ⟨W2,hW2⟩:∃ W,W1.alloc (.cells (D.map byteV).toArray 33)=W:=⟨_,rfl⟩
  have hb2:Below W1.heap.size W1 W2:=by rw [← hW2];exact (Below.refl _ _).alloc (Nat.le_refl _) _
  have hb02:Below W0.heap.size W0 W2:=hb1.trans (hb2.mono hb1.size)
  have hx6:W2.heap[W1.heap.size]?=some (.cells (D.map byteV).toArray 33 (0,0)):=by rw [← hW2];exact heap_new _ _
  have X6:=hZ hx6
  have hz2:W1.heap.size < W2.heap.size:=blk_lt hx6
  have H2:=hZ (H0.out.more hb02 (fun b=>(P b∨b=w1.heap.size)∨b=W1.heap.size) (fun b hb=>.inl hb) (fun b hb=>hb.elim .inl (fun e=>.inr ⟨by have:=hb1.size;omega,by omega⟩)))
  have G2:Hid (W2.heap[w1.heap.size]?=some (.cells z32 33 (0,0))):=hZ ((hb02.block _ (blk_lt G0.out)).trans G0.out)
  have S2:Hid (SameP P w1 W2):=hZ (fun b hb=>(H0.out.st.same hb02 b (.inl hb)).trans (S0.out b hb))
  have R6:Hid (W2.rangeAt W1.heap.size 0 (D.map byteV)):=hZ (fun j v hv=>by
   rw [Nat.zero_add,cell_of_heapN X6.out,List.getElem?_toArray]
   exact hv)
  have N6:=hZ (show W0.heap.size≤W1.heap.size from hb1.size)
  have HW2:=hZ hW2
  clear hb1 hb2 hb02 hx6 hW2 hsum hz2
  go_wp2_with (first | (refine wpList_store_new rfl _ _ _ rfl _ (D.map byteV).toArray _ rfl rfl rfl hI2 hzd h1d ?_;rw [HW2.out]) | refine wpList_load_mid rfl _ _ rfl W1.heap.size 0 rfl (D.map byteV) _ R6.out hU rfl hI3 ?_)
  refine (HFI.out _).mono ?_
  rintro e W3 ⟨rfl,hb3⟩
  have H3:=hZ (H2.out.bel hb3)
  have Y3:=hZ hb3
  clear hb3
  go_wp2_with fail
  refine (HRT.out _ _ H3.out).mono ?_
  rintro e W4 ⟨rfl,hb4⟩
  obtain ⟨W5,hW5⟩:∃ W,W4.alloc (.cells (D.map byteV).toArray 33)=W:=⟨_,rfl⟩
  have hb5:Below W4.heap.size W4 W5:=by rw [← hW5];exact (Below.refl _ _).alloc (Nat.le_refl _) _
  have hb25:Below W2.heap.size W2 W5:=Y3.out.trans ((hb4.trans (hb5.mono hb4.size)).mono Y3.out.size)
  have H5:=hZ (H2.out.bel hb25)
  have G5:Hid (W5.heap[w1.heap.size]?=some (.cells z32 33 (0,0))):=hZ ((hb25.block _ (blk_lt G2.out)).trans G2.out)
  have X5:Hid (W5.heap[W1.heap.size]?=some (.cells (D.map byteV).toArray 33 (0,0))):=hZ ((hb25.block _ (blk_lt X6.out)).trans X6.out)
  have S5:Hid (SameP P w1 W5):=hZ (fun b hb=>(H2.out.st.same hb25 b (.inl (.inl hb))).trans (S2.out b hb))
  have HW5:=hZ hW5
  clear hb4 hb5 hb25 hW5
  have W5st:True:=trivial
  cases O with
  |some u =>
   have hu:=HU.out u rfl
   subst hu
   have hok:((some u0).isSome:Bool)=true:=rfl
   by_cases hq:u0=t
   ·have hqb:(u0.toList == t.toList)=true:=by rw [hq];exact beq_self_eq_true _
    have hqc:(u0.toList != t.toList)=false:=by rw [hq];exact bne_self_eq_false _
    have hr:R=(m,D,0):=HP.out.trans (if_pos hq)
    subst hr
    obtain ⟨q1,q2⟩:=H5.out.result H00.out (fun b hb=>.inl (.inl hb)) rfl (.inl (.inr rfl)) S5.out (.cells (D.map byteV).toArray 33 (0,0)) (show n≤n+9 by omega)
    have Q1:=hZ q1
    have Q2:=hZ q2
    have HG:Hid ((setBlk W5 w1.heap.size (.cells (D.map byteV).toArray 33 (0,0))).heap[w1.heap.size]?=some (.cells (D.map byteV).toArray 33 (0,0))):=hZ (setBlk_heap (blk_lt G5.out))
    have R5:Hid (W5.rangeAt W1.heap.size 0 (D.map byteV)):=hZ (fun j v hv=>by
     rw [Nat.zero_add,cell_of_heapN X5.out,List.getElem?_toArray]
     exact hv)
    clear q1 q2 hq
    go_wp2_with (first | (refine wpList_store_new rfl _ _ _ rfl _ (D.map byteV).toArray _ rfl rfl rfl hI2 hzd h1d ?_;rw [HW5.out]) | refine wpList_load_mid rfl _ _ rfl W1.heap.size 0 rfl (D.map byteV) _ R5.out hU rfl hI3 ?_ | (refine wpList_store_row rfl _ _ _ rfl w1.heap.size (D.map byteV).toArray rfl rfl 33 z32 G5.out hI2 hzd h1d ?_;rw [setRow_setBlk G5.out]))
    refine bodyPost_ret (v:=.tuple #[digV D,.int .i64 0]) (results_dig (fn:=Tryz.f69) (p:=4) (u:=5) rfl _ _ w1.heap.size _ _ rfl HG.out (dig_size2 HL.out)) rfl ⟨rfl,Q1.out,Q2.out⟩
   ·have hqb:(u0.toList == t.toList)=false:=bytesNe hq
    have hqc:(u0.toList != t.toList)=true:=by unfold bne;rw [hqb];rfl
    have hr:R=(m,zeroD,29):=HP.out.trans (if_neg hq)
    subst hr
    obtain ⟨q1,q2⟩:=H5.out.result H00.out (fun b hb=>.inl (.inl hb)) rfl (.inl (.inr rfl)) S5.out (.cells (zeroD.map byteV).toArray 33 (0,0)) (show n≤n+9 by omega)
    have Q1:=hZ q1
    have Q2:=hZ q2
    have HG:Hid ((setBlk W5 w1.heap.size (.cells (zeroD.map byteV).toArray 33 (0,0))).heap[w1.heap.size]?=some (.cells (zeroD.map byteV).toArray 33 (0,0))):=hZ (setBlk_heap (blk_lt G5.out))
    clear q1 q2 hq
    go_wp2_with (first | (refine wpList_store_new rfl _ _ _ rfl _ (D.map byteV).toArray _ rfl rfl rfl hI2 hzd h1d ?_;rw [HW5.out]) | (refine wpList_store_row rfl _ _ _ rfl w1.heap.size (zeroD.map byteV).toArray rfl rfl 33 z32 G5.out hI2z rfl h1z ?_;rw [setRow_setBlk G5.out]))
    refine bodyPost_ret (v:=.tuple #[digV zeroD,.int .i64 29]) (results_dig (fn:=Tryz.f69) (p:=4) (u:=5) rfl _ _ w1.heap.size _ _ rfl HG.out rfl) rfl ⟨rfl,Q1.out,Q2.out⟩
  |none =>
   have R5:Hid (W5.rangeAt W1.heap.size 0 (D.map byteV)):=hZ (fun j v hv=>by
    rw [Nat.zero_add,cell_of_heapN X5.out,List.getElem?_toArray]
    exact hv)
   go_wp2_with (first | (refine wpList_store_new rfl _ _ _ rfl _ (D.map byteV).toArray _ rfl rfl rfl hI2 hzd h1d ?_;rw [HW5.out]) | refine wpList_load_mid rfl _ _ rfl W1.heap.size 0 rfl (D.map byteV) _ R5.out hU rfl hI3 ?_)
   refine (HFI.out _).mono ?_
   rintro e W6 ⟨rfl,hb6⟩
   have H6:=hZ (H5.out.bel hb6)
   have K6:Hid (SameP (fun b=>(P b∨b=w1.heap.size)∨b=W1.heap.size) W5 W6):=hZ (H5.out.st.same hb6)
   clear hb6
   go_wp2_with fail
   refine (HLAY.out _ _ H6.out).mono ?_
   rintro e W7 ⟨rfl,l1,l2⟩
   have H7:=hZ (H6.out.step l1 l2)
   have G7:Hid (W7.heap[w1.heap.size]?=some (.cells z32 33 (0,0))):=hZ ((l2 _ (.inl (.inr rfl))).trans ((K6.out _ (.inl (.inr rfl))).trans G5.out))
   have X7:Hid (W7.heap[W1.heap.size]?=some (.cells (D.map byteV).toArray 33 (0,0))):=hZ ((l2 _ (.inr rfl)).trans ((K6.out _ (.inr rfl)).trans X5.out))
   have S7:Hid (SameP P w1 W7):=hZ (fun b hb=>(l2 b (.inl (.inl hb))).trans ((K6.out b (.inl (.inl hb))).trans (S5.out b hb)))
   clear l1 l2
   by_cases hy:yl=0
   ·subst hy
    have hr:R=(ml,D,0):=HP.out.trans (if_pos rfl)
    subst hr
    obtain ⟨q1,q2⟩:=H7.out.result H00.out (fun b hb=>.inl (.inl hb)) rfl (.inl (.inr rfl)) S7.out (.cells (D.map byteV).toArray 33 (0,0)) (Nat.le_refl _)
    have Q1:=hZ q1
    have Q2:=hZ q2
    have HG:Hid ((setBlk W7 w1.heap.size (.cells (D.map byteV).toArray 33 (0,0))).heap[w1.heap.size]?=some (.cells (D.map byteV).toArray 33 (0,0))):=hZ (setBlk_heap (blk_lt G7.out))
    have R7:Hid (W7.rangeAt W1.heap.size 0 (D.map byteV)):=hZ (fun j v hv=>by
     rw [Nat.zero_add,cell_of_heapN X7.out,List.getElem?_toArray]
     exact hv)
    clear q1 q2
    go_wp2_with (first | refine wpList_load_mid rfl _ _ rfl W1.heap.size 0 rfl (D.map byteV) _ R7.out hU rfl hI3 ?_ | (refine wpList_store_row rfl _ _ _ rfl w1.heap.size (D.map byteV).toArray rfl rfl 33 z32 G7.out hI2 hzd h1d ?_;rw [setRow_setBlk G7.out]))
    refine bodyPost_ret (v:=.tuple #[digV D,.int .i64 0]) (results_dig (fn:=Tryz.f69) (p:=4) (u:=5) rfl _ _ w1.heap.size _ _ rfl HG.out (dig_size2 HL.out)) rfl ⟨rfl,Q1.out,Q2.out⟩
   ·have hyb:(yl != 0)=true:=bne_iff_ne.2 hy
    have hr:R=(ml,zeroD,yl):=HP.out.trans (if_neg hy)
    subst hr
    obtain ⟨q1,q2⟩:=H7.out.result H00.out (fun b hb=>.inl (.inl hb)) rfl (.inl (.inr rfl)) S7.out (.cells (zeroD.map byteV).toArray 33 (0,0)) (Nat.le_refl _)
    have Q1:=hZ q1
    have Q2:=hZ q2
    have HG:Hid ((setBlk W7 w1.heap.size (.cells (zeroD.map byteV).toArray 33 (0,0))).heap[w1.heap.size]?=some (.cells (zeroD.map byteV).toArray 33 (0,0))):=hZ (setBlk_heap (blk_lt G7.out))
    clear q1 q2 hy
    go_wp2_with (first | (refine wpList_store_row rfl _ _ _ rfl w1.heap.size (zeroD.map byteV).toArray rfl rfl 33 z32 G7.out hI2z rfl h1z ?_;rw [setRow_setBlk G7.out]))
    refine bodyPost_ret (v:=.tuple #[digV zeroD,.int .i64 yl]) (results_dig (fn:=Tryz.f69) (p:=4) (u:=5) rfl _ _ w1.heap.size _ _ rfl HG.out rfl) rfl ⟨rfl,Q1.out,Q2.out⟩
end Go.Proofs.YtecgikanophonaaGreatDoor
