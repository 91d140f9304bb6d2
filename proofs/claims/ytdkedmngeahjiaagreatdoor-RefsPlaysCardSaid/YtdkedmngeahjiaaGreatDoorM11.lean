/- Texts of the seat, one behind the other: List, RefT. -/
import Derived.Test.YtdkedmngeahjiaaGreatDoorDiskA
import Derived.Test.YtdkedmngeahjiaaGreatDoorNames
import Derived.Test.YtdkedmngeahjiaaGreatDoorM10
import Derived.Test.YtdkedmngeahjiaaGreatDoorM3
import Derived.Test.YtdkedmngeahjiaaGreatDoorM8
import Derived.Test.YtdkedmngeahjiaaGreatDoorProg
import Derived.WalkKit
set_option maxRecDepth 100000
set_option maxHeartbeats 25600000
/- The contract of List. -/
namespace Go.Proofs.YtdkedmngeahjiaaGreatDoor
open Go Go.RowKit Go.Maps Go.Shelf Go.Sort
def nameB (p:Bs × Nat):ByteArray:=⟨p.1.toArray⟩
def hasHead (h:ByteArray) (p:Bs × Nat):Bool:=Lib.hasPrefix p.1 h.data.toList
def DM.lists (m:DM) (h:ByteArray):List ByteArray:=if m.off then [] else (m.now.filter (hasHead h)).map nameB
def strV (s:ByteArray):Value:=.string s
def OwnTexts (B:Nat) (w:World) (v:Value) (l:List ByteArray):Prop:=w.ownsRow B 9 1 v l.length (l.map strV)
theorem infoS:(Tryz.prog.info? 9).map (fun i=>(i.zero,i.size,i.bytes))=some (some (.string ⟨#[]⟩),1,16):=by kernel_rfl
structure ListR (w wr:World) (t:Tab) (h:ByteArray) (np:Option Addr) (v:Value) (j:Nat):Prop where
 own:OwnTexts w.heap.size wr v (((t.take j).filter (hasHead h)).map nameB)
 bel:Below w.heap.size w wr
 row:∀ (i:Nat) (p:Bs × Nat),t[i]?=some p→∃ g cs,np=some ⟨g,0,none⟩∧wr.heap[g]?=some (.cells cs 9 (0,0))∧cs[i]?=some (.string (nameB p))∧v.ownBlock≠some g
theorem listR_start {w w2:World} {t:Tab} {loc:Nat→Nat} {h:ByteArray} {np:Option Addr} {b:Nat} (h2:Below (w.heap.size+1) (w.alloc (.cells #[.map (some b)] 85)) w2)
  (hnp:∀ (i:Nat) (u:Value),((locT loc t).map nameV)[i]?=some u→∃ g cs,np=some ⟨g,0,none⟩∧w2.heap[g]?=some (.cells cs 9 (0,0))∧cs[i]?=some u):ListR w w2 t h np (.slice none 0 0) 0:=by
 refine ⟨⟨rfl,.inl ⟨rfl,rfl⟩⟩,((Below.refl _ w).alloc (Nat.le_refl _) _).trans (h2.mono (by omega)),fun i p hp=>?_⟩
 obtain ⟨g,cs,h3,h4,h5⟩:=hnp i (nameV p) (by unfold locT;rw [List.map_map,List.getElem?_map,hp];rfl)
 exact ⟨g,cs,h3,h4,h5,fun e=>by cases e⟩
theorem take_filter_yes {t:Tab} {f:Bs × Nat→Bool} {j:Nat} {p:Bs × Nat} (hp:t[j]?=some p) (h:f p=true):(t.take (j+1)).filter f=(t.take j).filter f ++ [p]:=by
 rw [List.take_add_one,hp,List.filter_append]
 simp [h]
theorem take_filter_no {t:Tab} {f:Bs × Nat→Bool} {j:Nat} {p:Bs × Nat} (hp:t[j]?=some p) (h:f p=false):(t.take (j+1)).filter f=(t.take j).filter f:=by
 rw [List.take_add_one,hp,List.filter_append]
 simp [h]
theorem listR_no {w wr:World} {t:Tab} {h:ByteArray} {np:Option Addr} {v:Value} {j:Nat} {p:Bs × Nat} (hL:ListR w wr t h np v j) (hp:t[j]?=some p) (hh:hasHead h p=false):ListR w wr t h np v (j+1) :=
 ⟨by rw [take_filter_no hp hh];exact hL.own,hL.bel,hL.row⟩
theorem listR_yes {w wr wA w2:World} {t:Tab} {h:ByteArray} {np:Option Addr} {v v':Value} {j k:Nat} {p:Bs × Nat} {o:Obj} (hL:ListR w wr t h np v j) (hp:t[j]?=some p) (hh:hasHead h p=true) (hA:wA=wr.alloc o) (hk:k=(((t.take j).filter (hasHead h)).map nameB).length)
  (hrow:w2.ownsRow w.heap.size 9 1 v' (k+1) ((((t.take j).filter (hasHead h)).map nameB).map strV ++ [.string (nameB p)]))
  (hloc:(v'.ownBlock=v.ownBlock∧wA.grownBy w2 v.ownBlock)∨(v'.ownBlock=some wA.heap.size∧wA.grownBy w2 none)):ListR w w2 t h np v' (j+1):=by
 subst hA hk
 have hz:=hL.bel.size
 have hvb:∀ b,v.ownBlock=some b→w.heap.size≤b:=fun b hb=>by
  rcases hL.own.2 with ⟨rfl,_⟩ | ⟨g,cap,cur,rfl,h1,_⟩
  ·cases hb
  ·cases hb;exact h1
 refine ⟨?_,?_,fun i q hq=>?_⟩
 ·rw [take_filter_yes hp hh,List.map_append]
  unfold OwnTexts
  rw [List.length_append,List.map_append]
  exact hrow
 ·have h1:Below w.heap.size w (wr.alloc o):=hL.bel.alloc hz o
  have hzA:(wr.alloc o).heap.size=wr.heap.size+1:=World.size_alloc _ _
  rcases hloc with ⟨_,hq⟩ | ⟨_,hq⟩
  ·exact h1.trans ⟨hq.os,hq.tape,hq.output,hq.size,fun b hb=>hq.block b (by omega) (fun e=>by have:=hvb b e.symm;omega)⟩
  ·exact h1.trans ⟨hq.os,hq.tape,hq.output,hq.size,fun b hb=>hq.block b (by omega) (fun e=>by cases e)⟩
 ·obtain ⟨g,cs,h1,h2,h3,h4⟩:=hL.row i q hq
  have hg:=blk_lt h2
  have h5:(wr.alloc o).heap[g]?=_:=(Below.heap_alloc wr o g hg).trans h2
  rcases hloc with ⟨e,hq⟩ | ⟨e,hq⟩
  ·exact ⟨g,cs,h1,(hq.block g (blk_lt h5) (fun e2=>h4 e2.symm)).trans h5,h3,by rw [e];exact h4⟩
  ·refine ⟨g,cs,h1,(hq.block g (blk_lt h5) (fun e2=>by cases e2)).trans h5,h3,fun e2=>?_⟩
   rw [e] at e2
   cases e2
   rw [World.size_alloc] at hg
   omega
theorem list_any {w:World} {a n:Nat} {m:DM} {S:Nat→Prop} (h:DiskAt w a n m S) (hd:ByteArray) (hn:n≤8000000000000) :
  Calls Tryz.prog 17 #[.pointer (some ⟨a,0,none⟩),.string hd] w fun e w'=>∃ v,e=.returned (.tuple #[v,errE (if m.off then 27 else 0)])∧OwnTexts w.heap.size w' v (m.lists hd)∧Below w.heap.size w w':=by
 obtain ⟨bn,bs,pv,fv,loc,h⟩:=h
 obtain ⟨c0,-,c2,-⟩:=h.cells
 have H:=hZ h
 cases ho:m.off with
 |true =>
  have e:m.lists hd=[]:=by unfold DM.lists;rw [ho];rfl
  rw [ho] at c0
  clear h
  go_enter Tryz.func17,Tryz.ntmps17
  go_wp2_with fail
  go_ret2
  exact ⟨.slice none 0 0,rfl,⟨rfl,.inl ⟨rfl,rfl⟩⟩,Below.refl _ _⟩
 |false =>
  have e:m.lists hd=(m.now.filter (hasHead hd)).map nameB:=by unfold DM.lists;rw [ho];rfl
  rw [ho] at c0
  have hT:=h.now
  have hnow:=h.ok.nowN
  have hkc:=keys_call bn w
  have hsc:=sorted_call hT (by rw [locT_len];omega)
  have hi:=info_parts infoS
  obtain ⟨i0,hi,hz0,hz1,hz2⟩:=hi
  clear h
  go_enter Tryz.func17,Tryz.ntmps17
  go_wp2_with (first
   |(go_at_call 53;refine hkc.mono ?_;rintro e w1 ⟨rfl,rfl⟩)
   |(go_at_call 52;refine hsc.mono ?_;rintro e w2 ⟨v,rfl,hrow,hb2⟩;obtain ⟨np,ncap,rfl,hnp⟩:=row_at hrow;rw [locT_len];have HL0:=hZ (listR_start (h:=hd) hb2 hnp);clear hrow hnp hb2))
  have hni:(m.now.length:Int)≤8000000000000:=by omega
  have hTr:=hT
  clear hkc hsc hT hnow
  go_loopw [6,21] (fun lv iv wr=>∃ j:Nat,j≤m.now.length∧iv=.int .i64 j∧Hid (ListR w wr m.now hd np lv j)) (fun _ iv _=>(m.now.length - intOf iv).toNat)
  case atStart=>exact ⟨0,Nat.zero_le _,rfl,HL0⟩
  case round =>
   obtain ⟨j,hj,rfl,HL⟩:=hrel
   by_cases hlt:(j:Int) < (m.now.length:Int)
   ·obtain ⟨p,hp⟩:∃ p,m.now[j]?=some p:=⟨_,List.getElem?_eq_getElem (by omega)⟩
    obtain ⟨g,cs,rfl,hg,hcs,hnb⟩:=HL.out.row j p hp
    have cn:wr.cell? ⟨g,j,none⟩=some (.string (nameB p)):=(cell_of_heapN hg).trans hcs
    have HP:=hZ hp
    have hpre:∀ W,Calls Tryz.prog 54 #[.string (nameB p),.string hd] W fun e w'=>e=.returned (.bool (hasHead hd p))∧w'=W:=fun W=>Tryz.strings_HasPrefix (nameB p) hd W
    cases hh:hasHead hd p with
    |false =>
     rw [hh] at hpre
     have HN:=hZ (listR_no HL.out hp hh)
     clear hp hg hcs hnb hh
     go_wp2_with (go_at_call 54;refine (hpre _).mono ?_;rintro e w1 ⟨rfl,rfl⟩)
     go_roundw
     case rel=>exact ⟨j+1,by omega,rfl,HN⟩
     case measure=>simp [intOf];omega
    |true =>
     rw [hh] at hpre
     have HH:=hZ hh
     have hbw:=HL.out.bel.size
     have hown:=HL.out.own
     obtain ⟨K,hK⟩:∃ K,K=(((m.now.take j).filter (hasHead hd)).map nameB).length:=⟨_,rfl⟩
     have hKj:K≤j:=by
      rw [hK,List.length_map]
      refine Nat.le_trans (List.length_filter_le _ _) ?_
      rw [List.length_take]
      exact Nat.min_le_left _ _
     unfold OwnTexts at hown
     rw [← hK] at hown
     have HK:=hZ hK
     have HO:=hZ hown
     clear hp hg hcs hnb hh hK hown
     go_wp2_with (first
      |(go_at_call 54;refine (hpre _).mono ?_;rintro e w1 ⟨rfl,rfl⟩)
      |(at_builtin;refine wpList_app_to rfl _ _ 31 rfl w.heap.size 9 i0 (.string ⟨#[]⟩) 1 16 Tryz.underlying31 hi hz0 hz1 hz2 rfl (by decide) _ K _ rfl (HO.out.alloc _) ⟨w1.heap.size,0,none⟩ 1 1 [.string (nameB p)] rfl rfl (fun i u h=>one_new i u h) (by simp [Value.oneCell']) (by decide) (by unfold maxLen;omega) (by omega) (by rw [World.size_alloc];omega) ?_;intro v' w2 hrow hloc;have HN:=hZ (listR_yes HL.out HP.out HH.out rfl HK.out hrow hloc);clear hrow hloc))
     go_roundw
     case rel=>exact ⟨j+1,by omega,rfl,HN⟩
     case measure=>simp [intOf];omega
   ·obtain rfl:j=m.now.length:=by omega
    have ho2:=HL.out.own
    rw [List.take_length] at ho2
    have HO2:=hZ ho2
    clear ho2
    go_wp2_with fail
    go_ret2
    exact ⟨_,rfl,HO2.out,HL.out.bel⟩
end Go.Proofs.YtdkedmngeahjiaaGreatDoor
/- The reference's tables of links: at, without, with. -/
namespace Go.Proofs.YtdkedmngeahjiaaGreatDoor
open Go Go.RowKit Go.Maps Go.WideAt Go.WideShapes
def linkCl (p:Bs × Nat):Array Value:=#[.string (nameB p),.int .i64 p.2]
abbrev LinksS (S:Nat→Prop) (w:World) (v:Value) (t:Tab):Prop:=RowS 177 2 linkCl S w v t
abbrev LinksB (base:Nat) (t:Tab) (v:Value) (w:World):Prop:=RowB 177 2 linkCl base t v w
theorem link_sz (p:Bs × Nat):(linkCl p).size=2:=rfl
theorem link_one (p:Bs × Nat):∀ u∈(linkCl p).toList,u.oneCell'=true:=by
 intro u hu
 have h:u=.string (nameB p)∨u=.int .i64 p.2:=by simpa [linkCl] using hu
 rcases h with rfl | rfl <;> rfl
theorem infoLink:(Tryz.prog.info? 177).map (fun i=>(i.zero,i.size,i.bytes))=some (some (.agg #[.string ⟨#[]⟩,.int .i64 0]),2,24):=by kernel_rfl
def tat (k:Bs):Nat→Tab→Int
 |_,[]=>-1
 |i,p :: r=>if p.1=k then i else tat k (i+1) r
theorem tat_none (k:Bs):∀ (t:Tab) (i:Nat),(∀ p∈t,p.1≠k)→tat k i t=-1
 |[],_,_=>rfl
 |p :: r,i,h=>by
  unfold tat
  rw [if_neg (h p List.mem_cons_self)]
  exact tat_none k r (i+1) (fun q hq=>h q (List.mem_cons_of_mem _ hq))
theorem tat_some (k:Bs) (n:Nat):∀ (t:Tab) (i:Nat),tget t k=some n→∃ j:Nat,tat k i t=((i+j:Nat):Int)∧t[j]?=some (k,n)
 |[],_,h=>by cases h
 |p :: r,i,h=>by
  unfold tat
  by_cases e:p.1=k
  ·rw [if_pos e]
   refine ⟨0,rfl,?_⟩
   unfold tget at h
   rw [List.find?_cons_of_pos (by simpa using e)] at h
   obtain ⟨a,b⟩:=p
   cases e
   cases h
   rfl
  ·rw [if_neg e]
   have h':tget r k=some n:=by
    unfold tget at h ⊢
    rw [List.find?_cons_of_neg (by simpa using e)] at h
    exact h
   obtain ⟨j,h1,h2⟩:=tat_some k n r (i+1) h'
   exact ⟨j+1,by rw [h1];congr 1;omega,h2⟩
def tidx (t:Tab) (k:Bs):Int:=tat k 0 t
theorem tidx_none {t:Tab} {k:Bs} (h:tget t k=none):tidx t k=-1:=tat_none k t 0 (tget_none.1 h)
theorem tidx_some {t:Tab} {k:Bs} {n:Nat} (h:tget t k=some n):∃ j:Nat,tidx t k=j∧t[j]?=some (k,n):=by
 obtain ⟨j,h1,h2⟩:=tat_some k n t 0 h
 rw [Nat.zero_add] at h1
 exact ⟨j,h1,h2⟩
theorem nameB_eq {p:Bs × Nat} {s:ByteArray}:nameB p=s ↔ p.1=s.data.toList:=by
 constructor
 ·rintro rfl
  show p.1=p.1.toArray.toList
  rw [List.toList_toArray]
 ·intro h
  apply ByteArray.ext
  show p.1.toArray=s.data
  rw [h]
theorem bytesNe {x y:ByteArray} (h:¬ x=y):(x.toList == y.toList)=false:=beq_eq_false_iff_ne.2 fun e=>h (by
 rw [ByteArray.toList_eq,ByteArray.toList_eq] at e
 apply ByteArray.ext
 exact Array.toList_inj.1 e)
theorem at_any {S:Nat→Prop} {w:World} {v:Value} {t:Tab} (h:LinksS S w v t) (s:ByteArray) (hl:t.length≤8000000000000) :
  Calls Tryz.prog 124 #[v,.string s] w fun e w'=>e=.returned (.int .i64 (tidx t s.data.toList))∧w=w':=by
 obtain ⟨p,c,rfl⟩:=h.form
 obtain ⟨N,hN⟩:∃ N,t.length=N:=⟨_,rfl⟩
 rw [hN] at h hl ⊢
 have hli:(N:Int)≤8000000000000:=by omega
 have H:=hZ h
 have HN:=hZ hN
 clear h hN hl
 go_enter Tryz.func124,Tryz.ntmps124
 go_wp2_with fail
 go_loopw [5] (fun iv wr=>∃ i:Nat,i≤N∧iv=.int .i64 i∧w=wr∧Hid (tat s.data.toList i (t.drop i)=tidx t s.data.toList)) (fun iv _=>N - (intOf iv).toNat)
 case atStart=>exact ⟨0,Nat.zero_le _,rfl,rfl,rfl⟩
 case round =>
  obtain ⟨i,hi,rfl,rfl,HT⟩:=hrel
  by_cases hlt:(i:Int) < (N:Int)
  ·obtain ⟨q,hq⟩:∃ q,t[i]?=some q:=⟨_,List.getElem?_eq_getElem (i:=i) (by have:=HN.out;omega)⟩
   obtain ⟨g,cur,rfl,-,-,hc⟩:=H.out.cell link_sz hq
   have c0:w.cell? ⟨g,i * 2,none⟩=some (.string (nameB q)):=hc 0 (by decide)
   have hdr:t.drop i=q :: t.drop (i+1):=by
    obtain ⟨h1,rfl⟩:=List.getElem?_eq_some_iff.1 hq
    exact List.drop_eq_getElem_cons h1
   have ht:=HT.out
   rw [hdr] at ht
   unfold tat at ht
   have HT2:=hZ ht
   clear hc hq hdr ht
   by_cases hn:nameB q=s
   ·have ht:=HT2.out
    rw [if_pos (nameB_eq.1 hn)] at ht
    rw [hn] at c0
    have HT3:=hZ ht
    clear ht HT HT2
    go_wp2_with fail
    go_ret
    exact ⟨by rw [← HT3.out];rfl,rfl⟩
   ·have hb:=bytesNe hn
    have HT3:=hZ (show tat s.data.toList (i+1) (t.drop (i+1))=tidx t s.data.toList by
     have ht:=HT2.out
     rwa [if_neg (fun e=>hn (nameB_eq.2 e))] at ht)
    clear HT HT2
    go_wp2_with fail
    case roundEnd=>exact ⟨⟨i+1,by omega,by rw [Int.natCast_add];rfl,trivial,HT3⟩,by simp [intOf];omega⟩
  ·obtain rfl:i=N:=by omega
   have ht:=HT.out
   rw [List.drop_of_length_le (by rw [HN.out];exact Nat.le_refl _)] at ht
   have HT3:=hZ ht
   clear ht
   go_wp2_with fail
   go_ret
   exact ⟨by rw [← HT3.out];rfl,rfl⟩
theorem tdel_append (a b:Tab) (k:Bs):tdel (a ++ b) k=tdel a k ++ tdel b k:=List.filter_append _ _
theorem tdel_len_le (t:Tab) (k:Bs):(tdel t k).length≤t.length:=List.length_filter_le _ _
structure Gath (w wr:World) (ov:Value) (out:Tab):Prop where
 row:LinksB w.heap.size out ov wr
 bel:Below w.heap.size w wr
theorem Gath.app {w wr w1:World} {ov v':Value} {out:Tab} {x:Bs × Nat} {tmp:Obj} (h:Gath w wr ov out) (hown':w1.ownsRow w.heap.size 177 2 v' (out.length+1) (flatR linkCl out ++ (linkCl x).toList)) (hg:(wr.alloc tmp).grownBy w1 ov.ownBlock):Gath w w1 v' (out ++ [x]):=by
 have:=h.row.app h.bel h.bel.size hown' hg
 exact ⟨this.1,this.2⟩
theorem without_any {S:Nat→Prop} {w:World} {v:Value} {t:Tab} (h:LinksS S w v t) (hS:∀ b,S b→b < w.heap.size) (s:ByteArray) (hl:t.length≤4000000000000) :
  Calls Tryz.prog 188 #[v,.string s] w fun e w'=>∃ u,e=.returned u∧Gath w w' u (tdel t s.data.toList):=by
 obtain ⟨p,c,rfl⟩:=h.form
 obtain ⟨N,hN⟩:∃ N,t.length=N:=⟨_,rfl⟩
 rw [hN] at h hl ⊢
 have hli:(N:Int)≤4000000000000:=by omega
 have H:=hZ h
 have HS:=hZ hS
 have HN:=hZ hN
 clear h hN hl hS
 obtain ⟨i0,hi,hz0,hz1,hz2⟩:=info_parts infoLink
 go_enter Tryz.func188,Tryz.ntmps188
 go_wp2_with fail
 go_loopw [5,6] (fun ov iv wr=>∃ i:Nat,i≤N∧iv=.int .i64 i∧Hid (Gath w wr ov (tdel (t.take i) s.data.toList))) (fun _ iv _=>N - (intOf iv).toNat)
 case atStart=>exact ⟨0,Nat.zero_le _,rfl,hZ ⟨RowB.nil _ _,Below.refl _ _⟩⟩
 case round =>
  obtain ⟨i,hi',rfl,HGt⟩:=hrel
  by_cases hlt:(i:Int) < (N:Int)
  ·obtain ⟨q,hq⟩:∃ q,t[i]?=some q:=⟨_,List.getElem?_eq_getElem (i:=i) (by have:=HN.out;omega)⟩
   obtain ⟨g,cur,rfl,hgS,hgg,hc⟩:=H.out.cell link_sz hq
   have hsame:wr.heap[g]?=w.heap[g]?:=HGt.out.bel.block g (HS.out g hgS)
   have c0:wr.cell? ⟨g,i * 2,none⟩=some (.string (nameB q)):=(cell_of_heap hsame).trans (hc 0 (by decide))
   have c1:wr.cell? ⟨g,i * 2+1,none⟩=some (.int .i64 q.2):=(cell_of_heap hsame).trans (hc 1 (by decide))
   have htk:t.take (i+1)=t.take i ++ [q]:=by
    obtain ⟨h1,rfl⟩:=List.getElem?_eq_some_iff.1 hq
    exact List.take_succ_eq_append_getElem h1
   have htd:tdel (t.take (i+1)) s.data.toList=tdel (t.take i) s.data.toList ++ (if q.1=s.data.toList then [] else [q]):=by
    rw [htk,tdel_append]
    congr 1
    unfold tdel
    by_cases e:q.1=s.data.toList
    ·rw [if_pos e,List.filter_cons_of_neg (by simp [e])]
     rfl
    ·rw [if_neg e,List.filter_cons_of_pos (by simp [e])]
     rfl
   have hln:(tdel (t.take i) s.data.toList).length≤i:=Nat.le_trans (tdel_len_le _ _) (by rw [List.length_take];exact Nat.min_le_left _ _)
   have HT:=hZ htd
   generalize tdel (t.take i) s.data.toList=out at HGt hln HT
   clear hc hq hsame hgg hgS htk htd
   by_cases hn:nameB q=s
   ·have hG:=HGt.out
    have ht:=HT.out
    rw [if_pos (nameB_eq.1 hn),List.append_nil] at ht
    rw [← ht] at hG
    have HG2:=hZ hG
    rw [hn] at c0
    clear hG ht HT HGt hln
    go_wp2_with fail
    case roundEnd=>exact ⟨⟨i+1,by omega,by rw [Int.natCast_add];rfl,HG2⟩,by simp [intOf];omega⟩
   ·have hb:=bytesNe hn
    have hne:¬ q.1=s.data.toList:=fun e=>hn (nameB_eq.2 e)
    have HTE:=hZ (show tdel (t.take (i+1)) s.data.toList=out ++ [q] by have ht:=HT.out;rwa [if_neg hne] at ht)
    have hrow:=HGt.out.row
    unfold LinksB RowB at hrow
    have HO:=hZ hrow
    have hsz:=HGt.out.bel.size
    clear hrow HT hne
    go_wp2_with (at_builtin;refine wpList_append_own _ rfl _ _ 164 rfl w.heap.size 177 i0 (.agg #[.string ⟨#[]⟩,.int .i64 0]) 2 24 Tryz.underlying164 hi hz0 hz1 hz2 rfl (by decide) _ _ _ rfl (HO.out.alloc _) ⟨wr.heap.size,0,none⟩ 1 1 [.string (nameB q),.int .i64 q.2] rfl rfl (newR wr #[.string (nameB q),.int .i64 q.2] _) (link_one q) (by unfold maxLen;omega) (by omega) (by rw [World.size_alloc];omega) ?_;intro v' w1 hown' hgrow _;have HA:=hZ (HGt.out.app hown' hgrow);clear hown' hgrow)
    go_roundw
    case rel=>exact ⟨i+1,by omega,by rw [Int.natCast_add];rfl,hZ (by rw [HTE.out];exact HA.out)⟩
    case measure=>simp [intOf];omega
  ·obtain rfl:i=N:=by omega
   have hG:=HGt.out
   rw [List.take_of_length_le (by rw [HN.out];exact Nat.le_refl _)] at hG
   have HG2:=hZ hG
   clear hG HGt
   go_wp2_with fail
   go_ret
   exact ⟨_,rfl,HG2.out⟩
theorem bytesLess_before:∀ a b:Bs,Op.bytesLess a b=bytesBefore a b
 |[],[]=>rfl
 |_ :: _,[]=>rfl
 |[],_ :: _=>rfl
 |x :: a,y :: b=>by
  show (decide (x < y) || (x == y && Op.bytesLess a b))=(decide (x < y) || (x == y && bytesBefore a b))
  rw [bytesLess_before a b]
theorem less_name (p:Bs × Nat) (s:ByteArray):Op.bytesLess (nameB p).toList s.toList=bytesBefore p.1 s.data.toList:=by
 rw [bytesLess_before,ByteArray.toList_eq,ByteArray.toList_eq]
 rfl
def wgo (k:Bs) (n:Nat):Bool→Tab→Tab
 |true,t=>tdel t k
 |false,[]=>[(k,n)]
 |false,p :: r=>if bytesBefore p.1 k then p :: wgo k n false r else (k,n) :: tdel (p :: r) k
theorem wgo_true (k:Bs) (n:Nat) (t:Tab):wgo k n true t=tdel t k:=by cases t <;> rfl
theorem wgo_cons (k:Bs) (n:Nat) (p:Bs × Nat) (r:Tab):wgo k n false (p :: r)=if bytesBefore p.1 k then p :: wgo k n false r else (k,n) :: tdel (p :: r) k:=rfl
theorem bb_flip {a b:Bs} (h:bytesBefore a b=true):bytesBefore b a=false:=by
 cases hx:bytesBefore b a with
 |false=>rfl
 |true =>
  have:=bytes_trans a b a h hx
  rw [bytes_irrefl] at this
  cases this
theorem tins_first {x:Bs × Nat}:∀ {t:Tab},(∀ p∈t,bytesBefore x.1 p.1=true)→tins x t=x :: t
 |[],_=>rfl
 |y :: r,h=>by
  rw [tins_cons,if_pos (h y List.mem_cons_self)]
theorem wgo_put (k:Bs) (n:Nat):∀ {t:Tab},Rising t→wgo k n false t=tput t k n
 |[],_=>rfl
 |p :: r,h=>by
  have hr:Rising r:=List.Pairwise.tail h
  have hp:∀ q∈r,bytesBefore p.1 q.1=true:=(List.pairwise_cons.1 h).1
  unfold wgo
  by_cases hb:bytesBefore p.1 k=true
  ·rw [if_pos hb,wgo_put k n hr]
   unfold tput
   have hne:p.1≠k:=bb_ne hb
   have e:tdel (p :: r) k=p :: tdel r k:=by unfold tdel;rw [List.filter_cons_of_pos (by simp [hne])]
   rw [e,tins_cons,if_neg (by rw [bb_flip hb];exact Bool.false_ne_true)]
  ·rw [if_neg hb]
   unfold tput
   refine (tins_first fun q hq=>?_).symm
   obtain ⟨h1,h2⟩:=tdel_mem.1 hq
   have hkp:p.1≠k→bytesBefore k p.1=true:=fun hne=>(bytes_total p.1 k hne).resolve_left hb
   rcases List.mem_cons.1 h1 with rfl | h1
   ·exact hkp h2
   ·by_cases hpk:p.1=k
    ·rw [← hpk]
     exact hp q h1
    ·exact bytes_trans _ _ _ (hkp hpk) (hp q h1)
theorem tdel_cons (p:Bs × Nat) (r:Tab) (k:Bs):tdel (p :: r) k=if p.1=k then tdel r k else p :: tdel r k:=by
 unfold tdel
 by_cases e:p.1=k
 ·rw [if_pos e,List.filter_cons_of_neg (by simp [e])]
 ·rw [if_neg e,List.filter_cons_of_pos (by simp [e])]
theorem withT_any {S:Nat→Prop} {w:World} {v:Value} {t:Tab} (h:LinksS S w v t) (hS:∀ b,S b→b < w.heap.size) (hr:Rising t) (s:ByteArray) (n:Nat) (hl:t.length≤2000000000000) (hn:(n:Int)≤9223372036854775807) :
  Calls Tryz.prog 187 #[v,.string s,.int .i64 n] w fun e w'=>∃ u,e=.returned u∧Gath w w' u (tput t s.data.toList n):=by
 rw [← wgo_put s.data.toList n hr]
 obtain ⟨p,c,rfl⟩:=h.form
 obtain ⟨N,hN⟩:∃ N,t.length=N:=⟨_,rfl⟩
 rw [hN] at h hl ⊢
 have hli:(N:Int)≤2000000000000:=by omega
 have H:=hZ h
 have HS:=hZ hS
 have HN:=hZ hN
 clear h hN hl hS hr
 obtain ⟨i0,hi,hz0,hz1,hz2⟩:=info_parts infoLink
 go_enter Tryz.func187,Tryz.ntmps187
 go_wp2_with fail
 go_loopw [7,8,9] (fun ov dv iv wr=>∃ (i:Nat) (d:Bool) (out:Tab),i≤N∧iv=.int .i64 i∧dv=.bool d∧out.length≤2 * i∧Hid (Gath w wr ov out)∧Hid (out ++ wgo s.data.toList n d (t.drop i)=wgo s.data.toList n false t)) (fun _ _ iv _=>N - (intOf iv).toNat)
 case atStart=>exact ⟨0,false,[],Nat.zero_le _,rfl,rfl,Nat.le_refl _,hZ ⟨RowB.nil _ _,Below.refl _ _⟩,hZ rfl⟩
 case round =>
  obtain ⟨i,d,out,hi',rfl,rfl,hol,HGt,HE⟩:=hrel
  by_cases hlt:(i:Int) < (N:Int)
  ·obtain ⟨q,hq⟩:∃ q,t[i]?=some q:=⟨_,List.getElem?_eq_getElem (i:=i) (by have:=HN.out;omega)⟩
   obtain ⟨g,cur,rfl,hgS,hgg,hc⟩:=H.out.cell link_sz hq
   have hsame:wr.heap[g]?=w.heap[g]?:=HGt.out.bel.block g (HS.out g hgS)
   have hgw:g < w.heap.size:=HS.out g hgS
   have HC0:=hZ (hc 0 (by decide))
   have HC1:=hZ (hc 1 (by decide))
   have c0:wr.cell? ⟨g,i * 2,none⟩=some (.string (nameB q)):=(cell_of_heap hsame).trans HC0.out
   have c1:wr.cell? ⟨g,i * 2+1,none⟩=some (.int .i64 q.2):=(cell_of_heap hsame).trans HC1.out
   have hdr:t.drop i=q :: t.drop (i+1):=by
    obtain ⟨h1,rfl⟩:=List.getElem?_eq_some_iff.1 hq
    exact List.drop_eq_getElem_cons h1
   have he:=HE.out
   rw [hdr] at he
   have HE2:=hZ he
   have hls:=less_name q s
   have hsz:=HGt.out.bel.size
   have hrow:=HGt.out.row
   unfold LinksB RowB at hrow
   have HO:=hZ hrow
   clear hc hq hsame hgg hgS hdr he hrow HE
   cases d with
   |true =>
    have he:=HE2.out
    rw [wgo_true,tdel_cons] at he
    by_cases hnm:nameB q=s
    ·rw [if_pos (nameB_eq.1 hnm)] at he
     have HE3:=hZ (show out ++ wgo s.data.toList n true (t.drop (i+1))=wgo s.data.toList n false t by rw [wgo_true];exact he)
     rw [hnm] at c0 hls
     rw [show bytesBefore q.1 s.data.toList=false by rw [nameB_eq.1 hnm,bytes_irrefl]] at hls
     clear he HE2
     go_wp2_with fail
     case roundEnd=>exact ⟨⟨i+1,true,out,by omega,by rw [Int.natCast_add];rfl,rfl,by omega,HGt,HE3⟩,by simp [intOf];omega⟩
    ·rw [if_neg (fun e=>hnm (nameB_eq.2 e))] at he
     have HE3:=hZ (show (out ++ [q]) ++ wgo s.data.toList n true (t.drop (i+1))=wgo s.data.toList n false t by first | (rw [List.append_assoc];exact he) | (rw [wgo_true,List.append_assoc];exact he))
     have hb:=bytesNe hnm
     clear he HE2
     cases hbb:bytesBefore q.1 s.data.toList with
     |true =>
      rw [hbb] at hls
      go_wp2_with (at_builtin;refine wpList_append_own _ rfl _ _ 164 rfl w.heap.size 177 i0 (.agg #[.string ⟨#[]⟩,.int .i64 0]) 2 24 Tryz.underlying164 hi hz0 hz1 hz2 rfl (by decide) _ _ _ rfl (HO.out.alloc _) ⟨wr.heap.size,0,none⟩ 1 1 [.string (nameB q),.int .i64 q.2] rfl rfl (newR wr #[.string (nameB q),.int .i64 q.2] _) (link_one q) (by unfold maxLen;omega) (by omega) (by rw [World.size_alloc];omega) ?_;intro v' w1 hown' hgrow _;have HA:=hZ (HGt.out.app hown' hgrow);clear hown' hgrow)
      go_roundw
      case rel=>exact ⟨i+1,true,out ++ [q],by omega,by rw [Int.natCast_add];rfl,rfl,by rw [List.length_append,List.length_singleton];omega,HA,HE3⟩
      case measure=>simp [intOf];omega
     |false =>
      rw [hbb] at hls
      go_wp2_with (at_builtin;refine wpList_append_own _ rfl _ _ 164 rfl w.heap.size 177 i0 (.agg #[.string ⟨#[]⟩,.int .i64 0]) 2 24 Tryz.underlying164 hi hz0 hz1 hz2 rfl (by decide) _ _ _ rfl (HO.out.alloc _) ⟨wr.heap.size,0,none⟩ 1 1 [.string (nameB q),.int .i64 q.2] rfl rfl (newR wr #[.string (nameB q),.int .i64 q.2] _) (link_one q) (by unfold maxLen;omega) (by omega) (by rw [World.size_alloc];omega) ?_;intro v' w1 hown' hgrow _;have HA:=hZ (HGt.out.app hown' hgrow);clear hown' hgrow)
      go_roundw
      case rel=>exact ⟨i+1,true,out ++ [q],by omega,by rw [Int.natCast_add];rfl,rfl,by rw [List.length_append,List.length_singleton];omega,HA,HE3⟩
      case measure=>simp [intOf];omega
   |false =>
    have he:=HE2.out
    rw [wgo_cons] at he
    cases hbb:bytesBefore q.1 s.data.toList with
    |true =>
     rw [hbb] at hls he
     rw [if_pos rfl] at he
     have HE3:=hZ (show (out ++ [q]) ++ wgo s.data.toList n false (t.drop (i+1))=wgo s.data.toList n false t by first | (rw [List.append_assoc];exact he) | (rw [wgo_true,List.append_assoc];exact he))
     have hb:=bytesNe (show ¬ nameB q=s from fun e=>bb_ne hbb (nameB_eq.1 e))
     clear he HE2
     go_wp2_with (at_builtin;refine wpList_append_own _ rfl _ _ 164 rfl w.heap.size 177 i0 (.agg #[.string ⟨#[]⟩,.int .i64 0]) 2 24 Tryz.underlying164 hi hz0 hz1 hz2 rfl (by decide) _ _ _ rfl (HO.out.alloc _) ⟨wr.heap.size,0,none⟩ 1 1 [.string (nameB q),.int .i64 q.2] rfl rfl (newR wr #[.string (nameB q),.int .i64 q.2] _) (link_one q) (by unfold maxLen;omega) (by omega) (by rw [World.size_alloc];omega) ?_;intro v' w1 hown' hgrow _;have HA:=hZ (HGt.out.app hown' hgrow);clear hown' hgrow)
     go_roundw
     case rel=>exact ⟨i+1,false,out ++ [q],by omega,by rw [Int.natCast_add];rfl,rfl,by rw [List.length_append,List.length_singleton];omega,HA,HE3⟩
     case measure=>simp [intOf];omega
    |false =>
     rw [hbb] at hls he
     rw [if_neg Bool.false_ne_true,tdel_cons] at he
     have HQ:=hZ (show flatR linkCl [(s.data.toList,n)]=[.string s,.int .i64 n] from rfl)
     by_cases hnm:nameB q=s
     ·rw [if_pos (nameB_eq.1 hnm)] at he
      have HE3:=hZ (show (out ++ [(s.data.toList,n)]) ++ wgo s.data.toList n true (t.drop (i+1))=wgo s.data.toList n false t by first | (rw [List.append_assoc];exact he) | (rw [wgo_true,List.append_assoc];exact he))
      rw [hnm] at c0 hls
      clear he HE2
      go_wp2_with (at_builtin;refine wpList_append_own _ rfl _ _ 164 rfl w.heap.size 177 i0 (.agg #[.string ⟨#[]⟩,.int .i64 0]) 2 24 Tryz.underlying164 hi hz0 hz1 hz2 rfl (by decide) _ _ _ rfl (HO.out.alloc _) ⟨wr.heap.size,0,none⟩ 1 1 [.string s,.int .i64 n] rfl rfl (newR wr #[.string s,.int .i64 n] _) (link_one (s.data.toList,n)) (by unfold maxLen;omega) (by omega) (by rw [World.size_alloc];omega) ?_;intro v' w1 hown' hgrow _;have HA:=hZ (HGt.out.app (x:=(s.data.toList,n)) hown' hgrow);have c0':w1.cell? ⟨g,i * 2,none⟩=some (.string s):=(cell_of_heap (HA.out.bel.block g hgw)).trans (hnm ▸ HC0.out);have c1':w1.cell? ⟨g,i * 2+1,none⟩=some (.int .i64 q.2):=(cell_of_heap (HA.out.bel.block g hgw)).trans HC1.out;have HO2:=hZ HA.out.row;unfold LinksB RowB at HO2;have hsz2:=HA.out.bel.size;clear hown' hgrow)
      go_roundw
      case rel=>exact ⟨i+1,true,out ++ [(s.data.toList,n)],by omega,by rw [Int.natCast_add];rfl,rfl,by rw [List.length_append,List.length_singleton];omega,HA,HE3⟩
      case measure=>simp [intOf];omega
     ·rw [if_neg (fun e=>hnm (nameB_eq.2 e))] at he
      have HE3:=hZ (show ((out ++ [(s.data.toList,n)]) ++ [q]) ++ wgo s.data.toList n true (t.drop (i+1))=wgo s.data.toList n false t by rw [wgo_true,List.append_assoc,List.append_assoc];exact he)
      have hb:=bytesNe hnm
      clear he HE2
      go_wp2_with (first
       |(at_builtin;refine wpList_append_own _ rfl _ _ 164 rfl w.heap.size 177 i0 (.agg #[.string ⟨#[]⟩,.int .i64 0]) 2 24 Tryz.underlying164 hi hz0 hz1 hz2 rfl (by decide) _ _ _ rfl (HO.out.alloc _) ⟨wr.heap.size,0,none⟩ 1 1 [.string s,.int .i64 n] rfl rfl (newR wr #[.string s,.int .i64 n] _) (link_one (s.data.toList,n)) (by unfold maxLen;omega) (by omega) (by rw [World.size_alloc];omega) ?_;intro v' w1 hown' hgrow _;have HA:=hZ (HGt.out.app (x:=(s.data.toList,n)) hown' hgrow);have c0':w1.cell? ⟨g,i * 2,none⟩=some (.string (nameB q)):=(cell_of_heap (HA.out.bel.block g hgw)).trans HC0.out;have c1':w1.cell? ⟨g,i * 2+1,none⟩=some (.int .i64 q.2):=(cell_of_heap (HA.out.bel.block g hgw)).trans HC1.out;have HO2:=hZ HA.out.row;unfold LinksB RowB at HO2;have hsz2:=HA.out.bel.size;clear hown' hgrow)
       |(at_builtin;refine wpList_append_own _ rfl _ _ 164 rfl w.heap.size 177 i0 (.agg #[.string ⟨#[]⟩,.int .i64 0]) 2 24 Tryz.underlying164 hi hz0 hz1 hz2 rfl (by decide) _ _ _ rfl (HO2.out.alloc _) ⟨w1.heap.size,0,none⟩ 1 1 [.string (nameB q),.int .i64 q.2] rfl rfl (newR w1 #[.string (nameB q),.int .i64 q.2] _) (link_one q) (by rw [List.length_append,List.length_singleton];unfold maxLen;omega) (by rw [List.length_append,List.length_singleton];omega) (by rw [World.size_alloc];omega) ?_;intro v2 w2 hown' hgrow _;have HA2:=hZ (HA.out.app (x:=q) hown' hgrow);clear hown' hgrow))
      go_roundw
      case rel=>exact ⟨i+1,true,(out ++ [(s.data.toList,n)]) ++ [q],by omega,by rw [Int.natCast_add];rfl,rfl,by rw [List.length_append,List.length_append,List.length_singleton,List.length_singleton];omega,HA2,HE3⟩
      case measure=>simp [intOf];omega
  ·obtain rfl:i=N:=by omega
   have he:=HE.out
   rw [List.drop_of_length_le (by rw [HN.out];exact Nat.le_refl _)] at he
   have hsz:=HGt.out.bel.size
   cases d with
   |true =>
    rw [wgo_true,show tdel [] s.data.toList=[] from rfl,List.append_nil] at he
    have HE3:=hZ he
    clear he HE
    go_wp2_with fail
    go_ret
    exact ⟨_,rfl,by rw [← HE3.out];exact HGt.out⟩
   |false =>
    have HE3:=hZ (show out ++ [(s.data.toList,n)]=wgo s.data.toList n false t from he)
    have hrow:=HGt.out.row
    unfold LinksB RowB at hrow
    have HO:=hZ hrow
    clear he HE hrow
    go_wp2_with (at_builtin;refine wpList_append_own _ rfl _ _ 164 rfl w.heap.size 177 i0 (.agg #[.string ⟨#[]⟩,.int .i64 0]) 2 24 Tryz.underlying164 hi hz0 hz1 hz2 rfl (by decide) _ _ _ rfl (HO.out.alloc _) ⟨wr.heap.size,0,none⟩ 1 1 [.string s,.int .i64 n] rfl rfl (newR wr #[.string s,.int .i64 n] _) (link_one (s.data.toList,n)) (by unfold maxLen;omega) (by omega) (by rw [World.size_alloc];omega) ?_;intro v' w1 hown' hgrow _;have HA:=hZ (HGt.out.app (x:=(s.data.toList,n)) hown' hgrow);clear hown' hgrow)
    go_ret
    exact ⟨_,rfl,by rw [← HE3.out];exact HA.out⟩
end Go.Proofs.YtdkedmngeahjiaaGreatDoor
