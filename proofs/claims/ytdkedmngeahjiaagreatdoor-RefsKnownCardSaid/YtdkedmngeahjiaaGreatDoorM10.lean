import Derived.Test.YtdkedmngeahjiaaGreatDoorDiskA
import Derived.Test.YtdkedmngeahjiaaGreatDoorNames
import Derived.Test.YtdkedmngeahjiaaGreatDoorM9
import Derived.Test.YtdkedmngeahjiaaGreatDoorM3
import Derived.Test.YtdkedmngeahjiaaGreatDoorM7
import Derived.Test.YtdkedmngeahjiaaGreatDoorProg
import Derived.WalkKit
set_option maxRecDepth 100000
set_option maxHeartbeats 25600000
namespace Go.Proofs.YtdkedmngeahjiaaGreatDoor
open Go Go.RowKit Go.Maps Go.Shelf Go.Sort
def mP(p:Bs×Nat):ByteArray:=⟨p.1.toArray⟩
def mY(h:ByteArray)(p:Bs×Nat):Bool:=Lib.hasPrefix p.1 h.data.toList
def DM.lists(m:DM)(h:ByteArray):List ByteArray:=if m.off then []else(m.now.filter (mY h)).map mP
def tJ(s:ByteArray):Value:=.string s
def OwnTexts(B:Nat)(w:World)(v:Value)(l:List ByteArray):Prop:=w.ownsRow B 9 1 v l.length (l.map tJ)
theorem CP:(Tryz.prog.info? 9).map (fun i=>(i.zero,i.size,i.bytes))=some (some (.string ⟨#[]⟩),1,16):=aE
structure ListR (w wr:World) (t:Tab) (h:ByteArray) (np:Option Addr) (v:Value) (j:Nat):Prop where
 own:OwnTexts w.heap.size wr v (((t.take j).filter (mY h)).map mP)
 bel:Below w.heap.size w wr
 row:∀(i:Nat) (p:Bs×Nat),t[i]?=some p→∃g cs,np=some ⟨g,0,none⟩∧wr.heap[g]?=some (.cells cs 9 (0,0))∧cs[i]?=some (.string (mP p))∧v.ownBlock≠some g
theorem EO{w w2:World}{t:Tab}{loc:Nat→Nat}{h:ByteArray}{np:Option Addr}{b:Nat}(h2:Below (w.heap.size+1) (w.alloc (.cells #[.map (some b)] 85)) w2)
  (hnp:∀(i:Nat) (u:Value),((oX loc t).map IH)[i]?=some u→∃g cs,np=some ⟨g,0,none⟩∧w2.heap[g]?=some (.cells cs 9 (0,0))∧cs[i]?=some u):ListR w w2 t h np (.slice none 0 0) 0:=by
 refine⟨⟨rfl,.inl ⟨rfl,rfl⟩⟩,((Below.refl _ w).alloc (Nat.le_refl _) _).trans (h2.mono aC),fun i p hp=>?_⟩;obtain⟨g,cs,h3,h4,h5⟩:=hnp i (IH p) (by unfold oX;rw[List.map_map,List.getElem?_map,hp];rfl);exact⟨g,cs,h3,h4,h5,fun e=>aO⟩
theorem Bt{t:Tab}{f:Bs×Nat→Bool}{j:Nat}{p:Bs×Nat}(hp:t[j]?=some p)(h:f p=true):(t.take (j+1)).filter f=(t.take j).filter f++[p]:=by
 rw[List.take_add_one,hp,List.filter_append];simp[h]
theorem BK{t:Tab}{f:Bs×Nat→Bool}{j:Nat}{p:Bs×Nat}(hp:t[j]?=some p)(h:f p=false):(t.take (j+1)).filter f=(t.take j).filter f:=by
 rw[List.take_add_one,hp,List.filter_append];simp[h]
theorem Kf{w wr:World}{t:Tab}{h:ByteArray}{np:Option Addr}{v:Value}{j:Nat}{p:Bs×Nat}(hL:ListR w wr t h np v j)(hp:t[j]?=some p)(hh:mY h p=false):ListR w wr t h np v (j+1):=
 ⟨by rw[BK hp hh];exact hL.own,hL.bel,hL.row⟩
theorem IM{w wr wA w2:World}{t:Tab}{h:ByteArray}{np:Option Addr}{v v':Value}{j k:Nat}{p:Bs×Nat}{o:Obj}(hL:ListR w wr t h np v j)(hp:t[j]?=some p)(hh:mY h p=true)(hA:wA=wr.alloc o)(hk:k=(((t.take j).filter (mY h)).map mP).length)
  (hrow:w2.ownsRow w.heap.size 9 1 v' (k+1) ((((t.take j).filter (mY h)).map mP).map tJ++[.string (mP p)]))
  (hloc:(v'.ownBlock=v.ownBlock∧wA.grownBy w2 v.ownBlock)∨(v'.ownBlock=some wA.heap.size∧wA.grownBy w2 none)):ListR w w2 t h np v' (j+1):=by
 subst hA hk;have hz:=hL.bel.size
 have hvb:∀b,v.ownBlock=some b→w.heap.size≤b:=fun b hb=>by
  rcases hL.own.2 with⟨rfl,_⟩|⟨g,cap,cur,rfl,h1,_⟩
  ·cases hb
  ·cases hb;exact h1
 refine⟨?_,?_,fun i q hq=>?_⟩
 ·rw[Bt hp hh,List.map_append];unfold OwnTexts;rw[List.length_append,List.map_append];exact hrow
 ·have h1:Below w.heap.size w (wr.alloc o):=hL.bel.alloc hz o;have hzA:(wr.alloc o).heap.size=wr.heap.size+1:=World.size_alloc _ _
  rcases hloc with⟨_,hq⟩|⟨_,hq⟩
  ·exact h1.trans ⟨hq.os,hq.tape,hq.output,hq.size,fun b hb=>hq.block b aC (fun e=>by have:=hvb b e.symm;omega)⟩
  ·exact h1.trans ⟨hq.os,hq.tape,hq.output,hq.size,fun b hb=>hq.block b aC (fun e=>aO)⟩
 ·obtain⟨g,cs,h1,h2,h3,h4⟩:=hL.row i q hq;have hg:=lH h2
  have h5:(wr.alloc o).heap[g]?=_:=(Below.heap_alloc wr o g hg).trans h2;rcases hloc with⟨e,hq⟩|⟨e,hq⟩
  ·exact⟨g,cs,h1,(hq.block g (lH h5) (fun e2=>h4 e2.symm)).trans h5,h3,by rw[e];exact h4⟩
  ·refine⟨g,cs,h1,(hq.block g (lH h5) (fun e2=>by cases e2)).trans h5,h3,fun e2=>?_⟩;rw[e]at e2;cases e2;rw[World.size_alloc]at hg;omega
theorem Kg{w:World}{a n:Nat}{m:DM}{S:Nat→Prop}(h:DiskAt w a n m S)(hd:ByteArray)(hn:n≤8000000000000):
  Calls Tryz.prog 17 #[.pointer (some ⟨a,0,none⟩),.string hd] w fun e w'=>∃v,e=.returned (.tuple #[v,nG (if m.off then 27 else 0)])∧OwnTexts w.heap.size w' v (m.lists hd)∧Below w.heap.size w w':=by
 obtain⟨bn,bs,pv,fv,loc,h⟩:=h;obtain⟨c0,-,c2,-⟩:=h.cells;have H:=hZ h
 cases ho:m.off with
 |true=>
  have e:m.lists hd=[]:=gF;rw[ho]at c0;clear h;go_enter Tryz.func17,Tryz.ntmps17;go_wp2_with fail;go_ret2;exact⟨.slice none 0 0,rfl,⟨rfl,.inl ⟨rfl,rfl⟩⟩,Below.refl _ _⟩
 |false=>
  have e:m.lists hd=(m.now.filter (mY hd)).map mP:=gF;rw[ho]at c0;have hT:=h.now
  have hnow:=h.ok.nowN;have hkc:=DJ bn w
  have hsc:=Bq hT (by rw[vZ];omega);have hi:=info_parts CP
  obtain⟨i0,hi,hz0,hz1,hz2⟩:=hi;clear h;go_enter Tryz.func17,Tryz.ntmps17
  go_wp2_with (first
   |(go_at_call 53;refine hkc.mono ?_;rintro e w1 ⟨rfl,rfl⟩)
   |(go_at_call 52;refine hsc.mono ?_;rintro e w2 ⟨v,rfl,hrow,hb2⟩;obtain⟨np,ncap,rfl,hnp⟩:=Cx hrow;rw[vZ];have HL0:=hZ (EO (h:=hd) hb2 hnp);clear hrow hnp hb2))
  have hni:(m.now.length:Int)≤8000000000000:=aC;have hTr:=hT
  clear hkc hsc hT hnow;go_loopw [6,21] (fun lv iv wr=>∃j:Nat,j≤m.now.length∧iv=.int .i64 j∧Hid (ListR w wr m.now hd np lv j)) (fun _ iv _=>(m.now.length-intOf iv).toNat)
  case atStart=>exact⟨0,Nat.zero_le _,rfl,HL0⟩
  case round=>
   obtain⟨j,hj,rfl,HL⟩:=hrel;by_cases hlt:(j:Int)<(m.now.length:Int)
   ·obtain⟨p,hp⟩:∃p,m.now[j]?=some p:=⟨_,List.getElem?_eq_getElem aC⟩
    obtain⟨g,cs,rfl,hg,hcs,hnb⟩:=HL.out.row j p hp;have cn:wr.cell? ⟨g,j,none⟩=some (.string (mP p)):=(lF hg).trans hcs
    have HP:=hZ hp;have hpre:∀W,Calls Tryz.prog 54 #[.string (mP p),.string hd] W fun e w'=>e=.returned (.bool (mY hd p))∧w'=W:=fun W=>Tryz.strings_HasPrefix (mP p) hd W
    cases hh:mY hd p with
    |false=>
     rw[hh]at hpre;have HN:=hZ (Kf HL.out hp hh)
     clear hp hg hcs hnb hh;go_wp2_with (go_at_call 54;refine(hpre _).mono ?_;rintro e w1 ⟨rfl,rfl⟩);go_roundw
     case rel=>exact⟨j+1,aC,rfl,HN⟩
     case measure=>simp[intOf];omega
    |true=>
     rw[hh]at hpre;have HH:=hZ hh
     have hbw:=HL.out.bel.size;have hown:=HL.out.own
     obtain⟨K,hK⟩:∃K,K=(((m.now.take j).filter (mY hd)).map mP).length:=⟨_,rfl⟩
     have hKj:K≤j:=by
      rw[hK,List.length_map];refine Nat.le_trans (List.length_filter_le _ _) ?_;rw[List.length_take];exact Nat.min_le_left _ _
     unfold OwnTexts at hown;rw[←hK]at hown;have HK:=hZ hK
     have HO:=hZ hown;clear hp hg hcs hnb hh hK hown
     go_wp2_with (first
      |(go_at_call 54;refine(hpre _).mono ?_;rintro e w1 ⟨rfl,rfl⟩)
      |(at_builtin;refine rF rfl _ _ 31 rfl w.heap.size 9 i0 (.string ⟨#[]⟩) 1 16 Tryz.underlying31 hi hz0 hz1 hz2 rfl aA _ K _ rfl (HO.out.alloc _) ⟨w1.heap.size,0,none⟩ 1 1 [.string (mP p)] rfl rfl (fun i u h=>BI i u h) iH aA cT aC cO ?_;intro v' w2 hrow hloc;have HN:=hZ (IM HL.out HP.out HH.out rfl HK.out hrow hloc);clear hrow hloc))
     go_roundw
     case rel=>exact⟨j+1,aC,rfl,HN⟩
     case measure=>simp[intOf];omega
   ·obtain rfl:j=m.now.length:=by omega
    have ho2:=HL.out.own;rw[List.take_length]at ho2;have HO2:=hZ ho2
    clear ho2;go_wp2_with fail;go_ret2;exact⟨_,rfl,HO2.out,HL.out.bel⟩
open Go.WideAt Go.WideShapes
def xP(p:Bs×Nat):Array Value:=#[.string (mP p),.int .i64 p.2]
abbrev oB(S:Nat→Prop)(w:World)(v:Value)(t:Tab):Prop:=RowS 177 2 xP S w v t
abbrev AB(base:Nat)(t:Tab)(v:Value)(w:World):Prop:=RowB 177 2 xP base t v w
theorem sO(p:Bs×Nat):(xP p).size=2:=rfl
theorem sU(p:Bs×Nat):∀u∈(xP p).toList,u.oneCell'=true:=by
 intro u hu;have h:u=.string (mP p)∨u=.int .i64 p.2:=by simpa[xP]using hu
 rcases h with rfl|rfl<;>rfl
theorem EP:(Tryz.prog.info? 177).map (fun i=>(i.zero,i.size,i.bytes))=some (some (.agg #[.string ⟨#[]⟩,.int .i64 0]),2,24):=aE
def tat(k:Bs):Nat→Tab→Int
 |_,[]=>-1
 |i,p::r=>if p.1=k then i else tat k (i+1) r
theorem EQ(k:Bs):∀(t:Tab) (i:Nat),(∀p∈t,p.1≠k)→tat k i t=-1
 |[],_,_=>rfl
 |p::r,i,h=>by
  unfold tat;rw[if_neg (h p List.mem_cons_self)];exact EQ k r (i+1) (fun q hq=>h q (List.mem_cons_of_mem _ hq))
theorem ER(k:Bs)(n:Nat):∀(t:Tab) (i:Nat),lS t k=some n→∃j:Nat,tat k i t=((i+j:Nat):Int)∧t[j]?=some (k,n)
 |[],_,h=>aK
 |p::r,i,h=>by
  unfold tat;by_cases e:p.1=k
  ·rw[if_pos e];refine⟨0,rfl,?_⟩;unfold lS at h;rw[List.find?_cons_of_pos (by simpa using e)]at h;obtain⟨a,b⟩:=p;cases e;cases h
   rfl
  ·rw[if_neg e]
   have h':lS r k=some n:=by
    unfold lS at h⊢;rw[List.find?_cons_of_neg (by simpa using e)]at h;exact h
   obtain⟨j,h1,h2⟩:=ER k n r (i+1) h';exact⟨j+1,by rw[h1];congr 1;omega,h2⟩
def zT(t:Tab)(k:Bs):Int:=tat k 0 t
theorem rJ{t:Tab}{k:Bs}(h:lS t k=none):zT t k=-1:=EQ k t 0 (qL.1 h)
theorem qK{t:Tab}{k:Bs}{n:Nat}(h:lS t k=some n):∃j:Nat,zT t k=j∧t[j]?=some (k,n):=by
 obtain⟨j,h1,h2⟩:=ER k n t 0 h;rw[Nat.zero_add]at h1;exact⟨j,h1,h2⟩
theorem rC{p:Bs×Nat}{s:ByteArray}:mP p=s↔p.1=s.data.toList:=by
 constructor
 ·rintro rfl;show p.1=p.1.toArray.toList
  rw[List.toList_toArray]
 ·intro h;apply ByteArray.ext;show p.1.toArray=s.data
  rw[h]
theorem wJ{x y:ByteArray}(h:¬x=y):(x.toList==y.toList)=false:=beq_eq_false_iff_ne.2 fun e=>h (by
 rw[ByteArray.toList_eq,ByteArray.toList_eq]at e;apply ByteArray.ext;exact Array.toList_inj.1 e)
theorem wK{S:Nat→Prop}{w:World}{v:Value}{t:Tab}(h:oB S w v t)(s:ByteArray)(hl:t.length≤8000000000000):
  Calls Tryz.prog 124 #[v,.string s] w fun e w'=>e=.returned (.int .i64 (zT t s.data.toList))∧w=w':=by
 obtain⟨p,c,rfl⟩:=h.form
 obtain⟨N,hN⟩:∃N,t.length=N:=⟨_,rfl⟩
 rw[hN]at h hl⊢;have hli:(N:Int)≤8000000000000:=aC
 have H:=hZ h;have HN:=hZ hN
 clear h hN hl;go_enter Tryz.func124,Tryz.ntmps124;go_wp2_with fail;go_loopw [5] (fun iv wr=>∃i:Nat,i≤N∧iv=.int .i64 i∧w=wr∧Hid (tat s.data.toList i (t.drop i)=zT t s.data.toList)) (fun iv _=>N-(intOf iv).toNat)
 case atStart=>exact⟨0,Nat.zero_le _,rfl,rfl,rfl⟩
 case round=>
  obtain⟨i,hi,rfl,rfl,HT⟩:=hrel;by_cases hlt:(i:Int)<(N:Int)
  ·obtain⟨q,hq⟩:∃q,t[i]?=some q:=⟨_,List.getElem?_eq_getElem (i:=i) eB⟩
   obtain⟨g,cur,rfl,-,-,hc⟩:=H.out.cell sO hq;have c0:w.cell? ⟨g,i*2,none⟩=some (.string (mP q)):=hc 0 aA
   have hdr:t.drop i=q::t.drop (i+1):=by
    obtain⟨h1,rfl⟩:=List.getElem?_eq_some_iff.1 hq;exact List.drop_eq_getElem_cons h1
   have ht:=HT.out;rw[hdr]at ht;unfold tat at ht;have HT2:=hZ ht
   clear hc hq hdr ht;by_cases hn:mP q=s
   ·have ht:=HT2.out;rw[if_pos (rC.1 hn)]at ht;rw[hn]at c0;have HT3:=hZ ht
    clear ht HT HT2;go_wp2_with fail;go_ret;exact⟨by rw[←HT3.out];rfl,rfl⟩
   ·have hb:=wJ hn
    have HT3:=hZ (show tat s.data.toList (i+1) (t.drop (i+1))=zT t s.data.toList by
     have ht:=HT2.out;rwa[if_neg (fun e=>hn (rC.2 e))]at ht)
    clear HT HT2;go_wp2_with fail
    case roundEnd=>exact⟨⟨i+1,aC,aG,trivial,HT3⟩,cN⟩
  ·obtain rfl:i=N:=by omega
   have ht:=HT.out;rw[List.drop_of_length_le bA]at ht;have HT3:=hZ ht
   clear ht;go_wp2_with fail;go_ret;exact⟨by rw[←HT3.out];rfl,rfl⟩
theorem ES(a b:Tab)(k:Bs):nF (a++b) k=nF a k++nF b k:=List.filter_append _ _
theorem A2(t:Tab)(k:Bs):(nF t k).length≤t.length:=List.length_filter_le _ _
structure Gath (w wr:World) (ov:Value) (out:Tab):Prop where
 row:AB w.heap.size out ov wr
 bel:Below w.heap.size w wr
theorem Gath.app{w wr w1:World}{ov v':Value}{out:Tab}{x:Bs×Nat}{tmp:Obj}(h:Gath w wr ov out)(hown':w1.ownsRow w.heap.size 177 2 v' (out.length+1) (pZ xP out++(xP x).toList))(hg:(wr.alloc tmp).grownBy w1 ov.ownBlock):Gath w w1 v' (out++[x]):=by
 have:=h.row.app h.bel h.bel.size hown' hg;exact⟨this.1,this.2⟩
theorem A3{S:Nat→Prop}{w:World}{v:Value}{t:Tab}(h:oB S w v t)(hS:∀b,S b→b<w.heap.size)(s:ByteArray)(hl:t.length≤4000000000000):
  Calls Tryz.prog 188 #[v,.string s] w fun e w'=>∃u,e=.returned u∧Gath w w' u (nF t s.data.toList):=by
 obtain⟨p,c,rfl⟩:=h.form
 obtain⟨N,hN⟩:∃N,t.length=N:=⟨_,rfl⟩
 rw[hN]at h hl⊢;have hli:(N:Int)≤4000000000000:=aC
 have H:=hZ h;have HS:=hZ hS
 have HN:=hZ hN;clear h hN hl hS;obtain⟨i0,hi,hz0,hz1,hz2⟩:=info_parts EP;go_enter Tryz.func188,Tryz.ntmps188;go_wp2_with fail;go_loopw [5,6] (fun ov iv wr=>∃i:Nat,i≤N∧iv=.int .i64 i∧Hid (Gath w wr ov (nF (t.take i) s.data.toList))) (fun _ iv _=>N-(intOf iv).toNat)
 case atStart=>exact⟨0,Nat.zero_le _,rfl,hZ ⟨RowB.nil _ _,Below.refl _ _⟩⟩
 case round=>
  obtain⟨i,hi',rfl,HGt⟩:=hrel;by_cases hlt:(i:Int)<(N:Int)
  ·obtain⟨q,hq⟩:∃q,t[i]?=some q:=⟨_,List.getElem?_eq_getElem (i:=i) eB⟩
   obtain⟨g,cur,rfl,hgS,hgg,hc⟩:=H.out.cell sO hq;have hsame:wr.heap[g]?=w.heap[g]?:=HGt.out.bel.block g (HS.out g hgS)
   have c0:wr.cell? ⟨g,i*2,none⟩=some (.string (mP q)):=(lK hsame).trans (hc 0 aA);have c1:wr.cell? ⟨g,i*2+1,none⟩=some (.int .i64 q.2):=(lK hsame).trans (hc 1 aA)
   have htk:t.take (i+1)=t.take i++[q]:=by
    obtain⟨h1,rfl⟩:=List.getElem?_eq_some_iff.1 hq;exact jQ
   have htd:nF (t.take (i+1)) s.data.toList=nF (t.take i) s.data.toList++(if q.1=s.data.toList then []else [q]):=by
    rw[htk,ES]
    congr 1
    unfold nF;by_cases e:q.1=s.data.toList
    ·rw[if_pos e,List.filter_cons_of_neg (by simp[e])]
     rfl
    ·rw[if_neg e,List.filter_cons_of_pos (by simp[e])]
     rfl
   have hln:(nF (t.take i) s.data.toList).length≤i:=Nat.le_trans (A2 _ _) fP;have HT:=hZ htd
   generalize nF (t.take i) s.data.toList=out at HGt hln HT;clear hc hq hsame hgg hgS htk htd;by_cases hn:mP q=s
   ·have hG:=HGt.out;have ht:=HT.out
    rw[if_pos (rC.1 hn),List.append_nil]at ht;rw[←ht]at hG;have HG2:=hZ hG
    rw[hn]at c0;clear hG ht HT HGt hln;go_wp2_with fail
    case roundEnd=>exact⟨⟨i+1,aC,aG,HG2⟩,cN⟩
   ·have hb:=wJ hn;have hne:¬q.1=s.data.toList:=fun e=>hn (rC.2 e)
    have HTE:=hZ (show nF (t.take (i+1)) s.data.toList=out++[q] by have ht:=HT.out;rwa[if_neg hne]at ht);have hrow:=HGt.out.row
    unfold AB RowB at hrow;have HO:=hZ hrow
    have hsz:=HGt.out.bel.size;clear hrow HT hne;go_wp2_with (at_builtin;refine wpList_append_own _ rfl _ _ 164 rfl w.heap.size 177 i0 (.agg #[.string ⟨#[]⟩,.int .i64 0]) 2 24 Tryz.underlying164 hi hz0 hz1 hz2 rfl aA _ _ _ rfl (HO.out.alloc _) ⟨wr.heap.size,0,none⟩ 1 1 [.string (mP q),.int .i64 q.2] rfl rfl (EE wr #[.string (mP q),.int .i64 q.2] _) (sU q) cT aC cO ?_;intro v' w1 hown' hgrow _;have HA:=hZ (HGt.out.app hown' hgrow);clear hown' hgrow);go_roundw
    case rel=>exact⟨i+1,aC,aG,hZ (by rw[HTE.out];exact HA.out)⟩
    case measure=>simp[intOf];omega
  ·obtain rfl:i=N:=by omega
   have hG:=HGt.out;rw[List.take_of_length_le bA]at hG;have HG2:=hZ hG
   clear hG HGt;go_wp2_with fail;go_ret;exact⟨_,rfl,HG2.out⟩
theorem vN:∀a b:Bs,Op.bytesLess a b=bytesBefore a b
 |[],[]=>rfl
 |_::_,[]=>rfl
 |[],_::_=>rfl
 |x::a,y::b=>by
  show(decide (x<y)||(x==y&&Op.bytesLess a b))=(decide (x<y)||(x==y&&bytesBefore a b))
  rw[vN a b]
theorem IN(p:Bs×Nat)(s:ByteArray):Op.bytesLess (mP p).toList s.toList=bytesBefore p.1 s.data.toList:=by
 rw[vN,ByteArray.toList_eq,ByteArray.toList_eq]
 rfl
def wgo(k:Bs)(n:Nat):Bool→Tab→Tab
 |true,t=>nF t k
 |false,[]=>[(k,n)]
 |false,p::r=>if bytesBefore p.1 k then p::wgo k n false r else(k,n)::nF (p::r) k
theorem uD(k:Bs)(n:Nat)(t:Tab):wgo k n true t=nF t k:=by cases t<;>rfl
theorem Kh(k:Bs)(n:Nat)(p:Bs×Nat)(r:Tab):wgo k n false (p::r)=if bytesBefore p.1 k then p::wgo k n false r else(k,n)::nF (p::r) k:=rfl
theorem LG{a b:Bs}(h:bytesBefore a b=true):bytesBefore b a=false:=by
 cases hx:bytesBefore b a with
 |false=>rfl
 |true=>
  have:=bytes_trans a b a h hx;rw[bytes_irrefl]at this;cases this
theorem Gx{x:Bs×Nat}:∀{t:Tab},(∀p∈t,bytesBefore x.1 p.1=true)→tQ x t=x::t
 |[],_=>rfl
 |y::r,h=>by
  rw[yO,if_pos (h y List.mem_cons_self)]
theorem Io(k:Bs)(n:Nat):∀{t:Tab},mF t→wgo k n false t=oJ t k n
 |[],_=>rfl
 |p::r,h=>by
  have hr:mF r:=List.Pairwise.tail h;have hp:∀q∈r,bytesBefore p.1 q.1=true:=(List.pairwise_cons.1 h).1
  unfold wgo;by_cases hb:bytesBefore p.1 k=true
  ·rw[if_pos hb,Io k n hr];unfold oJ;have hne:p.1≠k:=Df hb
   have e:nF (p::r) k=p::nF r k:=by unfold nF;rw[List.filter_cons_of_pos (by simp[hne])]
   rw[e,yO,if_neg (by rw[LG hb];exact Bool.false_ne_true)]
  ·rw[if_neg hb];unfold oJ;refine(Gx fun q hq=>?_).symm;obtain⟨h1,h2⟩:=oN.1 hq;have hkp:p.1≠k→bytesBefore k p.1=true:=fun hne=>(bytes_total p.1 k hne).resolve_left hb
   rcases List.mem_cons.1 h1 with rfl|h1
   ·exact hkp h2
   ·by_cases hpk:p.1=k
    ·rw[←hpk];exact hp q h1
    ·exact bytes_trans _ _ _ (hkp hpk) (hp q h1)
theorem CQ(p:Bs×Nat)(r:Tab)(k:Bs):nF (p::r) k=if p.1=k then nF r k else p::nF r k:=by
 unfold nF;by_cases e:p.1=k
 ·rw[if_pos e,List.filter_cons_of_neg (by simp[e])]
 ·rw[if_neg e,List.filter_cons_of_pos (by simp[e])]
theorem CS{S:Nat→Prop}{w:World}{v:Value}{t:Tab}(h:oB S w v t)(hS:∀b,S b→b<w.heap.size)(hr:mF t)(s:ByteArray)(n:Nat)(hl:t.length≤2000000000000)(hn:(n:Int)≤9223372036854775807):
  Calls Tryz.prog 187 #[v,.string s,.int .i64 n] w fun e w'=>∃u,e=.returned u∧Gath w w' u (oJ t s.data.toList n):=by
 rw[←Io s.data.toList n hr];obtain⟨p,c,rfl⟩:=h.form
 obtain⟨N,hN⟩:∃N,t.length=N:=⟨_,rfl⟩
 rw[hN]at h hl⊢;have hli:(N:Int)≤2000000000000:=aC
 have H:=hZ h;have HS:=hZ hS
 have HN:=hZ hN;clear h hN hl hS hr;obtain⟨i0,hi,hz0,hz1,hz2⟩:=info_parts EP;go_enter Tryz.func187,Tryz.ntmps187;go_wp2_with fail;go_loopw [7,8,9] (fun ov dv iv wr=>∃(i:Nat) (d:Bool) (out:Tab),i≤N∧iv=.int .i64 i∧dv=.bool d∧out.length≤2*i∧Hid (Gath w wr ov out)∧Hid (out++wgo s.data.toList n d (t.drop i)=wgo s.data.toList n false t)) (fun _ _ iv _=>N-(intOf iv).toNat)
 case atStart=>exact⟨0,false,[],Nat.zero_le _,rfl,rfl,Nat.le_refl _,hZ ⟨RowB.nil _ _,Below.refl _ _⟩,hZ rfl⟩
 case round=>
  obtain⟨i,d,out,hi',rfl,rfl,hol,HGt,HE⟩:=hrel;by_cases hlt:(i:Int)<(N:Int)
  ·obtain⟨q,hq⟩:∃q,t[i]?=some q:=⟨_,List.getElem?_eq_getElem (i:=i) eB⟩
   obtain⟨g,cur,rfl,hgS,hgg,hc⟩:=H.out.cell sO hq;have hsame:wr.heap[g]?=w.heap[g]?:=HGt.out.bel.block g (HS.out g hgS)
   have hgw:g<w.heap.size:=HS.out g hgS;have HC0:=hZ (hc 0 aA)
   have HC1:=hZ (hc 1 aA);have c0:wr.cell? ⟨g,i*2,none⟩=some (.string (mP q)):=(lK hsame).trans HC0.out
   have c1:wr.cell? ⟨g,i*2+1,none⟩=some (.int .i64 q.2):=(lK hsame).trans HC1.out
   have hdr:t.drop i=q::t.drop (i+1):=by
    obtain⟨h1,rfl⟩:=List.getElem?_eq_some_iff.1 hq;exact List.drop_eq_getElem_cons h1
   have he:=HE.out;rw[hdr]at he;have HE2:=hZ he
   have hls:=IN q s;have hsz:=HGt.out.bel.size
   have hrow:=HGt.out.row;unfold AB RowB at hrow;have HO:=hZ hrow
   clear hc hq hsame hgg hgS hdr he hrow HE
   cases d with
   |true=>
    have he:=HE2.out;rw[uD,CQ]at he;by_cases hnm:mP q=s
    ·rw[if_pos (rC.1 hnm)]at he;have HE3:=hZ (show out++wgo s.data.toList n true (t.drop (i+1))=wgo s.data.toList n false t by rw[uD];exact he)
     rw[hnm]at c0 hls;rw[show bytesBefore q.1 s.data.toList=false by rw[rC.1 hnm,bytes_irrefl]]at hls;clear he HE2;go_wp2_with fail
     case roundEnd=>exact⟨⟨i+1,true,out,aC,aG,rfl,aC,HGt,HE3⟩,cN⟩
    ·rw[if_neg (fun e=>hnm (rC.2 e))]at he;have HE3:=hZ (show(out++[q])++wgo s.data.toList n true (t.drop (i+1))=wgo s.data.toList n false t by first|(rw[List.append_assoc];exact he)|(rw[uD,List.append_assoc];exact he))
     have hb:=wJ hnm;clear he HE2
     cases hbb:bytesBefore q.1 s.data.toList with
     |true=>
      rw[hbb]at hls;go_wp2_with (at_builtin;refine wpList_append_own _ rfl _ _ 164 rfl w.heap.size 177 i0 (.agg #[.string ⟨#[]⟩,.int .i64 0]) 2 24 Tryz.underlying164 hi hz0 hz1 hz2 rfl aA _ _ _ rfl (HO.out.alloc _) ⟨wr.heap.size,0,none⟩ 1 1 [.string (mP q),.int .i64 q.2] rfl rfl (EE wr #[.string (mP q),.int .i64 q.2] _) (sU q) cT aC cO ?_;intro v' w1 hown' hgrow _;have HA:=hZ (HGt.out.app hown' hgrow);clear hown' hgrow);go_roundw
      case rel=>exact⟨i+1,true,out++[q],aC,aG,rfl,cY,HA,HE3⟩
      case measure=>simp[intOf];omega
     |false=>
      rw[hbb]at hls;go_wp2_with (at_builtin;refine wpList_append_own _ rfl _ _ 164 rfl w.heap.size 177 i0 (.agg #[.string ⟨#[]⟩,.int .i64 0]) 2 24 Tryz.underlying164 hi hz0 hz1 hz2 rfl aA _ _ _ rfl (HO.out.alloc _) ⟨wr.heap.size,0,none⟩ 1 1 [.string (mP q),.int .i64 q.2] rfl rfl (EE wr #[.string (mP q),.int .i64 q.2] _) (sU q) cT aC cO ?_;intro v' w1 hown' hgrow _;have HA:=hZ (HGt.out.app hown' hgrow);clear hown' hgrow);go_roundw
      case rel=>exact⟨i+1,true,out++[q],aC,aG,rfl,cY,HA,HE3⟩
      case measure=>simp[intOf];omega
   |false=>
    have he:=HE2.out;rw[Kh]at he
    cases hbb:bytesBefore q.1 s.data.toList with
    |true=>
     rw[hbb]at hls he;rw[if_pos rfl]at he;have HE3:=hZ (show(out++[q])++wgo s.data.toList n false (t.drop (i+1))=wgo s.data.toList n false t by first|(rw[List.append_assoc];exact he)|(rw[uD,List.append_assoc];exact he))
     have hb:=wJ (show¬mP q=s from fun e=>Df hbb (rC.1 e));clear he HE2;go_wp2_with (at_builtin;refine wpList_append_own _ rfl _ _ 164 rfl w.heap.size 177 i0 (.agg #[.string ⟨#[]⟩,.int .i64 0]) 2 24 Tryz.underlying164 hi hz0 hz1 hz2 rfl aA _ _ _ rfl (HO.out.alloc _) ⟨wr.heap.size,0,none⟩ 1 1 [.string (mP q),.int .i64 q.2] rfl rfl (EE wr #[.string (mP q),.int .i64 q.2] _) (sU q) cT aC cO ?_;intro v' w1 hown' hgrow _;have HA:=hZ (HGt.out.app hown' hgrow);clear hown' hgrow);go_roundw
     case rel=>exact⟨i+1,false,out++[q],aC,aG,rfl,cY,HA,HE3⟩
     case measure=>simp[intOf];omega
    |false=>
     rw[hbb]at hls he;rw[if_neg Bool.false_ne_true,CQ]at he;have HQ:=hZ (show pZ xP [(s.data.toList,n)]=[.string s,.int .i64 n]from rfl)
     by_cases hnm:mP q=s
     ·rw[if_pos (rC.1 hnm)]at he;have HE3:=hZ (show(out++[(s.data.toList,n)])++wgo s.data.toList n true (t.drop (i+1))=wgo s.data.toList n false t by first|(rw[List.append_assoc];exact he)|(rw[uD,List.append_assoc];exact he))
      rw[hnm]at c0 hls;clear he HE2;go_wp2_with (at_builtin;refine wpList_append_own _ rfl _ _ 164 rfl w.heap.size 177 i0 (.agg #[.string ⟨#[]⟩,.int .i64 0]) 2 24 Tryz.underlying164 hi hz0 hz1 hz2 rfl aA _ _ _ rfl (HO.out.alloc _) ⟨wr.heap.size,0,none⟩ 1 1 [.string s,.int .i64 n] rfl rfl (EE wr #[.string s,.int .i64 n] _) (sU (s.data.toList,n)) cT aC cO ?_;intro v' w1 hown' hgrow _;have HA:=hZ (HGt.out.app (x:=(s.data.toList,n)) hown' hgrow);have c0':w1.cell? ⟨g,i*2,none⟩=some (.string s):=(lK (HA.out.bel.block g hgw)).trans (hnm▸HC0.out);have c1':w1.cell? ⟨g,i*2+1,none⟩=some (.int .i64 q.2):=(lK (HA.out.bel.block g hgw)).trans HC1.out;have HO2:=hZ HA.out.row;unfold AB RowB at HO2;have hsz2:=HA.out.bel.size;clear hown' hgrow);go_roundw
      case rel=>exact⟨i+1,true,out++[(s.data.toList,n)],aC,aG,rfl,cY,HA,HE3⟩
      case measure=>simp[intOf];omega
     ·rw[if_neg (fun e=>hnm (rC.2 e))]at he;have HE3:=hZ (show((out++[(s.data.toList,n)])++[q])++wgo s.data.toList n true (t.drop (i+1))=wgo s.data.toList n false t by rw[uD,List.append_assoc,List.append_assoc];exact he)
      have hb:=wJ hnm;clear he HE2
      go_wp2_with (first
       |(at_builtin;refine wpList_append_own _ rfl _ _ 164 rfl w.heap.size 177 i0 (.agg #[.string ⟨#[]⟩,.int .i64 0]) 2 24 Tryz.underlying164 hi hz0 hz1 hz2 rfl aA _ _ _ rfl (HO.out.alloc _) ⟨wr.heap.size,0,none⟩ 1 1 [.string s,.int .i64 n] rfl rfl (EE wr #[.string s,.int .i64 n] _) (sU (s.data.toList,n)) cT aC cO ?_;intro v' w1 hown' hgrow _;have HA:=hZ (HGt.out.app (x:=(s.data.toList,n)) hown' hgrow);have c0':w1.cell? ⟨g,i*2,none⟩=some (.string (mP q)):=(lK (HA.out.bel.block g hgw)).trans HC0.out;have c1':w1.cell? ⟨g,i*2+1,none⟩=some (.int .i64 q.2):=(lK (HA.out.bel.block g hgw)).trans HC1.out;have HO2:=hZ HA.out.row;unfold AB RowB at HO2;have hsz2:=HA.out.bel.size;clear hown' hgrow)
       |(at_builtin;refine wpList_append_own _ rfl _ _ 164 rfl w.heap.size 177 i0 (.agg #[.string ⟨#[]⟩,.int .i64 0]) 2 24 Tryz.underlying164 hi hz0 hz1 hz2 rfl aA _ _ _ rfl (HO2.out.alloc _) ⟨w1.heap.size,0,none⟩ 1 1 [.string (mP q),.int .i64 q.2] rfl rfl (EE w1 #[.string (mP q),.int .i64 q.2] _) (sU q) (by rw[List.length_append,List.length_singleton];unfold maxLen;omega) cY cO ?_;intro v2 w2 hown' hgrow _;have HA2:=hZ (HA.out.app (x:=q) hown' hgrow);clear hown' hgrow))
      go_roundw
      case rel=>exact⟨i+1,true,(out++[(s.data.toList,n)])++[q],aC,aG,rfl,by rw[List.length_append,List.length_append,List.length_singleton,List.length_singleton];omega,HA2,HE3⟩
      case measure=>simp[intOf];omega
  ·obtain rfl:i=N:=by omega
   have he:=HE.out;rw[List.drop_of_length_le bA]at he;have hsz:=HGt.out.bel.size
   cases d with
   |true=>
    rw[uD,show nF [] s.data.toList=[]from rfl,List.append_nil]at he;have HE3:=hZ he
    clear he HE;go_wp2_with fail;go_ret;exact⟨_,rfl,by rw[←HE3.out];exact HGt.out⟩
   |false=>
    have HE3:=hZ (show out++[(s.data.toList,n)]=wgo s.data.toList n false t from he);have hrow:=HGt.out.row
    unfold AB RowB at hrow;have HO:=hZ hrow
    clear he HE hrow;go_wp2_with (at_builtin;refine wpList_append_own _ rfl _ _ 164 rfl w.heap.size 177 i0 (.agg #[.string ⟨#[]⟩,.int .i64 0]) 2 24 Tryz.underlying164 hi hz0 hz1 hz2 rfl aA _ _ _ rfl (HO.out.alloc _) ⟨wr.heap.size,0,none⟩ 1 1 [.string s,.int .i64 n] rfl rfl (EE wr #[.string s,.int .i64 n] _) (sU (s.data.toList,n)) cT aC cO ?_;intro v' w1 hown' hgrow _;have HA:=hZ (HGt.out.app (x:=(s.data.toList,n)) hown' hgrow);clear hown' hgrow);go_ret;exact⟨_,rfl,by rw[←HE3.out];exact HA.out⟩
end Go.Proofs.YtdkedmngeahjiaaGreatDoor
