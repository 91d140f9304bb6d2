/- The contract of names. -/
import Derived.Test.YtdkedmngeahjiaaGreatDoorActs
import Derived.Test.YtdkedmngeahjiaaGreatDoorM6
import Derived.Test.YtdkedmngeahjiaaGreatDoorM7
import Derived.OwnWalk
set_option maxRecDepth 100000
set_option maxHeartbeats 25600000
namespace Go.Proofs.YtdkedmngeahjiaaGreatDoor
open Go Go.RowKit Go.Maps Go.Shelf
attribute [local go_sem] sR sS qN qO
theorem J0{w w1:World}{a n:Nat}{m:DM}{S:Nat→Prop}{bn bs:Nat}{pv fv v:Value}{loc:Nat→Nat}{o:DOp}(h:DiskIn w a n m S bn bs pv fv loc)(hO:OpAt S w loc v o)(hT:rB w1 bn (oX loc (o.act m.now)))(ht:w.mapTurned w1 bn)(ho:∀k i,o=.create k i→i<m.files.length):
  w1.cell? ⟨a,4,none⟩=some pv∧w1.frozen? ⟨a,4,none⟩=false∧Hid (w1.heap[a]?=some (.cells (qZ m bn bs pv fv) 88 (0,0)))∧Hid (PendAt S w1 loc pv m.pend)∧Hid (OpAt S w1 loc v o)∧Hid (w.grownBy w1 (some bn)):=by
 have hg:=ht.grown;have hk:∀b,b≠bn→b<w.heap.size→w1.heap[b]?=w.heap[b]?:=fun b h1 h2=>hg.block b h2 (by simpa using h1)
 have hab:a≠bn:=fun e=>h.now.ne h.head e.symm
 have hd:=(hk a hab (lH h.head)).trans h.head;have hcb:∀b t cs,S b→w.heap[b]?=some (.cells cs t (0,0))→w1.heap[b]?=w.heap[b]?:=fun b t cs hS hc=>hk b (fun e=>h.now.ne hc e.symm) (h.lt b hS)
 exact⟨lF hd,lI hd,hZ hd,hZ (h.pend.keep (fun b t cs hS hc _=>hcb b t cs hS hc) (fun _ x=>x) (fun _ _ _=>rfl)),hZ (hO.keep (fun b t cs hS hc _=>hcb b t cs hS hc) (fun _ x=>x) (fun _ _ _=>rfl)),hZ hg⟩
theorem Nq:(Tryz.prog.info? 152).map (fun i=>(i.zero,i.size,i.bytes))=some (some .nilFunc,1,8):=aE
theorem J1{w w1 w2:World}{a n:Nat}{m:DM}{S:Nat→Prop}{bn bs:Nat}{pv fv v v':Value}{loc:Nat→Nat}{o:DOp}{vs:List Value}(h:DiskIn w a n m S bn bs pv fv loc)(ho:∀k i,o=.create k i→i<m.files.length)(hO:OpAt S w1 loc v o)(hops:OpsAt S w1 loc vs m.pend)(hpS:InS S pv)(hg:w.grownBy w1 (some bn))(hT:rB w1 bn (oX loc (o.act m.now)))
  (hr0:w1.ownsRow 0 152 1 pv m.pend.length vs) (hrow:w2.ownsRow 0 152 1 v' (m.pend.length+1) (vs++[v]))
  (hloc:(v'.ownBlock=pv.ownBlock∧(w1.alloc (.cells #[v] 152)).grownBy w2 pv.ownBlock)∨(v'.ownBlock=some (w1.alloc (.cells #[v] 152)).heap.size∧(w1.alloc (.cells #[v] 152)).grownBy w2 none)):
  w2.cell? ⟨a,4,none⟩=some pv∧w2.frozen? ⟨a,4,none⟩=false∧Hid (DiskPost a (n+1) (m.names o) S w (w2.setCell ⟨a,4,none⟩ v')):=by
 have hz1:w.heap.size≤w1.heap.size:=hg.size;have hzA:(w1.alloc (.cells #[v] 152)).heap.size=w1.heap.size+1:=World.size_alloc _ _
 have hz2:w1.heap.size+1≤w2.heap.size:=by
  rw[←hzA];rcases hloc with⟨_,hq⟩|⟨_,hq⟩<;>exact hq.size
 have hpv:∀b,pv.ownBlock=some b→∃cs,w1.heap[b]?=some (.cells cs 152 (0,0)):=fun b hb=>by
  rcases hr0.2 with⟨rfl,_⟩|⟨g,cap,cur,rfl,_,h1,_⟩
  ·cases hb
  ·cases hb;exact⟨_,h1⟩
 have hk2:∀b,b<w1.heap.size→pv.ownBlock≠some b→w2.heap[b]?=w1.heap[b]?:=fun b hb hn=>by
  rcases hloc with⟨_,hq⟩|⟨_,hq⟩
  ·exact(hq.block b aC (fun e=>hn e.symm)).trans (Below.heap_alloc w1 _ b hb)
  ·exact(hq.block b aC (fun e=>aO)).trans (Below.heap_alloc w1 _ b hb)
 have hk1:∀b,b<w.heap.size→b≠bn→w1.heap[b]?=w.heap[b]?:=fun b hb hn=>hg.block b hb (by simpa using hn)
 have hlt:=h.lt
 have hne1:∀b,S b→b≠bn→(∀cs,w.heap[b]?≠some (.cells cs 152 (0,0)))→w2.heap[b]?=w.heap[b]?:=fun b hS hn hc=>by
  refine(hk2 b (Nat.lt_of_lt_of_le (hlt b hS) hz1) (fun e=>?_)).trans (hk1 b (hlt b hS) hn);obtain⟨cs,h1⟩:=hpv b e;rw[hk1 b (hlt b hS) hn]at h1;exact hc cs h1
 have hab:a≠bn:=fun e=>h.now.ne h.head e.symm
 have hd:w2.heap[a]?=some (.cells (qZ m bn bs pv fv) 88 (0,0)):=(hne1 a h.sa hab (fun cs hc=>by rw[h.head]at hc;cases hc)).trans h.head;have h3:∀b,b≠a→(w2.setCell ⟨a,4,none⟩ v').heap[b]?=w2.heap[b]?:=fun b hn=>Below.heap_setCell _ _ _ _ hn
 have hz3:(w2.setCell ⟨a,4,none⟩ v').heap.size=w2.heap.size:=World.size_setCell _ _ _
 have hk3:∀b t cs,S b→w.heap[b]?=some (.cells cs t (0,0))→t≠88→t≠152→(w2.setCell ⟨a,4,none⟩ v').heap[b]?=w.heap[b]?:=fun b t cs hS hc h4 h5=>by
  refine(h3 b (qT h.head hc (oY (Ne.symm h4)))).trans (hne1 b hS (fun e=>h.now.ne hc e.symm) (fun cs' hc'=>?_));rw[hc]at hc';cases hc';exact h5 rfl
 have hmap:∀b l,S b→b≠bn→rB w b l→(w2.setCell ⟨a,4,none⟩ v').heap[b]?=w.heap[b]?:=fun b l hS hn hb=>by
  refine(h3 b (hb.ne h.head)).trans (hne1 b hS hn (fun cs hc=>hb.ne hc rfl))
 have hnow:(w2.setCell ⟨a,4,none⟩ v').heap[bn]?=w1.heap[bn]?:=by
  refine(h3 bn (Ne.symm hab)).trans (hk2 bn hT.lt (fun e=>?_));obtain⟨cs,h1⟩:=hpv bn e;exact hT.ne h1 rfl
 have hown:∀b,v'.ownBlock=some b→S b∨(w.heap.size≤b∧b<w2.heap.size):=fun b hb=>by
  have hlt2:b<w2.heap.size:=by
   rcases hrow.2 with⟨rfl,_⟩|⟨g,cap,cur,rfl,_,h1,_⟩
   ·cases hb
   ·cases hb;exact lH h1
  rcases hloc with⟨h4,_⟩|⟨h4,_⟩
  ·exact .inl (hpS b (h4▸hb))
  ·rw[h4]at hb;cases hb;exact .inr ⟨aC,hlt2⟩
 have hS1:∀b t cs,S b→w1.heap[b]?=some (.cells cs t (0,0))→(t=9∨t=93)→(w2.setCell ⟨a,4,none⟩ v').heap[b]?=w1.heap[b]?:=fun b t cs hS hc ht=>by
  have hn:b≠bn:=fun e=>hT.ne hc e.symm
  have hc0:=hc;rw[hk1 b (hlt b hS) hn]at hc0;rw[hk3 b t cs hS hc0 (by rcases ht with rfl|rfl<;>decide) (by rcases ht with rfl|rfl<;>decide),hk1 b (hlt b hS) hn]
 refine⟨lF hd,lI hd,hZ ⟨⟨bn,bs,v',fv,loc,?_⟩,?_⟩⟩
 ·exact{
   head:=by rw[lY hd,lM (lH hd)];rfl
   sa:=.inl h.sa
   sn:=.inl h.sn
   ss:=.inl h.ss
   ne:=h.ne
   now:=hT.keep hnow
   safe:=h.safe.keep (hmap bs _ h.ss (Ne.symm h.ne) h.safe)
   file:=fun i f hf=>⟨.inl (h.file i f hf).1,(hk3 _ _ _ (h.file i f hf).1 (h.file i f hf).2 aA aA).trans (h.file i f hf).2⟩
   inj:=h.inj
   pend:=by
    refine⟨vs++[v],?_,?_,fun b hb=>(hown b hb).imp id (fun h5=>⟨h5.1,by rw[hz3];exact h5.2⟩)⟩
    ·show(w2.setCell ⟨a,4,none⟩ v').ownsRow 0 _ 1 v' (m.pend++[o]).length _;rw[List.length_append,List.length_singleton];refine uK (S:=fun _=>True) hrow (fun _ _=>trivial) (fun b cs _ hc=>h3 b (qT hd hc (oY aA)))
    ·exact OpsAt.snoc (hO.keep hS1 pJ (fun _ _ _=>rfl)) (hops.keep hS1 pJ (fun _ _ _=>rfl))
   fate:=h.fate.keep (fun b cs hS hc=>hk3 b _ cs hS hc aA aA) pJ
   ok:=h.ok.names o ho
   lt:=fun b hb=>by
    rcases hb with hb|⟨_,hb⟩
    ·have:=hlt b hb;omega
    ·exact hb}
 ·refine⟨?_,?_,?_,aC,fun b hb hn=>?_⟩
  ·show w2.os=w.os;rcases hloc with⟨_,hq⟩|⟨_,hq⟩<;>exact hq.os.trans hg.os
  ·show w2.tape=w.tape;rcases hloc with⟨_,hq⟩|⟨_,hq⟩<;>exact hq.tape.trans hg.tape
  ·show w2.output=w.output;rcases hloc with⟨_,hq⟩|⟨_,hq⟩<;>exact hq.output.trans hg.output
  ·refine(h3 b (fun e=>hn (e▸h.sa))).trans ((hk2 b aC (fun e=>hn (hpS b e))).trans (hk1 b hb (fun e=>hn (e▸h.sn))))
theorem J2{w:World}{base n:Nat}{t:TypeId}{v:Value}{xs:List Value}(h:w.ownsRow base t 1 v (n+1) xs):∃g cap,v=.slice (some ⟨g,0,none⟩) (n+1) cap:=by
 rcases h.2 with⟨_,h0⟩|⟨g,cap,_,h1,_⟩
 ·cases h0
 ·exact⟨g,cap,h1⟩
theorem BI{w:World}{v:Value}{t:TypeId}(i:Nat)(u:Value)(h:[v][i]?=some u):(w.alloc (.cells #[v] t)).cell? ((⟨w.heap.size,0,none⟩:Addr).add i)=some u:=by
 cases i with
 |zero=>cases h;exact vO w #[v] t 0
 |succ i=>cases h
theorem AZ{w:World}{a n:Nat}{m:DM}{S:Nat→Prop}{bn bs:Nat}{pv fv v:Value}{loc:Nat→Nat}{o:DOp}(h:DiskIn w a n m S bn bs pv fv loc)(hO:OpAt S w loc v o)(ho:∀k i,o=.create k i→i<m.files.length)(hn:n≤17592186044415):
  Calls Tryz.prog 93 #[.pointer (some ⟨a,0,none⟩),v] w fun e w'=>e=.returned (.tuple #[])∧DiskPost a (n+1) (m.names o) S w w':=by
 obtain⟨k,lb,rfl,eg,hc⟩:=MD hO;have hc:=hc S w bn m.now hO h.now (by have:=h.ok.nowN;unfold maxLen;omega)
 obtain⟨-,-,c2,-⟩:=h.cells;have H:=hZ h
 have HO:=hZ hO;have eg':∀(args:Array Value) (w:World),(callFunc k args).run Tryz.prog w=.ok (.enter k args) w:=eg
 clear h hO;go_enter Tryz.func93,Tryz.ntmps93;obtain⟨i0,hi,hz0,hz1,hz2⟩:=info_parts Nq;have hpn:=H.out.ok.safeN
 go_wp2_with (first
  |(go_at_fn k;refine hc.mono ?_;rintro e w1 ⟨rfl,hT,ht⟩;obtain⟨c4,f4,HD,HP,HO1,HG⟩:=J0 H.out HO.out hT ht ho;have HT:=hZ hT;obtain⟨vs,hrv,hov,hiv⟩:=HP.out;have HR:=hZ hrv;have HV:=hZ hov;have HI:=hZ hiv;clear hT ht hrv hov hiv)
  |(at_builtin;refine rF rfl _ _ 86 rfl 0 152 i0 .nilFunc 1 8 Tryz.underlying86 hi hz0 hz1 hz2 rfl aA pv m.pend.length vs rfl (HR.out.alloc _) ⟨w1.heap.size,0,none⟩ 1 1 [.func (.func k) #[] lb] rfl rfl (fun i u h=>BI i u h) iH aA cT aC (Nat.zero_le _) ?_;intro v' w2 hrow hloc;obtain⟨g,cap,rfl⟩:=J2 hrow;obtain⟨c4',f4',HE⟩:=J1 H.out ho HO1.out HV.out HI.out HG.out HT.out HR.out hrow hloc;clear hrow hloc))
 go_end0;exact⟨rfl,HE.out⟩
end Go.Proofs.YtdkedmngeahjiaaGreatDoor
