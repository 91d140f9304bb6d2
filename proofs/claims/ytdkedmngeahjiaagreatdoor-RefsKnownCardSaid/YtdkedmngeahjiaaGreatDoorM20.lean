/- Texts of the seat, one behind the other: Ops, Actd, Meth, Meth2. -/
import Derived.Test.YtdkedmngeahjiaaGreatDoorUsed
import Derived.Test.YtdkedmngeahjiaaGreatDoorNames
import Derived.Test.YtdkedmngeahjiaaGreatDoorM6
import Derived.Test.YtdkedmngeahjiaaGreatDoorFail
import Derived.Test.YtdkedmngeahjiaaGreatDoorM9
import Derived.Test.YtdkedmngeahjiaaGreatDoorRefd
set_option maxRecDepth 100000
set_option maxHeartbeats 25600000
/- Contracts of a disk's operations. -/
namespace Go.Proofs.YtdkedmngeahjiaaGreatDoor
theorem eC{p:Prop}(h:p:=by have c:=(hI.cell (p:=⟨b0,0,none⟩) hb0).trans cd;go_simp;rfl):p:=h
theorem jN{p:Prop}(h:p:=by rcases hb2 with hb2|rfl;exact .inl hb2;exact .inr ⟨aC,aC⟩):p:=h
open Go Go.RowKit Go.Maps Go.Shelf Go.Sort
attribute [local go_sem] sR sS qN qO
def OpPost(a n:Nat)(m:DM)(c:DCall)(S:Nat→Prop)(w w':World)(e:Ending):Prop:=e=.returned (nG (m.op c).2)∧DiskPost a (n+1) (m.op c).1 S w w'
theorem DiskAt.more{w:World}{a n n':Nat}{m:DM}{S:Nat→Prop}(h:DiskAt w a n m S)(hn:n≤n'):DiskAt w a n' m S:=by
 obtain⟨bn,bs,pv,fv,loc,h⟩:=h;exact⟨bn,bs,pv,fv,loc,{h with ok:=h.ok.mono hn}⟩
theorem DiskPost.more{w w':World}{a n n':Nat}{m:DM}{S:Nat→Prop}(h:DiskPost a n m S w w')(hn:n≤n'):DiskPost a n' m S w w':=⟨h.1.more hn,h.2⟩
theorem DiskPost.still{w w':World}{a n:Nat}{m:DM}{S:Nat→Prop}(h:DiskAt w a n m S)(hb:Below w.heap.size w w'):DiskPost a n m S w w':=
 ⟨(h.below hb).sup pJ (fun b hb2=>by
  rcases hb2 with h1|⟨_,h2⟩
  ·exact Nat.lt_of_lt_of_le (h.lt b h1) hb.size
  ·exact h2),(Off.refl S w).below hb (Nat.le_refl _)⟩
theorem DiskPost.boxes{w w1 w':World}{a n:Nat}{m:DM}{S S2:Nat→Prop}(h:DiskPost a n m S2 w1 w')(h1:Below w.heap.size w w1)(hs:∀b,S2 b→S b∨(w.heap.size≤b∧b<w1.heap.size))(hl:∀b,S b→b<w.heap.size):DiskPost a n m S w w':=by
 have hz:=h1.size;have hz2:=h.2.size
 refine⟨h.1.sup ?_ ?_,((Off.refl S w).below h1 (Nat.le_refl _)).trans h.2 (fun i hi hS=>?_)⟩
 ·rintro b (hb|⟨hb,hb2⟩)
  ·rcases hs b hb with hb|⟨hb,hb2⟩
   ·exact .inl hb
   ·exact .inr ⟨hb,aC⟩
  ·exact .inr ⟨aC,hb2⟩
 ·rintro b (hb|⟨_,hb⟩)
  ·have:=hl b hb;omega
  ·exact hb
 ·rcases hs i hS with hS|⟨hS,_⟩
  ·exact hS
  ·omega
theorem uF(m:DM)(c:DCall):(m.act c).keep=m.keep:=by
 cases c with
 |create k=>rfl
 |write k s=>simp only[DM.act];split<;>rfl
 |sync k=>simp only[DM.act];split<;>rfl
 |rename o k=>rfl
 |remove k=>rfl
 |flush=>rfl
theorem rM{w:World}{a n:Nat}{m:DM}{S:Nat→Prop}(h:DiskAt w a n m S)(c:DCall)(kR kA:Nat)(lR lA:Array Value)(eR:Enters Tryz.prog kR)(eA:Enters Tryz.prog kA)(hn:n+1≤8000000000000)
  (hR:m.off=false→∀W,Below w.heap.size w W→Calls Tryz.prog kR lR W fun e w'=>e=.returned (nG (m.refused c))∧Below W.heap.size W w')
  (hA:m.off=false→m.refused c=0→∀W,DiskAt W a n m.tick S→Off (fun b=>b=a) w W→Calls Tryz.prog kA lA W fun e w'=>e=.returned (.tuple #[])∧DiskPost a (n+1) (m.tick.act c) S W w'):
  Calls Tryz.prog 90 #[.pointer (some ⟨a,0,none⟩),.func (.func kR) #[] lR,.bool c.late,.func (.func kA) #[] lA] w fun e w'=>OpPost a n m c S w w' e:=by
 unfold OpPost DM.op
 cases ho:m.off with
 |true=>
  refine(F9 h kR kA lR lA c.late ho).mono ?_;rintro e w' ⟨rfl,hb⟩;exact⟨rfl,(DiskPost.still h hb).more aC⟩
 |false=>
  have hR:=hR ho;by_cases hr:m.refused c=0
  ·rw[hr]at hR;have hA:=hA ho hr
   by_cases ha:m.armed=1
   ·cases hl:c.late with
    |true=>
     refine(ED DT aC h kR kA lR lA ho ha eR hR).mono ?_;rintro e w' ⟨rfl,hp⟩;simp only[Bool.false_eq_true,if_false,hr,ne_eq,not_true_eq_false,ha,if_true];exact⟨rfl,hp.more aC⟩
    |false=>
     refine(Gb DT aC h kR kA lR lA ho ha eR eA _ hR hA).mono ?_;rintro e w' ⟨rfl,hp⟩;simp only[Bool.false_eq_true,if_false,hr,ne_eq,not_true_eq_false,ha,if_true];refine⟨rfl,?_⟩;have hk:(m.tick.act c).keep=m.keep:=uF m.tick c
     rw[hk]at hp;exact hp
   ·refine(Ic h kR kA lR lA c.late ho ha eR eA _ hR hA).mono ?_;rintro e w' ⟨rfl,hp⟩;simp only[Bool.false_eq_true,if_false,hr,ne_eq,not_true_eq_false,ha];exact⟨rfl,hp⟩
  ·have e1:nG (m.refused c)=nJ (m.refused c):=by unfold nG;rw[if_neg hr]
   rw[e1]at hR;refine(Ib h kR kA lR lA c.late ho (m.refused c) hr eR hR).mono ?_;rintro e w' ⟨rfl,hb⟩;simp only[Bool.false_eq_true,if_false,hr,ne_eq,not_false_eq_true,if_true];exact⟨by rw[e1],(DiskPost.still h hb).more aC⟩
end Go.Proofs.YtdkedmngeahjiaaGreatDoor
/- Contracts of the closures that do an operation. -/
namespace Go.Proofs.YtdkedmngeahjiaaGreatDoor
open Go Go.RowKit Go.Maps Go.Shelf
attribute [local go_sem] sR sS qN qO
theorem DiskPost.selfS{w w':World}{a n:Nat}{m:DM}{S:Nat→Prop}(h:DiskAt w' a n m S)(ho:Off S w w'):DiskPost a n m S w w':=
 ⟨h.sup pJ (fun b hb=>by
  rcases hb with hb|⟨_,hb⟩
  ·exact h.lt b hb
  ·exact hb),ho⟩
theorem tL:∀(fn:Fn) (first cap:Array Value) (w:World),(Instr.makeFunc fn first cap).run Tryz.prog w=.ok (.func fn first cap) w:=fun _ _ _ _=>rfl
theorem GE{W:World}{a n:Nat}{m:DM}{S:Nat→Prop}(h:DiskAt W a n m S)(b0 b1:Nat)(s:ByteArray)(hs:s.size≤maxLen)(hn:n≤8000000000000)(cd:W.cell? ⟨b0,0,none⟩=some (.pointer (some ⟨a,0,none⟩)))(hb1:W.heap[b1]?=some (.cells #[.string s] 9 (0,0)))(hS:S b1):
  Calls Tryz.prog 92 #[.pointer (some ⟨b0,0,none⟩),.pointer (some ⟨b1,0,none⟩)] W fun e w'=>e=.returned (.tuple #[])∧DiskPost a (n+1) (m.act (.remove s)) S W w':=by
 obtain⟨bn,bs,pv,fv,loc,h⟩:=h;have hc:=AZ (v:=.func (.func 94) #[] #[.pointer (some ⟨b1,0,none⟩)]) (o:=.remove s) h ⟨b1,rfl,hS,hb1,hs⟩ (fun k i e=>aO) aC
 have hmf:=tL;clear h hb1;go_enter Tryz.func92,Tryz.ntmps92;go_wp2_with (go_at_call 93;refine hc.mono ?_;rintro e w1 ⟨rfl,hp⟩;have HP:=hZ hp;clear hp);go_end0;exact⟨rfl,HP.out⟩
theorem GF{W:World}{a n:Nat}{m:DM}{S:Nat→Prop}(h:DiskAt W a n m S)(b0 b1 b2:Nat)(o s:ByteArray)(ho:o.size≤maxLen)(hs:s.size≤maxLen)(hn:n≤8000000000000)(cd:W.cell? ⟨b0,0,none⟩=some (.pointer (some ⟨a,0,none⟩)))(hb1:W.heap[b1]?=some (.cells #[.string o] 9 (0,0)))(hb2:W.heap[b2]?=some (.cells #[.string s] 9 (0,0)))(hS1:S b1)(hS2:S b2):
  Calls Tryz.prog 110 #[.pointer (some ⟨b0,0,none⟩),.pointer (some ⟨b1,0,none⟩),.pointer (some ⟨b2,0,none⟩)] W fun e w'=>e=.returned (.tuple #[])∧DiskPost a (n+1) (m.act (.rename o s)) S W w':=by
 obtain⟨bn,bs,pv,fv,loc,h⟩:=h;have hc:=AZ (v:=.func (.func 111) #[] #[.pointer (some ⟨b1,0,none⟩),.pointer (some ⟨b2,0,none⟩)]) (o:=.rename o s) h ⟨b1,b2,rfl,hS1,hS2,hb1,hb2,ho,hs⟩ (fun k i e=>aO) aC
 have hmf:=tL;clear h hb1 hb2;go_enter Tryz.func110,Tryz.ntmps110;go_wp2_with (go_at_call 93;refine hc.mono ?_;rintro e w1 ⟨rfl,hp⟩;have HP:=hZ hp;clear hp);go_end0;exact⟨rfl,HP.out⟩
theorem DiskIn.setFile{w w':World}{a n n' i:Nat}{m:DM}{S:Nat→Prop}{bn bs:Nat}{pv fv:Value}{loc:Nat→Nat}{f:Fil}(h:DiskIn w a n m S bn bs pv fv loc)(hi:i<m.files.length)(hb:∀b,b≠loc i→w'.heap[b]?=w.heap[b]?)(hf:w'.heap[loc i]?=some (.cells #[.string f.data,.int .i64 f.safe] 95 (0,0)))(hz:w.heap.size≤w'.heap.size)
  (ho:({m with files:=m.files.set i f}:DM).Ok n'):DiskIn w' a n' {m with files:=m.files.set i f} S bn bs pv fv loc:=by
 have hl:=h.fileAt hi;have hne:∀(b:Nat) (cs:Array Value) (t:TypeId),w.heap[b]?=some (.cells cs t (0,0))→t≠95→w'.heap[b]?=w.heap[b]?:=fun b cs t hc ht=>hb b (qT hl.2 hc (oY (Ne.symm ht)))
 exact{
  head:=(hne _ _ _ h.head aA).trans h.head
  sa:=h.sa
  sn:=h.sn
  ss:=h.ss
  ne:=h.ne
  now:=h.now.keep (hb _ (h.now.ne hl.2))
  safe:=h.safe.keep (hb _ (h.safe.ne hl.2))
  file:=fun j g hj=>by
   have hj':(m.files.set i f)[j]?=some g:=hj;rw[List.getElem?_set]at hj';by_cases e:i=j
   ·subst e;rw[if_pos rfl,if_pos hi]at hj';cases hj';exact⟨hl.1,hf⟩
   ·rw[if_neg e]at hj';have h1:=h.file j g hj'
    have hjl:=(List.getElem?_eq_some_iff.1 hj').1;exact⟨h1.1,(hb _ (fun e2=>e (h.inj i j hi hjl e2.symm))).trans h1.2⟩
  inj:=fun j k hj hk=>h.inj j k (by simpa using hj) (by simpa using hk)
  pend:=h.pend.keep (fun b t cs _ hc ht=>hne b cs t hc (by rcases ht with rfl|rfl|rfl<;>decide)) (fun _ x=>x) (fun _ _ _=>rfl)
  fate:=h.fate.keep (fun b cs _ hc=>hne b cs _ hc aA) (fun _ x=>x)
  ok:=ho
  lt:=fun b hS=>Nat.lt_of_lt_of_le (h.lt b hS) hz}
theorem Kt{W:World}{a n:Nat}{m:DM}{S:Nat→Prop}(h:DiskAt W a n m S)(b0 b1:Nat)(s:ByteArray)(hs:s.size≤maxLen)(ho:m.off=false)(hr:m.refused (.sync s)=0)(cd:W.cell? ⟨b0,0,none⟩=some (.pointer (some ⟨a,0,none⟩)))(cn:W.cell? ⟨b1,0,none⟩=some (.string s)):
  Calls Tryz.prog 108 #[.pointer (some ⟨b0,0,none⟩),.pointer (some ⟨b1,0,none⟩)] W fun e w'=>e=.returned (.tuple #[])∧DiskPost a (n+1) (m.act (.sync s)) S W w':=by
 obtain⟨bn,bs,pv,fv,loc,h⟩:=h;obtain⟨-,-,c2,-⟩:=h.cells;have hT:=h.now
 have hk:=B5 hs;have hok:=h.ok.act (.sync s) hr ho
 cases hg:lS m.now s.data.toList with
 |none=>
  simp[DM.refused,DM.get,hg]at hr
 |some i=>
  have hi:=wR h.ok.nowI hg;have hf:=h.fileAt hi
  have HG:=sE (loc:=loc) hg;have d0:W.cell? ⟨loc i,0,none⟩=some (.string m.files[i]!.data):=lF hf.2
  have d1:W.cell? ⟨loc i,1,none⟩=some (.int .i64 m.files[i]!.safe):=lF hf.2;have f1:W.frozen? ⟨loc i,1,none⟩=false:=lI hf.2
  have e:m.act (.sync s)={m with files:=m.files.set i ⟨m.files[i]!.data,m.files[i]!.data.size⟩}:=by
   simp only[DM.act,DM.get,hg]
  rw[e]at hok⊢
  have HE:DiskPost a (n+1) {m with files:=m.files.set i ⟨m.files[i]!.data,m.files[i]!.data.size⟩} S W ((W.drewN 1).setCell ⟨loc i,1,none⟩ (.int .i64 m.files[i]!.data.size)):=by
   refine DiskPost.selfS ⟨bn,bs,pv,fv,loc,h.setFile hi (fun b hb=>(Below.heap_setCell (W.drewN 1) _ _ _ hb)) ?_ bD hok⟩ (((Off.refl S W).draws 1).setCell _ _ (fun _=>hf.1));rw[lY (show(W.drewN 1).heap[loc i]?=_ from hf.2),lM (show loc i<(W.drewN 1).heap.size from lH hf.2)]
   rfl
  have HE:=hZ HE;clear h hf hok e;generalize m.files[i]! =F at d0 d1 HE⊢
  have hlk:(Instr.lookup 85 (.map (some bn)) (.string s) false).run Tryz.prog (W.drewN 1)=.ok (.pointer (some ⟨loc i,0,none⟩)) (W.drewN 1):=by
   rw[TabAt.look (show rB (W.drewN 1) bn _ from hT) mH Tryz.underlying85 (yZ _) hk,HG]
  clear hT hk HG;go_enter Tryz.func108,Tryz.ntmps108;go_wp2_with fail;refine lT 16 mC aE ?_;simp only[List.take_succ_cons,List.take_zero,List.drop_succ_cons,List.drop_zero]
  repeat still_step
  refine wpStill_nil ?_;go_wp2_with fail;go_end0;exact⟨rfl,HE.out⟩
theorem IX{W:World}{a n:Nat}{m:DM}{S:Nat→Prop}(h:DiskAt W a n m S)(b0 b1 b2:Nat)(s d:ByteArray)(hs:s.size≤maxLen)(hd:d.size≤140737488355328)(ho:m.off=false)(hr:m.refused (.write s d)=0)(cd:W.cell? ⟨b0,0,none⟩=some (.pointer (some ⟨a,0,none⟩)))(cn:W.cell? ⟨b1,0,none⟩=some (.string s))(cs:W.cell? ⟨b2,0,none⟩=some (.string d)):
  Calls Tryz.prog 103 #[.pointer (some ⟨b0,0,none⟩),.pointer (some ⟨b1,0,none⟩),.pointer (some ⟨b2,0,none⟩)] W fun e w'=>e=.returned (.tuple #[])∧DiskPost a (n+1) (m.act (.write s d)) S W w':=by
 obtain⟨bn,bs,pv,fv,loc,h⟩:=h;obtain⟨-,-,c2,-⟩:=h.cells;have hT:=h.now
 have hk:=B5 hs;have hok:=h.ok.act (.write s d) hr ho
 cases hg:lS m.now s.data.toList with
 |none=>
  simp[DM.refused,DM.get,hg]at hr
 |some i=>
  have hi:=wR h.ok.nowI hg;have hf:=h.fileAt hi
  have HG:=sE (loc:=loc) hg;have d0:W.cell? ⟨loc i,0,none⟩=some (.string m.files[i]!.data):=lF hf.2
  have f0:W.frozen? ⟨loc i,0,none⟩=false:=lI hf.2;have hfd:=(h.ok.file _ (get!_mem hi)).2
  have hroom:=h.ok.room
  have e:m.act (.write s d)={m with files:=m.files.set i ⟨m.files[i]!.data++d,m.files[i]!.safe⟩}:=by
   simp only[DM.act,DM.get,hg]
  rw[e]at hok⊢
  have HE:DiskPost a (n+1) {m with files:=m.files.set i ⟨m.files[i]!.data++d,m.files[i]!.safe⟩} S W ((W.drewN 1).setCell ⟨loc i,0,none⟩ (.string (m.files[i]!.data++d))):=by
   refine DiskPost.selfS ⟨bn,bs,pv,fv,loc,h.setFile hi (fun b hb=>(Below.heap_setCell (W.drewN 1) _ _ _ hb)) ?_ bD hok⟩ (((Off.refl S W).draws 1).setCell _ _ (fun _=>hf.1));rw[lY (show(W.drewN 1).heap[loc i]?=_ from hf.2),lM (show loc i<(W.drewN 1).heap.size from lH hf.2)]
   rfl
  have HE:=hZ HE;clear h hf hok e;generalize m.files[i]! =F at d0 hfd HE⊢;have hcat:¬9223372036854775807<F.data.size+d.size:=aC
  have hlk:(Instr.lookup 85 (.map (some bn)) (.string s) false).run Tryz.prog (W.drewN 1)=.ok (.pointer (some ⟨loc i,0,none⟩)) (W.drewN 1):=by
   rw[TabAt.look (show rB (W.drewN 1) bn _ from hT) mH Tryz.underlying85 (yZ _) hk,HG]
  clear hT hk HG;go_enter Tryz.func103,Tryz.ntmps103;go_wp2_with fail;refine lT 11 mC aE ?_;simp only[List.take_succ_cons,List.take_zero,List.drop_succ_cons,List.drop_zero]
  repeat still_step
  refine wpStill_nil ?_;go_wp2_with fail;go_end0;exact⟨rfl,HE.out⟩
def Nv(W:World)(W':World):Prop:=Below W.heap.size W W'
def Nd(W:World)(t:Tab)(b:Nat)(W':World):Prop:=Below W.heap.size W W'∧rB W' b t∧W.heap.size≤b
theorem IY{W wc:World}{a n nb:Nat}{m:DM}{S:Nat→Prop}{bn bs:Nat}{pv fv:Value}{loc:Nat→Nat}(h:DiskIn W a n m S bn bs pv fv loc)(ho:m.off=false)(hc:Below W.heap.size W wc)(hnb:W.heap.size≤nb)(hT:rB wc nb (oX loc m.now)):
  DiskPost a (n+1) (m.act .flush) S W ((wc.setCell ⟨a,3,none⟩ (.map (some nb))).setCell ⟨a,4,none⟩ (.slice none 0 0)):=by
 have hz:=hc.size;have hz3:=hT.lt
 have ha:=lH h.head;have hha:wc.heap[a]?=some (.cells (qZ m bn bs pv fv) 88 (0,0)):=(hc.block a ha).trans h.head
 have e1:(wc.setCell ⟨a,3,none⟩ (.map (some nb))).setCell ⟨a,4,none⟩ (.slice none 0 0)=setBlk wc a (.cells (qZ (m.act .flush) bn nb (.slice none 0 0) fv) 88 (0,0)):=by
  rw[lY hha];simp only[mM (lH hha)]
  rfl
 rw[e1];have hk:∀b,b≠a→b<W.heap.size→(setBlk wc a (.cells (qZ (m.act .flush) bn nb (.slice none 0 0) fv) 88 (0,0))).heap[b]?=W.heap[b]?:=fun b hn hb=>(mS hn).trans (hc.block b hb)
 have hsz:(setBlk wc a (.cells (qZ (m.act .flush) bn nb (.slice none 0 0) fv) 88 (0,0))).heap.size=wc.heap.size:=pA;have hok:=h.ok.act .flush rfl ho
 refine⟨⟨bn,nb,.slice none 0 0,fv,loc,?_⟩,((Off.refl S W).below hc (Nat.le_refl _)).setBlk (fun _=>h.sa)⟩
 exact{
  head:=lM aC
  sa:=.inl h.sa
  sn:=.inl h.sn
  ss:=.inr ⟨hnb,by rw[hsz];exact hz3⟩
  ne:=fun e=>by have:=h.now.lt;omega
  now:=h.now.keep (hk bn (h.now.ne h.head) h.now.lt)
  safe:=hT.keep (mS aC)
  file:=fun i f hf=>by
   have h1:=h.file i f hf;exact⟨.inl h1.1,(hk _ (qT h.head h1.2 (oY aA)) (lH h1.2)).trans h1.2⟩
  inj:=h.inj
  pend:=Ej _ _ _
  fate:=h.fate.keep (fun b cs hS hcc=>hk b (qT h.head hcc (oY aA)) (h.lt b hS)) pJ
  ok:=hok
  lt:=fun b hb=>by
   rcases hb with hb|⟨_,hb⟩
   ·have:=h.lt b hb;omega
   ·exact hb}
theorem IZ{W:World}{a n:Nat}{m:DM}{S:Nat→Prop}(h:DiskAt W a n m S)(b0:Nat)(ho:m.off=false)(hb0:b0<W.heap.size)(cd:W.cell? ⟨b0,0,none⟩=some (.pointer (some ⟨a,0,none⟩))):
  Calls Tryz.prog 96 #[.pointer (some ⟨b0,0,none⟩)] W fun e w'=>e=.returned (.tuple #[])∧DiskPost a (n+1) (m.act .flush) S W w':=by
 obtain⟨bn,bs,pv,fv,loc,h⟩:=h;obtain⟨-,-,c2,c3,c4,-⟩:=h.cells;have hok:=h.ok.act .flush rfl ho
 have H:=hZ h;clear h;go_enter Tryz.func96,Tryz.ntmps96;go_wp2_with fail;refine rR (Nv W) (Nd W (oX loc m.now)) 6 (fun b=>.map (some b)) 7 (fun _ _ hB=>hB.1) aE aE ((Below.refl _ W).drew) ?_;simp only[List.take_succ_cons,List.take_zero,List.drop_succ_cons,List.drop_zero];refine .inr ⟨aA,_,lW rfl (fun W' hI=>eC),?_⟩;refine .inr ⟨aA,_,lW rfl (fun W' hI=>eC),?_⟩;refine .inr ⟨aA,_,lW rfl (fun W' hI=>eC),?_⟩;refine .inr ⟨aA,_,lW rfl (fun W' hI=>aV),?_⟩;refine .inr ⟨aA,_,lW rfl (fun W' hI=>aV),?_⟩;refine .inr ⟨aA,_,lW rfl (fun W' hI=>by have c:=(hI.cell (p:=⟨a,2,none⟩) (lH H.out.head)).trans c2;go_simp;rfl),?_⟩;refine .inl ⟨rfl,⟨rfl,fun W' hI=>.inr ⟨_,_,by go_simp,(Cw (H.out.now.keep (hI.block bn H.out.now.lt))).mono fun e W2 ⟨he,hT,hb⟩=>⟨W'.heap.size,he,hI.trans (hb.mono hI.size),hT,hI.size⟩⟩⟩,?_⟩;rintro b W7 ⟨hb',hT,hnb⟩;change wpList _ _ _ _ _ W7;have hhc:=(hb'.block a (lH H.out.head)).trans H.out.head
 have q3:W7.cell? ⟨a,3,none⟩=some (.map (some bs)):=lF hhc;have q4:W7.cell? ⟨a,4,none⟩=some pv:=lF hhc
 have fq:∀i:Nat,W7.frozen? ⟨a,i,none⟩=false:=fun i=>lI hhc
 have HE:=hZ (IY H.out ho hb' hnb hT);clear hb' hT hhc;go_wp2_with fail;go_end0;exact⟨rfl,HE.out⟩
theorem GG{W:World}{a n b1:Nat}{m:DM}{S:Nat→Prop}{bn bs:Nat}{pv fv:Value}{loc:Nat→Nat}{s:ByteArray}(h:DiskIn W a n m S bn bs pv fv loc)(hs:s.size≤maxLen)(hb1:W.heap[b1]?=some (.cells #[.string s] 9 (0,0)))(hS:S b1)(W2:World)(hW:W2=(W.alloc (.cells #[.string ⟨#[]⟩,.int .i64 0] 95)).alloc (.cells #[.pointer (some ⟨W.heap.size,0,none⟩)] 93)):
  ∃loc2:Nat→Nat,DiskIn W2 a n {m with files:=m.files++[⟨⟨#[]⟩,0⟩]} (mU S W W2) bn bs pv fv loc2∧OpAt (mU S W W2) W2 loc2 (.func (.func 101) #[] #[.pointer (some ⟨W.heap.size+1,0,none⟩),.pointer (some ⟨b1,0,none⟩)]) (.create s m.files.length)∧Below W.heap.size W W2:=by
 have hb:Below W.heap.size W W2:=by rw[hW];exact vK W _ _
 have hz:W2.heap.size=W.heap.size+2:=by rw[hW];exact Ct W _ _
 have g0:W2.heap[W.heap.size]?=some (.cells #[.string ⟨#[]⟩,.int .i64 0] 95 (0,0)):=by rw[hW];exact(Below.heap_alloc _ _ _ cO).trans (lP W _)
 have g1:W2.heap[W.heap.size+1]?=some (.cells #[.pointer (some ⟨W.heap.size,0,none⟩)] 93 (0,0)):=by rw[hW];exact uA W _ _
 have h2:=h.frame (w':=W2) (fun b hS=>hb.block b (h.lt b hS)) hb.size;have hloc:∀i,i<m.files.length→(if i=m.files.length then W.heap.size else loc i)=loc i:=fun i hi=>if_neg aC
 have hfl:∀i,i<m.files.length→loc i<W.heap.size:=fun i hi=>lH (h.fileAt hi).2
 refine⟨fun i=>if i=m.files.length then W.heap.size else loc i,?_,?_,hb⟩
 ·exact{
   head:=h2.head
   sa:=.inl h.sa
   sn:=.inl h.sn
   ss:=.inl h.ss
   ne:=h.ne
   now:=by rw[B4 (loc':=loc) (fun p hp=>hloc _ (h.ok.nowI p hp))];exact h2.now
   safe:=by rw[B4 (loc':=loc) (fun p hp=>hloc _ (h.ok.safeI p hp))];exact h2.safe
   file:=fun i f hf=>by
    have hf':(m.files++[⟨⟨#[]⟩,0⟩])[i]?=some f:=hf;by_cases hi:i<m.files.length
    ·rw[List.getElem?_append_left hi]at hf';rw[hloc i hi];exact⟨.inl (h2.file i f hf').1,(h2.file i f hf').2⟩
    ·have hl:=(List.getElem?_eq_some_iff.1 hf').1;rw[List.length_append,List.length_singleton]at hl;obtain rfl:i=m.files.length:=aC;rw[List.getElem?_append_right (Nat.le_refl _),Nat.sub_self]at hf';cases hf';rw[if_pos rfl];exact⟨.inr ⟨Nat.le_refl _,aC⟩,g0⟩
   inj:=fun i j hi hj e=>by
    have hi':i<(m.files++[(⟨⟨#[]⟩,0⟩:Fil)]).length:=hi;have hj':j<(m.files++[(⟨⟨#[]⟩,0⟩:Fil)]).length:=hj
    rw[List.length_append,List.length_singleton]at hi' hj';by_cases h3:i<m.files.length
    ·rw[hloc i h3]at e;by_cases h4:j<m.files.length
     ·rw[hloc j h4]at e;exact h.inj i j h3 h4 e
     ·rw[if_pos aC]at e;have:=hfl i h3
      omega
    ·rw[if_pos aC]at e;by_cases h4:j<m.files.length
     ·rw[hloc j h4]at e;have:=hfl j h4
      omega
     ·omega
   pend:=h2.pend.keep (fun _ _ _ _ _ _=>rfl) pJ (fun k i hk=>hloc i (h.ok.pendI k i hk))
   fate:=h2.fate.keep (fun _ _ _ _=>rfl) pJ
   ok:={h.ok with
    nowI:=fun p hp=>by show _<(m.files++[_]).length;rw[List.length_append];exact Nat.lt_of_lt_of_le (h.ok.nowI p hp) (Nat.le_add_right _ _)
    safeI:=fun p hp=>by show _<(m.files++[_]).length;rw[List.length_append];exact Nat.lt_of_lt_of_le (h.ok.safeI p hp) (Nat.le_add_right _ _)
    pendI:=fun k i hk=>by show _<(m.files++[_]).length;rw[List.length_append];exact Nat.lt_of_lt_of_le (h.ok.pendI k i hk) (Nat.le_add_right _ _)
    file:=fun f hf=>by
     rcases List.mem_append.1 hf with hf|hf
     ·exact h.ok.file f hf
     ·rw[List.mem_singleton.1 hf];exact⟨Nat.le_refl _,Nat.zero_le _⟩}
   lt:=fun b hb2=>by
    rcases hb2 with hb2|⟨_,hb2⟩
    ·have:=h.lt b hb2;omega
    ·exact hb2}
 ·refine⟨W.heap.size+1,b1,rfl,.inr ⟨aC,aC⟩,.inl hS,?_,(hb.block b1 (lH hb1)).trans hb1,hs⟩;show W2.heap[W.heap.size+1]?=some (.cells #[.pointer (some ⟨if m.files.length=m.files.length then W.heap.size else loc m.files.length,0,none⟩)] 93 (0,0))
  rw[if_pos rfl];exact g1
theorem GH{W:World}{a n:Nat}{m:DM}{S:Nat→Prop}(h:DiskAt W a n m S)(b0 b1:Nat)(s:ByteArray)(hs:s.size≤maxLen)(hn:n≤8000000000000)(hb0:b0<W.heap.size)(cd:W.cell? ⟨b0,0,none⟩=some (.pointer (some ⟨a,0,none⟩)))(hb1:W.heap[b1]?=some (.cells #[.string s] 9 (0,0)))(hS:S b1):
  Calls Tryz.prog 100 #[.pointer (some ⟨b0,0,none⟩),.pointer (some ⟨b1,0,none⟩)] W fun e w'=>e=.returned (.tuple #[])∧DiskPost a (n+1) (m.act (.create s)) S W w':=by
 have hmf:=tL;have hl:=h.lt
 obtain⟨bn,bs,pv,fv,loc,h⟩:=h;obtain⟨loc2,h2,hO,hb⟩:=GG h hs hb1 hS _ rfl;have hc:=AZ h2 hO (fun k i e=>by cases e;show m.files.length<(m.files++[_]).length;rw[List.length_append,List.length_singleton];omega) aC
 have hz:=hb.size;have HE:=hZ (fun w' (hp:DiskPost a (n+1) (({m with files:=m.files++[⟨⟨#[]⟩,0⟩]}:DM).names (.create s m.files.length)) _ _ w')=>DiskPost.boxes hp hb (fun b hb=>hb) hl)
 clear h h2 hO hb1 hb hl;go_enter Tryz.func100,Tryz.ntmps100;go_wp2_with (go_at_call 93;refine hc.mono ?_;rintro e w1 ⟨rfl,hp⟩;have HP:=hZ (HE.out _ hp);clear hp);go_end0;exact⟨rfl,HP.out⟩
end Go.Proofs.YtdkedmngeahjiaaGreatDoor
/- Contracts of a disk's methods that operate. -/
namespace Go.Proofs.YtdkedmngeahjiaaGreatDoor
open Go Go.RowKit Go.Maps Go.Shelf
theorem ML(w:World)(o o' o'':Obj):Below w.heap.size w (((w.alloc o).alloc o').alloc o'')∧(((w.alloc o).alloc o').alloc o'').heap.size=w.heap.size+3∧(((w.alloc o).alloc o').alloc o'').heap[w.heap.size]?=some o∧(((w.alloc o).alloc o').alloc o'').heap[w.heap.size+1]?=some o'∧(((w.alloc o).alloc o').alloc o'').heap[w.heap.size+2]?=some o'':=by
 have h2:=Ct w o o';have h3:(((w.alloc o).alloc o').alloc o'').heap.size=w.heap.size+3:=by rw[World.size_alloc,h2]
 refine⟨(vK w o o').alloc aC _,h3,?_,?_,?_⟩
 ·exact(Below.heap_alloc _ _ _ aC).trans ((Below.heap_alloc _ _ _ cO).trans (lP w o))
 ·exact(Below.heap_alloc _ _ _ aC).trans (uA w o o')
 ·have:=lP ((w.alloc o).alloc o') o'';rwa[h2]at this
theorem Ku(w:World)(o o':Obj):Below w.heap.size w ((w.alloc o).alloc o')∧((w.alloc o).alloc o').heap.size=w.heap.size+2∧((w.alloc o).alloc o').heap[w.heap.size]?=some o∧((w.alloc o).alloc o').heap[w.heap.size+1]?=some o':=
 ⟨vK w o o',Ct w o o',(Below.heap_alloc _ _ _ cO).trans (lP w o),uA w o o'⟩
theorem oU{w1 W:World}{b:Nat}{cs:Array Value}{t:TypeId}(h:w1.heap[b]?=some (.cells cs t (0,0)))(hb:Below w1.heap.size w1 W):W.heap[b]?=some (.cells cs t (0,0)):=(hb.block b (lH h)).trans h
theorem qA{w1 W:World}{a b:Nat}{cs:Array Value}{t:TypeId}(h:w1.heap[b]?=some (.cells cs t (0,0)))(hb:Off (fun b=>b=a) w1 W)(hn:b≠a):W.heap[b]?=some (.cells cs t (0,0)):=(hb.block b (lH h) hn).trans h
theorem OpPost.boxes{w w1 w':World}{a n:Nat}{m:DM}{c:DCall}{S S2:Nat→Prop}{e:Ending}(h:OpPost a n m c S2 w1 w' e)(h1:Below w.heap.size w w1)(hs:∀b,S2 b→S b∨(w.heap.size≤b∧b<w1.heap.size))(hl:∀b,S b→b<w.heap.size):OpPost a n m c S w w' e:=⟨h.1,h.2.boxes h1 hs hl⟩
theorem GI{w:World}{a n:Nat}{m:DM}{S:Nat→Prop}(h:DiskAt w a n m S)(s:ByteArray)(hs:s.size≤maxLen)(hn:n+1≤8000000000000):
  Calls Tryz.prog 47 #[.pointer (some ⟨a,0,none⟩),.string s] w fun e w'=>OpPost a n m (.create s) S w w' e:=by
 have hl:=h.lt;have haS:=h.mine
 obtain⟨W1,hW1⟩:∃W1,W1=((w.alloc (.cells #[.pointer (some ⟨a,0,none⟩)] 34)).alloc (.cells #[.string s] 9)):=⟨_,rfl⟩
 have hbx:=Ku w (.cells #[.pointer (some ⟨a,0,none⟩)] 34) (.cells #[.string s] 9);rw[←hW1]at hbx;obtain⟨hb,hz,g0,g1⟩:=hbx
 have hd:DiskAt W1 a n m (fun b=>S b∨b=w.heap.size+1):=(h.below hb).sup (fun b hb2=>.inl hb2) (fun b hb2=>by
  rcases hb2 with hb2|rfl
  ·have:=hl b hb2;omega
  ·omega)
 have ha:=hl a haS;have hmf:=tL
 have hc:=rM hd (.create s) 98 100 #[.pointer (some ⟨w.heap.size+1,0,none⟩),.pointer (some ⟨w.heap.size,0,none⟩)] #[.pointer (some ⟨w.heap.size,0,none⟩),.pointer (some ⟨w.heap.size+1,0,none⟩)] (enters_of Tryz.func98 aE rfl) (enters_of Tryz.func100 aE rfl) hn
  (fun ho W hW=>(Ih (hd.below hW) _ _ s hs (lF (oU g1 hW)) (lF (oU g0 hW))))
  (fun ho hr W hW hO=>GH hW _ _ s hs aC (lH (qA g0 hO aC)) (lF (qA g0 hO aC)) (qA g1 hO aC) (.inr rfl))
 have HE:=hZ (fun e w' (hp:OpPost a n m (.create s) (fun b=>S b∨b=w.heap.size+1) W1 w' e)=>hp.boxes hb (fun b hb2=>jN) hl);rw[hW1]at hc HE;clear hW1 hb hz g0 g1 hd;go_enter Tryz.func47,Tryz.ntmps47;go_wp2_with (go_at_call 90;refine hc.mono ?_;intro e w1 hp;have HP:=hZ (HE.out _ _ hp);obtain⟨rfl,-⟩:=hp);go_ret;exact HP.out
theorem Kv{w:World}{a n:Nat}{m:DM}{S:Nat→Prop}(h:DiskAt w a n m S)(s:ByteArray)(hs:s.size≤maxLen)(hn:n+1≤8000000000000):
  Calls Tryz.prog 50 #[.pointer (some ⟨a,0,none⟩),.string s] w fun e w'=>OpPost a n m (.sync s) S w w' e:=by
 have hl:=h.lt;have haS:=h.mine
 obtain⟨W1,hW1⟩:∃W1,W1=((w.alloc (.cells #[.pointer (some ⟨a,0,none⟩)] 34)).alloc (.cells #[.string s] 9)):=⟨_,rfl⟩
 have hbx:=Ku w (.cells #[.pointer (some ⟨a,0,none⟩)] 34) (.cells #[.string s] 9);rw[←hW1]at hbx;obtain⟨hb,hz,g0,g1⟩:=hbx
 have hd:DiskAt W1 a n m (S):=(h.below hb).sup (fun b hb2=>hb2) (fun b hb2=>by
  have:=hl b hb2;omega)
 have ha:=hl a haS;have hmf:=tL
 have hc:=rM hd (.sync s) 107 108 #[.pointer (some ⟨w.heap.size,0,none⟩),.pointer (some ⟨w.heap.size+1,0,none⟩)] #[.pointer (some ⟨w.heap.size,0,none⟩),.pointer (some ⟨w.heap.size+1,0,none⟩)] (enters_of Tryz.func107 aE rfl) (enters_of Tryz.func108 aE rfl) hn
  (fun ho W hW=>(DL (hd.below hW) _ _ _ s hs (lF (oU g0 hW)) (lF (oU g1 hW)) (.inl rfl)).mono fun e w2 ⟨h1,h2⟩=>⟨h1,h2▸Below.refl _ _⟩)
  (fun ho hr W hW hO=>Kt hW _ _ s hs ho ((wS m _).trans hr) (lF (qA g0 hO aC)) (lF (qA g1 hO aC)))
 have HE:=hZ (fun e w' (hp:OpPost a n m (.sync s) (S) W1 w' e)=>hp.boxes hb (fun b hb2=>.inl hb2) hl);rw[hW1]at hc HE;clear hW1 hb hz g0 g1 hd;go_enter Tryz.func50,Tryz.ntmps50;go_wp2_with (go_at_call 90;refine hc.mono ?_;intro e w1 hp;have HP:=hZ (HE.out _ _ hp);obtain⟨rfl,-⟩:=hp);go_ret;exact HP.out
theorem GJ{w:World}{a n:Nat}{m:DM}{S:Nat→Prop}(h:DiskAt w a n m S)(s:ByteArray)(hs:s.size≤maxLen)(hn:n+1≤8000000000000):
  Calls Tryz.prog 44 #[.pointer (some ⟨a,0,none⟩),.string s] w fun e w'=>OpPost a n m (.remove s) S w w' e:=by
 have hl:=h.lt;have haS:=h.mine
 obtain⟨W1,hW1⟩:∃W1,W1=((w.alloc (.cells #[.pointer (some ⟨a,0,none⟩)] 34)).alloc (.cells #[.string s] 9)):=⟨_,rfl⟩
 have hbx:=Ku w (.cells #[.pointer (some ⟨a,0,none⟩)] 34) (.cells #[.string s] 9);rw[←hW1]at hbx;obtain⟨hb,hz,g0,g1⟩:=hbx
 have hd:DiskAt W1 a n m (fun b=>S b∨b=w.heap.size+1):=(h.below hb).sup (fun b hb2=>.inl hb2) (fun b hb2=>by
  rcases hb2 with hb2|rfl
  ·have:=hl b hb2;omega
  ·omega)
 have ha:=hl a haS;have hmf:=tL
 have hc:=rM hd (.remove s) 91 92 #[.pointer (some ⟨w.heap.size,0,none⟩),.pointer (some ⟨w.heap.size+1,0,none⟩)] #[.pointer (some ⟨w.heap.size,0,none⟩),.pointer (some ⟨w.heap.size+1,0,none⟩)] (enters_of Tryz.func91 aE rfl) (enters_of Tryz.func92 aE rfl) hn
  (fun ho W hW=>(DL (hd.below hW) _ _ _ s hs (lF (oU g0 hW)) (lF (oU g1 hW)) (.inr rfl)).mono fun e w2 ⟨h1,h2⟩=>⟨h1,h2▸Below.refl _ _⟩)
  (fun ho hr W hW hO=>GE hW _ _ s hs aC (lF (qA g0 hO aC)) (qA g1 hO aC) (.inr rfl))
 have HE:=hZ (fun e w' (hp:OpPost a n m (.remove s) (fun b=>S b∨b=w.heap.size+1) W1 w' e)=>hp.boxes hb (fun b hb2=>jN) hl);rw[hW1]at hc HE;clear hW1 hb hz g0 g1 hd;go_enter Tryz.func44,Tryz.ntmps44;go_wp2_with (go_at_call 90;refine hc.mono ?_;intro e w1 hp;have HP:=hZ (HE.out _ _ hp);obtain⟨rfl,-⟩:=hp);go_ret;exact HP.out
theorem GK{w:World}{a n:Nat}{m:DM}{S:Nat→Prop}(h:DiskAt w a n m S)(o s:ByteArray)(hos:o.size≤maxLen)(hs:s.size≤maxLen)(hn:n+1≤8000000000000):
  Calls Tryz.prog 51 #[.pointer (some ⟨a,0,none⟩),.string o,.string s] w fun e w'=>OpPost a n m (.rename o s) S w w' e:=by
 have hl:=h.lt;have haS:=h.mine
 obtain⟨W1,hW1⟩:∃W1,W1=(((w.alloc (.cells #[.pointer (some ⟨a,0,none⟩)] 34)).alloc (.cells #[.string o] 9)).alloc (.cells #[.string s] 9)):=⟨_,rfl⟩
 have hbx:=ML w (.cells #[.pointer (some ⟨a,0,none⟩)] 34) (.cells #[.string o] 9) (.cells #[.string s] 9);rw[←hW1]at hbx;obtain⟨hb,hz,g0,g1,g2⟩:=hbx
 have hd:DiskAt W1 a n m (fun b=>S b∨b=w.heap.size+1∨b=w.heap.size+2):=(h.below hb).sup (fun b hb2=>.inl hb2) (fun b hb2=>by
  rcases hb2 with hb2|rfl|rfl
  ·have:=hl b hb2;omega
  ·omega
  ·omega)
 have ha:=hl a haS;have hmf:=tL
 have hc:=rM hd (.rename o s) 109 110 #[.pointer (some ⟨w.heap.size,0,none⟩),.pointer (some ⟨w.heap.size+1,0,none⟩),.pointer (some ⟨w.heap.size+2,0,none⟩)] #[.pointer (some ⟨w.heap.size,0,none⟩),.pointer (some ⟨w.heap.size+1,0,none⟩),.pointer (some ⟨w.heap.size+2,0,none⟩)] (enters_of Tryz.func109 aE rfl) (enters_of Tryz.func110 aE rfl) hn
  (fun ho W hW=>(Ig (hd.below hW) _ _ _ o s hos (lF (oU g0 hW)) (lF (oU g1 hW)) (lF (oU g2 hW))).mono fun e w2 ⟨h1,h2⟩=>⟨h1,h2▸Below.refl _ _⟩)
  (fun ho hr W hW hO=>GF hW _ _ _ o s hos hs aC (lF (qA g0 hO aC)) (qA g1 hO aC) (qA g2 hO aC) (.inr (.inl rfl)) (.inr (.inr rfl)))
 have HE:=hZ (fun e w' (hp:OpPost a n m (.rename o s) (fun b=>S b∨b=w.heap.size+1∨b=w.heap.size+2) W1 w' e)=>hp.boxes hb (fun b hb2=>by rcases hb2 with hb2|rfl|rfl;exact .inl hb2;exact .inr ⟨aC,aC⟩;exact .inr ⟨aC,aC⟩) hl);rw[hW1]at hc HE;clear hW1 hb hz g0 g1 g2 hd;go_enter Tryz.func51,Tryz.ntmps51;go_wp2_with (go_at_call 90;refine hc.mono ?_;intro e w1 hp;have HP:=hZ (HE.out _ _ hp);obtain⟨rfl,-⟩:=hp);go_ret;exact HP.out
theorem I0{w:World}{a n:Nat}{m:DM}{S:Nat→Prop}(h:DiskAt w a n m S)(s d:ByteArray)(hs:s.size≤maxLen)(hds:d.size≤140737488355328)(hnr:n*m.room≤4611686018427387904)(hn:n+1≤8000000000000):
  Calls Tryz.prog 48 #[.pointer (some ⟨a,0,none⟩),.string s,.string d] w fun e w'=>OpPost a n m (.write s d) S w w' e:=by
 have hl:=h.lt;have haS:=h.mine
 obtain⟨W1,hW1⟩:∃W1,W1=(((w.alloc (.cells #[.pointer (some ⟨a,0,none⟩)] 34)).alloc (.cells #[.string s] 9)).alloc (.cells #[.string d] 9)):=⟨_,rfl⟩
 have hbx:=ML w (.cells #[.pointer (some ⟨a,0,none⟩)] 34) (.cells #[.string s] 9) (.cells #[.string d] 9);rw[←hW1]at hbx;obtain⟨hb,hz,g0,g1,g2⟩:=hbx
 have hd:DiskAt W1 a n m (S):=(h.below hb).sup (fun b hb2=>hb2) (fun b hb2=>by
  have:=hl b hb2;omega)
 have ha:=hl a haS;have hmf:=tL
 have hc:=rM hd (.write s d) 102 103 #[.pointer (some ⟨w.heap.size,0,none⟩),.pointer (some ⟨w.heap.size+1,0,none⟩),.pointer (some ⟨w.heap.size+2,0,none⟩)] #[.pointer (some ⟨w.heap.size,0,none⟩),.pointer (some ⟨w.heap.size+1,0,none⟩),.pointer (some ⟨w.heap.size+2,0,none⟩)] (enters_of Tryz.func102 aE rfl) (enters_of Tryz.func103 aE rfl) hn
  (fun ho W hW=>J6 (hd.below hW) _ _ _ s d hs hds hnr ho (lF (oU g0 hW)) (lF (oU g1 hW)) (lF (oU g2 hW)) (lH (oU g2 hW)) (lH (oU g0 hW)))
  (fun ho hr W hW hO=>IX hW _ _ _ s d hs hds ho ((wS m _).trans hr) (lF (qA g0 hO aC)) (lF (qA g1 hO aC)) (lF (qA g2 hO aC)))
 have HE:=hZ (fun e w' (hp:OpPost a n m (.write s d) (S) W1 w' e)=>hp.boxes hb (fun b hb2=>.inl hb2) hl);rw[hW1]at hc HE;clear hW1 hb hz g0 g1 g2 hd;go_enter Tryz.func48,Tryz.ntmps48;go_wp2_with (go_at_call 90;refine hc.mono ?_;intro e w1 hp;have HP:=hZ (HE.out _ _ hp);obtain⟨rfl,-⟩:=hp);go_ret;exact HP.out
theorem I1{w:World}{a n:Nat}{m:DM}{S:Nat→Prop}(h:DiskAt w a n m S)(hn:n+1≤8000000000000):
  Calls Tryz.prog 45 #[.pointer (some ⟨a,0,none⟩)] w fun e w'=>OpPost a n m (.flush) S w w' e:=by
 have hl:=h.lt;have haS:=h.mine
 obtain⟨W1,hW1⟩:∃W1,W1=(w.alloc (.cells #[.pointer (some ⟨a,0,none⟩)] 34)):=⟨_,rfl⟩
 have hb:Below w.heap.size w W1:=by rw[hW1];exact(Below.refl _ _).alloc (Nat.le_refl _) _
 have hz:W1.heap.size=w.heap.size+1:=by rw[hW1];exact World.size_alloc _ _
 have g0:W1.heap[w.heap.size]?=some (.cells #[.pointer (some ⟨a,0,none⟩)] 34 (0,0)):=by rw[hW1];exact lP _ _
 have hd:DiskAt W1 a n m (S):=(h.below hb).sup (fun b hb2=>hb2) (fun b hb2=>by
  have:=hl b hb2;omega)
 have ha:=hl a haS;have hmf:=tL
 have hc:=rM hd (.flush) 95 96 #[] #[.pointer (some ⟨w.heap.size,0,none⟩)] (enters_of Tryz.func95 aE rfl) (enters_of Tryz.func96 aE rfl) hn
  (fun ho W hW=>(J5 W).mono fun e w2 ⟨h1,h2⟩=>⟨h1,h2▸Below.refl _ _⟩)
  (fun ho hr W hW hO=>IZ hW _ ho (lH (qA g0 hO aC)) (lF (qA g0 hO aC)))
 have HE:=hZ (fun e w' (hp:OpPost a n m (.flush) (S) W1 w' e)=>hp.boxes hb (fun b hb2=>.inl hb2) hl);rw[hW1]at hc HE;clear hW1 hb hz g0 hd;go_enter Tryz.func45,Tryz.ntmps45;go_wp2_with (go_at_call 90;refine hc.mono ?_;intro e w1 hp;have HP:=hZ (HE.out _ _ hp);obtain⟨rfl,-⟩:=hp);go_ret;exact HP.out
end Go.Proofs.YtdkedmngeahjiaaGreatDoor
/- Contracts of New, Arm and Crash. -/
namespace Go.Proofs.YtdkedmngeahjiaaGreatDoor
open Go Go.RowKit Go.Maps Go.Shelf
def DM.arm(m:DM)(n:Int)(ks:List Int):DM:={m with armed:=max n 0,keep:=ks}
theorem GL{S:Nat→Prop}{w:World}{kv:Value}{ks:List Int}(h:IntsRd S w kv ks)(hl:ks.length*8≤140737488355328):
  Calls Tryz.prog 69 #[kv] w fun e w'=>∃v,e=.returned v∧w'.ownsRow w.heap.size 3 1 v ks.length (ks.map (Value.int .i64))∧Below w.heap.size w w':=by
 obtain⟨p,cap,rfl,⟨h1,h2⟩,h3⟩:=h
 cases p with
 |none=>
  have hk:ks=[]:=by
   cases ks with
   |nil=>rfl
   |cons k r=>obtain⟨_,b,off,e,_⟩:=h3 0 k rfl;cases e
  subst hk;refine(Tryz.slices_Clone_int_nil 0 cap w).mono ?_;rintro e w' ⟨rfl,rfl⟩;exact⟨_,rfl,⟨rfl,.inl ⟨rfl,rfl⟩⟩,Below.refl _ _⟩
 |some ad=>
  cases hk:ks with
  |nil=>
   subst hk;refine(Tryz.slices_Clone_int_zero ad cap w).mono ?_;rintro e w' ⟨v,rfl,hr,-,hb⟩;exact⟨v,rfl,hr,hb⟩
  |cons k r=>
   obtain⟨-,b,off,e,-,-⟩:=h3 0 k (by rw[hk];rfl);cases e;rw[←hk];refine(Tryz.slices_Clone_int b off ks.length cap ks w (Nat.le_refl _) hl (fun j hj=>?_)).mono ?_
   ·obtain⟨-,b',off',e,hc,-⟩:=h3 j (ks.getD j 0) (by rw[List.getD_eq_getElem?_getD,List.getElem?_eq_getElem hj];rfl);cases e;exact hc
   ·rintro e w' ⟨v,rfl,hr,-,hb⟩;rw[List.take_length]at hr;exact⟨v,rfl,hr,hb⟩
theorem LP{w wc:World}{a n:Nat}{m:DM}{S:Nat→Prop}{bn bs:Nat}{pv fv v:Value}{loc:Nat→Nat}{x:Int}{ks:List Int}(h:DiskIn w a n m S bn bs pv fv loc)(hb:Below w.heap.size w wc)(hr:wc.ownsRow w.heap.size 3 1 v ks.length (ks.map (Value.int .i64)))(hx:x≤9223372036854775807)(hk:∀k∈ks,-9223372036854775808≤k∧k≤9223372036854775807):
  DiskPost a n (m.arm x ks) S w ((wc.setCell ⟨a,5,none⟩ (.int .i64 (max x 0))).setCell ⟨a,6,none⟩ v):=by
 have ha:=lH h.head;have hz:=hb.size
 have hha:wc.heap[a]?=some (.cells (qZ m bn bs pv fv) 88 (0,0)):=(hb.block a ha).trans h.head
 have e1:(wc.setCell ⟨a,5,none⟩ (.int .i64 (max x 0))).setCell ⟨a,6,none⟩ v=setBlk wc a (.cells (qZ (m.arm x ks) bn bs pv v) 88 (0,0)):=by
  rw[lY hha];simp only[mM (lH hha)]
  rfl
 rw[e1];have hsz:(setBlk wc a (.cells (qZ (m.arm x ks) bn bs pv v) 88 (0,0))).heap.size=wc.heap.size:=pA
 have h2:=h.frame (w':=wc) (fun b hS=>hb.block b (h.lt b hS)) hz
 have hS':∀b,mU S w (setBlk wc a (.cells (qZ (m.arm x ks) bn bs pv v) 88 (0,0))) b→b<wc.heap.size:=fun b hb2=>by
  rcases hb2 with hb2|⟨_,hb2⟩
  ·have:=h.lt b hb2;omega
  ·rw[hsz]at hb2;exact hb2
 have h3:=h2.bigger (S':=mU S w (setBlk wc a (.cells (qZ (m.arm x ks) bn bs pv v) 88 (0,0)))) pJ hS';have hk3:∀b,b≠a→mU S w (setBlk wc a (.cells (qZ (m.arm x ks) bn bs pv v) 88 (0,0))) b→(setBlk wc a (.cells (qZ (m.arm x ks) bn bs pv v) 88 (0,0))).heap[b]?=wc.heap[b]?:=fun b hn _=>mS hn
 refine⟨⟨bn,bs,pv,v,loc,h3.other (m':=m.arm x ks) hk3 (lM aC) (by rw[hsz];exact Nat.le_refl _) rfl rfl rfl (h3.pendO hk3) ⟨?_,?_⟩ {h.ok with arm0:=by show 0≤max x 0;omega,arm1:=by show max x 0≤_;omega,keepI:=hk}⟩,((Off.refl S w).below hb (Nat.le_refl _)).setBlk (fun _=>h.sa)⟩
 ·have hr0:wc.ownsRow 0 3 1 v ks.length (ks.map (Value.int .i64)):=by
   refine⟨hr.1,?_⟩;rcases hr.2 with h4|⟨g,cap,cur,e,h5,h6⟩
   ·exact .inl h4
   ·exact .inr ⟨g,cap,cur,e,Nat.zero_le _,h6⟩
  exact uK (S:=fun _=>True) hr0 (fun _ _=>trivial) (fun b cs _ hc=>mS (qT hha hc (oY aA)))
 ·intro b hb2;rcases hr.2 with⟨rfl,_⟩|⟨g,cap,cur,rfl,h5,h6,_⟩
  ·cases hb2
  ·cases hb2;exact .inr ⟨h5,by rw[hsz];exact lH h6⟩
theorem Ir{w:World}{a n:Nat}{m:DM}{S:Nat→Prop}(h:DiskAt w a n m S)(x:Int)(kv:Value)(ks:List Int)(hk:IntsRd S w kv ks)(hl:ks.length*8≤140737488355328)(hx:x≤9223372036854775807):
  Calls Tryz.prog 23 #[.pointer (some ⟨a,0,none⟩),.int .i64 x,.agg #[kv]] w fun e w'=>e=.returned (.tuple #[])∧DiskPost a n (m.arm x ks) S w w':=by
 have hcl:=fun(w1:World) (hb:Below w.heap.size w w1)=>GL (hk.keep (S':=S) hb.size (fun _ x _=>x) (fun b hb2 _=>hb.block b hb2)) hl
 have hki:∀k∈ks,-9223372036854775808≤k∧k≤9223372036854775807:=fun k hkm=>by
  obtain⟨p,cap,_,_,h3⟩:=hk;obtain⟨j,hj⟩:=List.getElem?_of_mem hkm;exact(h3 j k hj).1
 obtain⟨bn,bs,pv,fv,loc,h⟩:=h;obtain⟨-,-,-,-,-,c5,c6⟩:=h.cells;have H:=hZ h
 have HK:=hZ hki;clear h hk hki;go_enter Tryz.func23,Tryz.ntmps23;go_wp2_with fail;refine(hcl _ ((Below.refl _ w).alloc (Nat.le_refl _) _)).mono ?_;rintro e wc ⟨v,rfl,hr,hb⟩;rw[World.size_alloc]at hb hr;have hb':Below w.heap.size w wc:=((Below.refl _ w).alloc (Nat.le_refl _) _).trans (hb.mono aC)
 have hhc:=(hb'.block a (lH H.out.head)).trans H.out.head;have q5:wc.cell? ⟨a,5,none⟩=some (.int .i64 m.armed):=lF hhc
 have q6:wc.cell? ⟨a,6,none⟩=some fv:=lF hhc;have fq:∀i:Nat,wc.frozen? ⟨a,i,none⟩=false:=fun i=>lI hhc
 have hr0:wc.ownsRow w.heap.size 3 1 v ks.length (ks.map (Value.int .i64)):=by
  refine⟨hr.1,?_⟩;rcases hr.2 with h4|⟨g,cap,cur,e,h5,h6⟩
  ·exact .inl h4
  ·exact .inr ⟨g,cap,cur,e,aC,h6⟩
 have HE:=hZ (LP H.out hb' hr0 hx HK.out);obtain⟨vp,vcap,rfl,-⟩:=Cx hr0;clear hr hr0 hb hb' hhc;go_wp2_with fail;go_end0;exact⟨rfl,HE.out⟩
theorem CX{w:World}{a n:Nat}{m:DM}{S:Nat→Prop}(h:DiskAt w a n m S)(kv:Value)(ks:List Int)(hk:IntsRd S w kv ks)(hn:n≤8000000000000):
  Calls Tryz.prog 26 #[.pointer (some ⟨a,0,none⟩),.agg #[kv]] w fun e w'=>e=.returned (.tuple #[])∧DiskPost a n (m.crash ks) S w w':=by
 have hf:=fun(w1:World) (hb:Below w.heap.size w w1)=>DT w1 a n m S kv ks (h.below hb) (hk.keep hb.size (fun _ x _=>x) (fun b hb2 _=>hb.block b hb2)) hn
 have hd:=hZ h;obtain⟨bn,bs,pv,fv,loc,h⟩:=h;obtain⟨c0,-⟩:=h.cells;have hb0:=lH h.head
 clear h
 cases ho:m.off with
 |true=>
  have e:m.crash ks=m:=by unfold DM.crash;rw[ho];rfl
  rw[ho]at c0;rw[e];go_enter Tryz.func26,Tryz.ntmps26;go_wp2_with fail;go_end0;exact⟨rfl,DiskPost.still hd.out ((Below.refl _ w).alloc (Nat.le_refl _) _)⟩
 |false=>
  have e:m.crash ks=m.fail ks:=by unfold DM.crash;rw[ho];rfl
  rw[ho]at c0;rw[e];go_enter Tryz.func26,Tryz.ntmps26;go_wp2_with fail;refine(hf _ ((Below.refl _ w).alloc (Nat.le_refl _) _)).mono ?_;rintro e w1 ⟨rfl,hp⟩;have HP:=hZ (hp.boxes ((Below.refl _ w).alloc (Nat.le_refl _) _) (fun b hb2=>.inl hb2) hd.out.lt)
  clear hp;go_wp2_with fail;go_end0;exact⟨rfl,HP.out⟩
theorem LQ(w:World)(r:Int)(h1:-9223372036854775808≤r)(h2:r≤9223372036854775807):∃a,Ending.returned (.pointer (some ⟨w.heap.size+1+1,0,none⟩))=.returned (.pointer (some ⟨a,0,none⟩))∧
  DiskAt (((w.alloc (.map #[] 0)).alloc (.map #[] 0)).alloc (.cells #[.bool false,.int .i64 (min (max r 0) 268435456),.map (some w.heap.size),.map (some (w.heap.size+1)),.slice none 0 0,.int .i64 0,.slice none 0 0] 88)) a 0 (DM.new r) (fun b=>w.heap.size≤b∧b<(((w.alloc (.map #[] 0)).alloc (.map #[] 0)).alloc (.cells #[.bool false,.int .i64 (min (max r 0) 268435456),.map (some w.heap.size),.map (some (w.heap.size+1)),.slice none 0 0,.int .i64 0,.slice none 0 0] 88)).heap.size)∧
  Below w.heap.size w (((w.alloc (.map #[] 0)).alloc (.map #[] 0)).alloc (.cells #[.bool false,.int .i64 (min (max r 0) 268435456),.map (some w.heap.size),.map (some (w.heap.size+1)),.slice none 0 0,.int .i64 0,.slice none 0 0] 88)):=by
 obtain⟨W1,hW1⟩:∃W1,W1=((w.alloc (.map #[] 0)).alloc (.map #[] 0)).alloc (.cells #[.bool false,.int .i64 (min (max r 0) 268435456),.map (some w.heap.size),.map (some (w.heap.size+1)),.slice none 0 0,.int .i64 0,.slice none 0 0] 88):=⟨_,rfl⟩
 have hbx:=ML w (.map #[] 0) (.map #[] 0) (.cells #[.bool false,.int .i64 (min (max r 0) 268435456),.map (some w.heap.size),.map (some (w.heap.size+1)),.slice none 0 0,.int .i64 0,.slice none 0 0] 88);rw[←hW1]at hbx⊢;obtain⟨hb,hz,g0,g1,g2⟩:=hbx;have hT0:rB W1 w.heap.size []:=(TabAt.made w).keep (g0.trans (lP w _).symm)
 have hT1:rB W1 (w.heap.size+1) []:=by
  have h3:rB (((w.alloc (.map #[] 0)).alloc (.map #[] 0))) (w.heap.size+1) []:=by
   have:=TabAt.made (P:=Tryz.prog) (k:=9) (w.alloc (.map #[] 0));rwa[World.size_alloc]at this
  exact h3.keep (g1.trans (uA w _ _).symm)
 have hr:((DM.new r).room:Int)=min (max r 0) 268435456:=by
  show(((min (max r 0) 268435456).toNat:Nat):Int)=_;omega
 refine⟨w.heap.size+2,rfl,⟨w.heap.size,w.heap.size+1,.slice none 0 0,.slice none 0 0,fun _=>0,?_⟩,hb⟩
 exact{
  head:=by
   rw[g2];unfold qZ;rw[hr]
   rfl
  sa:=⟨aC,aC⟩
  sn:=⟨aC,aC⟩
  ss:=⟨aC,aC⟩
  ne:=aC
  now:=hT0
  safe:=hT1
  file:=fun i f hf=>by cases hf
  inj:=fun i j hi _ _=>absurd hi (Nat.not_lt_zero _)
  pend:=Ej _ _ _
  fate:=Ab _ _
  ok:={
   now:=List.Pairwise.nil
   safe:=List.Pairwise.nil
   nowI:=fun p hp=>kN
   safeI:=fun p hp=>kN
   pendI:=fun k i hk=>iN
   file:=fun f hf=>by cases hf
   nowN:=Nat.le_refl _
   safeN:=Nat.le_refl _
   room:=aC
   arm0:=Int.le_refl _
   arm1:=by show(0:Int)≤_;omega
   keepI:=fun k hk=>by cases hk}
  lt:=fun b hb2=>hb2.2}
theorem Is(w:World)(r:Int)(h1:-9223372036854775808≤r)(h2:r≤9223372036854775807):
  Calls Tryz.prog 12 #[.int .i64 r] w fun e w'=>∃a,e=.returned (.pointer (some ⟨a,0,none⟩))∧DiskAt w' a 0 (DM.new r) (fun b=>w.heap.size≤b∧b<w'.heap.size)∧Below w.heap.size w w':=by
 have hmm:=@run_makeMap Tryz.prog;go_enter Tryz.func12,Tryz.ntmps12;go_wp2_with fail;go_ret;exact LQ w r h1 h2
end Go.Proofs.YtdkedmngeahjiaaGreatDoor
