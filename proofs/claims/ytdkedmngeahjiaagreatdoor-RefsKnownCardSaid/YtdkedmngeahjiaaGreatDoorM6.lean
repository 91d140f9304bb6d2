import Derived.Test.YtdkedmngeahjiaaGreatDoorDiskA
import Derived.Shelf.Abstract
import Derived.Handy
import Derived.StillTailTactics
set_option maxRecDepth 100000
set_option maxHeartbeats 25600000
namespace Go.Proofs.YtdkedmngeahjiaaGreatDoor
theorem fW{p:Prop}(h:p:=by show¬(w.heap.size+1<w.heap.size);omega):p:=h
theorem jK{p:Prop}(h:p:=by show(if 1≤m.armed then m.armed-1 else 0)=0;rw[ha];rfl):p:=h
open Go Go.RowKit Go.Maps Go.Shelf
def IntsRd(S:Nat→Prop)(w:World)(kv:Value)(ks:List Int):Prop:=
 ∃p cap,kv=.slice p ks.length cap∧(ks.length≤cap∧cap≤maxLen)∧∀j k,ks[j]?=some k→(-9223372036854775808≤k∧k≤9223372036854775807)∧∃b off,p=some ⟨b,off,none⟩∧w.cell? ⟨b,off+j,none⟩=some (.int .i64 k)∧b<w.heap.size∧(¬S b∨∃cs fz,w.heap[b]?=some (.cells cs 3 fz))
theorem uA(w:World)(o o':Obj):((w.alloc o).alloc o').heap[w.heap.size+1]?=some o':=by
 have:=lP (w.alloc o) o';rwa[World.size_alloc]at this
theorem vK(w:World)(o o':Obj):Below w.heap.size w ((w.alloc o).alloc o'):=((Below.refl _ w).alloc (Nat.le_refl _) _).alloc cO _
theorem Ct(w:World)(o o':Obj):((w.alloc o).alloc o').heap.size=w.heap.size+2:=by rw[World.size_alloc,World.size_alloc]
theorem lT{P:Program}{id:Nat}{Q:Exit→Act→World→Prop}{a:Act}{w:World}{l:List Oper}(n:Nat)(hm:P.follows .mixedOrders=true)(hB:Region.lexTailB .any l.toArray n=true)
  (h:wpStill P l.toArray (w.drewN 1) (fun a'=>wpList P l.toArray Q (l.drop n) a' (w.drewN 1)) (l.take n) a):(Code.region id l.toArray true).wp P Q a w:=wp_region_still_tail n hm hB h
theorem xK{x:Int}(h0:0≤x)(h1:x<9223372036854775808):IntKind.i64.wrap x=x:=by
 simp only[IntKind.wrap,IntKind.bits,IntKind.signed];simp;omega
theorem mC:Tryz.prog.follows .mixedOrders=true:=aE
theorem DiskPost.drew{a n q:Nat}{m:DM}{S:Nat→Prop}{w w':World}(h:DiskPost a n m S (w.drewN q) w'):DiskPost a n m S w w':=⟨h.1,h.2.os,h.2.tape,h.2.output,h.2.size,h.2.block⟩
def EC:Prop:=∀(w:World) (a n:Nat) (m:DM) (S:Nat→Prop) (kv:Value) (ks:List Int),DiskAt w a n m S→IntsRd S w kv ks→n≤8000000000000→
 Calls Tryz.prog 70 #[.pointer (some ⟨a,0,none⟩),kv] w fun e w'=>e=.returned (.tuple #[])∧DiskPost a n (m.fail ks) S w w'
theorem F9{w:World}{a n:Nat}{m:DM}{S:Nat→Prop}(h:DiskAt w a n m S)(kR kA:Nat)(lR lA:Array Value)(late:Bool)(ho:m.off=true):
  Calls Tryz.prog 90 #[.pointer (some ⟨a,0,none⟩),.func (.func kR) #[] lR,.bool late,.func (.func kA) #[] lA] w fun e w'=>e=.returned (nJ 27)∧Below w.heap.size w w':=by
 obtain⟨bn,bs,pv,fv,loc,h⟩:=h;obtain⟨c0,-⟩:=h.cells;have hb0:=lH h.head
 rw[ho]at c0;clear h;go_enter_defers Tryz.func90,Tryz.ntmps90;go_wp2_with fail;refine⟨nJ 27,?_,rfl,((Below.refl _ w).alloc (Nat.le_refl _) _).alloc eZ _⟩;have hc:((w.alloc (.cells #[.pointer (some ⟨a,0,none⟩)] 34)).alloc (.cells #[.iface 71 (.int .i64 27)] 25)).cell? ⟨w.heap.size+1,0,none⟩=some (.iface 71 (.int .i64 27)):=eZ
 simp[results,Tryz.f90,go_sem,hc]
 rfl
theorem Ib{w:World}{a n:Nat}{m:DM}{S:Nat→Prop}(h:DiskAt w a n m S)(kR kA:Nat)(lR lA:Array Value)(late:Bool)(ho:m.off=false)(x:Int)(hx:x≠0)(eg:Enters Tryz.prog kR)
  (hR:∀W,Below w.heap.size w W→Calls Tryz.prog kR lR W fun e w'=>e=.returned (nJ x)∧Below W.heap.size W w'):
  Calls Tryz.prog 90 #[.pointer (some ⟨a,0,none⟩),.func (.func kR) #[] lR,.bool late,.func (.func kA) #[] lA] w fun e w'=>e=.returned (nJ x)∧Below w.heap.size w w':=by
 obtain⟨bn,bs,pv,fv,loc,h⟩:=h;obtain⟨c0,-⟩:=h.cells;have hb0:=lH h.head
 rw[ho]at c0;clear h;unfold nJ at hR;have eg':∀(args:Array Value) (w:World),(callFunc kR args).run Tryz.prog w=.ok (.enter kR args) w:=eg
 go_enter_defers Tryz.func90,Tryz.ntmps90;go_wp2_with (go_at_fn kR;refine(hR _ (vK w _ _)).mono ?_;rintro e w1 ⟨rfl,hb1⟩;rw[Ct]at hb1;have hE:=(hb1.block (w.heap.size+1) aC).trans (uA w _ _);have HB:=hZ ((vK w _ _).trans (hb1.mono aC));have ce:w1.cell? ⟨w.heap.size+1,0,none⟩=some .nilIface:=lF hE;have fe:w1.frozen? ⟨w.heap.size+1,0,none⟩=false:=lI hE;clear hb1;have HE:=hZ hE;clear hE)
 have hc:(w1.setCell ⟨w.heap.size+1,0,none⟩ (.iface 71 (.int .i64 x))).cell? ⟨w.heap.size+1,0,none⟩=some (.iface 71 (.int .i64 x)):=by
  rw[lY HE.out,lF (lM (lH HE.out))]
  rfl
 refine⟨nJ x,?_,rfl,HB.out.setCell eZ _⟩;simp[results,Tryz.f90,go_sem,hc]
 rfl
theorem IntsOwn.rd{S:Nat→Prop}{w:World}{fv:Value}{ks:List Int}(h:IntsOwn S w fv ks)(hk:∀k∈ks,-9223372036854775808≤k∧k≤9223372036854775807):IntsRd S w fv ks:=by
 rcases h.1.2 with⟨rfl,h0⟩|⟨g,cap,cur,rfl,-,hg,h1,h2,h3,h4⟩
 ·have:ks=[]:=List.eq_nil_of_length_eq_zero h0;subst this;exact⟨none,0,rfl,⟨Nat.le_refl _,Nat.zero_le _⟩,fun j k hj=>by cases hj⟩
 ·refine⟨some ⟨g,0,none⟩,cap,rfl,⟨h1,h2⟩,fun j k hj=>⟨hk k (List.mem_of_getElem? hj),g,0,rfl,?_,lH hg,.inr ⟨_,_,hg⟩⟩⟩;rw[Nat.zero_add,lF hg,←Array.getElem?_toList];have hl:=(List.getElem?_eq_some_iff.1 hj).1
  have e:(cur.toList.take (ks.length*1))[j]?=(ks.map (Value.int .i64))[j]?:=by rw[h4]
  rw[List.getElem?_take,if_pos aC,List.getElem?_map,hj]at e;exact e
theorem Ga(w:World)(u:FrameMode)(b1 b2 b3:Nat)(h:w.cell? ⟨b3,0,none⟩=some (.bool false)):
  CallsD Tryz.prog 148 #[.pointer (some ⟨b3,0,none⟩),.pointer (some ⟨b1,0,none⟩),.pointer (some ⟨b2,0,none⟩)] u w fun e u' w'=>u'=u∧(e=.returned (.tuple #[])∧w'=w):=by
 go_enter_d Tryz.func148,Tryz.ntmps148;go_wp2_with fail;go_end0;exact cF
theorem As(hF:EC){w:World}{a n:Nat}{m:DM}{S:Nat→Prop}(hnn:n≤8000000000000)(h:DiskAt w a n m S)(u:FrameMode)(b1 b2 b3:Nat)(v:Value)(h1:w.cell? ⟨b1,0,none⟩=some (.pointer (some ⟨a,0,none⟩)))(h2:w.heap[b2]?=some (.cells #[v] 25 (0,0)))(h3:w.cell? ⟨b3,0,none⟩=some (.bool true))(hn:¬S b2):
  CallsD Tryz.prog 148 #[.pointer (some ⟨b3,0,none⟩),.pointer (some ⟨b1,0,none⟩),.pointer (some ⟨b2,0,none⟩)] u w fun e u' w'=>u'=u∧(e=.returned (.tuple #[])∧∃w2,DiskPost a n (m.fail m.keep) S w w2∧w2.heap[b2]?=some (.cells #[v] 25 (0,0))∧w'=w2.setCell ⟨b2,0,none⟩ (nJ 27)):=by
 have hd:=h;obtain⟨bn,bs,pv,fv,loc,h⟩:=h;obtain⟨-,-,-,-,-,-,c6⟩:=h.cells;have hc:=fun q=>hF (w.drewN q) a n m S fv m.keep (hd.frame (fun _ _=>rfl) (Nat.le_refl _)) (h.fate.rd h.ok.keepI) hnn
 have HE:=hZ h2;have c2:w.cell? ⟨b2,0,none⟩=some v:=lF h2
 clear h hd h2;go_enter_d Tryz.func148,Tryz.ntmps148;go_wp2_with fail;go_still_tail 5,mC;go_wp2_with (go_at_call 70;refine(hc 1).mono ?_;rintro e w2 ⟨rfl,hp⟩;have hE:=(hp.2.block b2 (lH HE.out) hn).trans HE.out;have ce:w2.cell? ⟨b2,0,none⟩=some v:=lF hE;have fe:w2.frozen? ⟨b2,0,none⟩=false:=lI hE;have HP:=hZ hp;have HQ:=hZ hE;clear hp hE);go_end0;exact⟨rfl,w2,HP.out.drew,HQ.out,rfl⟩
theorem DiskIn.tickAt{w w1:World}{a n:Nat}{m:DM}{S:Nat→Prop}{bn bs:Nat}{pv fv:Value}{loc:Nat→Nat}(h:DiskIn w a n m S bn bs pv fv loc)(h1:Below w.heap.size w w1):DiskAt (w1.setCell ⟨a,5,none⟩ (.int .i64 m.tick.armed)) a n m.tick S∧Off (fun b=>b=a) w (w1.setCell ⟨a,5,none⟩ (.int .i64 m.tick.armed)):=by
 have h2:DiskIn w1 a n m S bn bs pv fv loc:=h.frame (fun b hS=>h1.block b (h.lt b hS)) h1.size;have hb:∀b,b≠a→S b→(w1.setCell ⟨a,5,none⟩ (.int .i64 m.tick.armed)).heap[b]?=w1.heap[b]?:=fun b hn _=>Below.heap_setCell _ _ _ _ hn
 refine⟨⟨bn,bs,pv,fv,loc,h2.other (m':=m.tick) hb ?_ dC rfl rfl rfl (h2.pendO hb) (h2.fateO hb) h.ok.tick⟩,((Off.refl (fun b=>b=a) w).below h1 (Nat.le_refl _)).setCell _ _ (fun _=>rfl)⟩;rw[lY h2.head,lM (lH h2.head)]
 rfl
theorem Cu{w w1:World}{a n:Nat}{m:DM}{S:Nat→Prop}{bn bs:Nat}{pv fv:Value}{loc:Nat→Nat}(h:DiskIn w a n m S bn bs pv fv loc)
  (hb1:Below ((w.alloc (.cells #[.pointer (some ⟨a,0,none⟩)] 34)).alloc (.cells #[.nilIface] 25)).heap.size ((w.alloc (.cells #[.pointer (some ⟨a,0,none⟩)] 34)).alloc (.cells #[.nilIface] 25)) w1):
  w1.cell? ⟨w.heap.size,0,none⟩=some (.pointer (some ⟨a,0,none⟩))∧w1.cell? ⟨a,5,none⟩=some (.int .i64 m.armed)∧w1.frozen? ⟨a,5,none⟩=false∧w1.cell? ⟨w.heap.size+1,0,none⟩=some .nilIface∧w1.frozen? ⟨w.heap.size+1,0,none⟩=false∧
   Hid (Below w.heap.size w w1)∧Hid (w1.heap[w.heap.size]?=some (.cells #[.pointer (some ⟨a,0,none⟩)] 34 (0,0)))∧Hid (w1.heap[w.heap.size+1]?=some (.cells #[.nilIface] 25 (0,0)))∧w.heap.size+2≤w1.heap.size∧w.heap.size<w1.heap.size∧w.heap.size+1<w1.heap.size∧a<w1.heap.size:=by
 rw[Ct]at hb1;have hE:=(hb1.block (w.heap.size+1) aC).trans (uA w _ _)
 have hB:=(vK w _ _).trans (hb1.mono (show w.heap.size≤w.heap.size+2 by omega));have hD:w1.heap[w.heap.size]?=some (.cells #[.pointer (some ⟨a,0,none⟩)] 34 (0,0)):=(hb1.block (w.heap.size) aC).trans ((Below.heap_alloc _ _ _ cO).trans (lP w _))
 have hb0:=lH h.head;have hz:=hb1.size
 rw[Ct]at hz;exact⟨lF hD,(hB.cell (p:=⟨a,5,none⟩) hb0).trans h.cells.2.2.2.2.2.1,lI ((hB.block a hb0).trans h.head),lF hE,lI hE,hZ hB,hZ hD,hZ hE,hz,aC,aC,aC⟩
theorem qX{w:World}{b c:Nat}(v:Value)(h:b≠c):(w.setCell ⟨c,0,none⟩ v).cell? ⟨b,0,none⟩=w.cell? ⟨b,0,none⟩:=lK (Below.heap_setCell _ _ _ _ h)
theorem AY{w w1 w2 W:World}{a n:Nat}{m:DM}{S:Nat→Prop}{bn bs:Nat}{pv fv v:Value}{loc:Nat→Nat}{s:Bool}(h:DiskIn w a n m S bn bs pv fv loc)(hW:W=((w1.alloc (.cells #[.bool s] 4)).drewN 1).setCell ⟨a,5,none⟩ v)
  (hb:Below w.heap.size w w1) (hd:w1.heap[w.heap.size]?=some (.cells #[.pointer (some ⟨a,0,none⟩)] 34 (0,0))) (he:w1.heap[w.heap.size+1]?=some (.cells #[.nilIface] 25 (0,0))) (ho:Off S W w2):
  w2.cell? ⟨w1.heap.size,0,none⟩=some (.bool s)∧w2.cell? ⟨w.heap.size,0,none⟩=some (.pointer (some ⟨a,0,none⟩))∧w2.cell? ⟨w.heap.size+1,0,none⟩=some .nilIface∧w2.frozen? ⟨w.heap.size+1,0,none⟩=false∧w2.heap[w.heap.size+1]?=some (.cells #[.nilIface] 25 (0,0))∧
   Off S w w2∧w.heap.size+1<w1.heap.size∧w1.heap.size<w2.heap.size:=by
 have ha:=lH h.head;have hz:=lH he
 have hsz:W.heap.size=w1.heap.size+1:=by rw[hW,World.size_setCell];show(w1.alloc _).heap.size=_;rw[World.size_alloc]
 have hnS:∀b,w.heap.size≤b→¬S b:=fun b hb hS=>by have:=h.lt b hS;omega
 have hk:∀b,b≠a→W.heap[b]?=(w1.alloc (.cells #[.bool s] 4)).heap[b]?:=fun b hn=>by rw[hW,Below.heap_setCell _ _ _ _ hn];rfl
 have g1:w2.heap[w.heap.size]?=_:=((ho.block _ aC (hnS _ (Nat.le_refl _))).trans (hk _ aC)).trans ((Below.heap_alloc w1 _ _ aC).trans hd);have g2:w2.heap[w.heap.size+1]?=_:=((ho.block _ aC (hnS _ aC)).trans (hk _ aC)).trans ((Below.heap_alloc w1 _ _ aC).trans he)
 have g3:w2.heap[w1.heap.size]?=_:=((ho.block _ aC (hnS _ aC)).trans (hk _ aC)).trans (lP w1 _);refine⟨lF g3,lF g1,lF g2,lI g2,g2,?_,hz,by have:=ho.size;omega⟩;refine Off.tr (b:=W) ?_ ho;rw[hW];exact((((Off.refl S w).below hb (Nat.le_refl _)).alloc _).draws 1).setCell _ _ (fun _=>h.sa)
theorem DiskAt.grow2{a n:Nat}{m:DM}{S:Nat→Prop}{w W w2 w3:World}(h:DiskAt w2 a n m (mU S W w2))(hz1:w.heap.size≤W.heap.size)(hz2:w2.heap.size≤w3.heap.size)(hb:∀b,mU S W w2 b→w3.heap[b]?=w2.heap[b]?)(hl:∀b,S b→b<w2.heap.size):DiskAt w3 a n m (mU S w w3):=by
 obtain⟨bn,bs,pv,fv,loc,h⟩:=h.frame hb hz2;refine⟨bn,bs,pv,fv,loc,h.bigger ?_ ?_⟩
 ·rintro b (h1|⟨h1,h2⟩)
  ·exact .inl h1
  ·exact .inr ⟨aC,aC⟩
 ·rintro b (h1|⟨_,h2⟩)
  ·have:=hl b h1;omega
  ·exact h2
theorem Ic{w:World}{a n:Nat}{m:DM}{S:Nat→Prop}(h:DiskAt w a n m S)(kR kA:Nat)(lR lA:Array Value)(late:Bool)(ho:m.off=false)(ha:m.armed≠1)(eR:Enters Tryz.prog kR)(eA:Enters Tryz.prog kA)(m':DM)
  (hR:∀W,Below w.heap.size w W→Calls Tryz.prog kR lR W fun e w'=>e=.returned .nilIface∧Below W.heap.size W w')
  (hA:∀W,DiskAt W a n m.tick S→Off (fun b=>b=a) w W→Calls Tryz.prog kA lA W fun e w'=>e=.returned (.tuple #[])∧DiskPost a (n+1) m' S W w'):
  Calls Tryz.prog 90 #[.pointer (some ⟨a,0,none⟩),.func (.func kR) #[] lR,.bool late,.func (.func kA) #[] lA] w fun e w'=>e=.returned .nilIface∧DiskPost a (n+1) m' S w w':=by
 obtain⟨bn,bs,pv,fv,loc,h⟩:=h;obtain⟨c0,-,-,-,-,c5,-⟩:=h.cells;have hb0:=lH h.head
 rw[ho]at c0;have H:=hZ h
 have hA1:=h.ok.arm1;have hA0:=h.ok.arm0
 clear h;have eg':∀(args:Array Value) (w:World),(callFunc kR args).run Tryz.prog w=.ok (.enter kR args) w:=eR
 have eg2:∀(args:Array Value) (w:World),(callFunc kA args).run Tryz.prog w=.ok (.enter kA args) w:=eA
 have hcase:(2≤m.armed∧IntKind.i64.wrap (m.armed-1)=m.armed-1∧0<m.armed-1∧m.tick.armed=m.armed-1)∨(m.armed=0∧m.tick.armed=0):=by
  by_cases h2:2≤m.armed
  ·exact .inl ⟨h2,xK aC aC,aC,by show(if 1≤m.armed then m.armed-1 else 0)=_;rw[if_pos aC]⟩
  ·have h0:m.armed=0:=by omega
   exact .inr ⟨h0,by show(if 1≤m.armed then m.armed-1 else 0)=_;rw[if_neg aC]⟩
 have hmf:∀(fn:Fn) (first cap:Array Value) (w:World),(Instr.makeFunc fn first cap).run Tryz.prog w=.ok (.func fn first cap) w:=fun _ _ _ _=>rfl
 have htk:=fun w1=>H.out.tickAt (w1:=w1)
 rcases hcase with⟨h2,hw,h1,e⟩|⟨h0,e⟩
 all_goals
  rw[e]at htk
  try rw[h0]at c5 ha
  try rw[h0]at hA1 hA0
  go_enter_defers Tryz.func90,Tryz.ntmps90;go_wp2_with (go_at_fn kR;refine(hR _ (vK w _ _)).mono ?_;rintro e w1 ⟨rfl,hb1⟩;obtain⟨cd,c5',f5,ce,fe,HB,HD,HE,hz1,hz2,hz3,hz4⟩:=Cu H.out hb1;clear hb1;try rw[h0]at c5');refine lT 7 mC aE ?_;simp only[List.take_succ_cons,List.take_zero,List.drop_succ_cons,List.drop_zero]
  repeat still_step
  refine wpStill_nil ?_;go_wp2_with (go_at_fn kA;refine(hA _ (htk _ (HB.out.alloc aC _|>.drew)).1 (htk _ (HB.out.alloc aC _|>.drew)).2).mono ?_;rintro e w2 ⟨rfl,hp⟩;obtain⟨g3,g1,g2,f2,HE2,HO,hz5,hz6⟩:=AY H.out rfl HB.out HD.out HE.out hp.2;have HP:=hZ hp;have HO:=hZ HO;have HE2:=hZ HE2;clear hp)
  try rw[show(m.armed==1)=false from beq_eq_false_iff_ne.2 ha]at g3
  refine leaves_cons (f:=148) (args:=#[.pointer (some ⟨w1.heap.size,0,none⟩),.pointer (some ⟨w.heap.size,0,none⟩),.pointer (some ⟨w.heap.size+1,0,none⟩)]) eZ (by simp[go_sem]) ?_;refine(Ga _ .returning w.heap.size (w.heap.size+1) w1.heap.size ((qX _ aC).trans g3)).mono ?_;rintro e u' w'' ⟨rfl,rfl,rfl⟩
  have hc:(w2.setCell ⟨w.heap.size+1,0,none⟩ .nilIface).cell? ⟨w.heap.size+1,0,none⟩=some .nilIface:=by
   rw[lY HE2.out,lF (lM (lH HE2.out))]
   rfl
  refine⟨.nilIface,by simp[results,Tryz.f90,go_sem,hc],rfl,?_,HO.out.setCell _ _ (fun h=>absurd h fW)⟩;refine HP.out.1.grow2 iE dC (fun b hb=>Below.heap_setCell _ _ _ _ (fun e=>?_)) (fun b hb=>Nat.lt_of_lt_of_le (H.out.lt b hb) HO.out.size);have e':b=w.heap.size+1:=e
  rcases hb with hb|⟨hb,_⟩
  ·have:=H.out.lt b hb;omega
  ·simp at hb;omega
theorem DiskAt.sup{a n:Nat}{m:DM}{S S':Nat→Prop}{w:World}(h:DiskAt w a n m S)(hs:∀b,S b→S' b)(hl:∀b,S' b→b<w.heap.size):DiskAt w a n m S':=by
 obtain⟨bn,bs,pv,fv,loc,h⟩:=h;exact⟨bn,bs,pv,fv,loc,h.bigger hs hl⟩
theorem DiskAt.setBox{w:World}{a n k:Nat}{m:DM}{S:Nat→Prop}(h:DiskAt w a n m S)(hk:¬S k)(v:Value):DiskAt (w.setCell ⟨k,0,none⟩ v) a n m S:=by
 refine h.frame (fun b hb=>Below.heap_setCell _ _ _ _ (fun e=>hk ?_)) dC;have e':b=k:=e
 rw[←e'];exact hb
theorem Bp{a n:Nat}{m:DM}{S T:Nat→Prop}{w w2 w3:World}{k:Nat}{v:Value}(h:DiskPost a n m T w2 w3)(ho:Off S w w2)(hT:∀b,T b→S b∨(w.heap.size≤b∧b<w2.heap.size))(hS:∀b,S b→b<w.heap.size)(hk:w.heap.size≤k)(hk2:k<w2.heap.size)(hkT:¬T k):DiskPost a n m S w (w3.setCell ⟨k,0,none⟩ v):=by
 have hz1:=ho.size;have hz2:=h.2.size
 have hkS:¬S k:=fun h=>by have:=hS k h;omega
 refine⟨?_,(ho.trans h.2 ?_).setCell _ _ (fun h=>absurd h (by show¬(k<w.heap.size);omega))⟩
 ·refine DiskAt.sup (h.1.frame (fun b hb=>Below.heap_setCell _ _ _ _ (fun e=>?_)) dC) ?_ ?_
  ·have e':b=k:=e;rcases hb with hb|⟨hb,_⟩
   ·exact hkT (e'▸hb)
   ·omega
  ·rintro b (hb|⟨hb,hb2⟩)
   ·rcases hT b hb with hb|⟨hb,hb2⟩
    ·exact .inl hb
    ·exact .inr ⟨hb,dC⟩
   ·exact .inr ⟨aC,by rw[World.size_setCell];exact hb2⟩
  ·rintro b (hb|⟨_,hb2⟩)
   ·rw[World.size_setCell];have:=hS b hb;omega
   ·exact hb2
 ·intro b hb hb2;rcases hT b hb2 with h3|⟨h3,_⟩
  ·exact h3
  ·omega
theorem Gb(hF:EC){w:World}{a n:Nat}{m:DM}{S:Nat→Prop}(hnn:n+1≤8000000000000)(h:DiskAt w a n m S)(kR kA:Nat)(lR lA:Array Value)(ho:m.off=false)(ha:m.armed=1)(eR:Enters Tryz.prog kR)(eA:Enters Tryz.prog kA)(m':DM)
  (hR:∀W,Below w.heap.size w W→Calls Tryz.prog kR lR W fun e w'=>e=.returned .nilIface∧Below W.heap.size W w')
  (hA:∀W,DiskAt W a n m.tick S→Off (fun b=>b=a) w W→Calls Tryz.prog kA lA W fun e w'=>e=.returned (.tuple #[])∧DiskPost a (n+1) m' S W w'):
  Calls Tryz.prog 90 #[.pointer (some ⟨a,0,none⟩),.func (.func kR) #[] lR,.bool false,.func (.func kA) #[] lA] w fun e w'=>e=.returned (nJ 27)∧DiskPost a (n+1) (m'.fail m'.keep) S w w':=by
 obtain⟨bn,bs,pv,fv,loc,h⟩:=h;obtain⟨c0,-,-,-,-,c5,-⟩:=h.cells;have hb0:=lH h.head
 rw[ho]at c0;have H:=hZ h
 clear h;have eg':∀(args:Array Value) (w:World),(callFunc kR args).run Tryz.prog w=.ok (.enter kR args) w:=eR
 have eg2:∀(args:Array Value) (w:World),(callFunc kA args).run Tryz.prog w=.ok (.enter kA args) w:=eA;have hmf:∀(fn:Fn) (first cap:Array Value) (w:World),(Instr.makeFunc fn first cap).run Tryz.prog w=.ok (.func fn first cap) w:=fun _ _ _ _=>rfl
 have htk:=fun w1=>H.out.tickAt (w1:=w1)
 have e:m.tick.armed=0:=jK;rw[e]at htk;rw[ha]at c5;go_enter_defers Tryz.func90,Tryz.ntmps90;go_wp2_with (go_at_fn kR;refine(hR _ (vK w _ _)).mono ?_;rintro e w1 ⟨rfl,hb1⟩;obtain⟨cd,c5',f5,ce,fe,HB,HD,HE,hz1,hz2,hz3,hz4⟩:=Cu H.out hb1;clear hb1;rw[ha]at c5');refine lT 7 mC aE ?_;simp only[List.take_succ_cons,List.take_zero,List.drop_succ_cons,List.drop_zero]
 repeat still_step
 refine wpStill_nil ?_;go_wp2_with (go_at_fn kA;refine(hA _ (htk _ (HB.out.alloc aC _|>.drew)).1 (htk _ (HB.out.alloc aC _|>.drew)).2).mono ?_;rintro e w2 ⟨rfl,hp⟩;obtain⟨g3,g1,g2,f2,HE2,HO,hz5,hz6⟩:=AY H.out rfl HB.out HD.out HE.out hp.2;have HP:=hZ hp;have HO:=hZ HO;have HE2:=hZ HE2;clear hp);refine leaves_cons (f:=148) (args:=#[.pointer (some ⟨w1.heap.size,0,none⟩),.pointer (some ⟨w.heap.size,0,none⟩),.pointer (some ⟨w.heap.size+1,0,none⟩)]) eZ (by simp[go_sem]) ?_;have hlt:=fun b hb=>H.out.lt b hb
 have hne:∀b,mU S (((w1.alloc (.cells #[.bool true] 4)).drewN 1).setCell ⟨a,5,none⟩ (.int .i64 0)) w2 b→b≠w.heap.size+1:=fun b hb e=>by
  rcases hb with hb|⟨hb,_⟩
  ·have:=hlt b hb;omega
  ·simp at hb;omega
 have hd2:DiskAt (w2.setCell ⟨w.heap.size+1,0,none⟩ .nilIface) a (n+1) m' _:=HP.out.1.frame (fun b hb=>Below.heap_setCell _ _ _ _ (hne b hb)) dC
 have hc:(w2.setCell ⟨w.heap.size+1,0,none⟩ .nilIface).heap[w.heap.size+1]?=some (.cells #[.nilIface] 25 (0,0)):=by
  rw[lY HE2.out,lM (lH HE2.out)]
  rfl
 refine(As hF hnn hd2 .returning w.heap.size (w.heap.size+1) w1.heap.size .nilIface ((qX _ aC).trans g1) hc ((qX _ aC).trans g3) (fun h=>hne _ h rfl)).mono ?_;rintro e u' w'' ⟨rfl,rfl,w3,hp3,hc3,rfl⟩
 have hc4:(w3.setCell ⟨w.heap.size+1,0,none⟩ (nJ 27)).cell? ⟨w.heap.size+1,0,none⟩=some (nJ 27):=by
  rw[lY hc3,lF (lM (lH hc3))]
  rfl
 refine⟨nJ 27,?_,rfl,?_⟩
 ·unfold nJ at hc4⊢;simp[results,Tryz.f90,go_sem,hc4]
 ·refine Bp hp3 (HO.out.setCell _ _ (fun h=>absurd h fW)) ?_ hlt aC dC (fun h=>hne _ h rfl);rintro b (hb|⟨hb,hb2⟩)
  ·exact .inl hb
  ·simp at hb;exact .inr ⟨aC,by rw[World.size_setCell];exact hb2⟩
theorem ED(hF:EC){w:World}{a n:Nat}{m:DM}{S:Nat→Prop}(hnn:n≤8000000000000)(h:DiskAt w a n m S)(kR kA:Nat)(lR lA:Array Value)(ho:m.off=false)(ha:m.armed=1)(eR:Enters Tryz.prog kR)
  (hR:∀W,Below w.heap.size w W→Calls Tryz.prog kR lR W fun e w'=>e=.returned .nilIface∧Below W.heap.size W w'):
  Calls Tryz.prog 90 #[.pointer (some ⟨a,0,none⟩),.func (.func kR) #[] lR,.bool true,.func (.func kA) #[] lA] w fun e w'=>e=.returned (nJ 27)∧DiskPost a n (m.tick.fail m.keep) S w w':=by
 obtain⟨bn,bs,pv,fv,loc,h⟩:=h;obtain⟨c0,-,-,-,-,c5,-⟩:=h.cells;have hb0:=lH h.head
 rw[ho]at c0;have H:=hZ h
 clear h;have eg':∀(args:Array Value) (w:World),(callFunc kR args).run Tryz.prog w=.ok (.enter kR args) w:=eR
 have hmf:∀(fn:Fn) (first cap:Array Value) (w:World),(Instr.makeFunc fn first cap).run Tryz.prog w=.ok (.func fn first cap) w:=fun _ _ _ _=>rfl
 have htk:=fun w1=>H.out.tickAt (w1:=w1)
 have e:m.tick.armed=0:=jK;rw[e]at htk;rw[ha]at c5;go_enter_defers Tryz.func90,Tryz.ntmps90;go_wp2_with (go_at_fn kR;refine(hR _ (vK w _ _)).mono ?_;rintro e w1 ⟨rfl,hb1⟩;obtain⟨cd,c5',f5,ce,fe,HB,HD,HE,hz1,hz2,hz3,hz4⟩:=Cu H.out hb1;clear hb1;rw[ha]at c5');refine lT 7 mC aE ?_;simp only[List.take_succ_cons,List.take_zero,List.drop_succ_cons,List.drop_zero]
 repeat still_step
 refine wpStill_nil ?_;obtain⟨hd1,ho1⟩:=htk _ (HB.out.alloc aC (.cells #[.bool true] 4)|>.drew);obtain⟨g3,g1,g2,f2,HE2,HO,hz5,hz6⟩:=AY H.out rfl HB.out HD.out HE.out (Off.refl S (((w1.alloc (.cells #[.bool true] 4)).drewN 1).setCell ⟨a,5,none⟩ (.int .i64 0)));have HE2:=hZ HE2
 have HO:=hZ HO;have HP:=hZ (show DiskAt (((w1.alloc (.cells #[.bool true] 4)).drewN 1).setCell ⟨a,5,none⟩ (.int .i64 0)) a n m.tick S from hd1)
 clear hd1 ho1;go_wp2_with fail;refine leaves_cons (f:=148) (args:=#[.pointer (some ⟨w1.heap.size,0,none⟩),.pointer (some ⟨w.heap.size,0,none⟩),.pointer (some ⟨w.heap.size+1,0,none⟩)]) eZ (by simp[go_sem]) ?_;have hlt:=fun b hb=>H.out.lt b hb
 have hne:¬S (w.heap.size+1):=fun hb=>by have:=hlt _ hb;omega
 revert g3 g1 HE2 HO HP hz6
 generalize ((w1.alloc (.cells #[.bool true] 4)).drewN 1).setCell ⟨a,5,none⟩ (.int .i64 0)=W;intro g3 g1 hz6 HE2 HO HP;have hd2:DiskAt (W.setCell ⟨w.heap.size+1,0,none⟩ .nilIface) a n m.tick S:=HP.out.setBox hne .nilIface
 have hc:(W.setCell ⟨w.heap.size+1,0,none⟩ .nilIface).heap[w.heap.size+1]?=some (.cells #[.nilIface] 25 (0,0)):=by
  rw[lY HE2.out,lM (lH HE2.out)]
  rfl
 refine(As hF hnn hd2 .returning w.heap.size (w.heap.size+1) w1.heap.size .nilIface ((qX _ aC).trans g1) hc ((qX _ aC).trans g3) hne).mono ?_;rintro e u' w'' ⟨rfl,rfl,w3,hp3,hc3,rfl⟩
 have hc4:(w3.setCell ⟨w.heap.size+1,0,none⟩ (nJ 27)).cell? ⟨w.heap.size+1,0,none⟩=some (nJ 27):=by
  rw[lY hc3,lF (lM (lH hc3))]
  rfl
 refine⟨nJ 27,?_,rfl,?_⟩
 ·unfold nJ at hc4⊢;simp[results,Tryz.f90,go_sem,hc4]
 ·exact Bp hp3 (HO.out.setCell _ _ (fun h=>absurd h fW)) (fun b hb=>.inl hb) hlt aC dC hne
end Go.Proofs.YtdkedmngeahjiaaGreatDoor
