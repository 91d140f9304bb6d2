import Derived.Test.YtdkedmngeahjiaaGreatDoorM24
import Derived.Test.YtdkedmngeahjiaaGreatDoorM42
import Derived.Test.YtdkedmngeahjiaaGreatDoorM33
import Derived.Test.YtdkedmngeahjiaaGreatDoorM20
import Derived.Test.YtdkedmngeahjiaaGreatDoorM14
import Derived.Deep.Upon
import Derived.Test.YtdkedmngeahjiaaGreatDoorM23
set_option maxRecDepth 100000
set_option maxHeartbeats 25600000
namespace Go.Proofs.YtdkedmngeahjiaaGreatDoor
theorem aY{p:Prop}(h:p:=by rw[←hW10];exact(Below.refl _ _).alloc (Nat.le_refl _) _):p:=h
theorem bQ{p:Prop}(h:p:=by rw[List.mem_singleton.1 hx];exact(List.mem_cons_self ..)):p:=h
theorem bR{p:Prop}(h:p:=by rw[List.mem_singleton.1 hx];exact(List.mem_cons_of_mem _ (List.mem_singleton_self _))):p:=h
theorem cQ{p:Prop}(h:p:=by have:=HLE.out;omega):p:=h
theorem dI{p:Prop}(h:p:=by have:=HLE.out;have:=HTL.out;omega):p:=h
theorem dK{p:Prop}(h:p:=by have:=HLL.out;omega):p:=h
theorem fB{p:Prop}(h:p:=by have:=HTL.out;have:=HLE.out;omega):p:=h
theorem fD{p:Prop}(h:p:=by exact⟨⟨i+1,q2,rb,aC,aG,rfl,rfl,hZ ⟨_,_,T2,HS11.out.sub (fun x hx=>by cases hx) (fun x hx=>bQ),HDO.out.arm 0 [],⟨rfl,HROOM.out⟩,cQ,dI⟩⟩,cN⟩):p:=h
theorem fF{p:Prop}(h:p:=by exact⟨⟨i+1,q2,rb8,aC,aG,rfl,rfl,hZ ⟨_,_,LT,HS15.out.sub (fun x hx=>by cases hx) (fun x hx=>bQ),HO2.out,HO3.out,cQ,dI⟩⟩,cN⟩):p:=h
theorem fG{p:Prop}(h:p:=by exact⟨⟨i+1,q,rb8,aC,aG,rfl,rfl,hZ ⟨_,_,LT,HS15.out.sub (fun x hx=>by cases hx) (fun x hx=>bR),HO2.out,HO3.out,cQ,dI⟩⟩,cN⟩):p:=h
theorem gL{p:Prop}(h:p:=by have:=HLE.out;have:=HTL.out;rcases HLT.out with h|h<;>rw[h]<;>omega):p:=h
theorem jT{p:Prop}(h:p:=by exact⟨hp.1,q1,fun k hk=>(q2 k hk).trans (hg.bel.block k (g3 k hk))⟩):p:=h
open Go Go.RowKit
theorem MH:(Tryz.prog.info? 3).map (fun i=>(i.zero,i.size,i.bytes))=some (some (.int .i64 0),1,8):=aE
structure GathN (w wr:World) (ov:Value) (out:List Int):Prop where
 row:wr.ownsRow w.heap.size 3 1 ov out.length (out.map (Value.int .i64))
 bel:Below w.heap.size w wr
theorem GathN.rd{W1 W2:World}{kv:Value}{ks:List Int}(h:GathN W1 W2 kv ks)(hk:∀k∈ks,-9223372036854775808≤k∧k≤9223372036854775807)(hl:ks.length≤17592186044416){S:Nat→Prop}(hS:∀b,S b→b<W1.heap.size):IntsRd S W2 kv ks:=by
 have hr:=h.row;obtain⟨p,c,rfl⟩:=oV hr;rcases hr.2 with⟨h1,h0⟩|⟨g,cap,cur,h1,h2,h3,h4,h5,h6,h7⟩
 ·injection h1 with e1 e2 e3
  subst e1 e3;refine⟨none,0,rfl,⟨aC,Nat.zero_le _⟩,fun j k hj=>?_⟩;have:=(List.getElem?_eq_some_iff.1 hj).1
  omega
 ·injection h1 with e1 e2 e3
  subst e1 e3;refine⟨_,_,rfl,⟨h4,h5⟩,fun j k hj=>⟨hk k (List.mem_of_getElem? hj),g,0,rfl,?_,lH h3,.inl (fun hs=>by have:=hS g hs;omega)⟩⟩;have hjl:=(List.getElem?_eq_some_iff.1 hj).1
  rw[Nat.zero_add,lF h3,←Array.getElem?_toList];have h8:(ks.map (Value.int .i64))[j]?=some (.int .i64 k):=bW
  rw[←h7,List.getElem?_take,if_pos aC]at h8;exact h8
theorem GathN.keepB{W1 W2 W3:World}{kv:Value}{ks:List Int}(h:GathN W1 W2 kv ks)(hb:Below W2.heap.size W2 W3):GathN W1 W3 kv ks:=⟨B6 h.row (fun b hv=>hb.block b (BG h.row hv).2.1),h.bel.trans (hb.mono h.bel.size)⟩
theorem GathN.none(W:World):GathN W W (.slice none 0 0) []:=⟨World.ownsRow_nil _ _ _ _,Below.refl _ _⟩
theorem Ck(b o j:Nat):(⟨b,o,none⟩:Addr).add j=⟨b,o+j,none⟩:=by
 unfold Addr.add;split
 ·rename_i e0;rw[e0];rfl
 ·rfl
theorem FZ{S:Nat→Prop}{w1 W:World}{g:Nat}(ty:TypeId)(hw:Below w1.heap.size w1 W)(hg:W.heap[g]?=some (.cells #[] 3 (0,0)))(hb:w1.heap.size≤g){kp:Option Addr}{KL kc:Nat}{ks:List Int}(hkl:ks.length=KL)(hk:IntsRd S W (.slice kp KL kc) ks)(hl:KL*8≤140737488355328):
  ∃v' W',(Builtin.append_ #[51,51] ty #[.slice (some ⟨g,0,none⟩) 0 0,.slice kp KL kc]).run Tryz.prog W=.ok v' W'∧GathN w1 W' v' ks:=by
 obtain⟨i0,hi,hz0,hz1,hz2⟩:=info_parts MH;have hown:W.ownsRow w1.heap.size 3 1 (.slice (some ⟨g,0,none⟩) 0 0) 0 []:=⟨rfl,.inr ⟨g,0,#[],rfl,hb,hg,Nat.le_refl _,Nat.zero_le _,rfl,rfl⟩⟩
 obtain⟨p,cap,he,⟨h1,h2⟩,h3⟩:=hk
 cases kp with
 |none=>
  have hks:ks=[]:=by
   cases ks with
   |nil=>rfl
   |cons k r=>
    obtain⟨-,b,off,h5,-⟩:=h3 0 k rfl;cases he;cases h5
  subst hks;obtain rfl:KL=0:=hkl.symm;exact⟨_,_,run_append_nothing W _ _ ty _ i0 Tryz.underlying51 hi _ 0 0 (Nat.le_refl _) _ (Src.ofNil W Tryz.underlying51 kc),⟨hown,hw⟩⟩
 |some ad=>
  have hnews:∀j u,(ks.map (Value.int .i64))[j]?=some u→W.cell? (ad.add j)=some u:=fun j u hj=>by
   rw[List.getElem?_map]at hj;obtain⟨k,hk1,rfl⟩:=Option.map_eq_some_iff.1 hj;obtain⟨-,b,off,h5,h6,-⟩:=h3 j k hk1;cases he;cases h5;rw[Ck];exact h6
  obtain⟨v',W',hr,ho,hgr,-⟩:=run_append_own (P:=Tryz.prog) W w1.heap.size 51 ty 3 i0 (.int .i64 0) 1 8 Tryz.underlying51 hi hz0 hz1 hz2 rfl aA _ 0 [] hown ad KL kc (ks.map (Value.int .i64)) (by rw[List.length_map,hkl,Nat.mul_one]) hnews
   (fun u hu=>by obtain⟨x,-,rfl⟩:=List.mem_map.1 hu;rfl) cT aC hw.size
  refine⟨v',W',hr,?_,hw.grown hgr hw.size (fun j hj=>by cases hj;exact hb)⟩;rw[Nat.zero_add,List.nil_append]at ho;rw[hkl];exact ho
section
variable {w w1 W2:World} {P:Nat→Prop} {a n:Nat} {m:DM} {kv:Value} {ks:List Int}
theorem MU(h:St w (fun _=>False) P a w1 n m)(hg:GathN w1 W2 kv ks)(hk:∀k∈ks,-9223372036854775808≤k∧k≤9223372036854775807)(hl:ks.length*8≤140737488355328)(z:Int)(hz:z≤9223372036854775807):
  Calls Tryz.prog 23 #[.pointer (some ⟨a,0,none⟩),.int .i64 z,.agg #[kv]] W2 fun e w'=>e=.returned (.tuple #[])∧St w (fun _=>False) P a w' n (m.arm z ks)∧SameP P w1 w':=by
 obtain⟨⟨S1,g1,g2⟩,g3,g4,g5⟩:=h;refine(Ir (g1.below hg.bel) z kv ks (hg.rd hk aC g1.lt) hl hz).mono fun e W' hp=>?_
 obtain⟨q1,q2⟩:=St.post (w1:=W2) g2 (fun k hk=>Nat.lt_of_lt_of_le (g3 k hk) hg.bel.size) (g4.below hg.bel g4.size) g5 hp.2;exact jT
theorem La(h:St w (fun _=>False) P a w1 n m)(hg:GathN w1 W2 kv ks)(hk:∀k∈ks,-9223372036854775808≤k∧k≤9223372036854775807)(hl:ks.length*8≤140737488355328)(hn:n≤4000000000):
  Calls Tryz.prog 26 #[.pointer (some ⟨a,0,none⟩),.agg #[kv]] W2 fun e w'=>e=.returned (.tuple #[])∧St w (fun _=>False) P a w' n (m.crash ks)∧SameP P w1 w':=by
 obtain⟨⟨S1,g1,g2⟩,g3,g4,g5⟩:=h;refine(CX (g1.below hg.bel) kv ks (hg.rd hk aC g1.lt) aC).mono fun e W' hp=>?_
 obtain⟨q1,q2⟩:=St.post (w1:=W2) g2 (fun k hk=>Nat.lt_of_lt_of_le (g3 k hk) hg.bel.size) (g4.below hg.bel g4.size) g5 hp.2;exact jT
theorem DB(h:St w (fun _=>False) P a w1 n m):
  Calls Tryz.prog 25 #[.pointer (some ⟨a,0,none⟩)] w1 fun e w'=>e=.returned (.tuple #[])∧St w (fun _=>False) P a w' n m.revive∧SameP P w1 w':=by
 obtain⟨⟨S1,h1,h2⟩,h3,h4,h5⟩:=h;refine(Gw h1).mono fun e w' hp=>?_
 exact⟨hp.1,St.post h2 h3 h4 h5 hp.2⟩
end
structure KeepG (b c f:Nat) (ds:List (List Nat)) (w5:World) (KL:Nat) (ks:List Int) (F:World→Prop) (L:Nat→Bool) (γ:Nat×Option Addr×Nat) (W:World):Prop where
 bel:L f=false→Below w5.heap.size w5 W
 blk:L b=true→L c=false→W.heap[γ.1]?=some (.cells #[] 3 (0,0))∧w5.heap.size≤γ.1
 row:L c=true→L f=false→GathN w5 W (.slice γ.2.1 KL γ.2.2) ks
 fin:L f=true→F W
 all:L f=true→∀j,j<f→L j=true
 cl:∀i,L i=true→∀j∈ds.getD i [],L j=true
section
variable {b c f:Nat} {ds:List (List Nat)} {w5 W W':World} {KL:Nat} {ks:List Int} {F:World→Prop} {L:Nat→Bool} {γ:Nat×Option Addr×Nat}
theorem KeepG.off(h:KeepG b c f ds w5 KL ks F L γ W){i:Nat}(hL:L i=false)(hi:i<f):L f=false:=by
 cases hx:L f with
 |false=>rfl
 |true=>rw[h.all hx i hi]at hL;cases hL
theorem EA(h:∀i,L i=true→∀j∈ds.getD i [],L j=true)(k:Nat)(hd:∀j∈ds.getD k [],L j=true):∀i,mQ L k i=true→∀j∈ds.getD i [],mQ L k j=true:=fun i hi j hj=>by
 by_cases e:i=k
 ·subst e;exact oR (hd j hj)
 ·exact oR (h i (mZ hi e) j hj)
theorem KeepG.start(w5:World)(F:World→Prop)(γ:Nat×Option Addr×Nat):KeepG b c f ds w5 KL ks F (fun _=>false) γ w5.drew:=
 ⟨fun _=>⟨rfl,rfl,rfl,Nat.le_refl _,fun _ _=>rfl⟩,fun h=>aK,fun h=>aK,fun h=>aK,fun h=>aK,fun _ h=>aK⟩
theorem KeepG.upd(h:KeepG b c f ds w5 KL ks F L γ W)(k:Nat)(h0:k≠b)(h1:k≠c)(h2:k≠f)(hd:∀j∈ds.getD k [],L j=true):KeepG b c f ds w5 KL ks F (mQ L k) γ W:=by
 have e0:mQ L k b=L b:=mB h0.symm;have e1:mQ L k c=L c:=mB h1.symm
 have e2:mQ L k f=L f:=mB h2.symm;exact⟨fun a=>h.bel (e2▸a),fun a g=>h.blk (e0▸a) (e1▸g),fun a g=>h.row (e1▸a) (e2▸g),fun a=>h.fin (e2▸a),fun a j hj=>oR (h.all (e2▸a) j hj),EA h.cl k hd⟩
theorem KeepG.made(h:KeepG b c f ds w5 KL ks F L γ W)(hbf:b<f)(hbc:b≠c)(hL:L b=false)(hc:L c=true→L b=true)(hd:∀j∈ds.getD b [],L j=true):KeepG b c f ds w5 KL ks F (mQ L b) (W.heap.size,γ.2) (W.alloc (.cells #[] 3)):=by
 have hf:=h.off hL hbf
 have hc0:L c=false:=by
  cases hx:L c with
  |false=>rfl
  |true=>rw[hc hx]at hL;cases hL
 have e1:mQ L b c=L c:=mB hbc.symm;have e2:mQ L b f=L f:=mB aC
 have hb:=h.bel hf;refine⟨fun _=>hb.alloc hb.size _,fun _ _=>⟨lP _ _,hb.size⟩,fun a=>?_,fun a=>?_,fun a=>?_,EA h.cl b hd⟩
 ·rw[e1,hc0]at a;cases a
 ·rw[e2,hf]at a;cases a
 ·rw[e2,hf]at a;cases a
theorem KeepG.copied(h:KeepG b c f ds w5 KL ks F L γ W)(hcf:c<f)(hL:L c=false)(hd:∀j∈ds.getD c [],L j=true){u:Option Addr}{q:Nat}(hg:GathN w5 W' (.slice u KL q) ks):KeepG b c f ds w5 KL ks F (mQ L c) (γ.1,u,q) W':=by
 have h7:=h.off hL hcf;have e2:mQ L c f=L f:=mB aC
 refine⟨fun _=>hg.bel,fun _ a=>?_,fun _ _=>hg,fun a=>?_,fun a=>?_,EA h.cl c hd⟩
 ·rw[nV]at a;cases a
 ·rw[e2,h7]at a;cases a
 ·rw[e2,h7]at a;cases a
theorem KeepG.done(h:KeepG b c f ds w5 KL ks F L γ W)(hcf:c<f)(hc:L c=true)(hd:∀j∈ds.getD f [],L j=true)(hall:∀j,j<f→L j=true)(hf:F W'):KeepG b c f ds w5 KL ks F (mQ L f) γ W':=by
 refine⟨fun a=>?_,fun _ a=>?_,fun _ a=>?_,fun _=>hf,fun _ j hj=>oR (hall j hj),EA h.cl f hd⟩
 ·rw[nV]at a;cases a
 ·rw[oR hc]at a;cases a
 ·rw[nV]at a;cases a
end
open Go.Maps
theorem F0(m:DM)(c:DCall):(m.act c).room=m.room:=by
 cases c<;>unfold DM.act<;>first|rfl|(dsimp only;split<;>rfl)
theorem tW(m:DM)(c:DCall):(m.op c).1.room=m.room:=by
 unfold DM.op;split
 ·rfl
 ·split
  ·rfl
  ·split
   ·show(if c.late then m.tick else m.tick.act c).room=m.room;split
    ·rfl
    ·exact F0 _ _
   ·exact F0 _ _
theorem tZ{p:DM×Int}{f:DM→DM×Int}{r:Nat}(hp:p.1.room=r)(hf:∀m:DM,m.room=r→(f m).1.room=r):(pE p f).1.room=r:=by
 unfold pE;split
 ·exact hf _ hp
 ·exact hp
theorem Cl(m:DM):(qF m).1.room=m.room:=tZ (tW _ _) (fun m' h=>(tW m' _).trans h)
theorem Jx(m:DM)(n:ByteArray):(xQ m n).1.room=m.room:=tZ (tW _ _) (fun m' h=>(tW m' _).trans h)
theorem Jy(m:DM)(n t:ByteArray):(qR m n t).1.room=m.room:=by
 refine tZ ?_ fun m1 h1=>tZ ((tW _ _).trans h1) fun m2 h2=>?_
 ·unfold qQ;split
  ·exact Cl m
  ·split<;>rfl
 ·have h3:(m2.op (.write handR t)).1.room=m.room:=(tW _ _).trans h2;unfold pU;split
  ·exact tZ ((tW _ _).trans h3) fun m3 h3=>tZ ((tW _ _).trans h3) fun m4 h4=>(tW _ _).trans h4
  ·split
   ·exact(Cl _).trans h3
   ·exact h3
theorem Hp{l:Tab}{k:Bs}{c:Nat}(hr:mF l):nF (oJ l k c) k=nF l k:=by
 refine BC (nY (nP hr)) (nY hr) fun j=>?_
 rw[pI (nP hr),oC hr,pI hr];split
 ·rfl
 ·rfl
theorem wH(l:Tab)(k:Bs)(c:Nat)(g:Bool):(vS l k c g).length≤l.length+1:=by
 unfold vS;split
 ·exact Nat.le_trans (uI _ _) (uJ _ _ _)
 ·exact uJ _ _ _
theorem uR{l:Tab}{k:Bs}{D:List UInt8}(g:Bool)(hl:∀x∈l,x.2=mR (rS x.2))(hD:D.length=32):∀x∈vS l k (mR D) g,x.2=mR (rS x.2):=by
 have h1:∀x∈oJ l k (mR D),x.2=mR (rS x.2):=fun x hx=>by
  rcases nZ.1 hx with rfl|⟨h,-⟩
  ·show mR D=mR (rS (mR D));rw[sX hD]
  ·exact hl x h
 intro x hx;unfold vS at hx;split at hx
 ·exact h1 x (oN.1 hx).1
 ·exact h1 x hx
def F1(m:DM)(u D:List UInt8)(del:Bool):DM×Int:=if del then xQ m (nR u)else qR m (nR u) (nA D)
theorem Jz(m:DM)(u D:List UInt8)(del:Bool):(F1 m u D del).1.room=m.room:=by
 unfold F1;split
 ·exact Jx _ _
 ·exact Jy _ _ _
theorem Mk{m:DM}{l:Tab}(h:Rst m l){u:Bs}(hu:nO u=some u){D:List UInt8}(hD:D.length=32)(hroom:71*l.length+71≤m.room)(del:Bool):
  ∃m',m'.room=m.room∧((F1 m u D del=(m',0)∧Rst m' (vS l u (mR D) del))∨(F1 m u D del=(m',10)∧Rst m' l∧del=true∧lS l u=none)∨
   (F1 m u D del=(m',27)∧1≤m.armed∧(Dwn m' l∨Dwn m' (vS l u (mR D) del))∧(del=true→(lS l u).isSome=true))):=by
 refine⟨(F1 m u D del).1,Jz _ _ _ _,?_⟩
 cases del with
 |false=>
  rcases Mi h hu hD hroom with⟨h1,h2,h3⟩|⟨h1,h2⟩
  ·exact .inr (.inr ⟨Prod.ext rfl h1,h2,h3,fun e=>aO⟩)
  ·exact .inl ⟨Prod.ext rfl h1,h2⟩
 |true=>
  have e:vS l u (mR D) true=nF l u:=Hp h.norm.rise;rw[e];rcases Mh h u with⟨h1,h2⟩|⟨h0,⟨h1,h2,h3⟩|⟨h1,h2⟩⟩
  ·refine .inr (.inl ⟨Prod.ext rfl (by show(xQ m (nR u)).2=10;rw[h2]),?_,rfl,h1⟩);show Rst (xQ m (nR u)).1 l
   rw[h2];exact h
  ·exact .inr (.inr ⟨Prod.ext rfl h1,h2,h3,fun _=>h0⟩)
  ·exact .inl ⟨Prod.ext rfl h1,h2⟩
theorem Dwn.arm0{m:DM}{l:Tab}(h:Dwn m l):Dwn (m.arm 0 []) l:=⟨h.off,rfl,h.pend,h.eq,h.norm⟩
def Bm(z rb:Nat)(Ks:List (Nat×Obj))(Ms:List (Nat×Tab))(b:Nat):Prop:=b<z∨b=rb∨(∃q∈Ks,q.1=b)∨∃q∈Ms,q.1=b
structure RsS (w:World) (z a rb:Nat) (Ks:List (Nat×Obj)) (Ms:List (Nat×Tab)) (W:World) (n:Nat) (m:DM):Prop where
 rf:Rf w (fun _=>False) (Bm z rb Ks Ms) rb a W n m
 box:∀q∈Ks,W.heap[q.1]?=some q.2
 led:∀q∈Ms,LedAt W q.1 q.2
section
variable {w:World} {z a rb:Nat} {Ks:List (Nat×Obj)} {Ms:List (Nat×Tab)} {W W2:World} {n n2:Nat} {m m2:DM}
theorem RsS.step(h:RsS w z a rb Ks Ms W n m)(hs:St w (fun _=>False) (Bm z rb Ks Ms) a W2 n2 m2)(hk:SameP (Bm z rb Ks Ms) W W2):RsS w z a rb Ks Ms W2 n2 m2:=
 ⟨h.rf.step hs hk,fun q hq=>(hk q.1 (.inr (.inr (.inl ⟨q,hq,rfl⟩)))).trans (h.box q hq),fun q hq=>(h.led q hq).keep (hk q.1 (.inr (.inr (.inr ⟨q,hq,rfl⟩))))⟩
theorem RsS.bel(h:RsS w z a rb Ks Ms W n m)(hb:Below W.heap.size W W2):RsS w z a rb Ks Ms W2 n m:=
 h.step (h.rf.bel hb).st (h.rf.st.same hb)
theorem RsS.more(h:RsS w z a rb Ks Ms W n m)(hn:n≤n2):RsS w z a rb Ks Ms W n2 m:=⟨⟨h.rf.st.more hn,h.rf.box,h.rf.pb⟩,h.box,h.led⟩
theorem RsS.swap{rb2:Nat}{Q:Nat→Prop}{Ks2:List (Nat×Obj)}{Ms2:List (Nat×Tab)}(h:Rf w (fun _=>False) Q rb2 a W n m)(hQ:∀b,Bm z rb2 Ks2 Ms2 b→Q b)(hk:∀q∈Ks2,W.heap[q.1]?=some q.2)(hm:∀q∈Ms2,LedAt W q.1 q.2):RsS w z a rb2 Ks2 Ms2 W n m:=
 ⟨⟨h.st.sub _ hQ,h.box,.inr (.inl rfl)⟩,hk,hm⟩
theorem RsS.sub{Ks2:List (Nat×Obj)}{Ms2:List (Nat×Tab)}(h:RsS w z a rb Ks Ms W n m)(hk:∀q∈Ks2,q∈Ks)(hm:∀q∈Ms2,q∈Ms):RsS w z a rb Ks2 Ms2 W n m:=
 RsS.swap h.rf (fun b hb=>by
  rcases hb with h1|h1|⟨q,h1,h2⟩|⟨q,h1,h2⟩
  ·exact .inl h1
  ·exact .inr (.inl h1)
  ·exact .inr (.inr (.inl ⟨q,hk q h1,h2⟩))
  ·exact .inr (.inr (.inr ⟨q,hm q h1,h2⟩))) (fun q hq=>h.box q (hk q hq)) (fun q hq=>h.led q (hm q hq))
theorem RsS.addK(h:RsS w z a rb Ks Ms W n m)(hb:Below W.heap.size W W2){k:Nat}{o:Obj}(hk:W.heap.size≤k)(ho:W2.heap[k]?=some o):RsS w z a rb ((k,o)::Ks) Ms W2 n m:=by
 have h2:=h.bel hb;have hr:Rf w (fun _=>False) (fun b=>Bm z rb Ks Ms b∨b=k) rb a W2 n m:=h.rf.more hb _ (fun b hb=>.inl hb) (fun b hb2=>hb2.elim .inl (fun e=>.inr ⟨aC,by rw[e];exact lH ho⟩))
 refine RsS.swap hr (fun b hb=>?_) (fun q hq=>?_) h2.led
 ·rcases hb with h1|h1|⟨q,h1,h2⟩|⟨q,h1,h2⟩
  ·exact .inl (.inl h1)
  ·exact .inl (.inr (.inl h1))
  ·rcases List.mem_cons.1 h1 with rfl|h1
   ·exact .inr h2.symm
   ·exact .inl (.inr (.inr (.inl ⟨q,h1,h2⟩)))
  ·exact .inl (.inr (.inr (.inr ⟨q,h1,h2⟩)))
 ·rcases List.mem_cons.1 hq with rfl|hq
  ·exact ho
  ·exact h2.box q hq
theorem RsS.addM(h:RsS w z a rb Ks Ms W n m)(hb:Below W.heap.size W W2){k:Nat}{t:Tab}(hk:W.heap.size≤k)(ho:LedAt W2 k t):RsS w z a rb Ks ((k,t)::Ms) W2 n m:=by
 have h2:=h.bel hb;have hr:Rf w (fun _=>False) (fun b=>Bm z rb Ks Ms b∨b=k) rb a W2 n m:=h.rf.more hb _ (fun b hb=>.inl hb) (fun b hb2=>hb2.elim .inl (fun e=>.inr ⟨aC,by rw[e];exact ho.lt⟩))
 refine RsS.swap hr (fun b hb=>?_) h2.box (fun q hq=>?_)
 ·rcases hb with h1|h1|⟨q,h1,h2⟩|⟨q,h1,h2⟩
  ·exact .inl (.inl h1)
  ·exact .inl (.inr (.inl h1))
  ·exact .inl (.inr (.inr (.inl ⟨q,h1,h2⟩)))
  ·rcases List.mem_cons.1 h1 with rfl|h1
   ·exact .inr h2.symm
   ·exact .inl (.inr (.inr (.inr ⟨q,h1,h2⟩)))
 ·rcases List.mem_cons.1 hq with rfl|hq
  ·exact ho
  ·exact h2.led q hq
theorem RsS.reopen(h:RsS w z a rb Ks Ms W n m){rb2:Nat}(hk:SameP (Bm z rb Ks Ms) W W2)(hr:Rf w (fun _=>False) (fun b=>Bm z rb Ks Ms b∨b=rb2) rb2 a W2 n2 m2):RsS w z a rb2 Ks Ms W2 n2 m2:=
 RsS.swap hr (fun b hb=>by
  rcases hb with h1|h1|h1|h1
  ·exact .inl (.inl h1)
  ·exact .inr h1
  ·exact .inl (.inr (.inr (.inl h1)))
  ·exact .inl (.inr (.inr (.inr h1)))) (fun q hq=>(hk q.1 (.inr (.inr (.inl ⟨q,hq,rfl⟩)))).trans (h.box q hq)) (fun q hq=>(h.led q hq).keep (hk q.1 (.inr (.inr (.inr ⟨q,hq,rfl⟩)))))
theorem RsS.toB(h:RsS w z a rb Ks Ms W n m):Below w.heap.size w W:=h.rf.st.toB
theorem RsS.holds{l T:Tab}{q:Nat}(h:RsS w z a rb Ks Ms W n m)(hr:Rst m l)(ha:m.armed=0)(hn:n≤1000000000)(hl:l.length≤100000)(hq:(q,T)∈Ms)(hT:T.length≤100000)(hc:∀x∈T,x.2=mR (rS x.2)):
  Calls Tryz.prog 18 #[.pointer (some ⟨rb,0,none⟩),.map (some q)] W fun e w'=>e=.returned (.bool (decide (l=T)))∧Below W.heap.size W w':=by
 have ho:=hr.only ha;refine AO h.rf hn (fun x hx=>?_) ho.named aC q (h.led _ hq) aC hc;rw[ho.lists]at hx;obtain⟨y,hy,rfl⟩:=List.mem_map.1 hx;rw[pY];have:=ho.named.key y hy
 omega
theorem RsS.arm{kv:Value}{ks:List Int}(h:RsS w z a rb Ks Ms W n m)(hg:GathN W W2 kv ks)(hk:∀k∈ks,-9223372036854775808≤k∧k≤9223372036854775807)(hl:ks.length*8≤140737488355328)(x:Int)(hx:x≤9223372036854775807):
  Calls Tryz.prog 23 #[.pointer (some ⟨a,0,none⟩),.int .i64 x,.agg #[kv]] W2 fun e w'=>e=.returned (.tuple #[])∧RsS w z a rb Ks Ms w' n (m.arm x ks):=
 (MU h.rf.st hg hk hl x hx).mono fun _ _ hp=>⟨hp.1,h.step hp.2.1 hp.2.2⟩
theorem RsS.arm0(h:RsS w z a rb Ks Ms W n m):Calls Tryz.prog 23 #[.pointer (some ⟨a,0,none⟩),.int .i64 0,.agg #[.slice none 0 0]] W fun e w'=>e=.returned (.tuple #[])∧RsS w z a rb Ks Ms w' n (m.arm 0 []):=
 h.arm (GathN.none W) (fun _ h=>aK) aA 0 aA
theorem RsS.crash{kv:Value}{ks:List Int}(h:RsS w z a rb Ks Ms W n m)(hg:GathN W W2 kv ks)(hk:∀k∈ks,-9223372036854775808≤k∧k≤9223372036854775807)(hl:ks.length*8≤140737488355328)(hn:n≤4000000000):
  Calls Tryz.prog 26 #[.pointer (some ⟨a,0,none⟩),.agg #[kv]] W2 fun e w'=>e=.returned (.tuple #[])∧RsS w z a rb Ks Ms w' n (m.crash ks):=
 (La h.rf.st hg hk hl hn).mono fun _ _ hp=>⟨hp.1,h.step hp.2.1 hp.2.2⟩
theorem RsS.revive(h:RsS w z a rb Ks Ms W n m):Calls Tryz.prog 25 #[.pointer (some ⟨a,0,none⟩)] W fun e w'=>e=.returned (.tuple #[])∧RsS w z a rb Ks Ms w' n m.revive:=
 (DB h.rf.st).mono fun _ _ hp=>⟨hp.1,h.step hp.2.1 hp.2.2⟩
theorem RsS.open{l:Tab}(h:RsS w z a rb Ks Ms W n m.revive)(hd:Dwn m l)(hn:n≤1000000000):
  Calls Tryz.prog 13 #[.pointer (some ⟨a,0,none⟩)] W fun e w'=>∃rb2,e=.returned (.tuple #[.pointer (some ⟨rb2,0,none⟩),.nilIface])∧RsS w z a rb2 Ks Ms w' (n+2) (mX m.revive).1:=by
 obtain⟨h1,-,-,-,h5,h6⟩:=Ap hd;refine(wF h.rf.st hn h6).mono ?_;rintro e w' ⟨v,rfl,hv,hk⟩;rcases hv with⟨-,rb2,rfl,-,hr⟩|⟨hne,-⟩
 ·exact⟨rb2,rfl,(h.reopen hk hr).more aC⟩
 ·exact absurd h1 hne
theorem RsS.set(h:RsS w z a rb Ks Ms W n m)(hn:n+7≤4000000000)(s:ByteArray)(hs:(s.size:Int)≤140737488355328){D u:List UInt8}(hD:D.length=32)(hu:nO s.data.toList=some u){m':DM}{x:Int}(he:F1 m u D false=(m',x)):
  Calls Tryz.prog 15 #[.pointer (some ⟨rb,0,none⟩),.string s,.agg (D.map lG).toArray] W fun e w'=>∃t,e=.returned (nT t x)∧RsS w z a rb Ks Ms w' (n+7) m':=by
 refine(Ag h.rf hn s hs D hD).mono ?_;rintro e w' ⟨⟨t,rfl⟩,h2,h3⟩;have h4:tX m s.data.toList D=(m',x):=by unfold tX;rw[hu];exact he
 rw[h4]at h2⊢;exact⟨t,rfl,h.step h2 h3⟩
theorem RsS.del(h:RsS w z a rb Ks Ms W n m)(hn:n+2≤4000000000)(s:ByteArray)(hs:(s.size:Int)≤140737488355328){D u:List UInt8}(hu:nO s.data.toList=some u){m':DM}{x:Int}(he:F1 m u D true=(m',x)):
  Calls Tryz.prog 24 #[.pointer (some ⟨rb,0,none⟩),.string s] W fun e w'=>∃t,e=.returned (nT t x)∧RsS w z a rb Ks Ms w' (n+7) m':=by
 refine(EI h.rf hn s hs).mono ?_;rintro e w' ⟨⟨t,rfl⟩,h2,h3⟩;have h4:uU m s.data.toList=(m',x):=by unfold uU;rw[hu];exact he
 rw[h4]at h2⊢;exact⟨t,rfl,(h.step h2 h3).more aC⟩
end
def MV(m:ActR)(kv:Value):Obj:=.cells (m.cells kv).toArray 59 (0,0)
theorem JA{W:World}{ab:Nat}{m:ActR}{kv:Value}(h:W.heap[ab]?=some (MV m kv))(hd:m.dig.length=32):
  W.cell? ⟨ab,0,none⟩=some (.string m.name)∧W.cell? ⟨ab,33,none⟩=some (.bool m.del)∧W.cell? ⟨ab,34,none⟩=some (.int .i64 m.num)∧W.cell? ⟨ab,35,none⟩=some kv∧W.rangeAt ab 1 (m.dig.map lG):=by
 have hc:∀j,W.cell? ⟨ab,j,none⟩=(m.cells kv)[j]?:=fun j=>by rw[lF h,List.getElem?_toArray]
 refine⟨by rw[hc];rfl,by rw[hc];exact ActR.c33 hd,by rw[hc];exact ActR.c34 hd,by rw[hc];exact ActR.c35 hd,fun j v hv=>?_⟩
 have hj:j<32:=by
  have:=(List.getElem?_eq_some_iff.1 hv).1;rw[List.length_map,hd]at this;exact this
 rw[hc,ActR.cd hd hj,hv]
theorem Hq(w:World):(Instr.buildSlice 51 0 #[]).run Tryz.prog w=.ok (.slice (some ⟨w.heap.size,0,none⟩) 0 0) (w.alloc (.cells #[] 3)):=by
 obtain⟨i0,hi,hz0,hz1,hz2⟩:=info_parts MH;have e:Array.range 0=#[]:=by simp[Array.range]
 simp[Instr.buildSlice,run_underlying Tryz.underlying51,sizeOf,typeInfo,hi,Instr.fill,newRow,e]
theorem Bn{ev:Operand→Value}{o:Oper}(w:World)(ho:o.op=.buildSlice 51 0 #[]):(execOp ev o).run Tryz.prog w=.ok (.value (.slice (some ⟨w.heap.size,0,none⟩) 0 0)) (w.alloc (.cells #[] 3)):=by
 unfold execOp;have h:=Hq w
 simp only[ho,Array.map_empty,Sem.run_bind,Sem.run_pure,h,Result.andThen_ok]
theorem CH{ops:Array Oper}{rest:List Oper}{o:Oper}{a:Act}{Q:Exit→Act→World→Prop}{w:World}(hgd:o.guard=none)(ho:o.op=.buildSlice 51 0 #[])
  (hK:wpList Tryz.prog ops Q rest (a.put o.dst (.slice (some ⟨w.heap.size,0,none⟩) 0 0)) (w.alloc (.cells #[] 3))):wpList Tryz.prog ops Q (o::rest) a w:=by
 refine wpList_plain hgd fun K hKK=>?_
 unfold Oper.wp;rw[Bn w ho];exact hKK _ _ hK
theorem JB{ev:Operand→Value}{o:Oper}{s x:Operand}{t:TypeId}{w w':World}{v u v':Value}(ho:o.op=.call {callee:=.builtin .append,args:=#[s,x],argTypes:=#[t,t]})(hs:ev s=v)(hx:ev x=u)
  (hr:(Builtin.append_ #[t,t] o.type #[v,u]).run Tryz.prog w=.ok v' w'):(execOp ev o).run Tryz.prog w=.ok (.value v') w':=by
 unfold execOp;simp only[ho,resolve,invoke,builtin,Sem.run_bind,Sem.run_pure,Result.andThen_ok,List.map_toArray,List.map_cons,List.map_nil,hs,hx,hr]
theorem Bw{ops:Array Oper}{rest:List Oper}{o:Oper}{a:Act}{Q:Exit→Act→World→Prop}{W:World}(hgd:o.guard=none)(s x:Operand)
  (ho:o.op=.call {callee:=.builtin .append,args:=#[s,x],argTypes:=#[51,51]})
  {S:Nat→Prop} (w1:World) (g:Nat) (hw:Below w1.heap.size w1 W) (hg:W.heap[g]?=some (.cells #[] 3 (0,0))) (hb:w1.heap.size≤g) {kp:Option Addr} {KL kc:Nat} {ks:List Int} (hkl:ks.length=KL)
  (hk:IntsRd S W (.slice kp KL kc) ks) (hl:KL*8≤140737488355328) (hs:a.eval s=.slice (some ⟨g,0,none⟩) 0 0) (hx:a.eval x=.slice kp KL kc)
  (hK:∀(p:Option Addr) (c:Nat) (W':World),GathN w1 W' (.slice p KL c) ks→wpList Tryz.prog ops Q rest (a.put o.dst (.slice p KL c)) W'):wpList Tryz.prog ops Q (o::rest) a W:=by
 refine wpList_plain hgd fun K hKK=>?_
 obtain⟨v',W',hr,h2⟩:=FZ o.type hw hg hb hkl hk hl;obtain⟨p,c,hv⟩:=oV h2.row;rw[hkl]at hv;subst hv;unfold Oper.wp execOp;simp only[ho,resolve,invoke,builtin,Sem.run_bind,Sem.run_pure,Result.andThen_ok,List.map_toArray,List.map_cons,List.map_nil,hs,hx,hr];exact hKK _ _ (hK p c W' h2)
theorem JC(w:World)(hG:ErrT w)(p:Option Addr)(cap:Nat)(l:List ActR)(hv:Ky w (.slice p l.length cap) l)(hl:l.length≤8800000000000)(hs:∀a∈l,a.Fits)
  (ep:Option Addr) (ec:Nat) (es:List Int) (hi:IntsIn w (.slice ep es.length ec) es) (he:es.length*8≤140737488351232):
  Calls Tryz.prog 6 #[.slice p l.length cap,.slice ep es.length ec] w fun e w'=>e=.returned (.bool true)∧Below w.heap.size w w':=by
 have HG:=hZ hG;have HFEW:=hZ (L3 w p cap l hv hl hs)
 have HV:=hZ hv;have HSZ:=hZ hs
 have HEI:=hZ hi;have HEB:=hZ hi.bounds
 have HEL:=hZ he
 obtain⟨L,hL⟩:∃L,l.length=L:=⟨_,rfl⟩
 obtain⟨E,hE⟩:∃E,es.length=E:=⟨_,rfl⟩
 rw[hL]at HV HFEW hl⊢;rw[hE]at HEI he⊢;have HL:=hZ hL
 have HE:=hZ hE;have hli:(L:Int)≤8800000000000:=aC
 have hei:(E:Int)≤17592186043904:=aC;have hU:=nD
 have hUA:=Tryz.underlying59;have hmm:=@run_makeMap Tryz.prog
 clear hG hv hs hi hL hE he;go_enter Tryz.func6,Tryz.ntmps6;go_wp2_with fail;refine HFEW.out.mono ?_;rintro e w0 ⟨bf,rfl,hbf,hb0⟩;have HB0:=hZ hb0
 cases bf with
 |false=>
  go_wp2_with fail;go_ret;exact⟨rfl,HB0.out⟩
 |true=>
  have hL100:(L:Int)≤100:=by have:=hbf rfl;omega
  clear hbf hb0 HFEW;by_cases hend:4096<(E:Int)
  ·go_wp2_with fail;go_ret;exact⟨rfl,HB0.out⟩
  have hend2:(E:Int)≤4096:=aC;clear hend;go_wp2_with fail;refine(Hn w w0 HB0.out 1048576 aA aA).mono ?_;rintro e w1 ⟨a,rfl,hst,hb1⟩;have HST:=hZ hst
  clear hst hb1;go_wp2_with fail;refine(wF HST.out aA (fun s hs=>by cases hs)).mono ?_;rintro e w2 ⟨v,rfl,h,hk⟩;rw[show mX (DM.new 1048576)=(DM.new 1048576,0)from rfl]at h;rcases h with⟨-,rb,rfl,hsb,hrf⟩|⟨hne,-⟩
  case inr=>exact absurd rfl hne
  have HR2:=hZ hrf;have HGW:=hZ (show ErrT w2 from HG.out.below hrf.st.toB HG.out.2)
  obtain⟨z,hz⟩:∃z,w0.heap.size=z:=⟨_,rfl⟩
  rw[hz]at HR2;have HZ:Hid (w.heap.size≤z):=hZ (by rw[←hz];exact HB0.out.size)
  clear hk hsb hrf HST hz;have hwk:=tD w2 HGW.out
  go_wp2_with fail;refine hwk.mono ?_;rintro e w3 ⟨rfl,hb3⟩
  have HS3:Hid (RsS w z a rb [] [] w3 1 (DM.new 1048576)):=hZ (RsS.swap (HR2.out.bel hb3) (fun b hb=>by
   rcases hb with h1|h1|⟨q,h1,h2⟩|⟨q,h1,h2⟩
   ·exact .inl h1
   ·exact .inr h1
   ·cases h1
   ·cases h1) (fun q hq=>by cases hq) (fun q hq=>by cases hq))
  clear hb3 hwk HR2 HGW;go_wp2_with fail
  obtain⟨q0,hq0⟩:∃q,w3.heap.size=q:=⟨_,rfl⟩
  obtain⟨W4,hW4⟩:∃W,w3.alloc (.map #[] 0)=W:=⟨_,rfl⟩
  have HS4:Hid (RsS w z a rb [] [(q0,[])] W4 1 (DM.new 1048576)):=hZ (HS3.out.addM bB aC (by rw[←hq0,←hW4];exact World.ownsMap_made w3 _ _ _));have HR4:=hZ (Mj 1048576)
  have HA4:Hid ((DM.new 1048576).armed=0∧(DM.new 1048576).room=1048576):=hZ ⟨rfl,rfl⟩
  obtain⟨m0,hm0⟩:∃m,DM.new 1048576=m:=⟨_,rfl⟩
  rw[hm0]at HS4 HR4 HA4;rw[hW4,hq0];clear hm0 hW4 hq0 HS3;go_loopw [6,8,9] (fun rv mv iv wr=>∃(i q rb:Nat),(i:Int)≤L∧iv=.int .i64 i∧mv=.map (some q)∧rv=.pointer (some ⟨rb,0,none⟩)∧Hid (∃n m l,RsS w z a rb [] [(q,l)] wr n m∧Rst m l∧(m.armed=0∧m.room=1048576)∧n≤1+10*i∧l.length≤i)) (fun _ _ iv _=>L-(intOf iv).toNat)
  case atStart=>exact⟨0,q0,rb,aC,rfl,rfl,rfl,hZ ⟨1,m0,[],HS4.out,HR4.out,HA4.out,aA,aA⟩⟩
  case round=>
   obtain⟨i,q,rb,hiL,rfl,rfl,rfl,HRel⟩:=hrel;clear HS4 HR4 HA4;obtain⟨n,m,t,hp,hrst,hArm,hnn,htl⟩:=HRel.out;clear HRel;by_cases hlt:(i:Int)<L
   ·obtain⟨act,ha⟩:∃act,l[i]?=some act:=⟨_,List.getElem?_eq_getElem (i:=i) jU⟩
    obtain⟨p',c',he,hvv⟩:=HV.out;obtain⟨vb,vo,kv,hvp,hvl,hvc,hvk⟩:=hvv i act ha;obtain⟨hDL,⟨hn1,hn2⟩,hnm,hkp⟩:=HSZ.out act (List.mem_of_getElem? ha);have hpe:p=some ⟨vb,vo,none⟩:=dN
    subst hpe;have HKI:=hZ hvk
    have HKB:=hZ hvk.bounds;obtain⟨kp,kc,rfl,-,-⟩:=hvk
    have hrg:wr.rangeAt vb (vo+i*36) (act.cells (.slice kp act.keep.length kc)):=fun j v hj=>by
     have hj2:j<36:=by
      have:=(List.getElem?_eq_some_iff.1 hj).1;rw[ActR.len hDL]at this;exact this
     rw[Nat.add_assoc];exact((hp.toB.cell (p:=⟨vb,vo+(i*36+j),none⟩) hvl).trans (hvc j hj2)).trans hj
    have HRG:=hZ hrg;have hIA:(Tryz.prog.info? 59).map (·.size)=some (act.cells (.slice kp act.keep.length kc)).length:=Fg hDL
    have hIA2:(Tryz.prog.info? 59).map (·.size)=some (act.cells (.slice kp act.keep.length kc)).toArray.size:=I6 hDL;have hzA:(36:Nat)=(act.cells (.slice kp act.keep.length kc)).toArray.size:=by rw[List.size_toArray,ActR.len hDL]
    have hoA:(act.cells (.slice kp act.keep.length kc)).toArray.all (·.oneCell')=true:=ActR.one rfl;have HAC:Hid (∀(W:World) (ab:Nat),W.heap[ab]?=some (MV act (.slice kp act.keep.length kc))→W.cell? ⟨ab,0,none⟩=some (.string act.name)∧W.cell? ⟨ab,33,none⟩=some (.bool act.del)∧W.cell? ⟨ab,34,none⟩=some (.int .i64 act.num)∧W.cell? ⟨ab,35,none⟩=some (.slice kp act.keep.length kc)∧W.rangeAt ab 1 (act.dig.map lG)):=hZ (fun W ab h=>JA h hDL)
    obtain⟨ac,hac⟩:∃ac,act.cells (.slice kp act.keep.length kc)=ac:=⟨_,rfl⟩
    obtain⟨ao,hao⟩:∃ao,MV act (.slice kp act.keep.length kc)=ao:=⟨_,rfl⟩
    have HAO:Hid (ao=.cells ac.toArray 59 (0,0)):=hZ (by rw[←hao,←hac];rfl);rw[hac]at HRG hIA hIA2 hzA hoA;have HIA:=hZ hIA
    have HIA2:=hZ hIA2;have HZA:=hZ hzA
    have HOA:=hZ hoA;clear hIA hIA2 hzA hoA;rw[hao]at HAC
    obtain⟨KL,hKL⟩:∃KL,act.keep.length=KL:=⟨_,rfl⟩
    have HKL:=hZ hKL;rw[hKL]at HKI HAC hkp
    obtain⟨nm,hnm2⟩:∃x,act.name=x:=⟨_,rfl⟩
    obtain⟨D,hD2⟩:∃x,act.dig=x:=⟨_,rfl⟩
    obtain⟨del,hdel⟩:∃x,act.del=x:=⟨_,rfl⟩
    obtain⟨num,hnum⟩:∃x,act.num=x:=⟨_,rfl⟩
    obtain⟨ks,hks⟩:∃x,act.keep=x:=⟨_,rfl⟩
    rw[hnm2]at HAC hnm;rw[hD2]at HAC hDL;rw[hdel]at HAC;rw[hnum]at HAC hn1 hn2;rw[hks]at HKI HKB HKL;have HDL:=hZ hDL
    have hI:=oM HDL.out;have hI2:=lX HDL.out
    have hd1:=nW D;have hdz:=nE HDL.out
    have hnmi:(nm.size:Int)≤140737488351232:=aC;have HKP:=hZ hkp
    have HP:=hZ hp;have HM:=hZ hrst
    have HAR:=hZ hArm;have HLE:Hid (n≤1+10*i∧t.length≤i):=hZ ⟨hnn,htl⟩
    have hfu:=fun W:World=>rZ nm aC W
    unfold vG lV at hfu;have hff:=fun u h=>pD (s:=nm.data.toList) (u:=u) h
    clear hp hrst hArm hnn htl ha he hvv hvp hvl hvc hrg hac hao hKL hnm2 hD2 hdel hnum hks hDL hnm hkp;go_wp2_with (first|refine wpList_load_mid rfl _ _ rfl vb (vo+i*36) rfl ac _ HRG.out hUA rfl HIA.out ?_|(refine lO rfl _ _ _ rfl _ ac.toArray _ rfl rfl rfl HIA2.out HZA.out HOA.out ?_;(obtain⟨W4,hW4⟩:∃W,wr.alloc (.cells ac.toArray 59)=W:=⟨_,rfl⟩;obtain⟨ab,hab⟩:∃ab,wr.heap.size=ab:=⟨_,rfl⟩;have HS4:Hid (RsS w z a rb [(ab,ao)] [(q,t)] W4 n m):=hZ (HP.out.addK bB aC (by rw[←hW4,←hab,HAO.out];exact lP _ _));obtain⟨a0,-⟩:=HAC.out W4 ab (HS4.out.box _ (List.mem_singleton_self _));rw[hW4,hab];clear hW4 hab)))
    cases hf:nO nm.data.toList with
    |none=>
     rw[hf]at hfu;have hfu2:∀W:World,Calls Tryz.prog 9 #[.string nm] W fun e w'=>e=.returned (.tuple #[.string ⟨#[]⟩,.iface 132 (.agg #[.string rY,.iface 71 (.int .i64 31)])])∧Below W.heap.size W w':=hfu
     clear hfu hf hff;refine(hfu2 _).mono ?_;rintro e w5 ⟨rfl,hb5⟩;have HS5:=hZ (HS4.out.bel hb5)
     clear hb5 HS4;go_wp2_with fail;exact⟨⟨i+1,q,rb,aC,aG,rfl,rfl,hZ ⟨n,m,t,HS5.out.sub (fun q hq=>by cases hq) (fun q hq=>hq),HM.out,HAR.out,cQ,cQ⟩⟩,cN⟩
    |some u=>
     rw[hf]at hfu;obtain⟨huu,hul,-⟩:=hff u hf;have HF:=hZ hf
     have hfu2:∀W:World,Calls Tryz.prog 9 #[.string nm] W fun e w'=>e=.returned (.tuple #[.string ⟨u.toArray⟩,.nilIface])∧Below W.heap.size W w':=hfu
     have HKD:Hid ((⟨u.toArray⟩:ByteArray).data.toList=u∧(⟨u.toArray⟩:ByteArray).size≤maxLen):=hZ ⟨rfl,by show u.length≤maxLen;unfold maxLen;omega⟩
     obtain⟨U,hUU⟩:∃x:ByteArray,(⟨u.toArray⟩:ByteArray)=x:=⟨_,rfl⟩
     rw[hUU]at hfu2 HKD;have HOUT:=hZ (Mk (HM.out.arm num ks) huu HDL.out (by show _≤m.room;have:=HAR.out.2;have:=HLE.out;omega) del)
     clear hfu hf hff huu hul hUU
     try clear a0
     refine(hfu2 _).mono ?_;rintro e w5 ⟨rfl,hb5⟩;have HS5:=hZ (HS4.out.bel hb5)
     obtain⟨a0,a33,a34,a35,-⟩:=HAC.out w5 ab (HS5.out.box _ (List.mem_singleton_self _));clear hb5 HS4 a0 a33 hfu2;go_wp2_with fail;have hI0:KeepG 3 6 8 [[],[],[1],[],[],[4],[3,5],[6],[0,2,7,6]] w5 KL ks (fun W=>RsS w z a rb [(ab,ao)] [(q,t)] W n (m.arm num ks)) (fun _=>false) (0,none,0) w5.drew:=KeepG.start _ _ _
     refine lQ (fun γ:Nat×Option Addr×Nat=>[.pointer (some ⟨a,0,none⟩),.pointer (some ⟨ab,34,none⟩),.int .i64 num,.slice (some ⟨γ.1,0,none⟩) 0 0,.pointer (some ⟨ab,35,none⟩),.slice kp KL kc,.slice γ.2.1 KL γ.2.2,.agg #[.slice γ.2.1 KL γ.2.2],.tuple #[]]) (KeepG 3 6 8 [[],[],[1],[],[],[4],[3,5],[6],[0,2,7,6]] w5 KL ks (fun W=>RsS w z a rb [(ab,ao)] [(q,t)] W n (m.arm num ks)))
      [[],[],[1],[],[],[4],[3,5],[6],[0,2,7,6]] 163 (0,none,0) mC rfl aE (fun _=>rfl) hI0 ?_ ?_
     ·refine⟨?_,?_,?_,?_,?_,?_,?_,?_,?_,rfl⟩
      all_goals intro L' γ w0 ev hL' hd hW hc hf hg he h0
      ·have e5:ev (.tmp 5)=.pointer (some ⟨a,0,none⟩):=h0 5 rfl;clear he h0 hc hf hg;exact flS rfl aD (hW.upd 0 aA aA aA hd) rfl
      ·have e10:ev (.tmp 10)=.pointer (some ⟨ab,0,none⟩):=h0 10 rfl;clear he h0 hc hf hg;exact flS rfl aD (hW.upd 1 aA aA aA hd) rfl
      ·have e60:ev (.tmp 60)=.pointer (some ⟨ab,34,none⟩):=he 1 aA _ 60 rfl rfl;have cc:w0.cell? ⟨ab,34,none⟩=some (.int .i64 num):=((hW.bel (hW.off hL' aA)).cell (p:=⟨ab,34,none⟩) (lH (HS5.out.box _ (List.mem_singleton_self _)))).trans a34
       clear he h0 hc hf hg;exact flS rfl aD (hW.upd 2 aA aA aA hd) rfl
      ·clear he h0 hc hf hg;refine .inl ⟨rfl,.inl ⟨_,w0.alloc (.cells #[] 3),Bn w0 rfl,(w0.heap.size,γ.2),hW.made aA aA hL' (fun h=>hW.cl 6 h 3 aA) hd,rfl,fun j hj=>?_⟩⟩;have hj2:j≠3:=fun e=>by subst e;rw[hL']at hj;cases hj
       match j,hj2 with
       |0,_|1,_|2,_|4,_|5,_|6,_|7,_|8,_=>rfl
       |3,h=>exact absurd rfl h
       |n+9,_=>rfl
      ·have e10:ev (.tmp 10)=.pointer (some ⟨ab,0,none⟩):=h0 10 rfl;clear he h0 hc hf hg;exact flS rfl aD (hW.upd 4 aA aA aA hd) rfl
      ·have e63:ev (.tmp 63)=.pointer (some ⟨ab,35,none⟩):=he 4 aA _ 63 rfl rfl;have cc:w0.cell? ⟨ab,35,none⟩=some (.slice kp KL kc):=((hW.bel (hW.off hL' aA)).cell (p:=⟨ab,35,none⟩) (lH (HS5.out.box _ (List.mem_singleton_self _)))).trans a35
       clear he h0 hc hf hg;exact flS rfl aD (hW.upd 5 aA aA aA hd) rfl
      ·have e62:ev (.tmp 62)=.slice (some ⟨γ.1,0,none⟩) 0 0:=he 3 aA _ 62 rfl rfl;have e64:ev (.tmp 64)=.slice kp KL kc:=he 5 aA _ 64 rfl rfl
       clear he h0 hc hf hg;have hb:=hW.bel (hW.off hL' aA)
       have hnw:=hW.blk (hd 3 aA) hL';have hki:IntsRd (fun _=>False) w0 (.slice kp KL kc) ks:=HKI.out.rd (HS5.out.toB.trans (hb.mono HS5.out.toB.size)) (fun _ h=>h.elim)
       obtain⟨v',W',hr,hgn⟩:=FZ _ hb hnw.1 hnw.2 HKL.out hki (by have:=HKP.out;omega);obtain⟨up,uc,hu⟩:=oV hgn.row;rw[HKL.out]at hu;subst hu;refine .inl ⟨rfl,.inl ⟨_,W',JB (s:=.tmp 62) (x:=.tmp 64) rfl e62 e64 hr,(γ.1,up,uc),hW.copied aA hL' hd hgn,rfl,fun j hj=>?_⟩⟩;have hj2:j≠6∧j≠7:=⟨fun e=>(by subst e;rw[hL']at hj;cases hj),fun e=>(by subst e;have:=hW.cl 7 hj 6 aA;rw[hL']at this;cases this)⟩
       match j,hj2 with
       |0,_|1,_|2,_|3,_|4,_|5,_|8,_=>rfl
       |6,h=>exact absurd rfl h.1
       |7,h=>exact absurd rfl h.2
       |n+9,_=>rfl
      ·have e65:ev (.tmp 65)=.slice γ.2.1 KL γ.2.2:=he 6 aA _ 65 rfl rfl;clear he h0 hc hf hg;exact flS rfl aD (hW.upd 7 aA aA aA hd) rfl
      ·have e59:ev (.tmp 59)=.pointer (some ⟨a,0,none⟩):=he 0 aA _ 59 rfl rfl;have e61:ev (.tmp 61)=.int .i64 num:=he 2 aA _ 61 rfl rfl
       have e66:ev (.tmp 66)=.agg #[.slice γ.2.1 KL γ.2.2]:=he 7 aA _ 66 rfl rfl;clear he h0 hc hg;have h6t:L' 6=true:=hd 6 aA
       have hrow:=hW.row h6t hL'
       have hall:∀j,j<8→L' j=true:=fun j hj=>by
        rcases (show j=0∨j=1∨j=2∨j=3∨j=4∨j=5∨j=6∨j=7 by omega)with rfl|rfl|rfl|rfl|rfl|rfl|rfl|rfl
        ·exact hd 0 aA
        ·exact hW.cl 2 (hd 2 aA) 1 aA
        ·exact hd 2 aA
        ·exact hW.cl 6 h6t 3 aA
        ·exact hW.cl 5 (hW.cl 6 h6t 5 aA) 4 aA
        ·exact hW.cl 6 h6t 5 aA
        ·exact h6t
        ·exact hd 7 aA
       refine .inl ⟨rfl,.inr (.inr ⟨23,#[.pointer (some ⟨a,0,none⟩),.int .i64 num,.agg #[.slice γ.2.1 KL γ.2.2]],w0,(by have hff:=hf 23;clear hf;go_simp<;>rfl),?_⟩)⟩;refine(HS5.out.arm hrow HKB.out (by rw[HKL.out];have:=HKP.out;omega) num hn2).mono ?_;rintro e w' ⟨rfl,hp6⟩;exact⟨_,rfl,.still (hW.done aA h6t hd hall hp6) rfl⟩
     intro γ L' w6 hL' hW;have HS6:=hZ (hW.fin (hL' 8 aA))
     obtain⟨a0,a33,a34,a35,har⟩:=HAC.out w6 ab (HS6.out.box _ (List.mem_singleton_self _));have HRN6:=hZ har
     clear hL' hW hI0 a34 a35 har HS5;simp only[nX,Act.put,List.setIfInBounds_toArray,List.set_cons_succ,List.set_cons_zero];obtain⟨m',hroom,hout⟩:=HOUT.out;have HROOM:Hid (m'.room=1048576):=hZ (hroom.trans HAR.out.2)
     clear hroom HOUT
     cases del with
     |false=>
      rcases hout with⟨hq,hdo⟩|⟨hq,hdo,hdd,htn⟩|⟨hq,harm,hdo,htn⟩
      ·have HEQ:=hZ hq;have HDO:=hZ hdo
       obtain⟨wasB,hwasB⟩:∃b,(lS t u).isSome=b:=⟨_,rfl⟩
       clear hq hdo;go_wp2_with (first|refine wpList_load_mid rfl _ _ rfl ab 1 rfl (D.map lG) _ HRN6.out hU rfl hI ?_);refine(HS6.out.set cQ nm aC HDL.out HF.out HEQ.out).mono ?_;rintro e w7 ⟨tx,rfl,hs7⟩;rw[show nT tx 0=.nilIface from rfl];have HS7:=hZ hs7
       clear hs7 HS6 HRN6 a0 a33;go_wp2_with fail;refine HS7.out.arm0.mono ?_;rintro e w8 ⟨rfl,hs8⟩;have HS8:=hZ hs8
       clear hs8 HS7;obtain⟨a0,a33,a34,a35,har⟩:=HAC.out w8 ab (HS8.out.box _ (List.mem_singleton_self _));have HRN8:=hZ har
       have hwi:=vU w8 q t (HS8.out.led _ (List.mem_singleton_self _)) cQ U HKD.out.2 D HDL.out false;rw[HKD.out.1]at hwi;unfold nH at hwi;have HWI:=hZ hwi
       clear har hwi a0 a34 a35;go_wp2_with (first|refine wpList_load_mid rfl _ _ rfl ab 1 rfl (D.map lG) _ HRN8.out hU rfl hI ?_);refine HWI.out.mono ?_;rintro e w9 ⟨q2,rfl,hq2,hled,hb9⟩;have HS9:=hZ (HS8.out.addM hb9 hq2 hled)
       have HLQ:Hid (LedAt w9 q t):=hZ (HS9.out.led (q,t) (List.mem_cons_of_mem _ (List.mem_singleton_self _)))
       obtain⟨vD,hvD⟩:∃x,Ee (lS t u)=x:=⟨_,rfl⟩
       have hvl:=vR (lS t u);rw[hvD]at hvl;have HVD:=hZ hvD
       have hvI:=lX hvl;have hv1:=nW vD
       have hvz:=nE hvl
       obtain⟨T2,hT2⟩:∃x,vS t u (mR D) false=x:=⟨_,rfl⟩
       have hTL:=wH t u (mR D) false;have hTC:=uR (k:=u) false HM.out.norm.code HDL.out
       rw[hT2]at hTL hTC HS9 HDO;have HTL:=hZ hTL
       have HTC:=hZ hTC;have HWAS:Hid ((lS t u).isSome=wasB):=hZ hwasB
       clear hq2 hled hb9 HS8 HRN8 HWI hvD hvl hT2 hTL hTC a33;obtain⟨a0,a33,a34,a35,har⟩:=HAC.out w9 ab (HS9.out.box _ (List.mem_singleton_self _));clear a0 a33 a34 a35 har;go_wp2_with (first|(at_lookup;refine pM rfl _ _ rfl q t rfl HLQ.out U HKD.out.2 rfl ?_;rw[HKD.out.1,HVD.out,HWAS.out])|(refine lO rfl _ _ _ rfl _ (vD.map lG).toArray _ rfl rfl rfl hvI hvz hv1 ?_;(obtain⟨W10,hW10⟩:∃W,w9.alloc (.cells (vD.map lG).toArray 33)=W:=⟨_,rfl⟩;have HS10:=hZ (HS9.out.bel (W2:=W10) aY);obtain⟨a0,a33,a34,a35,har⟩:=HAC.out W10 ab (HS10.out.box _ (List.mem_singleton_self _));rw[hW10];clear hW10 a0 a35 har HS9 HLQ a33 a34)));have hho:=HS10.out.holds (HDO.out.arm 0 []) rfl cQ fB (List.mem_cons_self ..) fB HTC.out
       rw[decide_eq_true rfl]at hho;refine hho.mono ?_;rintro e w11 ⟨rfl,hb11⟩;have HS11:=hZ (HS10.out.bel hb11)
       clear hb11 hho HS10;go_wp2_with fail;exact fD
      ·cases hdd
      ·have HEQ:=hZ hq;have HDO:=hZ hdo
       have hN1:1≤num:=by have h9:1≤max num 0:=harm;omega
       obtain⟨wasB,hwasB⟩:∃b,(lS t u).isSome=b:=⟨_,rfl⟩
       clear hq hdo harm htn;go_wp2_with (first|refine wpList_load_mid rfl _ _ rfl ab 1 rfl (D.map lG) _ HRN6.out hU rfl hI ?_);refine(HS6.out.set cQ nm aC HDL.out HF.out HEQ.out).mono ?_;rintro e w7 ⟨tx,rfl,hs7⟩;rw[show nT tx 27=.iface 132 (.agg #[.string tx,.iface 71 (.int .i64 27)])from rfl];have HS7:=hZ hs7
       clear hs7 HS6 HRN6 a0 a33;go_wp2_with fail;refine HS7.out.arm0.mono ?_;rintro e w8 ⟨rfl,hs8⟩;have HS8:=hZ hs8
       clear hs8 HS7;obtain⟨a0,a33,a34,a35,har⟩:=HAC.out w8 ab (HS8.out.box _ (List.mem_singleton_self _));have HRN8:=hZ har
       have hwi:=vU w8 q t (HS8.out.led _ (List.mem_singleton_self _)) cQ U HKD.out.2 D HDL.out false;rw[HKD.out.1]at hwi;unfold nH at hwi;have HWI:=hZ hwi
       clear har hwi a0 a34 a35;go_wp2_with (first|refine wpList_load_mid rfl _ _ rfl ab 1 rfl (D.map lG) _ HRN8.out hU rfl hI ?_);refine HWI.out.mono ?_;rintro e w9 ⟨q2,rfl,hq2,hled,hb9⟩;have HS9:=hZ (HS8.out.addM hb9 hq2 hled)
       have HLQ:Hid (LedAt w9 q t):=hZ (HS9.out.led (q,t) (List.mem_cons_of_mem _ (List.mem_singleton_self _)))
       obtain⟨vD,hvD⟩:∃x,Ee (lS t u)=x:=⟨_,rfl⟩
       have hvl:=vR (lS t u);rw[hvD]at hvl;have HVD:=hZ hvD
       have hvI:=lX hvl;have hv1:=nW vD
       have hvz:=nE hvl
       obtain⟨T2,hT2⟩:∃x,vS t u (mR D) false=x:=⟨_,rfl⟩
       have hTL:=wH t u (mR D) false;have hTC:=uR (k:=u) false HM.out.norm.code HDL.out
       rw[hT2]at hTL hTC HS9 HDO;have HTL:=hZ hTL
       have HTC:=hZ hTC;have HWAS:Hid ((lS t u).isSome=wasB):=hZ hwasB
       clear hq2 hled hb9 HS8 HRN8 HWI hvD hvl hT2 hTL hTC a33;obtain⟨a0,a33,a34,a35,har⟩:=HAC.out w9 ab (HS9.out.box _ (List.mem_singleton_self _));clear a0 a33 a34 a35 har;go_wp2_with (first|(at_lookup;refine pM rfl _ _ rfl q t rfl HLQ.out U HKD.out.2 rfl ?_;rw[HKD.out.1,HVD.out,HWAS.out])|(refine lO rfl _ _ _ rfl _ (vD.map lG).toArray _ rfl rfl rfl hvI hvz hv1 ?_;(obtain⟨W10,hW10⟩:∃W,w9.alloc (.cells (vD.map lG).toArray 33)=W:=⟨_,rfl⟩;have HS10:=hZ (HS9.out.bel (W2:=W10) aY);obtain⟨a0,a33,a34,a35,har⟩:=HAC.out W10 ab (HS10.out.box _ (List.mem_singleton_self _));rw[hW10];clear hW10 a0 a35 har HS9 HLQ)));have hG10:ErrT W10:=HG.out.below HS10.out.toB HG.out.2
       have HPL:Hid (Calls Tryz.prog 10 #[.iface 132 (.agg #[.string tx,.iface 71 (.int .i64 27)]),.int .i64 27] W10 fun e w'=>e=.returned (.bool true)∧Below W10.heap.size W10 w'):=hZ (oQ tx 27 (.inr ⟨aA,aA⟩) 27 W10 hG10);clear hG10;refine HPL.out.mono ?_;rintro e w11 ⟨rfl,hb11⟩;have HS11:=hZ (HS10.out.bel hb11)
       clear hb11 HPL HS10 a33 a34;go_wp2_with fail;refine HS11.out.revive.mono ?_;rintro e w12 ⟨rfl,hs12⟩;have HS12:=hZ hs12
       clear hs12 HS11
       have hlo:∃LT,(LT=t∨LT=T2)∧Dwn (m'.arm 0 []) LT:=by
        rcases HDO.out with h|h
        ·exact⟨t,.inl rfl,h.arm0⟩
        ·exact⟨T2,.inr rfl,h.arm0⟩
       obtain⟨LT,hLT,hDW⟩:=hlo;have HLT:=hZ hLT
       have HDW:=hZ hDW;obtain⟨-,o2,o3,o4,-⟩:=Ap HDW.out;have HO2:=hZ o2
       have HO3:Hid ((mX (m'.arm 0 []).revive).1.armed=0∧(mX (m'.arm 0 []).revive).1.room=1048576):=hZ ⟨o3,o4.trans HROOM.out⟩;have hop:=HS12.out.open HDW.out cQ
       clear o2 o3 o4 hLT hDW
       obtain⟨m8,hm8⟩:∃x,(mX (m'.arm 0 []).revive).1=x:=⟨_,rfl⟩
       rw[hm8]at HO2 HO3 hop;go_wp2_with fail;refine hop.mono ?_;rintro e w13 ⟨rb8,rfl,hs13⟩;have HS13:=hZ hs13
       clear hs13 HS12 hop hm8;have HLL:Hid (LT.length≤1000):=hZ gL
       have hho:=HS13.out.holds HO2.out HO3.out.1 cQ dK (List.mem_cons_self ..) fB HTC.out
       obtain⟨yes,hyes⟩:∃b,decide (LT=T2)=b:=⟨_,rfl⟩
       rw[hyes]at hho;have HY:=hZ hyes
       clear hyes;go_wp2_with fail;refine hho.mono ?_;rintro e w14 ⟨rfl,hb14⟩;have HS14:=hZ (HS13.out.bel hb14)
       clear hb14 hho HS13
       cases yes with
       |true=>
        obtain rfl:LT=T2:=of_decide_eq_true HY.out;have hho:=HS14.out.holds HO2.out HO3.out.1 cQ dK (List.mem_cons_self ..) dK HTC.out
        rw[decide_eq_true rfl]at hho;go_wp2_with fail;refine hho.mono ?_;rintro e w15 ⟨rfl,hb15⟩;have HS15:=hZ (HS14.out.bel hb15)
        clear hb15 hho HS14;go_wp2_with fail;exact fF
       |false=>
        have hLt:LT=t:=HLT.out.resolve_right (of_decide_eq_false HY.out);subst hLt;have hho:=HS14.out.holds HO2.out HO3.out.1 cQ dK (List.mem_cons_of_mem _ (List.mem_singleton_self _)) dK HM.out.norm.code
        rw[decide_eq_true rfl]at hho;go_wp2_with fail;refine hho.mono ?_;rintro e w15 ⟨rfl,hb15⟩;have HS15:=hZ (HS14.out.bel hb15)
        clear hb15 hho HS14;go_wp2_with fail;exact fG
     |true=>
      rcases hout with⟨hq,hdo⟩|⟨hq,hdo,hdd,htn⟩|⟨hq,harm,hdo,htn⟩
      ·have HEQ:=hZ hq;have HDO:=hZ hdo
       obtain⟨wasB,hwasB⟩:∃b,(lS t u).isSome=b:=⟨_,rfl⟩
       clear hq hdo;go_wp2_with fail;refine(HS6.out.del (D:=D) cQ nm aC HF.out HEQ.out).mono ?_;rintro e w7 ⟨tx,rfl,hs7⟩;rw[show nT tx 0=.nilIface from rfl];have HS7:=hZ hs7
       clear hs7 HS6 HRN6 a0 a33;go_wp2_with fail;refine HS7.out.arm0.mono ?_;rintro e w8 ⟨rfl,hs8⟩;have HS8:=hZ hs8
       clear hs8 HS7;obtain⟨a0,a33,a34,a35,har⟩:=HAC.out w8 ab (HS8.out.box _ (List.mem_singleton_self _));have HRN8:=hZ har
       have hwi:=vU w8 q t (HS8.out.led _ (List.mem_singleton_self _)) cQ U HKD.out.2 D HDL.out true;rw[HKD.out.1]at hwi;unfold nH at hwi;have HWI:=hZ hwi
       clear har hwi a0 a34 a35;go_wp2_with (first|refine wpList_load_mid rfl _ _ rfl ab 1 rfl (D.map lG) _ HRN8.out hU rfl hI ?_);refine HWI.out.mono ?_;rintro e w9 ⟨q2,rfl,hq2,hled,hb9⟩;have HS9:=hZ (HS8.out.addM hb9 hq2 hled)
       have HLQ:Hid (LedAt w9 q t):=hZ (HS9.out.led (q,t) (List.mem_cons_of_mem _ (List.mem_singleton_self _)))
       obtain⟨vD,hvD⟩:∃x,Ee (lS t u)=x:=⟨_,rfl⟩
       have hvl:=vR (lS t u);rw[hvD]at hvl;have HVD:=hZ hvD
       have hvI:=lX hvl;have hv1:=nW vD
       have hvz:=nE hvl
       obtain⟨T2,hT2⟩:∃x,vS t u (mR D) true=x:=⟨_,rfl⟩
       have hTL:=wH t u (mR D) true;have hTC:=uR (k:=u) true HM.out.norm.code HDL.out
       rw[hT2]at hTL hTC HS9 HDO;have HTL:=hZ hTL
       have HTC:=hZ hTC;have HWAS:Hid ((lS t u).isSome=wasB):=hZ (hwasB)
       clear hq2 hled hb9 HS8 HRN8 HWI hvD hvl hT2 hTL hTC a33;obtain⟨a0,a33,a34,a35,har⟩:=HAC.out w9 ab (HS9.out.box _ (List.mem_singleton_self _));clear a0 a33 a34 a35 har;go_wp2_with (first|(at_lookup;refine pM rfl _ _ rfl q t rfl HLQ.out U HKD.out.2 rfl ?_;rw[HKD.out.1,HVD.out,HWAS.out])|(refine lO rfl _ _ _ rfl _ (vD.map lG).toArray _ rfl rfl rfl hvI hvz hv1 ?_;(obtain⟨W10,hW10⟩:∃W,w9.alloc (.cells (vD.map lG).toArray 33)=W:=⟨_,rfl⟩;have HS10:=hZ (HS9.out.bel (W2:=W10) aY);obtain⟨a0,a33,a34,a35,har⟩:=HAC.out W10 ab (HS10.out.box _ (List.mem_singleton_self _));rw[hW10];clear hW10 a0 a35 har HS9 HLQ a33 a34)));have hho:=HS10.out.holds (HDO.out.arm 0 []) rfl cQ fB (List.mem_cons_self ..) fB HTC.out
       rw[decide_eq_true rfl]at hho;refine hho.mono ?_;rintro e w11 ⟨rfl,hb11⟩;have HS11:=hZ (HS10.out.bel hb11)
       clear hb11 hho HS10;go_wp2_with fail;exact fD
      ·have HEQ:=hZ hq;have HDO:=hZ hdo
       have HTN:=hZ htn;clear hq hdo hdd htn;go_wp2_with fail;refine(HS6.out.del (D:=D) cQ nm aC HF.out HEQ.out).mono ?_;rintro e w7 ⟨tx,rfl,hs7⟩;rw[show nT tx 10=.iface 132 (.agg #[.string tx,.iface 71 (.int .i64 10)])from rfl];have HS7:=hZ hs7
       clear hs7 HS6 HRN6 a0 a33;go_wp2_with fail;refine HS7.out.arm0.mono ?_;rintro e w8 ⟨rfl,hs8⟩;have HS8:=hZ hs8
       clear hs8 HS7;obtain⟨a0,a33,a34,a35,har⟩:=HAC.out w8 ab (HS8.out.box _ (List.mem_singleton_self _));have HRN8:=hZ har
       have hwi:=vU w8 q t (HS8.out.led _ (List.mem_singleton_self _)) cQ U HKD.out.2 D HDL.out true;rw[HKD.out.1]at hwi;unfold nH at hwi;have HWI:=hZ hwi
       clear har hwi a0 a34 a35;go_wp2_with (first|refine wpList_load_mid rfl _ _ rfl ab 1 rfl (D.map lG) _ HRN8.out hU rfl hI ?_);refine HWI.out.mono ?_;rintro e w9 ⟨q2,rfl,hq2,hled,hb9⟩;have HS9:=hZ (HS8.out.addM hb9 hq2 hled)
       have HLQ:Hid (LedAt w9 q t):=hZ (HS9.out.led (q,t) (List.mem_cons_of_mem _ (List.mem_singleton_self _)))
       obtain⟨vD,hvD⟩:∃x,Ee (lS t u)=x:=⟨_,rfl⟩
       have hvl:=vR (lS t u);rw[hvD]at hvl;have HVD:=hZ hvD
       have hvI:=lX hvl;have hv1:=nW vD
       have hvz:=nE hvl
       obtain⟨T2,hT2⟩:∃x,vS t u (mR D) true=x:=⟨_,rfl⟩
       have hTL:=wH t u (mR D) true;have hTC:=uR (k:=u) true HM.out.norm.code HDL.out
       rw[hT2]at hTL hTC HS9;have HTL:=hZ hTL
       have HTC:=hZ hTC;have HWAS:Hid ((lS t u).isSome=false):=hZ (by rw[HTN.out];rfl)
       clear hq2 hled hb9 HS8 HRN8 HWI hvD hvl hT2 hTL hTC a33;obtain⟨a0,a33,a34,a35,har⟩:=HAC.out w9 ab (HS9.out.box _ (List.mem_singleton_self _));clear a0 a33 a34 a35 har;go_wp2_with (first|(at_lookup;refine pM rfl _ _ rfl q t rfl HLQ.out U HKD.out.2 rfl ?_;rw[HKD.out.1,HVD.out,HWAS.out])|(refine lO rfl _ _ _ rfl _ (vD.map lG).toArray _ rfl rfl rfl hvI hvz hv1 ?_;(obtain⟨W10,hW10⟩:∃W,w9.alloc (.cells (vD.map lG).toArray 33)=W:=⟨_,rfl⟩;have HS10:=hZ (HS9.out.bel (W2:=W10) aY);obtain⟨a0,a33,a34,a35,har⟩:=HAC.out W10 ab (HS10.out.box _ (List.mem_singleton_self _));rw[hW10];clear hW10 a0 a35 har HS9 HLQ)));have hG10:ErrT W10:=HG.out.below HS10.out.toB HG.out.2
       have HPL:Hid (Calls Tryz.prog 10 #[.iface 132 (.agg #[.string tx,.iface 71 (.int .i64 10)]),.int .i64 10] W10 fun e w'=>e=.returned (.bool true)∧Below W10.heap.size W10 w'):=hZ (oQ tx 10 (.inr ⟨aA,aA⟩) 10 W10 hG10);clear hG10;refine HPL.out.mono ?_;rintro e w11 ⟨rfl,hb11⟩;have HS11:=hZ (HS10.out.bel hb11)
       clear hb11 HPL HS10 a33 a34;have hho:=HS11.out.holds (HDO.out.arm 0 []) rfl cQ cQ (List.mem_cons_of_mem _ (List.mem_singleton_self _)) cQ HM.out.norm.code
       rw[decide_eq_true rfl]at hho;go_wp2_with fail;refine hho.mono ?_;rintro e w12 ⟨rfl,hb12⟩;have HS12:=hZ (HS11.out.bel hb12)
       clear hb12 hho HS11;go_wp2_with fail;exact⟨⟨i+1,q,rb,aC,aG,rfl,rfl,hZ ⟨_,_,t,HS12.out.sub (fun x hx=>by cases hx) (fun x hx=>bR),HDO.out.arm 0 [],⟨rfl,HROOM.out⟩,cQ,dI⟩⟩,cN⟩
      ·have HEQ:=hZ hq;have HDO:=hZ hdo
       have hN1:1≤num:=by have h9:1≤max num 0:=harm;omega
       have HTN:=hZ (htn rfl);clear hq hdo harm htn;go_wp2_with fail;refine(HS6.out.del (D:=D) cQ nm aC HF.out HEQ.out).mono ?_;rintro e w7 ⟨tx,rfl,hs7⟩;rw[show nT tx 27=.iface 132 (.agg #[.string tx,.iface 71 (.int .i64 27)])from rfl];have HS7:=hZ hs7
       clear hs7 HS6 HRN6 a0 a33;go_wp2_with fail;refine HS7.out.arm0.mono ?_;rintro e w8 ⟨rfl,hs8⟩;have HS8:=hZ hs8
       clear hs8 HS7;obtain⟨a0,a33,a34,a35,har⟩:=HAC.out w8 ab (HS8.out.box _ (List.mem_singleton_self _));have HRN8:=hZ har
       have hwi:=vU w8 q t (HS8.out.led _ (List.mem_singleton_self _)) cQ U HKD.out.2 D HDL.out true;rw[HKD.out.1]at hwi;unfold nH at hwi;have HWI:=hZ hwi
       clear har hwi a0 a34 a35;go_wp2_with (first|refine wpList_load_mid rfl _ _ rfl ab 1 rfl (D.map lG) _ HRN8.out hU rfl hI ?_);refine HWI.out.mono ?_;rintro e w9 ⟨q2,rfl,hq2,hled,hb9⟩;have HS9:=hZ (HS8.out.addM hb9 hq2 hled)
       have HLQ:Hid (LedAt w9 q t):=hZ (HS9.out.led (q,t) (List.mem_cons_of_mem _ (List.mem_singleton_self _)))
       obtain⟨vD,hvD⟩:∃x,Ee (lS t u)=x:=⟨_,rfl⟩
       have hvl:=vR (lS t u);rw[hvD]at hvl;have HVD:=hZ hvD
       have hvI:=lX hvl;have hv1:=nW vD
       have hvz:=nE hvl
       obtain⟨T2,hT2⟩:∃x,vS t u (mR D) true=x:=⟨_,rfl⟩
       have hTL:=wH t u (mR D) true;have hTC:=uR (k:=u) true HM.out.norm.code HDL.out
       rw[hT2]at hTL hTC HS9 HDO;have HTL:=hZ hTL
       have HTC:=hZ hTC;have HWAS:Hid ((lS t u).isSome=true):=hZ (HTN.out)
       clear hq2 hled hb9 HS8 HRN8 HWI hvD hvl hT2 hTL hTC a33;obtain⟨a0,a33,a34,a35,har⟩:=HAC.out w9 ab (HS9.out.box _ (List.mem_singleton_self _));clear a0 a33 a34 a35 har;go_wp2_with (first|(at_lookup;refine pM rfl _ _ rfl q t rfl HLQ.out U HKD.out.2 rfl ?_;rw[HKD.out.1,HVD.out,HWAS.out])|(refine lO rfl _ _ _ rfl _ (vD.map lG).toArray _ rfl rfl rfl hvI hvz hv1 ?_;(obtain⟨W10,hW10⟩:∃W,w9.alloc (.cells (vD.map lG).toArray 33)=W:=⟨_,rfl⟩;have HS10:=hZ (HS9.out.bel (W2:=W10) aY);obtain⟨a0,a33,a34,a35,har⟩:=HAC.out W10 ab (HS10.out.box _ (List.mem_singleton_self _));rw[hW10];clear hW10 a0 a35 har HS9 HLQ)));have hG10:ErrT W10:=HG.out.below HS10.out.toB HG.out.2
       have HPL:Hid (Calls Tryz.prog 10 #[.iface 132 (.agg #[.string tx,.iface 71 (.int .i64 27)]),.int .i64 27] W10 fun e w'=>e=.returned (.bool true)∧Below W10.heap.size W10 w'):=hZ (oQ tx 27 (.inr ⟨aA,aA⟩) 27 W10 hG10);clear hG10;refine HPL.out.mono ?_;rintro e w11 ⟨rfl,hb11⟩;have HS11:=hZ (HS10.out.bel hb11)
       clear hb11 HPL HS10 a33 a34;go_wp2_with fail;refine HS11.out.revive.mono ?_;rintro e w12 ⟨rfl,hs12⟩;have HS12:=hZ hs12
       clear hs12 HS11
       have hlo:∃LT,(LT=t∨LT=T2)∧Dwn (m'.arm 0 []) LT:=by
        rcases HDO.out with h|h
        ·exact⟨t,.inl rfl,h.arm0⟩
        ·exact⟨T2,.inr rfl,h.arm0⟩
       obtain⟨LT,hLT,hDW⟩:=hlo;have HLT:=hZ hLT
       have HDW:=hZ hDW;obtain⟨-,o2,o3,o4,-⟩:=Ap HDW.out;have HO2:=hZ o2
       have HO3:Hid ((mX (m'.arm 0 []).revive).1.armed=0∧(mX (m'.arm 0 []).revive).1.room=1048576):=hZ ⟨o3,o4.trans HROOM.out⟩;have hop:=HS12.out.open HDW.out cQ
       clear o2 o3 o4 hLT hDW
       obtain⟨m8,hm8⟩:∃x,(mX (m'.arm 0 []).revive).1=x:=⟨_,rfl⟩
       rw[hm8]at HO2 HO3 hop;go_wp2_with fail;refine hop.mono ?_;rintro e w13 ⟨rb8,rfl,hs13⟩;have HS13:=hZ hs13
       clear hs13 HS12 hop hm8;have HLL:Hid (LT.length≤1000):=hZ gL
       have hho:=HS13.out.holds HO2.out HO3.out.1 cQ dK (List.mem_cons_self ..) fB HTC.out
       obtain⟨yes,hyes⟩:∃b,decide (LT=T2)=b:=⟨_,rfl⟩
       rw[hyes]at hho;have HY:=hZ hyes
       clear hyes;go_wp2_with fail;refine hho.mono ?_;rintro e w14 ⟨rfl,hb14⟩;have HS14:=hZ (HS13.out.bel hb14)
       clear hb14 hho HS13
       cases yes with
       |true=>
        obtain rfl:LT=T2:=of_decide_eq_true HY.out;have hho:=HS14.out.holds HO2.out HO3.out.1 cQ dK (List.mem_cons_self ..) dK HTC.out
        rw[decide_eq_true rfl]at hho;go_wp2_with fail;refine hho.mono ?_;rintro e w15 ⟨rfl,hb15⟩;have HS15:=hZ (HS14.out.bel hb15)
        clear hb15 hho HS14;go_wp2_with fail;exact fF
       |false=>
        have hLt:LT=t:=HLT.out.resolve_right (of_decide_eq_false HY.out);subst hLt;have hho:=HS14.out.holds HO2.out HO3.out.1 cQ dK (List.mem_cons_of_mem _ (List.mem_singleton_self _)) dK HM.out.norm.code
        rw[decide_eq_true rfl]at hho;go_wp2_with fail;refine hho.mono ?_;rintro e w15 ⟨rfl,hb15⟩;have HS15:=hZ (HS14.out.bel hb15)
        clear hb15 hho HS14;go_wp2_with fail;exact fG
   ·have hiE:(i:Int)=L:=by omega
    have HP:=hZ hp;have HM:=hZ hrst
    have HAR:=hZ hArm;have HLE:Hid (n≤1+10*i∧t.length≤i):=hZ ⟨hnn,htl⟩
    clear hp hrst hArm hnn htl
    obtain⟨W4,hW4⟩:∃W,wr.alloc (.cells #[] 3)=W:=⟨_,rfl⟩
    have hb4:Below wr.heap.size wr W4:=bB;have hg4:W4.heap[wr.heap.size]?=some (.cells #[] 3 (0,0)):=jE
    have hki:IntsRd (fun _=>False) W4 (.slice ep E ec) es:=HEI.out.rd (HP.out.toB.trans (hb4.mono HP.out.toB.size)) (fun _ h=>h.elim);have HB4:=hZ hb4
    have HG4:=hZ hg4;have HKI:=hZ hki
    have HW4:=hZ hW4;clear hb4 hg4 hki hW4;go_wp2_with (first|(refine CH rfl rfl ?_;rw[HW4.out])|(refine Bw rfl _ _ rfl wr wr.heap.size HB4.out HG4.out (Nat.le_refl _) HE.out HKI.out aC rfl rfl ?_;(intro gp gc w5 hg5;have HG5:=hZ hg5;clear hg5)));refine(HP.out.crash HG5.out HEB.out (by rw[HE.out];omega) cQ).mono ?_;rintro e w6 ⟨rfl,hs6⟩;have HS6:=hZ hs6
    clear hs6 HP;go_wp2_with fail;refine HS6.out.revive.mono ?_;rintro e w7 ⟨rfl,hs7⟩;have HS7:=hZ hs7
    clear hs7 HS6;have HDW:=hZ (HM.out.crash es)
    obtain⟨-,o2,o3,-⟩:=Ap HDW.out;have HO2:=hZ o2
    have HO3:=hZ o3;have hop:=HS7.out.open HDW.out cQ
    clear o2 o3
    obtain⟨m8,hm8⟩:∃x,(mX (m.crash es).revive).1=x:=⟨_,rfl⟩
    rw[hm8]at HO2 HO3 hop;go_wp2_with fail;refine hop.mono ?_;rintro e w8 ⟨rb8,rfl,hs8⟩;have HS8:=hZ hs8
    clear hs8 HS7 hop hm8;have hho:=HS8.out.holds HO2.out HO3.out cQ cQ (List.mem_singleton_self _) cQ HM.out.norm.code
    rw[decide_eq_true rfl]at hho;go_wp2_with fail;refine hho.mono ?_;rintro e w9 ⟨rfl,hb9⟩;have HB9:=hZ (HS8.out.bel hb9).toB
    clear hb9 hho HS8;go_wp2_with fail;go_ret;exact⟨rfl,HB9.out⟩
end Go.Proofs.YtdkedmngeahjiaaGreatDoor
