import Derived.Test.YtdkedmngeahjiaaGreatDoorM3
import Derived.Test.YtdkedmngeahjiaaGreatDoorM7
set_option maxRecDepth 100000
set_option maxHeartbeats 25600000
namespace Go.Proofs.YtdkedmngeahjiaaGreatDoor
open Go Go.RowKit
def uL(cur:Array Value)(o:Nat):List Value→Array Value
 |[]=>cur
 |v::r=>uL (cur.setIfInBounds o v) (o+1) r
theorem FE(cur:Array Value)(o:Nat)(vals:List Value):(uL cur o vals).size=cur.size:=by
 induction vals generalizing cur o with
 |nil=>rfl
 |cons v r ih=>rw[uL,ih,Array.size_setIfInBounds]
theorem Di(cur:Array Value)(o:Nat)(vals:List Value)(h:o+vals.length≤cur.size)(j:Nat):(uL cur o vals)[j]?=if o≤j∧j<o+vals.length then vals[j-o]? else cur[j]?:=by
 induction vals generalizing cur o with
 |nil=>rw[uL,if_neg (by rw[List.length_nil];omega)]
 |cons v r ih=>
  rw[List.length_cons]at h;rw[uL,ih _ _ (by rw[Array.size_setIfInBounds];omega),List.length_cons,Array.getElem?_setIfInBounds];by_cases h1:o+1≤j∧j<o+1+r.length
  ·rw[if_pos h1,if_pos aC,show j-o=j-(o+1)+1 by omega,List.getElem?_cons_succ]
  ·rw[if_neg h1];by_cases h2:o=j
   ·subst h2;rw[if_pos rfl,if_pos (show o<cur.size by omega),if_pos (show o≤o∧o<o+(r.length+1) by omega),Nat.sub_self]
    rfl
   ·rw[if_neg h2,if_neg aC]
section
variable {α:Type} (T sz:Nat) (cl:α→Array Value)
def sZ(xs:List α):List Value:=xs.flatMap (fun x=>(cl x).toList)
variable {T sz cl}
theorem G3(xs:List α)(x:α):sZ cl (xs++[x])=sZ cl xs++(cl x).toList:=by unfold sZ;simp
theorem Dj(hc:∀x,(cl x).size=sz)(xs:List α):(sZ cl xs).length=xs.length*sz:=by
 induction xs with
 |nil=>simp[sZ]
 |cons x r ih=>
  unfold sZ at ih⊢;rw[List.flatMap_cons,List.length_append,ih,Array.length_toList,hc,List.length_cons,Nat.succ_mul];omega
theorem Ad(hc:∀x,(cl x).size=sz):∀(xs:List α) (q r:Nat),r<sz→(sZ cl xs)[q*sz+r]?=(xs[q]?).bind (fun x=>(cl x)[r]?)
 |[],q,r,_=>by simp[sZ]
 |x::xs,0,r,h=>by
  unfold sZ;rw[List.flatMap_cons,Nat.zero_mul,Nat.zero_add,List.getElem?_append_left (by rw[Array.length_toList,hc];exact h),Array.getElem?_toList]
  rfl
 |x::xs,q+1,r,h=>by
  have ih:=Ad hc xs q r h;unfold sZ at ih⊢;rw[List.flatMap_cons,List.getElem?_append_right kY,Array.length_toList,hc,show(q+1)*sz+r-sz=q*sz+r by rw[Nat.succ_mul];omega,ih,List.getElem?_cons_succ]
variable (T sz cl)
def OwnG(base:Nat)(xs:List α)(v:Value)(w:World):Prop:=w.ownsRow base T sz v xs.length (sZ cl xs)
def Reads(w:World)(v:Value)(xs:List α):Prop:=
 (v=.slice none 0 0∧xs=[])∨∃g cap cur,v=.slice (some ⟨g,0,none⟩) xs.length cap∧xs.length≤cap∧cap≤maxLen∧w.heap[g]?=some (.cells cur T (0,0))∧∀i x,xs[i]?=some x→∀j,j<sz→cur[i*sz+j]?=(cl x)[j]?
variable {T sz cl}
theorem OwnG.keep{base:Nat}{xs:List α}{v:Value}{w w':World}{row:Option Nat}(h:OwnG T sz cl base xs v w)(hg:w.grownBy w' row)(hne:∀b,v.ownBlock=some b→row≠some b):OwnG T sz cl base xs v w':=by
 refine World.ownsRow.kept h hg ?_
 cases hv:v.ownBlock with
 |none=>exact .inl rfl
 |some b=>exact .inr (fun e=>hne b hv e.symm)
theorem OwnG.reads(hc:∀x,(cl x).size=sz){base:Nat}{xs:List α}{v:Value}{w:World}(h:OwnG T sz cl base xs v w):Reads T sz cl w v xs:=by
 rcases h.2 with⟨h1,h2⟩|⟨g,cap,cur,h1,h2,h3,h4,h5,h6,h7⟩
 ·exact .inl ⟨h1,List.eq_nil_of_length_eq_zero h2⟩
 ·refine .inr ⟨g,cap,cur,h1,h4,h5,h3,fun i x hx j hj=>?_⟩;have hi:=(List.getElem?_eq_some_iff.1 hx).1
  have h8:=Ad hc xs i j hj;rw[hx,←h7,List.getElem?_take,if_pos ?_,Array.getElem?_toList]at h8
  ·exact h8
  ·have:(i+1)*sz≤xs.length*sz:=Nat.mul_le_mul_right _ hi;rw[Nat.succ_mul]at this;omega
theorem Reads.keep{xs:List α}{v:Value}{w w':World}{row:Option Nat}(h:Reads T sz cl w v xs)(hg:w.grownBy w' row)(hne:∀b,v.ownBlock=some b→row≠some b):Reads T sz cl w' v xs:=by
 rcases h with h|⟨g,cap,cur,rfl,h1,h2,h3,h4⟩
 ·exact .inl h
 ·exact .inr ⟨g,cap,cur,rfl,h1,h2,(hg.block g (lH h3) (fun e=>hne g rfl e.symm)).trans h3,h4⟩
theorem Reads.front(hc:∀x,(cl x).size=sz){base:Nat}{xs ys:List α}{v u:Value}{w w':World}(h:Reads T sz cl w v ys)(ho:OwnG T sz cl base (ys++xs) u w')(hb:u.ownBlock=v.ownBlock):Reads T sz cl w' v ys:=by
 rcases h with h|⟨g,cap,cur,rfl,h1,h2,h3,h4⟩
 ·exact .inl h
 ·rcases ho.reads hc with⟨rfl,h5⟩|⟨g',cap',cur',rfl,h5,h6,h7,h8⟩
  ·cases hb
  ·obtain rfl:g'=g:=by simpa[Value.ownBlock]using hb
   refine .inr ⟨g',cap,cur',rfl,h1,h2,h7,fun i x hx j hj=>h8 i x ?_ j hj⟩;rw[List.getElem?_append_left (List.getElem?_eq_some_iff.1 hx).1];exact hx
theorem OwnG.app{base:Nat}{xs:List α}{x:α}{v:Value}{w:World}(h:w.ownsRow base T sz v (xs.length+1) (sZ cl xs++(cl x).toList)):OwnG T sz cl base (xs++[x]) v w:=by
 unfold OwnG;rw[G3,List.length_append];exact h
theorem OwnG.store(hc:∀x,(cl x).size=sz){base n cap g i:Nat}{xs:List α}{x:α}{w:World}(h:OwnG T sz cl base xs (.slice (some ⟨g,0,none⟩) n cap) w)(hi:i<xs.length):
  ∃cur,w.heap[g]?=some (.cells cur T (0,0))∧i*sz+sz≤cur.size∧OwnG T sz cl base (xs.set i x) (.slice (some ⟨g,0,none⟩) n cap) (setBlk w g (.cells (uL cur (i*sz) (cl x).toList) T (0,0))):=by
 rcases h.2 with⟨h1,_⟩|⟨g',cap',cur,h1,h2,h3,h4,h5,h6,h7⟩
 ·cases h1
 ·cases h1;have h8:(i+1)*sz≤xs.length*sz:=Nat.mul_le_mul_right _ hi
  have h9:xs.length*sz≤cap*sz:=Nat.mul_le_mul_right _ h4;rw[Nat.succ_mul]at h8;have hl:(cl x).toList.length=sz:=by rw[Array.length_toList,hc]
  refine⟨cur,h3,aC,⟨by rw[Dj hc],.inr ⟨g,cap,_,by rw[List.length_set],h2,lM (lH h3),by rw[List.length_set];exact h4,h5,by rw[FE];exact h6,?_⟩⟩⟩;refine List.ext_getElem? fun j=>?_
  rw[List.getElem?_take,List.length_set];by_cases hj:j<xs.length*sz
  ·have hsz:0<sz:=by
    cases sz with
    |zero=>simp at hj
    |succ k=>omega
   have hjd:j=j/sz*sz+j%sz:=kS;have hr:=Nat.mod_lt j hsz
   have f1:=Ad hc (xs.set i x) (j/sz) (j%sz) hr;have f2:=Ad hc xs (j/sz) (j%sz) hr
   rw[←hjd]at f1 f2;rw[if_pos hj,Array.getElem?_toList,Di _ _ _ iV,f1,hl,List.getElem?_set]
   have f3:cur[j]?=(xs[j/sz]?).bind (fun x=>(cl x)[j%sz]?):=by
    rw[←f2,←h7,List.getElem?_take,if_pos hj,Array.getElem?_toList]
   by_cases he:i=j/sz
   ·have hj2:j=i*sz+j%sz:=by rw[he];exact hjd
    rw[if_pos (show i*sz≤j∧j<i*sz+sz by omega),if_pos he,if_pos hi,Array.getElem?_toList,show j-i*sz=j%sz by omega]
    rfl
   ·rw[if_neg (show¬(i*sz≤j∧j<i*sz+sz)from ?_),if_neg he,f3];intro ⟨h10,h11⟩;apply he;have a1:i≤j/sz:=(Nat.le_div_iff_mul_le hsz).2 h10
    have a2:j/sz<i+1:=(Nat.div_lt_iff_lt_mul hsz).2 (by rw[Nat.succ_mul];omega);omega
  ·rw[if_neg hj,List.getElem?_eq_none (by rw[Dj hc,List.length_set];omega)]
end
section
variable {α:Type} {T TL sz:Nat} {cl:α→Array Value}
theorem KH{w w':World}(h:Below w.heap.size w w'):w.grownBy w' none:=⟨h.os,h.tape,h.output,h.size,fun k hk _=>h.block k hk⟩
theorem xY{base:Nat}{w w':World}{row:Option Nat}(hg:w.grownBy w' row)(hb:base≤w.heap.size)(hr:∀b,row=some b→base≤b):Below base w w':=
 (Below.refl base w).grown hg hb hr
def KI(vs:Array Value):Prop:=∀(j k:Nat) (v u:Value) (b:Nat),vs[j]?=some v→vs[k]?=some u→j≠k→v.ownBlock=some b→u.ownBlock≠some b
theorem OwnG.block{base:Nat}{xs:List α}{v:Value}{w:World}(h:OwnG T sz cl base xs v w){b:Nat}(hb:v.ownBlock=some b):base≤b∧b<w.heap.size∧∃cur,w.heap[b]?=some (.cells cur T (0,0)):=by
 rcases h.2 with⟨rfl,_⟩|⟨g,cap,cur,rfl,h2,h3,_⟩
 ·cases hb
 ·obtain rfl:g=b:=by simpa[Value.ownBlock]using hb
  exact⟨h2,lH h3,cur,h3⟩
theorem Reads.block{xs:List α}{v:Value}{w:World}(h:Reads T sz cl w v xs){b:Nat}(hb:v.ownBlock=some b):b<w.heap.size∧∃cur,w.heap[b]?=some (.cells cur T (0,0)):=by
 rcases h with⟨rfl,_⟩|⟨g,cap,cur,rfl,h1,h2,h3,_⟩
 ·cases hb
 ·obtain rfl:g=b:=by simpa[Value.ownBlock]using hb
  exact⟨lH h3,cur,h3⟩
theorem BF{w:World}{b c:Nat}{x y:Array Value}{S R:Nat}(h:w.heap[b]?=some (.cells x S (0,0)))(k:w.heap[c]?=some (.cells y R (0,0)))(hne:S≠R):b≠c:=by
 rintro rfl;rw[h]at k;exact hne (Obj.cells.inj (Option.some.inj k)).2.1
variable (T TL sz cl)
structure ApA (base LB:Nat) (vs:Array Value) (w0:World) (f:Nat→List α) (w:World):Prop where
 ls:w.heap[LB]?=some (.cells vs TL (0,0))
 own:∀k v,vs[k]?=some v→OwnG T sz cl base (f k) v w
 bel:Below base w0 w
 hb0:base≤w0.heap.size
structure ApC (base base2 LB:Nat) (vs:Array Value) (w0:World) (a c:Nat→List α) (k:Nat) (G:List Value) (u:Value) (ys:List α) (g:Value) (w:World):Prop where
 ls:w.heap[LB]?=some (.cells vs TL (0,0))
 gs:w.ownsRow base2 TL 1 u G.length G
 rd:∀j v,vs[j]?=some v→Reads T sz cl w v (a j)
 own:∀j v,k<j→vs[j]?=some v→OwnG T sz cl base (a j) v w
 ownC:∀j v,G[j]?=some v→OwnG T sz cl base (c j) v w
 cur:OwnG T sz cl base ys g w
 ap1:∀j v b,j≠k→vs[j]?=some v→g.ownBlock=some b→v.ownBlock≠some b
 ap2:∀(j:Nat) v b,G[j]?=some v→g.ownBlock=some b→v.ownBlock≠some b
 ap3:∀(i j:Nat) v x b,k<i→vs[i]?=some v→G[j]?=some x→v.ownBlock=some b→x.ownBlock≠some b
 bel:Below base w0 w
 hb0:base≤w0.heap.size
structure ApO (base base2 LB:Nat) (vs:Array Value) (w0:World) (a c:Nat→List α) (k:Nat) (G:List Value) (u:Value) (w:World):Prop where
 ls:w.heap[LB]?=some (.cells vs TL (0,0))
 gs:w.ownsRow base2 TL 1 u G.length G
 rd:∀j v,vs[j]?=some v→Reads T sz cl w v (a j)
 own:∀j v,k≤j→vs[j]?=some v→OwnG T sz cl base (a j) v w
 ownC:∀j v,G[j]?=some v→OwnG T sz cl base (c j) v w
 ap3:∀(i j:Nat) v x b,k≤i→vs[i]?=some v→G[j]?=some x→v.ownBlock=some b→x.ownBlock≠some b
 bel:Below base w0 w
 hb0:base≤w0.heap.size
structure ApR (base base2 LB:Nat) (vs:Array Value) (w0:World) (a c:Nat→List α) (G:List Value) (u:Value) (w:World):Prop where
 ls:w.heap[LB]?=some (.cells vs TL (0,0))
 gs:w.ownsRow base2 TL 1 u G.length G
 rd:∀j v,vs[j]?=some v→Reads T sz cl w v (a j)
 rdC:∀j v,G[j]?=some v→Reads T sz cl w v (c j)
 bel:Below base w0 w
 hb0:base≤w0.heap.size
variable {T TL sz cl}
variable {base base2 LB:Nat} {vs:Array Value} {w0:World} {a c f:Nat→List α} {G:List Value} {u:Value} {w w':World}
theorem wU{B S s n:Nat}{v:Value}{xs:List Value}(h:w.ownsRow B S s v n xs)(hb:Below w.heap.size w w'):w'.ownsRow B S s v n xs:=
 h.kept (KH hb) (by cases hv:v.ownBlock<;>simp)
theorem OwnG.keepB{xs:List α}{v:Value}(h:OwnG T sz cl base xs v w)(hb:Below w.heap.size w w'):OwnG T sz cl base xs v w':=wU h hb
theorem Reads.keepB{xs:List α}{v:Value}(h:Reads T sz cl w v xs)(hb:Below w.heap.size w w'):Reads T sz cl w' v xs:=h.keep (KH hb) (fun _ _=>eZ)
theorem ApA.keep(h:ApA T TL sz cl base LB vs w0 f w)(hb:Below w.heap.size w w'):ApA T TL sz cl base LB vs w0 f w':=
 ⟨(hb.block _ (lH h.ls)).trans h.ls,fun k v hv=>(h.own k v hv).keepB hb,h.bel.trans (hb.mono (Nat.le_trans h.hb0 h.bel.size)),h.hb0⟩
theorem ApC.keep{k:Nat}{ys:List α}{g:Value}(h:ApC T TL sz cl base base2 LB vs w0 a c k G u ys g w)(hb:Below w.heap.size w w'):ApC T TL sz cl base base2 LB vs w0 a c k G u ys g w':=
 ⟨(hb.block _ (lH h.ls)).trans h.ls,wU h.gs hb,fun j v hv=>(h.rd j v hv).keepB hb,fun j v hj hv=>(h.own j v hj hv).keepB hb,fun j v hv=>(h.ownC j v hv).keepB hb,h.cur.keepB hb,h.ap1,h.ap2,h.ap3,h.bel.trans (hb.mono (Nat.le_trans h.hb0 h.bel.size)),h.hb0⟩
theorem ApR.keep(h:ApR T TL sz cl base base2 LB vs w0 a c G u w)(hb:Below w.heap.size w w'):ApR T TL sz cl base base2 LB vs w0 a c G u w':=
 ⟨(hb.block _ (lH h.ls)).trans h.ls,wU h.gs hb,fun j v hv=>(h.rd j v hv).keepB hb,fun j v hv=>(h.rdC j v hv).keepB hb,h.bel.trans (hb.mono (Nat.le_trans h.hb0 h.bel.size)),h.hb0⟩
theorem ApA.store(hc:∀x,(cl x).size=sz)(hT:TL≠T)(hap:KI vs)(h:ApA T TL sz cl base LB vs w0 f w){k n cap g i:Nat}{x:α}(hv:vs[k]?=some (.slice (some ⟨g,0,none⟩) n cap))(hi:i<(f k).length):
  ∃cur,w.heap[g]?=some (.cells cur T (0,0))∧i*sz+sz≤cur.size∧ApA T TL sz cl base LB vs w0 (fun j=>if j=k then(f k).set i x else f j) (setBlk w g (.cells (uL cur (i*sz) (cl x).toList) T (0,0))):=by
 obtain⟨cur,h1,h2,h3⟩:=OwnG.store (x:=x) hc (h.own k _ hv) hi;have hg:=(h.own k _ hv).block (b:=g) rfl
 have hgr:∀o,w.grownBy (setBlk w g o) (some g):=fun o=>⟨rfl,rfl,rfl,gQ,fun j _ hj=>mS (fun e=>hj (by rw[e]))⟩
 refine⟨cur,h1,h2,(mS (fun e=>BF h.ls h1 hT e)).trans h.ls,fun j v hj=>?_,?_,h.hb0⟩
 ·by_cases e:j=k
  ·subst e;rw[hv]at hj;cases hj;rw[if_pos rfl];exact h3
  ·rw[if_neg e];exact(h.own j v hj).keep (hgr _) (fun b hb e2=>by cases e2;exact hap j k v _ g hj hv e hb rfl)
 ·exact h.bel.setBlk hg.1
theorem ApO.start(h:ApA T TL sz cl base LB vs w0 a w)(hc:∀x,(cl x).size=sz):ApO T TL sz cl base base2 LB vs w0 a c 0 [] (.slice none 0 0) w:=
 ⟨h.ls,World.ownsRow_nil _ _ _ _,fun j v hv=>(h.own j v hv).reads hc,fun j v _ hv=>h.own j v hv,fun j v hv=>(by simp at hv),fun i j v x b _ _ hx=>(by simp at hx),h.bel,h.hb0⟩
theorem ApO.enter(hap:KI vs){k:Nat}{vk:Value}(h:ApO T TL sz cl base base2 LB vs w0 a c k G u w)(hk:vs[k]?=some vk):ApC T TL sz cl base base2 LB vs w0 a c k G u (a k) vk w:=
 ⟨h.ls,h.gs,h.rd,fun j v hj hv=>h.own j v (Nat.le_of_lt hj) hv,h.ownC,h.own k vk (Nat.le_refl _) hk,fun j v b hj hv hb=>hap k j vk v b hk hv (fun e=>hj e.symm) hb,fun j v b hv hb=>h.ap3 k j vk v b (Nat.le_refl _) hk hv hb,fun i j v x b hi=>h.ap3 i j v x b (Nat.le_of_lt hi),h.bel,h.hb0⟩
theorem ApC.app(hc:∀x,(cl x).size=sz)(hT:TL≠T){k:Nat}{vk:Value}{ys zs:List α}{x:α}{g v':Value}(h:ApC T TL sz cl base base2 LB vs w0 a c k G u ys g w)(hk:vs[k]?=some vk)(hys:ys=a k++zs)
  (ho:w'.ownsRow base T sz v' (ys.length+1) (sZ cl ys++(cl x).toList)) (hg:(v'.ownBlock=g.ownBlock∧w.grownBy w' g.ownBlock)∨(v'.ownBlock=some w.heap.size∧w.grownBy w' none)):
  ApC T TL sz cl base base2 LB vs w0 a c k G u (ys++[x]) v' w':=by
 have hcur:=OwnG.app ho;have hcb:=fun b hb=>h.cur.block (b:=b) hb
 have hgr:w.grownBy w' g.ownBlock:=by
  rcases hg with⟨_,hg⟩|⟨_,hg⟩
  ·exact hg
  ·exact⟨hg.os,hg.tape,hg.output,hg.size,fun k hk _=>hg.block k hk eZ⟩
 have hlt:∀b,b<w.heap.size→g.ownBlock≠some b→w'.heap[b]?=w.heap[b]?:=fun b hb hne=>hgr.block b hb (fun e=>hne e.symm)
 have hLB:w'.heap[LB]?=w.heap[LB]?:=hlt LB (lH h.ls) (fun e=>by
  obtain⟨_,_,cur,h3⟩:=hcb LB e;exact BF h.ls h3 hT rfl)
 have hgu:∀b,u.ownBlock=some b→g.ownBlock≠some b:=fun b hb e=>by
  obtain⟨_,_,cur,h3⟩:=hcb b e;rcases h.gs.2 with⟨rfl,_⟩|⟨q,cap,cur2,rfl,_,h4,_⟩
  ·cases hb
  ·obtain rfl:q=b:=by simpa[Value.ownBlock]using hb
   exact BF h4 h3 hT rfl
 have hnew:∀b,v'.ownBlock=some b→b<w.heap.size→g.ownBlock=some b:=fun b hb hlt=>by
  rcases hg with⟨hg,_⟩|⟨hg,_⟩
  ·rw[←hg];exact hb
  ·rw[hg]at hb;cases hb;omega
 refine⟨hLB.trans h.ls,?_,fun j v hv=>?_,fun j v hj hv=>?_,fun j v hv=>?_,hcur,fun j v b hj hv hb hvb=>?_,fun j v b hv hb hvb=>?_,h.ap3,?_,h.hb0⟩
 ·refine h.gs.kept hgr ?_
  cases hu:u.ownBlock with
  |none=>exact .inl rfl
  |some b=>exact .inr (fun e=>hgu b hu e.symm)
 ·by_cases e:j=k
  ·subst e;rw[hk]at hv;cases hv;rcases hg with⟨h1,h2⟩|⟨h1,h2⟩
   ·by_cases hbk:g.ownBlock=vk.ownBlock
    ·have:=hcur;rw[hys,List.append_assoc]at this;exact(h.rd j vk hk).front hc this (h1.trans hbk)
    ·exact(h.rd j vk hk).keep h2 (fun b hb e=>hbk (e.trans hb.symm))
   ·exact(h.rd j vk hk).keep h2 (fun b hb e=>by simp at e)
  ·exact(h.rd j v hv).keep hgr (fun b hb e2=>h.ap1 j v b e hv e2 hb)
 ·exact(h.own j v hj hv).keep hgr (fun b hb e2=>h.ap1 j v b aC hv e2 hb)
 ·exact(h.ownC j v hv).keep hgr (fun b hb e2=>h.ap2 j v b hv e2 hb)
 ·exact h.ap1 j v b hj hv (hnew b hb ((h.rd j v hv).block hvb).1) hvb
 ·exact h.ap2 j v b hv (hnew b hb ((h.ownC j v hv).block hvb).2.1) hvb
 ·exact h.bel.trans (xY hgr (Nat.le_trans h.hb0 h.bel.size) (fun b hb=>(hcb b hb).1))
theorem ApC.leave(hT:TL≠T)(hLB2:LB<base2)(hb2:base≤base2){k:Nat}{ys:List α}{g u':Value}(h:ApC T TL sz cl base base2 LB vs w0 a c k G u ys g w)(hG:G.length=k)(hys:ys=c k)(ho:w'.ownsRow base2 TL 1 u' (G.length+1) (G++[g]))(hg:w.grownBy w' u.ownBlock):
  ApO T TL sz cl base base2 LB vs w0 a c (k+1) (G++[g]) u' w':=by
 have hub:∀b,u.ownBlock=some b→base2≤b∧∃cur,w.heap[b]?=some (.cells cur TL (0,0)):=fun b hb=>by
  rcases h.gs.2 with⟨rfl,_⟩|⟨q,cap,cur,rfl,h2,h3,_⟩
  ·cases hb
  ·obtain rfl:q=b:=by simpa[Value.ownBlock]using hb
   exact⟨h2,cur,h3⟩
 have hT2:∀b cur,w.heap[b]?=some (.cells cur T (0,0))→u.ownBlock≠some b:=fun b cur hb e=>by
  obtain⟨_,cur2,h3⟩:=hub b e;exact BF h3 hb hT rfl
 have hown:∀(xs:List α) v,OwnG T sz cl base xs v w→OwnG T sz cl base xs v w':=fun xs v ho=>ho.keep hg (fun b hb e=>by
  obtain⟨_,_,cur,h3⟩:=ho.block hb;exact hT2 b cur h3 e)
 refine⟨(hg.block LB (lH h.ls) (fun e=>by have:=(hub LB e.symm).1;omega)).trans h.ls,by rw[List.length_append];exact ho,fun j v hv=>?_,fun j v hj hv=>hown _ _ (h.own j v aC hv),fun j v hv=>?_,fun i j v x b hi hv hx hb=>?_,?_,h.hb0⟩
 ·exact(h.rd j v hv).keep hg (fun b hb e=>by
   obtain⟨_,cur,h3⟩:=(h.rd j v hv).block hb;exact hT2 b cur h3 e)
 ·rw[List.getElem?_append]at hv;split at hv
  ·exact hown _ _ (h.ownC j v hv)
  ·rename_i hj
   have:j-G.length=0:=by
    have:=(List.getElem?_eq_some_iff.1 hv).1;simpa using this
   rw[this]at hv;cases hv;obtain rfl:j=k:=aC;rw[←hys];exact hown _ _ h.cur
 ·rw[List.getElem?_append]at hx;split at hx
  ·exact h.ap3 i j v x b aC hv hx hb
  ·rename_i hj
   have:j-G.length=0:=by
    have:=(List.getElem?_eq_some_iff.1 hx).1;simpa using this
   rw[this]at hx;cases hx;exact fun e=>h.ap1 i v b aC hv e hb
 ·exact h.bel.trans (xY hg (Nat.le_trans h.hb0 h.bel.size) (fun b hb=>Nat.le_trans hb2 (hub b hb).1))
theorem ApO.done(hc:∀x,(cl x).size=sz){k:Nat}(h:ApO T TL sz cl base base2 LB vs w0 a c k G u w):ApR T TL sz cl base base2 LB vs w0 a c G u w:=
 ⟨h.ls,h.gs,h.rd,fun j v hv=>(h.ownC j v hv).reads hc,h.bel,h.hb0⟩
theorem Reads.at{xs:List α}{v:Value}{i:Nat}{x:α}(h:Reads T sz cl w v xs)(hx:xs[i]?=some x):∃g cap,v=.slice (some ⟨g,0,none⟩) xs.length cap∧xs.length≤cap∧cap≤maxLen∧g<w.heap.size∧∀j,j<sz→w.cell? ⟨g,i*sz+j,none⟩=(cl x)[j]?:=by
 rcases h with⟨rfl,rfl⟩|⟨g,cap,cur,rfl,h1,h2,h3,h4⟩
 ·simp at hx
 ·exact⟨g,cap,rfl,h1,h2,lH h3,fun j hj=>(lF h3).trans (h4 i x hx j hj)⟩
theorem Reads.slice{xs:List α}{v:Value}(h:Reads T sz cl w v xs):∃p cap,v=.slice p xs.length cap∧xs.length≤cap∧cap≤maxLen:=by
 rcases h with⟨rfl,rfl⟩|⟨g,cap,cur,rfl,h1,h2,h3,h4⟩
 ·exact⟨none,0,rfl,Nat.le_refl _,cT⟩
 ·exact⟨_,cap,rfl,h1,h2⟩
end
end Go.Proofs.YtdkedmngeahjiaaGreatDoor
