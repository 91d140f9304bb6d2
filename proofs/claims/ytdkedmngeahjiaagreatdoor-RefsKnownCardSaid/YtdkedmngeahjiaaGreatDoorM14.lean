import Derived.Test.YtdkedmngeahjiaaGreatDoorQ0
import Derived.StillTail
import Derived.StillTactics
import Derived.WalkKit
set_option maxRecDepth 100000
set_option maxHeartbeats 25600000
namespace Go.Proofs.YtdkedmngeahjiaaGreatDoor
theorem bK{p:Prop}(h:p:=by exact absurd hj (tail_waits hs hc hn inv _ i rfl hin hun j h)):p:=h
theorem dH{p:Prop}(h:p:=by simp only[List.length_cons]at hk;omega):p:=h
theorem dT{p:Prop}(h:p:=by have:=hl (j+1) (by simp;omega);simpa[Nat.add_assoc,Nat.add_comm 1 j]using this):p:=h
theorem dY{p:Prop}(h:p:=by rw[h]at hr;cases hr):p:=h
theorem hH{p:Prop}(h:p:=by exact h.of_same (execOp_put oj hsj a oi.dst v h1).symm (wanted_put oj a oi.dst v h1).symm):p:=h
theorem iI{p:Prop}(h:p:=by simp[Region.wanted,hg]):p:=h
theorem jB{p:Prop}(h:p:=by exact h.of_same (execOp_put oi hsi a oj.dst u h3) (wanted_put oi a oj.dst u h3)):p:=h
theorem kH{p:Prop}(h:p:=by simpa using(hl 0 eZ).symm):p:=h
open Go
section
variable {P:Program} {Γ:Type} (val:Nat→Γ→Value) (Wd:(Nat→Bool)→Γ→World→Prop) (l:List Oper) (a0:Act)
def mQ(L:Nat→Bool)(i:Nat):Nat→Bool:=fun j=>L j||j==i
def FlowPost(L:Nat→Bool)(γ:Γ)(i:Nat)(v:Value)(W:World):Prop:=∃γ',Wd (mQ L i) γ' W∧val i γ'=v∧∀j,L j=true→val j γ'=val j γ
def rG(γ:Γ):Nat→List Oper→Act→Act
 |_,[],a=>a
 |k,o::r,a=>rG γ (k+1) r (a.put o.dst (val k γ))
def DX(md:Region.Mode)(o:Oper):List Nat:=(o.after.toList.filter (Region.binds md)).map (·.on)
end
section
variable {P:Program} {Γ:Type} {val:Nat→Γ→Value} {Wd:(Nat→Bool)→Γ→World→Prop} {l:List Oper} {a0:Act}
structure FlowAct (val:Nat→Γ→Value) (l:List Oper) (a0:Act) (L:Nat→Bool) (γ:Γ) (a:Act):Prop where
 size:a.tmps.size=a0.tmps.size
 defers:a.defers=a0.defers
 done:∀j oj d,l[j]?=some oj→oj.dst=some d→L j=true→a.tmps.getD d undef=val j γ
 rest:∀d,(∀j oj,l[j]?=some oj→oj.dst=some d→L j=false)→a.tmps.getD d undef=a0.tmps.getD d undef
theorem LO(h:(l.filterMap (·.dst)).Nodup):∀{i j:Nat} {oi oj:Oper} {d:Nat},l[i]?=some oi→l[j]?=some oj→oi.dst=some d→oj.dst=some d→i=j:=by
 induction l with
 |nil=>intro i j oi oj d h1;cases h1
 |cons o r ih=>
  intro i j oi oj d h1 h2 h3 h4
  have hr:(r.filterMap (·.dst)).Nodup:=by
   rw[List.filterMap_cons]at h;split at h
   ·exact h
   ·exact(List.nodup_cons.1 h).2
  have key:∀{k:Nat} {ok:Oper},r[k]?=some ok→ok.dst=some d→o.dst=some d→False:=fun{k ok} hk hd ho=>by
   rw[List.filterMap_cons,ho]at h;exact(List.nodup_cons.1 h).1 (List.mem_filterMap.2 ⟨ok,List.mem_of_getElem? hk,hd⟩)
  cases i with
  |zero=>
   cases j with
   |zero=>rfl
   |succ j=>cases h1;exact(key h2 h4 h3).elim
  |succ i=>
   cases j with
   |zero=>cases h2;exact(key h1 h3 h4).elim
   |succ j=>rw[ih hr h1 h2 h3 h4]
theorem FlowAct.put{L:Nat→Bool}{γ γ':Γ}{a:Act}{i:Nat}{o:Oper}{v:Value}(h:FlowAct val l a0 L γ a)(hnd:(l.filterMap (·.dst)).Nodup)(hd:∀d,o.dst=some d→d<a0.tmps.size)(hi:l[i]?=some o)
  (hv:val i γ'=v) (hk:∀j,L j=true→val j γ'=val j γ):FlowAct val l a0 (mQ L i) γ' (a.put o.dst v):=by
 cases ho:o.dst with
 |none=>
  refine⟨h.size,h.defers,fun j oj d hj hdj hL=>?_,fun d hd2=>h.rest d (fun j oj hj hdj=>?_)⟩
  ·have hji:j≠i:=fun e=>by subst e;rw[hi]at hj;cases hj;rw[ho]at hdj;cases hdj
   have hL2:L j=true:=by
    unfold mQ at hL;rw[Bool.or_eq_true]at hL;exact hL.resolve_right (by simp[hji])
   rw[hk j hL2];exact h.done j oj d hj hdj hL2
  ·have:=hd2 j oj hj hdj;unfold mQ at this;rw[Bool.or_eq_false_iff]at this;exact this.1
 |some s=>
  have hs:=hd s ho
  have e:∀d,(a.put (some s) v).tmps.getD d undef=if s=d then v else a.tmps.getD d undef:=fun d=>by
   show(a.tmps.setIfInBounds s v).getD d undef=_;rw[Array.getD_eq_getD_getElem?,Array.getElem?_setIfInBounds];by_cases hsd:s=d
   ·rw[if_pos hsd,if_pos hsd,if_pos (by rw[h.size];exact hs)]
    rfl
   ·rw[if_neg hsd,if_neg hsd,←Array.getD_eq_getD_getElem?]
  refine⟨by show(a.tmps.setIfInBounds s v).size=_;rw[Array.size_setIfInBounds];exact h.size,h.defers,fun j oj d hj hdj hL=>?_,fun d hd2=>?_⟩
  ·rw[e];by_cases hsd:s=d
   ·subst hsd;obtain rfl:=LO hnd hi hj ho hdj;rw[if_pos rfl,hv]
   ·rw[if_neg hsd];have hji:j≠i:=fun e=>by subst e;rw[hi]at hj;cases hj;rw[ho]at hdj;cases hdj;exact hsd rfl
    have hL2:L j=true:=by
     unfold mQ at hL;rw[Bool.or_eq_true]at hL;exact hL.resolve_right (by simp[hji])
    rw[hk j hL2];exact h.done j oj d hj hdj hL2
  ·have hsd:s≠d:=fun hs2=>by
    subst hs2;have:=hd2 i o hi ho
    unfold mQ at this;simp at this
   rw[e,if_neg hsd]
   exact h.rest d (fun j oj hj hdj=>by
    have:=hd2 j oj hj hdj;unfold mQ at this;rw[Bool.or_eq_false_iff]at this;exact this.1)
theorem zU(γ:Γ):∀(r:List Oper) (k:Nat) (a:Act),(r.filterMap (·.dst)).Nodup→(∀o∈r,∀d,o.dst=some d→d<a.tmps.size)→
  (rG val γ k r a).tmps.size=a.tmps.size∧(rG val γ k r a).defers=a.defers∧(∀j oj d,r[j]?=some oj→oj.dst=some d→(rG val γ k r a).tmps.getD d undef=val (k+j) γ)∧
   ∀d,(∀oj∈r,oj.dst≠some d)→(rG val γ k r a).tmps.getD d undef=a.tmps.getD d undef
 |[],_,a,_,_=>⟨rfl,rfl,fun _ _ _ h=>aK,fun _ _=>rfl⟩
 |o::r,k,a,hnd,hlt=>by
  have hr:(r.filterMap (·.dst)).Nodup:=by
   rw[List.filterMap_cons]at hnd;split at hnd
   ·exact hnd
   ·exact(List.nodup_cons.1 hnd).2
  have hsz:(a.put o.dst (val k γ)).tmps.size=a.tmps.size:=by
   cases o.dst with
   |none=>rfl
   |some s=>show(a.tmps.setIfInBounds s _).size=_;rw[Array.size_setIfInBounds]
  have hdf:(a.put o.dst (val k γ)).defers=a.defers:=by cases o.dst<;>rfl
  obtain⟨i1,i2,i3,i4⟩:=zU γ r (k+1) (a.put o.dst (val k γ)) hr (fun o' ho' d hd=>by rw[hsz];exact hlt o' (List.mem_cons_of_mem _ ho') d hd);refine⟨i1.trans hsz,i2.trans hdf,fun j oj d hj hd=>?_,fun d hd=>?_⟩
  ·cases j with
   |zero=>
    cases hj
    have hno:∀oj∈r,oj.dst≠some d:=fun oj hoj e=>by
     rw[List.filterMap_cons,hd]at hnd;exact(List.nodup_cons.1 hnd).1 (List.mem_filterMap.2 ⟨oj,hoj,e⟩)
    show(rG val γ (k+1) r _).tmps.getD d undef=_;rw[i4 d hno,hd];show(a.tmps.setIfInBounds d (val k γ)).getD d undef=_
    rw[Array.getD_eq_getD_getElem?,Array.getElem?_setIfInBounds,if_pos rfl,if_pos (hlt o List.mem_cons_self d hd)]
    rfl
   |succ j=>
    have:=i3 j oj d hj hd;rw[show k+1+j=k+(j+1) by omega]at this;exact this
  ·show(rG val γ (k+1) r _).tmps.getD d undef=_;rw[i4 d (fun oj hoj=>hd oj (List.mem_cons_of_mem _ hoj))];have ho:=hd o List.mem_cons_self
   cases hdo:o.dst with
   |none=>rfl
   |some s=>
    have hsd:s≠d:=fun e=>ho (by rw[hdo,e])
    show(a.tmps.setIfInBounds s _).getD d undef=_;rw[Array.getD_eq_getD_getElem?,Array.getElem?_setIfInBounds,if_neg hsd,←Array.getD_eq_getD_getElem?]
theorem FlowAct.all{γ:Γ}{L:Nat→Bool}{a:Act}(h:FlowAct val l a0 L γ a)(hL:∀j,j<l.length→L j=true)(hnd:(l.filterMap (·.dst)).Nodup)(hlt:∀o∈l,∀d,o.dst=some d→d<a0.tmps.size):a=rG val γ 0 l a0:=by
 obtain⟨i1,i2,i3,i4⟩:=zU (val:=val) γ l 0 a0 hnd hlt;obtain⟨t,df⟩:=a;generalize rG val γ 0 l a0=b at i1 i2 i3 i4;obtain⟨t',df'⟩:=b;have e1:df=df':=h.defers.trans i2.symm
 have e2:t=t':=by
  have hs:t.size=t'.size:=h.size.trans i1.symm;refine Array.ext hs fun d hd hd'=>?_
  have g:t.getD d undef=t'.getD d undef:=by
   by_cases hx:∃(j:Nat) (oj:Oper),l[j]?=some oj∧oj.dst=some d
   ·obtain⟨j,oj,hj,hdj⟩:=hx;have h1:=h.done j oj d hj hdj (hL j (List.getElem?_eq_some_iff.1 hj).1)
    have h2:=i3 j oj d hj hdj;rw[Nat.zero_add]at h2;exact h1.trans h2.symm
   ·have h1:=h.rest d (fun j oj hj hdj=>(hx ⟨j,oj,hj,hdj⟩).elim)
    have h2:=i4 d (fun oj hoj e=>by
     obtain⟨j,hj⟩:=List.getElem?_of_mem hoj;exact hx ⟨j,oj,hj,e⟩)
    exact h1.trans h2.symm
  rw[Array.getD_eq_getD_getElem?,Array.getD_eq_getD_getElem?,Array.getElem?_eq_getElem hd,Array.getElem?_eq_getElem hd']at g;exact g
 rw[e1,e2]
def cnt(n:Nat)(L:Nat→Bool):Nat:=((List.range n).filter L).length
theorem DY{L:Nat→Bool}{i:Nat}(hi:L i=false):∀n,i<n→cnt n (mQ L i)=cnt n L+1
 |0,h=>absurd h (Nat.not_lt_zero _)
 |n+1,h=>by
  unfold cnt;rw[List.range_succ,List.filter_append,List.filter_append,List.length_append,List.length_append];by_cases e:i=n
  ·subst e
   have h1:(List.range i).filter (mQ L i)=(List.range i).filter L:=List.filter_congr fun x hx=>by
    have:x≠i:=by have:=List.mem_range.1 hx;omega
    unfold mQ;simp[this]
   have h2:mQ L i i=true:=by unfold mQ;simp
   rw[h1,List.filter_cons_of_pos h2,List.filter_cons_of_neg (by rw[hi];exact Bool.false_ne_true)]
   rfl
  ·have:=DY hi n aC;unfold cnt at this;have h2:mQ L i n=L n:=by unfold mQ;simp[Ne.symm e]
   have h3:List.filter (mQ L i) [n]=List.filter L [n]:=by
    rw[List.filter_cons,List.filter_cons,h2]
    rfl
   rw[this,h3];omega
theorem MK(n:Nat)(L:Nat→Bool):cnt n L≤n:=by
 unfold cnt;have:=List.length_filter_le L (List.range n)
 rw[List.length_range]at this;exact this
theorem Kn{n:Nat}{L:Nat→Bool}(h:cnt n L=n):∀j,j<n→L j=true:=by
 intro j hj;by_cases hL:L j=true
 ·exact hL
 ·exfalso;have h1:=DY (Bool.eq_false_iff.2 hL) n hj
  have h2:=MK n (mQ L j);omega
def nX:List Value→List Oper→Act→Act
 |v::vs,o::r,a=>nX vs r (a.put o.dst v)
 |_,_,a=>a
theorem xR{vals:Γ→List Value}{γ:Γ}:∀(r:List Oper) (k:Nat) (a:Act),(vals γ).length=k+r.length→rG (fun i γ=>(vals γ).getD i undef) γ k r a=nX ((vals γ).drop k) r a
 |[],k,a,_=>by
  show a=nX ((vals γ).drop k) [] a;cases (vals γ).drop k<;>rfl
 |o::r,k,a,h=>by
  have hk:k<(vals γ).length:=by rw[h,List.length_cons];omega
  show rG (fun i γ=>(vals γ).getD i undef) γ (k+1) r (a.put o.dst ((vals γ).getD k undef))=_;rw[xR r (k+1) _ (by rw[h,List.length_cons];omega),List.drop_eq_getElem_cons hk,List.getD_eq_getElem?_getD,List.getElem?_eq_getElem hk]
  rfl
theorem mB{L:Nat→Bool}{i k:Nat}(h:k≠i):mQ L i k=L k:=by unfold mQ;simp[h]
theorem nV{L:Nat→Bool}{i:Nat}:mQ L i i=true:=by unfold mQ;simp
theorem mZ{L:Nat→Bool}{i k:Nat}(h:mQ L i k=true)(hk:k≠i):L k=true:=by rwa[mB hk]at h
theorem FlowPost.still{val:Nat→Γ→Value}{Wd:(Nat→Bool)→Γ→World→Prop}{L:Nat→Bool}{γ:Γ}{i:Nat}{v:Value}{W:World}(hW:Wd (mQ L i) γ W)(hv:val i γ=v):FlowPost val Wd L γ i v W:=⟨γ,hW,hv,fun _ _=>rfl⟩
end
section
variable {P:Program} {Γ:Type} (val:Nat→Γ→Value) (Wd:(Nat→Bool)→Γ→World→Prop) (l:List Oper) (a0:Act)
def Ko:Value→Option Bool
 |.bool b=>some b
 |_=>none
def gon(γ:Γ)(o:Oper):Bool:=
 match o.guard with
 |none=>true
 |some (j,want)=>Ko (val j γ)==some want
def Kp(P:Program)(ev:Operand→Value)(L:Nat→Bool)(γ:Γ)(i:Nat)(o:Oper)(W:World):Prop:=
 (∃v W',(execOp ev o).run P W=.ok (.value v) W'∧FlowPost val Wd L γ i v W')∨(∃W',(execOp ev o).run P W=.ok .skip W'∧FlowPost val Wd L γ i undef W')∨
  (∃f args W1,(execOp ev o).run P W=.ok (.enter f args) W1∧Calls P f args W1 fun e W'=>∃v,e=.returned v∧FlowPost val Wd L γ i v W')
def CW(P:Program)(deps:List Nat)(i:Nat)(o:Oper):Prop:=
 ∀(L:Nat→Bool) (γ:Γ) (W:World) (ev:Operand→Value),L i=false→(∀j∈deps,L j=true)→Wd L γ W→
  (∀v,ev (.const v)=v)→(∀f,ev (.func f)=.func (.func f) #[] #[])→(∀g,ev (.global g)=.pointer (some ⟨g,0,none⟩))→
  (∀j∈deps,∀oj d,l[j]?=some oj→oj.dst=some d→ev (.tmp d)=val j γ)→
  (∀s,(l.all fun oj=>decide (oj.dst≠some s))=true→ev (.tmp s)=a0.tmps.getD s undef)→
  (gon val γ o=true∧Kp val Wd P ev L γ i o W)∨(gon val γ o=false∧FlowPost val Wd L γ i undef W)
def zV(P:Program):List (List Nat)→Nat→List Oper→Prop
 |[],_,r=>r=[]
 |_::_,_,[]=>False
 |d::ds,k,o::r=>CW val Wd l a0 P d k o∧zV P ds (k+1) r
def Gy(md:Region.Mode)(N:Nat)(deps:List (List Nat))(l:List Oper):Bool:=
 (l.all fun o=>(match o.guard with|none=>true|some (j,_)=>(DX md o).contains j&&((l[j]?).bind (·.dst)).isSome)&&(match o.dst with|some d=>Nat.blt d N|none=>true))&&
 decide ((l.filterMap (·.dst)).Nodup)&&
 decide (deps=l.map (DX md))&&
 ((List.range l.length).all fun k=>(deps.getD k []).all fun e=>Nat.blt e k)
end
section
variable {P:Program} {Γ:Type} {val:Nat→Γ→Value} {Wd:(Nat→Bool)→Γ→World→Prop} {l:List Oper} {a0:Act}
theorem A4:∀{ds:List (List Nat)} {k:Nat} {r:List Oper},zV val Wd l a0 P ds k r→∀(j:Nat) (o:Oper),r[j]?=some o→CW val Wd l a0 P (ds.getD j []) (k+j) o
 |[],_,r,h,j,o,ho=>by
  have h:r=[]:=h;subst h;cases ho
 |_::_,_,[],h,_,_,_=>h.elim
 |d::ds,k,o'::r,h,0,o,ho=>by
  cases ho;exact h.1
 |d::ds,k,o'::r,h,j+1,o,ho=>by
  have:=A4 h.2 j o ho;rw[show k+1+j=k+(j+1) by omega]at this;exact this
theorem BP{md:Region.Mode}{Q:Exit→Act→World→Prop}{deps:List (List Nat)}(hB:Gy md a0.tmps.size deps l=true)(hS:zV val Wd l a0 P deps 0 l)
  (hQ:∀γ L W,(∀j,j<l.length→L j=true)→Wd L γ W→Q .normal (rG val γ 0 l a0) W):
  ∀(fuel:Nat) (listed:Array Bool) (γ:Γ) (a:Act) (W:World),listed.size=l.length→cnt l.length (fun j=>listed.getD j false)+fuel=l.length→Wd (fun j=>listed.getD j false) γ W→
   FlowAct val l a0 (fun j=>listed.getD j false) γ a→wpAny P md l.toArray Q fuel listed a W:=by
 simp only[Gy,Bool.and_eq_true,List.all_eq_true,decide_eq_true_eq,List.mem_range]at hB;obtain⟨⟨⟨hg,hnd⟩,hde⟩,hback⟩:=hB
 have hlt:∀o∈l,∀d,o.dst=some d→d<a0.tmps.size:=fun o ho d hd=>by
  have:=(hg o ho).2;rw[hd]at this;have:Nat.ble (d+1) a0.tmps.size=true:=this
  exact Nat.le_of_ble_eq_true this
 have hdep:∀{i o},l[i]?=some o→deps.getD i []=DX md o:=fun{i o} hi=>by
  rw[List.getD_eq_getElem?_getD,hde,List.getElem?_map,hi]
  rfl
 have hfin:∀(listed:Array Bool) (γ:Γ) (a:Act) (W:World),(∀j,j<l.length→listed.getD j false=true)→Wd (fun j=>listed.getD j false) γ W→
   FlowAct val l a0 (fun j=>listed.getD j false) γ a→Q .normal a W:=fun listed γ a W hall hW hA=>by
  rw[hA.all hall hnd hlt];exact hQ γ _ W hall hW
 have hwait:∀{i o} {L:Array Bool},l[i]?=some o→((∀e∈o.after,Region.binds md e=true→L.getD e.on false=true)↔∀j∈deps.getD i [],L.getD j false=true):=fun{i o L} hi=>by
  rw[hdep hi];unfold DX;constructor
  ·intro h j hj;obtain⟨e,he,rfl⟩:=List.mem_map.1 hj;obtain⟨h1,h2⟩:=List.mem_filter.1 he;exact h e (Array.mem_toList_iff.1 h1) h2
  ·intro h e he hb;exact h e.on (List.mem_map.2 ⟨e,List.mem_filter.2 ⟨Array.mem_toList_iff.2 he,hb⟩,rfl⟩)
 have hdone:∀(listed:Array Bool),listed.size=l.length→Region.ready md l.toArray listed=[]→∀j,j<l.length→listed.getD j false=true:=fun listed hsz hr j=>by
  induction j using Nat.strongRecOn with
  |ind j ih=>
   intro hj;by_cases hL:listed.getD j false=true
   ·exact hL
   ·exfalso
    have hL2:listed.getD j true=false:=by
     rw[Array.getD_eq_getD_getElem?]at hL⊢;rw[Array.getElem?_eq_getElem aC]at hL⊢;simpa using hL
    have:j∈Region.ready md l.toArray listed:=mem_ready.2 ⟨hL2,l[j],by simp[hj],(hwait (i:=j) (by simp[hj])).2 fun e he=>by
     have:=hback j hj e he;have:Nat.ble (e+1) j=true:=this
     have:=Nat.le_of_ble_eq_true this;exact ih e aC aC⟩
    rw[hr]at this;cases this
 intro fuel
 induction fuel with
 |zero=>
  intro listed γ a W hsz hc hW hA;have hall:=Kn (n:=l.length) aC
  refine⟨?_,hfin listed γ a W hall hW hA⟩;refine List.eq_nil_iff_forall_not_mem.2 fun i hi=>?_
  obtain⟨h1,o,h2,-⟩:=mem_ready.1 hi
  have hi2:i<l.length:=by
   have:=(Array.getElem?_eq_some_iff.1 h2).1;simpa using this
  have:=hall i hi2;rw[Array.getD_eq_getD_getElem?,Array.getElem?_eq_getElem aC]at h1 this;simp at h1 this;rw[h1]at this;cases this
 |succ fuel ih=>
  intro listed γ a W hsz hc hW hA;refine⟨fun hr=>hfin listed γ a W (hdone listed hsz hr) hW hA,fun i hi=>?_⟩;obtain⟨h1,o,h2,h3⟩:=mem_ready.1 hi;have hil:l[i]?=some o:=by simpa using h2
  have hi2:i<l.length:=(List.getElem?_eq_some_iff.1 hil).1
  have hLi:listed.getD i false=false:=by
   rw[Array.getD_eq_getD_getElem?,Array.getElem?_eq_getElem aC]at h1⊢;simpa using h1
  have hdl:=(hwait hil).1 h3;have hst:=A4 hS i o hil
  rw[Nat.zero_add]at hst;have hgo:=(hg o (List.mem_of_getElem? hil)).1
  have hwn:Region.wanted o (yielded l.toArray a.tmps)=gon val γ o:=by
   unfold Region.wanted gon
   cases hgd:o.guard with
   |none=>rfl
   |some jw=>
    obtain⟨j,want⟩:=jw;rw[hgd]at hgo;simp only[Bool.and_eq_true]at hgo;obtain⟨hc1,hc2⟩:=hgo;have hjd:j∈deps.getD i []:=by rw[hdep hil];exact List.contains_iff_mem.1 hc1
    cases hoj:l[j]? with
    |none=>rw[hoj]at hc2;cases hc2
    |some oj=>
     rw[hoj]at hc2
     cases hdj:oj.dst with
     |none=>
      have h5:(some oj:Option Oper).bind (·.dst)=none:=hdj;rw[h5]at hc2;cases hc2
     |some d=>
      have h5:=hA.done j oj d hoj hdj (hdl j hjd);have hds:d<a.tmps.size:=by rw[hA.size];exact hlt oj (List.mem_of_getElem? hoj) d hdj
      have h6:a.tmps[d]?=some (val j γ):=by
       rw[Array.getD_eq_getD_getElem?,Array.getElem?_eq_getElem hds]at h5;rw[Array.getElem?_eq_getElem hds];exact congrArg some h5
      have h7:yielded l.toArray a.tmps j=Ko (val j γ):=by
       unfold yielded
       have h8:((l.toArray[j]?).bind (·.dst)).bind (a.tmps[·]?)=some (val j γ):=by
        rw[show l.toArray[j]?=some oj by simpa using hoj];show(oj.dst).bind (a.tmps[·]?)=_
        rw[hdj];exact h6
       rw[h8];cases val j γ<;>rfl
      show(yielded l.toArray a.tmps j==some want)=(Ko (val j γ)==some want)
      rw[h7]
  have hupd:(fun j=>(listed.setIfInBounds i true).getD j false)=mQ (fun j=>listed.getD j false) i:=by
   funext j
   unfold mQ;by_cases e:i=j
   ·subst e;rw[Array.getD_eq_getD_getElem?,Array.getElem?_setIfInBounds,if_pos rfl,if_pos aC];simp
   ·rw[getD_set_ne false e];simp[Ne.symm e]
  have hcn:cnt l.length (mQ (fun j=>listed.getD j false) i)+fuel=l.length:=by
   rw[DY (L:=fun j=>listed.getD j false) hLi l.length hi2];omega
  have next:∀v W',FlowPost val Wd (fun j=>listed.getD j false) γ i v W'→wpAny P md l.toArray Q fuel (listed.setIfInBounds i true) (a.put o.dst v) W':=fun v W' ⟨γ',p1,p2,p3⟩=>by
   refine ih _ γ' _ W' (by rw[Array.size_setIfInBounds];exact hsz) (by rw[hupd];exact hcn) (by rw[hupd];exact p1) ?_;rw[hupd];exact hA.put hnd (hlt o (List.mem_of_getElem? hil)) hil p2 p3
  unfold wpOp;rw[h2];simp only[hwn];rcases hst (fun j=>listed.getD j false) γ W a.eval hLi hdl hW (fun _=>rfl) (fun _=>rfl) (fun _=>rfl) (fun j hj oj d hoj hd=>hA.done j oj d hoj hd (hdl j hj)) (fun s hs=>hA.rest s (fun j oj hj hdj=>(of_decide_eq_true (List.all_eq_true.1 hs oj (List.mem_of_getElem? hj)) hdj).elim))with⟨hon,hdo⟩|⟨hoff,hp⟩
  ·simp only[hon,if_true];left;unfold Oper.wp;rcases hdo with⟨v,W',hr,hp⟩|⟨W',hr,hp⟩|⟨f,args,W1,hr,hp⟩
   ·rw[hr];exact next v W' hp
   ·rw[hr];exact next undef W' hp
   ·rw[hr];refine Calls.mono hp fun e W' he=>?_
    obtain⟨v,rfl,hp'⟩:=he;exact next v W' hp'
  ·simp only[hoff,Bool.false_eq_true,if_false];exact next undef W hp
theorem lQ{id:Nat}{Q:Exit→Act→World→Prop}{w:World}(vals:Γ→List Value)(Wd:(Nat→Bool)→Γ→World→Prop)(deps:List (List Nat))(N:Nat)(γ0:Γ)(hm:P.follows .mixedOrders=true)(hN:a0.tmps.size=N)(hB:Gy .any N deps l=true)
  (hlen:∀γ,(vals γ).length=l.length) (h0:Wd (fun _=>false) γ0 w.drew) (hS:zV (fun i γ=>(vals γ).getD i undef) Wd l a0 P deps 0 l)
  (hQ:∀γ L W,(∀j,j<l.length→L j=true)→Wd L γ W→Q .normal (nX (vals γ) l a0) W):(Code.region id l.toArray true).wp P Q a0 w:=by
 subst hN;refine wp_region_any hm ?_
 have e:(fun j=>(Array.replicate l.toArray.size false).getD j false)=fun _=>false:=by
  funext j
  rw[Array.getD_eq_getD_getElem?,Array.getElem?_replicate];split<;>rfl
 refine BP (val:=fun i γ=>(vals γ).getD i undef) hB hS (fun γ L W hL hW=>?_) l.toArray.size _ γ0 a0 w.drew eZ ?_ (by rw[e];exact h0) ?_
 ·rw[xR l 0 a0 (by rw[Nat.zero_add];exact hlen γ)];exact hQ γ L W hL hW
 ·rw[e]
  have:cnt l.length (fun _=>false)=0:=by
   unfold cnt;rw[List.filter_eq_nil_iff.2 (fun _ _=>Bool.false_ne_true)]
   rfl
  rw[this];simp
 ·rw[e];exact⟨rfl,rfl,fun _ _ _ _ _ h=>aK,fun _ _=>rfl⟩
end
theorem flS{P:Program}{Γ:Type}{val:Nat→Γ→Value}{Wd:(Nat→Bool)→Γ→World→Prop}{L:Nat→Bool}{γ:Γ}{i:Nat}{o:Oper}{ev:Operand→Value}{W:World}{v:Value}(hg:gon val γ o=true)(hr:(execOp ev o).run P W= .ok (.value v) W)(hW:Wd (mQ L i) γ W)(hv:val i γ=v):(gon val γ o=true∧Kp val Wd P ev L γ i o W)∨(gon val γ o=false∧FlowPost val Wd L γ i undef W):=
 .inl ⟨hg, .inl ⟨v,W,hr, .still hW hv⟩⟩
section
variable {P:Program} {ops:Array Oper} {md:Region.Mode} {Inv:World→Prop}
def Yi(P:Program)(ops:Array Oper)(Inv:World→Prop)(o:Oper)(v:Value)(a:Act):Prop:=
 (Region.wanted o (yielded ops a.tmps)=true∧∀W,Inv W→((execOp a.eval o).run P W=.ok (.value v) W∨∃f args,(execOp a.eval o).run P W=.ok (.enter f args) W∧Calls P f args W fun e W'=>e=.returned v∧Inv W'))∨
 (Region.wanted o (yielded ops a.tmps)=false∧v=undef)
theorem Yi.of_same{o:Oper}{v:Value}{a a':Act}(h:Yi P ops Inv o v a)(he:execOp a'.eval o=execOp a.eval o)(hw:Region.wanted o (yielded ops a'.tmps)=Region.wanted o (yielded ops a.tmps)):Yi P ops Inv o v a':=by
 unfold Yi at*;rw[he,hw];exact h
theorem Yi.keep{oi oj:Oper}{v u:Value}{a:Act}(hap:oi.apart ops oj=true)(hsi:∀cs b,oi.op≠.select cs b)
  (h:Yi P ops Inv oi v a):Yi P ops Inv oi v (a.put oj.dst u):=by
 obtain⟨_,_,h3⟩:=Oper.apart_spec hap;exact jB
theorem Yi.back{oi oj:Oper}{v u:Value}{a:Act}(hap:oi.apart ops oj=true)(hsj:∀cs b,oj.op≠.select cs b)
  (h:Yi P ops Inv oj u (a.put oi.dst v)):Yi P ops Inv oj u a:=by
 obtain⟨h1,_,_⟩:=Oper.apart_spec hap;exact hH
def BQ(P:Program)(md:Region.Mode)(ops:Array Oper)(Inv:World→Prop)(n:Nat)(L:Array Bool→Act→Prop):Nat→Array Bool→Act→Prop
 |0,listed,a=>L listed a
 |f+1,listed,a=>Region.ready md ops listed≠[]∧∀i∈Region.ready md ops listed,i<n∧∃o v,ops[i]?=some o∧Yi P ops Inv o v a∧
   BQ P md ops Inv n L f (listed.setIfInBounds i true) (a.put o.dst v)
theorem DZ{n i:Nat}{oi:Oper}{v:Value}{L:Array Bool→Act→Prop}(hi:ops[i]?=some oi)(hsel:∀(j:Nat) (o:Oper) cs b,ops[j]?=some o→o.op≠.select cs b)
  (hs:Region.sinkB md ops n=true) (hc:Region.chainB md ops n=true) (hn:n<ops.size) (hin:i<n)
  (hdone:∀listed a,L listed a→∀j∈Region.ready md ops listed,n≤j):
  ∀(f:Nat) (listed:Array Bool) (a:Act),HeadInv md ops n listed→
   (∀j oj,ops[j]?=some oj→j≠i→listed.getD j true=false→(∀e∈oj.after,Region.binds md e=true→e.on≠i)→oi.apart ops oj=true)→
   i∈Region.ready md ops listed→Yi P ops Inv oi v a→
   BQ P md ops Inv n L f (listed.setIfInBounds i true) (a.put oi.dst v)→BQ P md ops Inv n L (f+1) listed a:=by
 intro f
 induction f with
 |zero=>
  intro listed a inv _ hr hy H;have hun:=(mem_ready.1 hr).1
  refine⟨fun h=>dY,fun j hj=>?_⟩
  have hjn:j<n:=by
   rcases Nat.lt_or_ge j n with h|h
   ·exact h
   ·exact bK
  refine⟨hjn,?_⟩;by_cases hji:j=i
  ·subst hji;exact⟨oi,v,hi,hy,H⟩
  ·have:=hdone _ _ H j (ready_mono hj hji);omega
 |succ f ih=>
  intro listed a inv hfree hr hy H;have hun:=(mem_ready.1 hr).1
  refine⟨fun h=>dY,fun j hj=>?_⟩
  have hjn:j<n:=by
   rcases Nat.lt_or_ge j n with h|h
   ·exact h
   ·exact bK
  refine⟨hjn,?_⟩;by_cases hji:j=i
  ·subst hji;exact⟨oi,v,hi,hy,H⟩
  ·obtain⟨oj',u,hoj',hyj,hK⟩:=(H.2 j (ready_mono hj hji)).2;obtain⟨hjun,oj,hoj,hall⟩:=mem_ready.1 hj;obtain rfl:oj'=oj:=Option.some.inj (hoj'.symm.trans hoj)
   have hnot:∀e∈oj'.after,Region.binds md e=true→e.on≠i:=fun e he hb heq=>by
    have h1:=hall e he hb;rw[heq,getD_both hun]at h1;cases h1
   have hap:=hfree j oj' hoj hji hjun hnot;obtain⟨_,h2,_⟩:=Oper.apart_spec hap
   have hfree':∀k ok,ops[k]?=some ok→k≠i→(listed.setIfInBounds j true).getD k true=false→
     (∀e∈ok.after,Region.binds md e=true→e.on≠i)→oi.apart ops ok=true:=fun k ok hk hki hun hno=>by
    refine hfree k ok hk hki ?_ hno;by_cases hjk:j=k
    ·subst hjk;exact hjun
    ·rw[getD_set_ne true hjk]at hun;exact hun
   refine⟨oj',u,hoj,hyj.back hap (fun cs b=>hsel j oj' cs b hoj),ih (listed.setIfInBounds j true) _ (inv.set hj hjn) hfree' (ready_mono hr (Ne.symm hji)) (hy.keep hap (fun cs b=>hsel i oi cs b hi)) ?_⟩;rw[Array.setIfInBounds_comm _ _ hji,←Act.put_comm a v u h2];exact hK
def Gz(P:Program)(ops:Array Oper)(Inv:World→Prop)(Q:Act→Prop):Nat→List Oper→Act→Prop
 |_,[],a=>Q a
 |k,o::l,a=>∃v,Yi P ops Inv o v a∧Gz P ops Inv Q (k+1) l (a.put o.dst v)
theorem BR{n g:Nat}{Lq:Act→Prop}(hsel:Region.noSelect ops=true)(hs:Region.sinkB md ops n=true)(hc:Region.chainB md ops n=true)(hn:n<ops.size):
  ∀(l:List Oper) (k:Nat) (listed:Array Bool) (a:Act),(∀j,j<l.length→l[j]?=ops[k+j]?)→k+l.length=n→HeadInv md ops n listed→
  Region.lexHead md ops g l.length k listed=true→Gz P ops Inv Lq k l a→
  BQ P md ops Inv n (fun listed' a'=>Region.seqB md ops g n listed'=true∧Lq a') l.length listed a
 |[],k,listed,a,_,hk,_,hB,h=>by
  have:k=n:=by simpa using hk
  subst this;exact⟨by simpa[Region.lexHead]using hB,h⟩
 |o::l,k,listed,a,hl,hk,inv,hB,h=>by
  have h0:ops[k]?=some o:=kH;simp only[List.length_cons,Region.lexHead,Bool.and_eq_true]at hB;obtain⟨⟨hr,hf⟩,hB'⟩:=hB;have hkn:k<n:=dH
  have hr':k∈Region.ready md ops listed:=by simpa using hr
  obtain⟨v,hy,hK⟩:=h
  exact DZ h0 (Region.noSelect_spec hsel) hs hc hn hkn (fun listed' a' hL=>seqB_ready hL.1) l.length listed a inv (Region.free_spec h0 hf) hr' hy
   (BR hsel hs hc hn l (k+1) _ _ (fun j hj=>dT) dH (inv.set hr' hkn) hB' hK)
theorem wN{n g:Nat}{L:Array Bool→Act→Prop}{Q':Exit→Act→World→Prop}
  (hL:∀listed a W,Inv W→L listed a→wpAny P md ops Q' g listed a W):
  ∀(f:Nat) (listed:Array Bool) (a:Act) (W:World),Inv W→BQ P md ops Inv n L f listed a→wpAny P md ops Q' (f+g) listed a W
 |0,listed,a,W,hI,h=>by rw[Nat.zero_add];exact hL _ _ _ hI h
 |f+1,listed,a,W,hI,h=>by
  rw[show f+1+g=(f+g)+1 by omega];refine⟨fun h0=>absurd h0 h.1,fun i hi=>?_⟩;obtain⟨_,o,v,ho,hy,hK⟩:=h.2 i hi;unfold wpOp;simp only[ho];rcases hy with⟨hw,hrun⟩|⟨hw,rfl⟩
  ·rw[if_pos hw];left;unfold Oper.wp;rcases hrun W hI with hr|⟨fn,args,hr,hc⟩
   ·rw[hr];exact wN hL f _ _ W hI hK
   ·rw[hr];refine Calls.mono hc fun e W' ⟨he,hI'⟩=>?_
    subst he;exact wN hL f _ _ W' hI' hK
  ·rw[if_neg (by simp[hw])];exact wN hL f _ _ W hI hK
theorem mJ{o:Oper}{v:Value}{a:Act}(hg:o.guard=none)(h:∀W,Inv W→(execOp a.eval o).run P W=.ok (.value v) W):Yi P ops Inv o v a:=
 .inl ⟨iI,fun W hI=>.inl (h W hI)⟩
theorem Bz{o:Oper}{v:Value}{a:Act}{f:FuncId}{args:Array Value}(hg:o.guard=none)(h:∀W,Inv W→(execOp a.eval o).run P W=.ok (.enter f args) W)
  (hc:∀W,Inv W→Calls P f args W fun e W'=>e=.returned v∧Inv W'):Yi P ops Inv o v a:=
 .inl ⟨iI,fun W hI=>.inr ⟨f,args,h W hI,hc W hI⟩⟩
theorem sP{id:Nat}{Q:Exit→Act→World→Prop}{a:Act}{w:World}{l:List Oper}(Inv:World→Prop)(n:Nat)(hm:P.follows .mixedOrders=true)(hB:Region.lexTailB .any l.toArray n=true)(h0:Inv w.drew)
  (h:Gz P l.toArray Inv (fun a'=>∀W,Inv W→wpList P l.toArray Q (l.drop n) a' W) 0 (l.take n) a):(Code.region id l.toArray true).wp P Q a w:=by
 simp only[Region.lexTailB,Bool.and_eq_true,decide_eq_true_eq]at hB;obtain⟨⟨⟨⟨hsel,hn⟩,hs⟩,hc⟩,hlex⟩:=hB;have hn':n<l.length:=by simpa using hn
 have htl:(l.take n).length=n:=iE;have hdl:(l.drop n).length=l.toArray.size-n:=eZ
 have inv0:HeadInv .any l.toArray n (Array.replicate l.toArray.size false):=
  ⟨eZ,fun j oj _ hl=>(by rw[getD_replicate_false]at hl;cases hl),fun t _ ht=>getD_in (by simpa using ht) (getD_replicate_false _ _)⟩
 have H:=BR (md:=.any) (g:=l.toArray.size-n) hsel hs hc hn (l.take n) 0 _ a (fun j hj=>by
  have hj':j<n:=by rw[htl]at hj;exact hj
  simp[hj']) (by simpa using htl) inv0 (by rw[htl];exact hlex) h
 refine wp_region_any hm ?_
 have:=wN (Q':=Q) (g:=l.toArray.size-n) (ops:=l.toArray) (fun listed a' W hI hL=>by
  have h1:=wpAny_of_seq (md:=.any) (Q':=Q) (l.drop n) n listed a' W (fun j=>by simp[List.getElem?_drop]) (by rw[hdl];exact hL.1) (hL.2 W hI);rw[hdl]at h1;exact h1) _ _ _ w.drew h0 H
 rw[htl,show n+(l.toArray.size-n)=l.toArray.size by omega]at this;exact this
end
section
variable {P:Program} {ops:Array Oper} {md:Region.Mode} {Inv:World→Prop} {InvB:Nat→World→Prop} {A:Nat} {mk:Nat→Value}
def Yg(P:Program)(ops:Array Oper)(Inv:World→Prop)(InvB:Nat→World→Prop)(o:Oper)(v:Value)(a:Act):Prop:=
 (Region.wanted o (yielded ops a.tmps)=true∧∀W,Inv W→((execOp a.eval o).run P W=.ok (.value v) W∨∃f args,(execOp a.eval o).run P W=.ok (.enter f args) W∧Calls P f args W fun e W'=>e=.returned v∧Inv W'∧∀b,InvB b W→InvB b W'))∨
 (Region.wanted o (yielded ops a.tmps)=false∧v=undef)
theorem Yg.of_same{o:Oper}{v:Value}{a a':Act}(h:Yg P ops Inv InvB o v a)(he:execOp a'.eval o=execOp a.eval o)(hw:Region.wanted o (yielded ops a'.tmps)=Region.wanted o (yielded ops a.tmps)):Yg P ops Inv InvB o v a':=by
 unfold Yg at*;rw[he,hw];exact h
theorem Yg.keep{oi oj:Oper}{v u:Value}{a:Act}(hap:oi.apart ops oj=true)(hsi:∀cs b,oi.op≠.select cs b)
  (h:Yg P ops Inv InvB oi v a):Yg P ops Inv InvB oi v (a.put oj.dst u):=by
 obtain⟨_,_,h3⟩:=Oper.apart_spec hap;exact jB
theorem Yg.back{oi oj:Oper}{v u:Value}{a:Act}(hap:oi.apart ops oj=true)(hsj:∀cs b,oj.op≠.select cs b)
  (h:Yg P ops Inv InvB oj u (a.put oi.dst v)):Yg P ops Inv InvB oj u a:=by
 obtain⟨h1,_,_⟩:=Oper.apart_spec hap;exact hH
theorem Yg.inv{o:Oper}{v:Value}{a:Act}(h:Yg P ops Inv InvB o v a):Yi P ops Inv o v a:=by
 rcases h with⟨hw,h⟩|h
 ·refine .inl ⟨hw,fun W hI=>?_⟩;rcases h W hI with h1|⟨f,args,h1,h2⟩
  ·exact .inl h1
  ·exact .inr ⟨f,args,h1,Calls.mono h2 fun _ _ ⟨e,i,_⟩=>⟨e,i⟩⟩
 ·exact .inr h
theorem Yg.invB(hsub:∀b W,InvB b W→Inv W){o:Oper}{v:Value}{a:Act}(h:Yg P ops Inv InvB o v a)(b:Nat):Yi P ops (InvB b) o v a:=by
 rcases h with⟨hw,h⟩|h
 ·refine .inl ⟨hw,fun W hI=>?_⟩;rcases h W (hsub b W hI)with h1|⟨f,args,h1,h2⟩
  ·exact .inl h1
  ·exact .inr ⟨f,args,h1,Calls.mono h2 fun _ _ ⟨e,_,i⟩=>⟨e,i b hI⟩⟩
 ·exact .inr h
def Ya(P:Program)(Inv:World→Prop)(InvB:Nat→World→Prop)(mk:Nat→Value)(o:Oper)(a:Act):Prop:=
 o.guard=none∧∀W,Inv W→(∃b W',(execOp a.eval o).run P W=.ok (.value (mk b)) W'∧InvB b W')∨∃f args,(execOp a.eval o).run P W=.ok (.enter f args) W∧Calls P f args W fun e W'=>∃b,e=.returned (mk b)∧InvB b W'
theorem Ya.of_same{o:Oper}{a a':Act}(h:Ya P Inv InvB mk o a)(he:execOp a'.eval o=execOp a.eval o):Ya P Inv InvB mk o a':=by
 unfold Ya at*;rw[he];exact h
def Ys(P:Program)(md:Region.Mode)(ops:Array Oper)(Inv:World→Prop)(InvB:Nat→World→Prop)(A i:Nat)(o:Oper)(v:Nat→Value)(a:Nat→Act):Prop:=
 (∃u,v=(fun _=>u)∧∀b,Yg P ops Inv InvB o u (a b))∨(Region.waitsFor md ops i A=true∧∀b,Yi P ops (InvB b) o (v b) (a b))
theorem Ys.keep{i:Nat}{oi oj:Oper}{v u:Nat→Value}{a:Nat→Act}(hap:oi.apart ops oj=true)(hsi:∀cs b,oi.op≠.select cs b)
  (h:Ys P md ops Inv InvB A i oi v a):Ys P md ops Inv InvB A i oi v (fun b=>(a b).put oj.dst (u b)):=by
 rcases h with⟨x,hx,hy⟩|⟨hw,hy⟩
 ·exact .inl ⟨x,hx,fun b=>(hy b).keep hap hsi⟩
 ·exact .inr ⟨hw,fun b=>(hy b).keep hap hsi⟩
theorem Ys.back{j:Nat}{oi oj:Oper}{v u:Nat→Value}{a:Nat→Act}(hap:oi.apart ops oj=true)(hsj:∀cs b,oj.op≠.select cs b)
  (h:Ys P md ops Inv InvB A j oj u (fun b=>(a b).put oi.dst (v b))):Ys P md ops Inv InvB A j oj u a:=by
 rcases h with⟨x,hx,hy⟩|⟨hw,hy⟩
 ·exact .inl ⟨x,hx,fun b=>(hy b).back hap hsj⟩
 ·exact .inr ⟨hw,fun b=>(hy b).back hap hsj⟩
def GA(P:Program)(md:Region.Mode)(ops:Array Oper)(Inv:World→Prop)(InvB:Nat→World→Prop)(A n:Nat)(L:Array Bool→(Nat→Act)→Prop):Nat→Array Bool→(Nat→Act)→Prop
 |0,listed,a=>L listed a
 |f+1,listed,a=>Region.ready md ops listed≠[]∧∀i∈Region.ready md ops listed,i<n∧∃o v,ops[i]?=some o∧Ys P md ops Inv InvB A i o v a∧
   GA P md ops Inv InvB A n L f (listed.setIfInBounds i true) (fun b=>(a b).put o.dst (v b))
def IT(P:Program)(md:Region.Mode)(ops:Array Oper)(Inv:World→Prop)(InvB:Nat→World→Prop)(A:Nat)(mk:Nat→Value)(n:Nat)(L:Array Bool→(Nat→Act)→Prop):Nat→Array Bool→Act→Prop
 |0,_,_=>False
 |f+1,listed,a=>Region.ready md ops listed≠[]∧∀i∈Region.ready md ops listed,i<n∧∃o,ops[i]?=some o∧
   ((i=A∧Ya P Inv InvB mk o a∧GA P md ops Inv InvB A n L f (listed.setIfInBounds i true) (fun b=>a.put o.dst (mk b)))∨
    (i≠A∧∃v,Yg P ops Inv InvB o v a∧IT P md ops Inv InvB A mk n L f (listed.setIfInBounds i true) (a.put o.dst v)))
theorem BS{n i:Nat}{oi:Oper}{v:Nat→Value}{L:Array Bool→(Nat→Act)→Prop}(hi:ops[i]?=some oi)(hsel:∀(j:Nat) (o:Oper) cs b,ops[j]?=some o→o.op≠.select cs b)
  (hs:Region.sinkB md ops n=true) (hc:Region.chainB md ops n=true) (hn:n<ops.size) (hin:i<n)
  (hdone:∀listed a,L listed a→∀j∈Region.ready md ops listed,n≤j):
  ∀(f:Nat) (listed:Array Bool) (a:Nat→Act),HeadInv md ops n listed→
   (∀j oj,ops[j]?=some oj→j≠i→listed.getD j true=false→(∀e∈oj.after,Region.binds md e=true→e.on≠i)→oi.apart ops oj=true)→
   i∈Region.ready md ops listed→Ys P md ops Inv InvB A i oi v a→
   GA P md ops Inv InvB A n L f (listed.setIfInBounds i true) (fun b=>(a b).put oi.dst (v b))→GA P md ops Inv InvB A n L (f+1) listed a:=by
 intro f
 induction f with
 |zero=>
  intro listed a inv _ hr hy H;have hun:=(mem_ready.1 hr).1
  refine⟨fun h=>dY,fun j hj=>?_⟩
  have hjn:j<n:=by
   rcases Nat.lt_or_ge j n with h|h
   ·exact h
   ·exact bK
  refine⟨hjn,?_⟩;by_cases hji:j=i
  ·subst hji;exact⟨oi,v,hi,hy,H⟩
  ·have:=hdone _ _ H j (ready_mono hj hji);omega
 |succ f ih=>
  intro listed a inv hfree hr hy H;have hun:=(mem_ready.1 hr).1
  refine⟨fun h=>dY,fun j hj=>?_⟩
  have hjn:j<n:=by
   rcases Nat.lt_or_ge j n with h|h
   ·exact h
   ·exact bK
  refine⟨hjn,?_⟩;by_cases hji:j=i
  ·subst hji;exact⟨oi,v,hi,hy,H⟩
  ·obtain⟨oj',u,hoj',hyj,hK⟩:=(H.2 j (ready_mono hj hji)).2;obtain⟨hjun,oj,hoj,hall⟩:=mem_ready.1 hj;obtain rfl:oj'=oj:=Option.some.inj (hoj'.symm.trans hoj)
   have hnot:∀e∈oj'.after,Region.binds md e=true→e.on≠i:=fun e he hb heq=>by
    have h1:=hall e he hb;rw[heq,getD_both hun]at h1;cases h1
   have hap:=hfree j oj' hoj hji hjun hnot;obtain⟨_,h2,_⟩:=Oper.apart_spec hap
   have hfree':∀k ok,ops[k]?=some ok→k≠i→(listed.setIfInBounds j true).getD k true=false→
     (∀e∈ok.after,Region.binds md e=true→e.on≠i)→oi.apart ops ok=true:=fun k ok hk hki hun hno=>by
    refine hfree k ok hk hki ?_ hno;by_cases hjk:j=k
    ·subst hjk;exact hjun
    ·rw[getD_set_ne true hjk]at hun;exact hun
   refine⟨oj',u,hoj,hyj.back hap (fun cs b=>hsel j oj' cs b hoj),ih (listed.setIfInBounds j true) _ (inv.set hj hjn) hfree' (ready_mono hr (Ne.symm hji)) (hy.keep hap (fun cs b=>hsel i oi cs b hi)) ?_⟩;rw[Array.setIfInBounds_comm _ _ hji,show(fun b=>((a b).put oj'.dst (u b)).put oi.dst (v b))=(fun b=>((a b).put oi.dst (v b)).put oj'.dst (u b))from funext fun b=>(Act.put_comm (a b) (v b) (u b) h2).symm];exact hK
theorem GB{n i:Nat}{oi:Oper}{v:Value}{L:Array Bool→(Nat→Act)→Prop}(hiA:i≠A)(hi:ops[i]?=some oi)(hsel:∀(j:Nat) (o:Oper) cs b,ops[j]?=some o→o.op≠.select cs b)
  (hs:Region.sinkB md ops n=true) (hc:Region.chainB md ops n=true) (hn:n<ops.size) (hin:i<n)
  (hdone:∀listed a,L listed a→∀j∈Region.ready md ops listed,n≤j):
  ∀(f:Nat) (listed:Array Bool) (a:Act),HeadInv md ops n listed→
   (∀j oj,ops[j]?=some oj→j≠i→listed.getD j true=false→(∀e∈oj.after,Region.binds md e=true→e.on≠i)→oi.apart ops oj=true)→
   i∈Region.ready md ops listed→Yg P ops Inv InvB oi v a→
   IT P md ops Inv InvB A mk n L f (listed.setIfInBounds i true) (a.put oi.dst v)→IT P md ops Inv InvB A mk n L (f+1) listed a:=by
 intro f
 induction f with
 |zero=>intro listed a inv _ hr hy H;exact H.elim
 |succ f ih=>
  intro listed a inv hfree hr hy H;have hun:=(mem_ready.1 hr).1
  refine⟨fun h=>dY,fun j hj=>?_⟩
  have hjn:j<n:=by
   rcases Nat.lt_or_ge j n with h|h
   ·exact h
   ·exact bK
  refine⟨hjn,?_⟩;by_cases hji:j=i
  ·subst hji;exact⟨oi,hi,.inr ⟨hiA,v,hy,H⟩⟩
  ·obtain⟨oj',hoj',hK⟩:=(H.2 j (ready_mono hj hji)).2;obtain⟨hjun,oj,hoj,hall⟩:=mem_ready.1 hj;obtain rfl:oj'=oj:=Option.some.inj (hoj'.symm.trans hoj)
   have hnot:∀e∈oj'.after,Region.binds md e=true→e.on≠i:=fun e he hb heq=>by
    have h1:=hall e he hb;rw[heq,getD_both hun]at h1;cases h1
   have hap:=hfree j oj' hoj hji hjun hnot;obtain⟨h1,h2,h3⟩:=Oper.apart_spec hap
   have hfree':∀k ok,ops[k]?=some ok→k≠i→(listed.setIfInBounds j true).getD k true=false→
     (∀e∈ok.after,Region.binds md e=true→e.on≠i)→oi.apart ops ok=true:=fun k ok hk hki hun hno=>by
    refine hfree k ok hk hki ?_ hno;by_cases hjk:j=k
    ·subst hjk;exact hjun
    ·rw[getD_set_ne true hjk]at hun;exact hun
   refine⟨oj',hoj,?_⟩;rcases hK with⟨hjA,hya,hT⟩|⟨hjA,u,hyj,hT⟩
   ·refine .inl ⟨hjA,hya.of_same (execOp_put oj' (fun cs b=>hsel j oj' cs b hoj) a oi.dst v h1).symm,?_⟩;refine BS (v:=fun _=>v) hi hsel hs hc hn hin hdone f _ _ (inv.set hj hjn) hfree' (ready_mono hr (Ne.symm hji)) (.inl ⟨v,rfl,fun b=>hy.keep hap (fun cs b=>hsel i oi cs b hi)⟩) ?_;rw[Array.setIfInBounds_comm _ _ hji,show(fun b=>(a.put oj'.dst (mk b)).put oi.dst v)=(fun b=>(a.put oi.dst v).put oj'.dst (mk b))from funext fun b=>(Act.put_comm a v (mk b) h2).symm];exact hT
   ·refine .inr ⟨hjA,u,hyj.back hap (fun cs b=>hsel j oj' cs b hoj),ih (listed.setIfInBounds j true) _ (inv.set hj hjn) hfree' (ready_mono hr (Ne.symm hji)) (hy.keep hap (fun cs b=>hsel i oi cs b hi)) ?_⟩;rw[Array.setIfInBounds_comm _ _ hji,←Act.put_comm a v u h2];exact hT
theorem IU{n:Nat}{oi:Oper}{L:Array Bool→(Nat→Act)→Prop}(hi:ops[A]?=some oi)(hsel:∀(j:Nat) (o:Oper) cs b,ops[j]?=some o→o.op≠.select cs b)
  (hs:Region.sinkB md ops n=true) (hc:Region.chainB md ops n=true) (hn:n<ops.size) (hin:A<n)
  (hdone:∀listed a,L listed a→∀j∈Region.ready md ops listed,n≤j):
  ∀(f:Nat) (listed:Array Bool) (a:Act),HeadInv md ops n listed→
   (∀j oj,ops[j]?=some oj→j≠A→listed.getD j true=false→(∀e∈oj.after,Region.binds md e=true→e.on≠A)→oi.apart ops oj=true)→
   A∈Region.ready md ops listed→Ya P Inv InvB mk oi a→
   GA P md ops Inv InvB A n L f (listed.setIfInBounds A true) (fun b=>a.put oi.dst (mk b))→IT P md ops Inv InvB A mk n L (f+1) listed a:=by
 intro f
 induction f with
 |zero=>
  intro listed a inv _ hr hy H;have hun:=(mem_ready.1 hr).1
  refine⟨fun h=>dY,fun j hj=>?_⟩
  have hjn:j<n:=by
   rcases Nat.lt_or_ge j n with h|h
   ·exact h
   ·exact absurd hj (tail_waits hs hc hn inv _ A rfl hin hun j h)
  refine⟨hjn,?_⟩;by_cases hji:j=A
  ·subst hji;exact⟨oi,hi,.inl ⟨rfl,hy,H⟩⟩
  ·have:=hdone _ _ H j (ready_mono hj hji);omega
 |succ f ih=>
  intro listed a inv hfree hr hy H;have hun:=(mem_ready.1 hr).1
  refine⟨fun h=>dY,fun j hj=>?_⟩
  have hjn:j<n:=by
   rcases Nat.lt_or_ge j n with h|h
   ·exact h
   ·exact absurd hj (tail_waits hs hc hn inv _ A rfl hin hun j h)
  refine⟨hjn,?_⟩;by_cases hji:j=A
  ·subst hji;exact⟨oi,hi,.inl ⟨rfl,hy,H⟩⟩
  ·obtain⟨oj',u,hoj',hyj,hT⟩:=(H.2 j (ready_mono hj hji)).2;obtain⟨hjun,oj,hoj,hall⟩:=mem_ready.1 hj;obtain rfl:oj'=oj:=Option.some.inj (hoj'.symm.trans hoj)
   have hnot:∀e∈oj'.after,Region.binds md e=true→e.on≠A:=fun e he hb heq=>by
    have h1:=hall e he hb;rw[heq,getD_both hun]at h1;cases h1
   have hap:=hfree j oj' hoj hji hjun hnot;obtain⟨h1,h2,h3⟩:=Oper.apart_spec hap
   have hfree':∀k ok,ops[k]?=some ok→k≠A→(listed.setIfInBounds j true).getD k true=false→
     (∀e∈ok.after,Region.binds md e=true→e.on≠A)→oi.apart ops ok=true:=fun k ok hk hki hun hno=>by
    refine hfree k ok hk hki ?_ hno;by_cases hjk:j=k
    ·subst hjk;exact hjun
    ·rw[getD_set_ne true hjk]at hun;exact hun
   refine⟨oj',hoj,.inr ⟨hji,?_⟩⟩;rcases hyj with⟨x,rfl,hyb⟩|⟨hw,_⟩
   ·refine⟨x,(hyb 0).back hap (fun cs b=>hsel j oj' cs b hoj),ih (listed.setIfInBounds j true) _ (inv.set hj hjn) hfree' (ready_mono hr (Ne.symm hji)) (hy.of_same (execOp_put oi (fun cs b=>hsel A oi cs b hi) a oj'.dst x h3)) ?_⟩;rw[Array.setIfInBounds_comm _ _ hji,show(fun b=>(a.put oj'.dst x).put oi.dst (mk b))=(fun b=>(a.put oi.dst (mk b)).put oj'.dst x)from funext fun b=>(Act.put_comm a (mk b) x h2).symm];exact hT
   ·obtain⟨oj,hoj2,e,he,hb,hon⟩:=Region.waitsFor_spec hw;obtain rfl:oj'=oj:=Option.some.inj (hoj.symm.trans hoj2);exact absurd hon (hnot e he hb)
def GC(P:Program)(md:Region.Mode)(ops:Array Oper)(Inv:World→Prop)(InvB:Nat→World→Prop)(A:Nat)(Q:(Nat→Act)→Prop):Nat→List Oper→(Nat→Act)→Prop
 |_,[],a=>Q a
 |k,o::l,a=>∃v,Ys P md ops Inv InvB A k o v a∧GC P md ops Inv InvB A Q (k+1) l (fun b=>(a b).put o.dst (v b))
def GD(P:Program)(md:Region.Mode)(ops:Array Oper)(Inv:World→Prop)(InvB:Nat→World→Prop)(A:Nat)(mk:Nat→Value)(Q:(Nat→Act)→Prop):Nat→List Oper→Act→Prop
 |_,[],_=>False
 |k,o::l,a=>(k=A∧Ya P Inv InvB mk o a∧GC P md ops Inv InvB A Q (k+1) l (fun b=>a.put o.dst (mk b)))∨(k≠A∧∃v,Yg P ops Inv InvB o v a∧GD P md ops Inv InvB A mk Q (k+1) l (a.put o.dst v))
theorem EZ{n g:Nat}{Lq:(Nat→Act)→Prop}(hsel:Region.noSelect ops=true)(hs:Region.sinkB md ops n=true)(hc:Region.chainB md ops n=true)(hn:n<ops.size):
  ∀(l:List Oper) (k:Nat) (listed:Array Bool) (a:Nat→Act),(∀j,j<l.length→l[j]?=ops[k+j]?)→k+l.length=n→HeadInv md ops n listed→
  Region.lexHead md ops g l.length k listed=true→GC P md ops Inv InvB A Lq k l a→
  GA P md ops Inv InvB A n (fun listed' a'=>Region.seqB md ops g n listed'=true∧Lq a') l.length listed a
 |[],k,listed,a,_,hk,_,hB,h=>by
  have:k=n:=by simpa using hk
  subst this;exact⟨by simpa[Region.lexHead]using hB,h⟩
 |o::l,k,listed,a,hl,hk,inv,hB,h=>by
  have h0:ops[k]?=some o:=kH;simp only[List.length_cons,Region.lexHead,Bool.and_eq_true]at hB;obtain⟨⟨hr,hf⟩,hB'⟩:=hB;have hkn:k<n:=dH
  have hr':k∈Region.ready md ops listed:=by simpa using hr
  obtain⟨v,hy,hK⟩:=h
  exact BS h0 (Region.noSelect_spec hsel) hs hc hn hkn (fun listed' a' hL=>seqB_ready hL.1) l.length listed a inv (Region.free_spec h0 hf) hr' hy
   (EZ hsel hs hc hn l (k+1) _ _ (fun j hj=>dT) dH (inv.set hr' hkn) hB' hK)
theorem E4{n g:Nat}{Lq:(Nat→Act)→Prop}(hsel:Region.noSelect ops=true)(hs:Region.sinkB md ops n=true)(hc:Region.chainB md ops n=true)(hn:n<ops.size):
  ∀(l:List Oper) (k:Nat) (listed:Array Bool) (a:Act),(∀j,j<l.length→l[j]?=ops[k+j]?)→k+l.length=n→HeadInv md ops n listed→
  Region.lexHead md ops g l.length k listed=true→GD P md ops Inv InvB A mk Lq k l a→
  IT P md ops Inv InvB A mk n (fun listed' a'=>Region.seqB md ops g n listed'=true∧Lq a') l.length listed a
 |[],k,listed,a,_,hk,_,hB,h=>h.elim
 |o::l,k,listed,a,hl,hk,inv,hB,h=>by
  have h0:ops[k]?=some o:=kH;simp only[List.length_cons,Region.lexHead,Bool.and_eq_true]at hB;obtain⟨⟨hr,hf⟩,hB'⟩:=hB;have hkn:k<n:=dH
  have hr':k∈Region.ready md ops listed:=by simpa using hr
  have hl':∀j,j<l.length→l[j]?=ops[k+1+j]?:=fun j hj=>dT
  have hk':k+1+l.length=n:=dH;rcases h with⟨rfl,hy,hK⟩|⟨hkA,v,hy,hK⟩
  ·exact IU h0 (Region.noSelect_spec hsel) hs hc hn hkn (fun listed' a' hL=>seqB_ready hL.1) l.length listed a inv (Region.free_spec h0 hf) hr' hy
    (EZ hsel hs hc hn l (k+1) _ _ hl' hk' (inv.set hr' hkn) hB' hK)
  ·exact GB hkA h0 (Region.noSelect_spec hsel) hs hc hn hkn (fun listed' a' hL=>seqB_ready hL.1) l.length listed a inv (Region.free_spec h0 hf) hr' hy
    (E4 hsel hs hc hn l (k+1) _ _ hl' hk' (inv.set hr' hkn) hB' hK)
theorem sV{n g:Nat}{L:Array Bool→(Nat→Act)→Prop}{Q':Exit→Act→World→Prop}(hsub:∀b W,InvB b W→Inv W)(b:Nat)
  (hL:∀listed a W,InvB b W→L listed a→wpAny P md ops Q' g listed (a b) W):
  ∀(f:Nat) (listed:Array Bool) (a:Nat→Act) (W:World),InvB b W→GA P md ops Inv InvB A n L f listed a→wpAny P md ops Q' (f+g) listed (a b) W
 |0,listed,a,W,hI,h=>by rw[Nat.zero_add];exact hL _ _ _ hI h
 |f+1,listed,a,W,hI,h=>by
  rw[show f+1+g=(f+g)+1 by omega];refine⟨fun h0=>absurd h0 h.1,fun i hi=>?_⟩;obtain⟨_,o,v,ho,hy,hK⟩:=h.2 i hi
  have hyi:Yi P ops (InvB b) o (v b) (a b):=by
   rcases hy with⟨x,rfl,hy⟩|⟨_,hy⟩
   ·exact(hy b).invB hsub b
   ·exact hy b
  unfold wpOp;simp only[ho];rcases hyi with⟨hw,hrun⟩|⟨hw,hv⟩
  ·rw[if_pos hw];left;unfold Oper.wp;rcases hrun W hI with hr|⟨fn,args,hr,hc⟩
   ·rw[hr];exact sV hsub b hL f _ _ W hI hK
   ·rw[hr];refine Calls.mono hc fun e W' ⟨he,hI'⟩=>?_
    subst he;exact sV hsub b hL f _ _ W' hI' hK
  ·rw[if_neg (by simp[hw])];have:=sV hsub b hL f _ _ W hI hK
   simp only[hv]at this;exact this
theorem uV{n g:Nat}{L:Array Bool→(Nat→Act)→Prop}{Q':Exit→Act→World→Prop}(hsub:∀b W,InvB b W→Inv W)
  (hL:∀b listed a W,InvB b W→L listed a→wpAny P md ops Q' g listed (a b) W):
  ∀(f:Nat) (listed:Array Bool) (a:Act) (W:World),Inv W→IT P md ops Inv InvB A mk n L f listed a→wpAny P md ops Q' (f+g) listed a W
 |0,listed,a,W,hI,h=>h.elim
 |f+1,listed,a,W,hI,h=>by
  rw[show f+1+g=(f+g)+1 by omega];refine⟨fun h0=>absurd h0 h.1,fun i hi=>?_⟩;obtain⟨_,o,ho,hK⟩:=h.2 i hi;unfold wpOp;simp only[ho];rcases hK with⟨_,⟨hg,hya⟩,hT⟩|⟨_,v,hy,hT⟩
  ·rw[if_pos iI];left;unfold Oper.wp;rcases hya W hI with⟨b,W',hr,hI'⟩|⟨fn,args,hr,hc⟩
   ·rw[hr];exact sV hsub b (hL b) f _ _ W' hI' hT
   ·rw[hr];refine Calls.mono hc fun e W' ⟨b,he,hI'⟩=>?_
    subst he;exact sV hsub b (hL b) f _ _ W' hI' hT
  ·rcases hy.inv with⟨hw,hrun⟩|⟨hw,rfl⟩
   ·rw[if_pos hw];left;unfold Oper.wp;rcases hrun W hI with hr|⟨fn,args,hr,hc⟩
    ·rw[hr];exact uV hsub hL f _ _ W hI hT
    ·rw[hr];refine Calls.mono hc fun e W' ⟨he,hI'⟩=>?_
     subst he;exact uV hsub hL f _ _ W' hI' hT
   ·rw[if_neg (by simp[hw])];exact uV hsub hL f _ _ W hI hT
theorem rR{id:Nat}{Q:Exit→Act→World→Prop}{a:Act}{w:World}{l:List Oper}(Inv:World→Prop)(InvB:Nat→World→Prop)(A:Nat)(mk:Nat→Value)(n:Nat)(hsub:∀b W,InvB b W→Inv W)(hm:P.follows .mixedOrders=true)(hB:Region.lexTailB .any l.toArray n=true)(h0:Inv w.drew)
  (h:GD P .any l.toArray Inv InvB A mk (fun a'=>∀b W,InvB b W→wpList P l.toArray Q (l.drop n) (a' b) W) 0 (l.take n) a):(Code.region id l.toArray true).wp P Q a w:=by
 simp only[Region.lexTailB,Bool.and_eq_true,decide_eq_true_eq]at hB;obtain⟨⟨⟨⟨hsel,hn⟩,hs⟩,hc⟩,hlex⟩:=hB;have hn':n<l.length:=by simpa using hn
 have htl:(l.take n).length=n:=iE;have hdl:(l.drop n).length=l.toArray.size-n:=eZ
 have inv0:HeadInv .any l.toArray n (Array.replicate l.toArray.size false):=
  ⟨eZ,fun j oj _ hl=>(by rw[getD_replicate_false]at hl;cases hl),fun t _ ht=>getD_in (by simpa using ht) (getD_replicate_false _ _)⟩
 have H:=E4 (md:=.any) (g:=l.toArray.size-n) hsel hs hc hn (l.take n) 0 _ a (fun j hj=>by
  have hj':j<n:=by rw[htl]at hj;exact hj
  simp[hj']) (by simpa using htl) inv0 (by rw[htl];exact hlex) h
 refine wp_region_any hm ?_
 have:=uV (Q':=Q) (g:=l.toArray.size-n) (ops:=l.toArray) hsub (fun b listed a' W hI hL=>by
  have h1:=wpAny_of_seq (md:=.any) (Q':=Q) (l.drop n) n listed (a' b) W (fun j=>by simp[List.getElem?_drop]) (by rw[hdl];exact hL.1) (hL.2 b W hI);rw[hdl]at h1;exact h1) _ _ _ w.drew h0 H
 rw[htl,show n+(l.toArray.size-n)=l.toArray.size by omega]at this;exact this
theorem lW{o:Oper}{v:Value}{a:Act}(hg:o.guard=none)(h:∀W,Inv W→(execOp a.eval o).run P W=.ok (.value v) W):Yg P ops Inv InvB o v a:=
 .inl ⟨iI,fun W hI=>.inl (h W hI)⟩
end
theorem wO{L:Nat→Bool}{i k:Nat}(h:L k=true):mQ L i k=true:=by
 by_cases e:k=i
 ·subst e;exact nV
 ·rw[mB e];exact h
structure Chn (ds:List (List Nat)) (cs:List Nat) (F:Nat→World→Prop) (L:Nat→Bool) (W:World):Prop where
 st:∃k,F k W∧k≤cs.length∧(∀i,i<k→L (cs.getD i 0)=true)∧∀i,k≤i→i<cs.length→L (cs.getD i 0)=false
 cl:∀i,L i=true→∀j∈ds.getD i [],L j=true
section
variable {ds:List (List Nat)} {cs:List Nat} {F F':Nat→World→Prop} {L:Nat→Bool} {W W':World}
theorem Chn.start(h:F 0 W):Chn ds cs F (fun _=>false) W:=
 ⟨⟨0,h,Nat.zero_le _,fun i hi=>absurd hi (Nat.not_lt_zero i),fun _ _ _=>rfl⟩,fun _ h=>aK⟩
theorem Kq(h:∀i,L i=true→∀j∈ds.getD i [],L j=true)(k:Nat)(hd:∀j∈ds.getD k [],L j=true):∀i,mQ L k i=true→∀j∈ds.getD i [],mQ L k j=true:=fun i hi j hj=>by
 by_cases e:i=k
 ·subst e;exact wO (hd j hj)
 ·exact wO (h i (by rw[mB e]at hi;exact hi) j hj)
theorem Chn.updW(h:Chn ds cs F L W)(i:Nat)(hi:i∉cs)(hd:∀j∈ds.getD i [],L j=true)(hF:∀k,F k W→F' k W'):Chn ds cs F' (mQ L i) W':=by
 obtain⟨k,h1,h2,h3,h4⟩:=h.st;have hne:∀j,j<cs.length→cs.getD j 0≠i:=fun j hj e=>hi (by rw[←e,List.getD_eq_getElem?_getD,List.getElem?_eq_getElem hj];exact List.getElem_mem hj)
 exact⟨⟨k,hF k h1,h2,fun j hj=>wO (h3 j hj),fun j hj hl=>by rw[mB (hne j hl)];exact h4 j hj hl⟩,Kq h.cl i hd⟩
theorem Chn.upd(h:Chn ds cs F L W)(i:Nat)(hi:i∉cs)(hd:∀j∈ds.getD i [],L j=true):Chn ds cs F (mQ L i) W:=h.updW i hi hd (fun _ x=>x)
theorem Chn.at(h:Chn ds cs F L W)(q:Nat)(hq:q<cs.length)(hL:L (cs.getD q 0)=false)(hp:q=0∨L (cs.getD (q-1) 0)=true):F q W:=by
 obtain⟨k,h1,h2,h3,h4⟩:=h.st
 have ha:k≤q:=by
  rcases Nat.lt_or_ge q k with hlt|hge
  ·rw[h3 q hlt]at hL;cases hL
  ·exact hge
 have hb:q≤k:=by
  rcases Nat.lt_or_ge k q with hlt|hge
  ·rcases hp with rfl|hp
   ·omega
   ·rw[h4 (q-1) aC aC]at hp;cases hp
  ·exact hge
 obtain rfl:k=q:=Nat.le_antisymm ha hb;exact h1
theorem Chn.done(h:Chn ds cs F L W)(hnd:cs.Nodup)(q:Nat)(hq:q<cs.length)(hL:L (cs.getD q 0)=false)(hp:q=0∨L (cs.getD (q-1) 0)=true)(hd:∀j∈ds.getD (cs.getD q 0) [],L j=true)(hF:F' (q+1) W'):Chn ds cs F' (mQ L (cs.getD q 0)) W':=by
 obtain⟨k,h1,h2,h3,h4⟩:=h.st
 have ha:k≤q:=by
  rcases Nat.lt_or_ge q k with hlt|hge
  ·rw[h3 q hlt]at hL;cases hL
  ·exact hge
 have hb:q≤k:=by
  rcases Nat.lt_or_ge k q with hlt|hge
  ·rcases hp with rfl|hp
   ·omega
   ·rw[h4 (q-1) aC aC]at hp;cases hp
  ·exact hge
 obtain rfl:k=q:=Nat.le_antisymm ha hb;refine⟨⟨k+1,hF,hq,fun i hi=>?_,fun i hi hl=>?_⟩,Kq h.cl _ hd⟩
 ·rcases Nat.lt_or_ge i k with hlt|hge
  ·exact wO (h3 i hlt)
  ·obtain rfl:i=k:=by omega
   exact nV
 ·have hne:cs.getD i 0≠cs.getD k 0:=fun e=>by
   rw[List.getD_eq_getElem?_getD,List.getD_eq_getElem?_getD,List.getElem?_eq_getElem hl,List.getElem?_eq_getElem hq]at e;have:=(List.getElem_inj hnd).1 e
   omega
  rw[mB hne];exact h4 i aC hl
theorem Chn.fin(h:Chn ds cs F L W)(hall:∀c∈cs,L c=true):F cs.length W:=by
 obtain⟨k,h1,h2,h3,h4⟩:=h.st;rcases Nat.lt_or_ge k cs.length with hlt|hge
 ·have:=h4 k (Nat.le_refl _) hlt;rw[hall _ (by rw[List.getD_eq_getElem?_getD,List.getElem?_eq_getElem hlt];exact List.getElem_mem hlt)]at this;cases this
 ·obtain rfl:k=cs.length:=Nat.le_antisymm h2 hge;exact h1
end
end Go.Proofs.YtdkedmngeahjiaaGreatDoor
