import Derived.Maps.AppendAt
import Derived.Test.YtdkedmngeahjiaaGreatDoorM1
import Derived.Test.YtdkedmngeahjiaaGreatDoorM2
import Derived.Lib.Hide
set_option maxRecDepth 100000
set_option maxHeartbeats 25600000
namespace Go.Proofs.YtdkedmngeahjiaaGreatDoor
open Go Go.RowKit
section
variable {P:Program} (w:World)
theorem Id(base:Nat)(t ty e:TypeId)(i:TypeInfo)(z:Value)(size bytes:Nat)(ht:P.underlying t=some (.slice e))(hi:P.info? e=some i)(hz:i.zero=some z)
  (hsize:i.size=size) (hby:i.bytes=bytes) (hzs:z.cells.size=size) (hsz:0<size)
  (v:Value) (n:Nat) (xs:List Value) (hown:w.ownsRow base e size v n xs)
  (a:Addr) (m c:Nat) (news:List Value) (hl:news.length=m*size) (hnews:∀j u,news[j]?=some u→w.cell? (a.add j)=some u) (h1:∀u∈news,u.oneCell'=true)
  (hm:0<m) (h63:n+m≤maxLen) (hbytes:(n+m)*bytes≤140737488355328) (hbase:base≤w.heap.size):
  ∃v' w',(Builtin.append_ #[t,t] ty #[v,.slice (some a) m c]).run P w=.ok v' w'∧w'.ownsRow base e size v' (n+m) (xs++news)∧
   ((v'.ownBlock=v.ownBlock∧w.grownBy w' v.ownBlock)∨(v'.ownBlock=some w.heap.size∧w.grownBy w' none)):=by
 obtain⟨v',w',hr,ho,hg,-,hat⟩:=run_append_own_at (P:=P) w base t ty e i z size bytes ht hi hz hsize hby hzs hsz v n xs hown a m c news hl hnews h1 h63 hbytes hbase;refine⟨v',w',hr,ho,?_⟩;rcases hat with hat|hat
 ·exact .inl ⟨hat,hg⟩
 subst hsize;subst hby;have new:∀o:Obj,w.grownBy (w.drew.alloc o) none:=fun o=>⟨rfl,rfl,rfl,eZ,fun k hk _=>Below.heap_alloc w.drew o k hk⟩
 have h63':((n+m:Nat):Int)≤9223372036854775807:=by unfold maxLen at h63;omega
 rcases hown.2 with⟨rfl,rfl⟩|⟨g,cap,cur,rfl,hbg,hgg,hnc,hcm,hcs,htake⟩
 ·have h2:=run_append_nil (P:=P) w t ty e i z ht hi hz a m c news hl hnews hm aC (by rw[Nat.zero_add]at hbytes;omega);rw[hr]at h2;obtain⟨-,rfl⟩:=Result.ok.inj h2;exact .inr ⟨hat,new _⟩
 ·by_cases hroom:n+m≤cap
  ·have h2:=run_append_room (P:=P) w t ty e i ht hi g n cap cur hgg a m c news hl hnews h1 hroom (by rw[hl,hcs,←Nat.add_mul];exact Nat.mul_le_mul_right _ hroom);rw[hr]at h2;obtain⟨rfl,-⟩:=Result.ok.inj h2;exact .inl ⟨rfl,hg⟩
  ·have h2:=run_append_grow (P:=P) w t ty e i z ht hi hz ⟨g,0,none⟩ n cap xs hown.1 (hown.cells (g:=g) rfl) a m c news hl hnews aC h63' (growslice_fits aC hbytes);rw[hr]at h2;obtain⟨-,rfl⟩:=Result.ok.inj h2;exact .inr ⟨hat,new _⟩
theorem rF{w:World}{ops:Array Oper}{rest:List Oper}{o:Oper}{a:Act}{Q:Exit→Act→World→Prop}(hgd:o.guard=none)(s x:Operand)(t:TypeId)
  (ho:o.op=.call {callee:=.builtin .append,args:=#[s,x],argTypes:=#[t,t]})
  (base:Nat) (e:TypeId) (i:TypeInfo) (z:Value) (size bytes:Nat) (ht:P.underlying t=some (.slice e)) (hi:P.info? e=some i) (hz:i.zero=some z)
  (hsize:i.size=size) (hby:i.bytes=bytes) (hzs:z.cells.size=size) (hsz:0<size)
  (v:Value) (n:Nat) (xs:List Value) (hs:a.eval s=v) (hown:w.ownsRow base e size v n xs)
  (ad:Addr) (m c:Nat) (news:List Value) (hx:a.eval x=.slice (some ad) m c) (hl:news.length=m*size) (hnews:∀j u,news[j]?=some u→w.cell? (ad.add j)=some u) (h1:∀u∈news,u.oneCell'=true)
  (hm:0<m) (h63:n+m≤maxLen) (hbytes:(n+m)*bytes≤140737488355328) (hbase:base≤w.heap.size)
  (h:∀v' w',w'.ownsRow base e size v' (n+m) (xs++news)→((v'.ownBlock=v.ownBlock∧w.grownBy w' v.ownBlock)∨(v'.ownBlock=some w.heap.size∧w.grownBy w' none))→wpList P ops Q rest (a.put o.dst v') w'):
  wpList P ops Q (o::rest) a w:=by
 refine wpList_plain hgd fun K hK=>?_
 obtain⟨v',w',hr,h2,h3⟩:=Id (P:=P) w base t o.type e i z size bytes ht hi hz hsize hby hzs hsz v n xs hown ad m c news hl hnews h1 hm h63 hbytes hbase;unfold Oper.wp execOp;simp only[ho,resolve,invoke,builtin,Sem.run_bind,Sem.run_pure,Result.andThen_ok,List.map_toArray,List.map_cons,List.map_nil,hs,hx,hr];exact hK _ _ (h v' w' h2 h3)
end
section
variable {α:Type} (T sz:Nat) (cl:α→Array Value)
def pZ(xs:List α):List Value:=xs.flatMap (fun x=>(cl x).toList)
variable {T sz cl}
theorem Cv(xs:List α)(x:α):pZ cl (xs++[x])=pZ cl xs++(cl x).toList:=by unfold pZ;simp
theorem DH(hc:∀x,(cl x).size=sz)(xs:List α):(pZ cl xs).length=xs.length*sz:=by
 induction xs with
 |nil=>simp[pZ]
 |cons x r ih=>
  unfold pZ at ih⊢;rw[List.flatMap_cons,List.length_append,ih,Array.length_toList,hc,List.length_cons,Nat.succ_mul];omega
theorem At(hc:∀x,(cl x).size=sz):∀(xs:List α) (q r:Nat),r<sz→(pZ cl xs)[q*sz+r]?=(xs[q]?).bind (fun x=>(cl x)[r]?)
 |[],q,r,_=>by simp[pZ]
 |x::xs,0,r,h=>by
  unfold pZ;rw[List.flatMap_cons,Nat.zero_mul,Nat.zero_add,List.getElem?_append_left (by rw[Array.length_toList,hc];exact h),Array.getElem?_toList]
  rfl
 |x::xs,q+1,r,h=>by
  have ih:=At hc xs q r h;unfold pZ at ih⊢;rw[List.flatMap_cons,List.getElem?_append_right kY,Array.length_toList,hc,show(q+1)*sz+r-sz=q*sz+r by rw[Nat.succ_mul];omega,ih,List.getElem?_cons_succ]
variable (T sz cl)
def RowB(base:Nat)(xs:List α)(v:Value)(w:World):Prop:=w.ownsRow base T sz v xs.length (pZ cl xs)
def RowS(S:Nat→Prop)(w:World)(v:Value)(xs:List α):Prop:=w.ownsRow 0 T sz v xs.length (pZ cl xs)∧∀b,v.ownBlock=some b→S b
variable {T sz cl}
theorem RowB.nil(base:Nat)(w:World):RowB T sz cl base [] (.slice none 0 0) w:=World.ownsRow_nil _ _ _ _
theorem RowS.nil(S:Nat→Prop)(w:World):RowS T sz cl S w (.slice none 0 0) []:=⟨World.ownsRow_nil _ _ _ _,fun b hb=>by cases hb⟩
theorem RowB.keep{base:Nat}{xs:List α}{v:Value}{w w':World}(h:RowB T sz cl base xs v w)(hb:Below w.heap.size w w'):RowB T sz cl base xs v w':=by
 refine⟨h.1,?_⟩;rcases h.2 with h2|⟨g,cap,cur,h1,h2,h3,h4⟩
 ·exact .inl h2
 ·exact kU
theorem RowB.form{base:Nat}{xs:List α}{v:Value}{w:World}(h:RowB T sz cl base xs v w):∃p cap,v=.slice p xs.length cap:=by
 rcases h.2 with⟨h1,h2⟩|⟨g,cap,cur,h1,_⟩
 ·exact⟨none,0,by rw[h1,h2]⟩
 ·exact⟨_,cap,h1⟩
theorem RowS.form{S:Nat→Prop}{xs:List α}{v:Value}{w:World}(h:RowS T sz cl S w v xs):∃p cap,v=.slice p xs.length cap:=RowB.form (T:=T) (sz:=sz) (cl:=cl) (base:=0) h.1
theorem RowB.rowS{base:Nat}{xs:List α}{v:Value}{w:World}(h:RowB T sz cl base xs v w):RowS T sz cl (fun b=>base≤b∧b<w.heap.size) w v xs:=by
 rcases h.2 with⟨h1,h2⟩|⟨g,cap,cur,h1,h2,h3,h4⟩
 ·exact⟨⟨h.1,.inl ⟨h1,h2⟩⟩,fun b hb=>by rw[h1]at hb;cases hb⟩
 ·refine⟨⟨h.1,.inr ⟨g,cap,cur,h1,Nat.zero_le _,h3,h4⟩⟩,fun b hb=>?_⟩;rw[h1]at hb
  obtain rfl:g=b:=by simpa[Value.ownBlock]using hb
  exact⟨h2,lH h3⟩
theorem RowS.sup{S S':Nat→Prop}{xs:List α}{v:Value}{w:World}(h:RowS T sz cl S w v xs)(hs:∀b,S b→S' b):RowS T sz cl S' w v xs:=⟨h.1,fun b hb=>hs b (h.2 b hb)⟩
theorem RowS.keep{S:Nat→Prop}{xs:List α}{v:Value}{w w':World}(h:RowS T sz cl S w v xs)(hb:∀b cur,S b→w.heap[b]?=some (.cells cur T (0,0))→w'.heap[b]?=w.heap[b]?):RowS T sz cl S w' v xs:=by
 refine⟨⟨h.1.1,?_⟩,h.2⟩;rcases h.1.2 with h2|⟨g,cap,cur,h1,h2,h3,h4⟩
 ·exact .inl h2
 ·exact .inr ⟨g,cap,cur,h1,h2,(hb g cur (h.2 g (by rw[h1];rfl)) h3).trans h3,h4⟩
theorem RowS.at(hc:∀x,(cl x).size=sz){S:Nat→Prop}{xs:List α}{v:Value}{w:World}(h:RowS T sz cl S w v xs){i:Nat}{x:α}(hx:xs[i]?=some x):
  ∃g cap cur,v=.slice (some ⟨g,0,none⟩) xs.length cap∧S g∧w.heap[g]?=some (.cells cur T (0,0))∧∀j,j<sz→w.cell? ⟨g,i*sz+j,none⟩=(cl x)[j]?:=by
 have hi:=(List.getElem?_eq_some_iff.1 hx).1;rcases h.1.2 with⟨-,h2⟩|⟨g,cap,cur,h1,h2,h3,h4,h5,h6,h7⟩
 ·omega
 ·refine⟨g,cap,cur,h1,h.2 g (by rw[h1];rfl),h3,fun j hj=>?_⟩;have h8:=At hc xs i j hj
  rw[hx,←h7,List.getElem?_take,if_pos ?_,Array.getElem?_toList]at h8
  ·rw[lF h3];exact h8
  ·have:(i+1)*sz≤xs.length*sz:=Nat.mul_le_mul_right _ hi;rw[Nat.succ_mul]at this;omega
theorem RowS.cell(hc:∀x,(cl x).size=sz){S:Nat→Prop}{xs:List α}{p:Option Addr}{K c:Nat}{w:World}(h:RowS T sz cl S w (.slice p K c) xs){i:Nat}{x:α}(hx:xs[i]?=some x):
  ∃g cur,p=some ⟨g,0,none⟩∧S g∧w.heap[g]?=some (.cells cur T (0,0))∧∀j,j<sz→w.cell? ⟨g,i*sz+j,none⟩=(cl x)[j]?:=by
 obtain⟨g,cap,cur,e,h1,h2,h3⟩:=h.at hc hx;cases e;exact⟨g,cur,rfl,h1,h2,h3⟩
theorem RowB.app{base:Nat}{xs:List α}{x:α}{v v':Value}{w0 w w1:World}{tmp:Obj}(h:RowB T sz cl base xs v w)(hw:Below base w0 w)(hb:base≤w.heap.size)
  (hown':w1.ownsRow base T sz v' (xs.length+1) (pZ cl xs++(cl x).toList)) (hg:(w.alloc tmp).grownBy w1 v.ownBlock):RowB T sz cl base (xs++[x]) v' w1∧Below base w0 w1:=by
 refine⟨by unfold RowB;rw[List.length_append,Cv];exact hown',?_⟩;refine hw.trans (((Below.refl base w).alloc hb tmp).grown hg iE fun j ej=>?_);rcases h.2 with⟨rfl,_⟩|⟨g,cap,cur,rfl,hb',_,_⟩
 ·simp[Value.ownBlock]at ej
 ·obtain rfl:g=j:=by simpa[Value.ownBlock]using ej
  exact hb'
theorem EE(w:World)(cs:Array Value)(t:TypeId):∀(j:Nat) (u:Value),cs.toList[j]?=some u→(w.alloc (.cells cs t)).cell? ((⟨w.heap.size,0,none⟩:Addr).add j)=some u:=by
 intro j u h;rw[show((⟨w.heap.size,0,none⟩:Addr).add j)=⟨w.heap.size,j,none⟩ by simp[Addr.add];intro e;exact e.symm,lF (lP w _),←h];rw[←Array.getElem?_toList]
def EF(cur:Array Value)(o:Nat):List Value→Array Value
 |[]=>cur
 |v::r=>EF (cur.setIfInBounds o v) (o+1) r
theorem JY(cur:Array Value)(o:Nat)(vals:List Value):(EF cur o vals).size=cur.size:=by
 induction vals generalizing cur o with
 |nil=>rfl
 |cons v r ih=>rw[EF,ih,Array.size_setIfInBounds]
theorem Mx(cur:Array Value)(o:Nat)(vals:List Value)(h:o+vals.length≤cur.size)(j:Nat):(EF cur o vals)[j]?=if o≤j∧j<o+vals.length then vals[j-o]? else cur[j]?:=by
 induction vals generalizing cur o with
 |nil=>rw[EF,if_neg (by rw[List.length_nil];omega)]
 |cons v r ih=>
  rw[List.length_cons]at h;rw[EF,ih _ _ (by rw[Array.size_setIfInBounds];omega),List.length_cons,Array.getElem?_setIfInBounds];by_cases h1:o+1≤j∧j<o+1+r.length
  ·rw[if_pos h1,if_pos aC,show j-o=j-(o+1)+1 by omega,List.getElem?_cons_succ]
  ·rw[if_neg h1];by_cases h2:o=j
   ·subst h2;rw[if_pos rfl,if_pos (show o<cur.size by omega),if_pos (show o≤o∧o<o+(r.length+1) by omega),Nat.sub_self]
    rfl
   ·rw[if_neg h2,if_neg aC]
theorem RowS.store(hc:∀x,(cl x).size=sz){S:Nat→Prop}{n cap g i:Nat}{xs:List α}{x:α}{w:World}(h:RowS T sz cl S w (.slice (some ⟨g,0,none⟩) n cap) xs)(hi:i<xs.length):
  ∃cur,w.heap[g]?=some (.cells cur T (0,0))∧i*sz+sz≤cur.size∧RowS T sz cl S (setBlk w g (.cells (EF cur (i*sz) (cl x).toList) T (0,0))) (.slice (some ⟨g,0,none⟩) n cap) (xs.set i x):=by
 obtain⟨h,hS⟩:=h;rcases h.2 with⟨h1,_⟩|⟨g',cap',cur,h1,h2,h3,h4,h5,h6,h7⟩
 ·cases h1
 ·cases h1;have h8:(i+1)*sz≤xs.length*sz:=Nat.mul_le_mul_right _ hi
  have h9:xs.length*sz≤cap*sz:=Nat.mul_le_mul_right _ h4;rw[Nat.succ_mul]at h8;have hl:(cl x).toList.length=sz:=by rw[Array.length_toList,hc]
  refine⟨cur,h3,aC,⟨by rw[DH hc],.inr ⟨g,cap,_,by rw[List.length_set],h2,lM (lH h3),by rw[List.length_set];exact h4,h5,by rw[JY];exact h6,?_⟩⟩,hS⟩;refine List.ext_getElem? fun j=>?_
  rw[List.getElem?_take,List.length_set];by_cases hj:j<xs.length*sz
  ·have hsz:0<sz:=by
    cases sz with
    |zero=>simp at hj
    |succ k=>omega
   have hjd:j=j/sz*sz+j%sz:=kS;have hr:=Nat.mod_lt j hsz
   have f1:=At hc (xs.set i x) (j/sz) (j%sz) hr;have f2:=At hc xs (j/sz) (j%sz) hr
   rw[←hjd]at f1 f2;rw[if_pos hj,Array.getElem?_toList,Mx _ _ _ iV,f1,hl,List.getElem?_set]
   have f3:cur[j]?=(xs[j/sz]?).bind (fun x=>(cl x)[j%sz]?):=by
    rw[←f2,←h7,List.getElem?_take,if_pos hj,Array.getElem?_toList]
   by_cases he:i=j/sz
   ·have hj2:j=i*sz+j%sz:=by rw[he];exact hjd
    rw[if_pos (show i*sz≤j∧j<i*sz+sz by omega),if_pos he,if_pos hi,Array.getElem?_toList,show j-i*sz=j%sz by omega]
    rfl
   ·rw[if_neg (show¬(i*sz≤j∧j<i*sz+sz)from ?_),if_neg he,f3];intro ⟨h10,h11⟩;apply he;have a1:i≤j/sz:=(Nat.le_div_iff_mul_le hsz).2 h10
    have a2:j/sz<i+1:=(Nat.div_lt_iff_lt_mul hsz).2 (by rw[Nat.succ_mul];omega);omega
  ·rw[if_neg hj,List.getElem?_eq_none (by rw[DH hc,List.length_set];omega)]
end
end Go.Proofs.YtdkedmngeahjiaaGreatDoor
