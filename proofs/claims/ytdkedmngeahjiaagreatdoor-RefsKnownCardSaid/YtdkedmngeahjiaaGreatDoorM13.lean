import Derived.ArgAppend
import Derived.Test.YtdkedmngeahjiaaGreatDoorM2
import Derived.Lib.ConvBytes
import Derived.Test.YtdkedmngeahjiaaGreatDoorRfTag
import Derived.Test.YtdkedmngeahjiaaGreatDoorM10
set_option maxRecDepth 100000
set_option maxHeartbeats 25600000
namespace Go.Proofs.YtdkedmngeahjiaaGreatDoor
theorem dM{p:Prop}(h:p:=by apply World.cell?_setCell_other;intro e;cases e;exact hjl rfl):p:=h
open Go Go.RowKit
def RowC(base:Nat)(l:List Value)(v:Value)(w:World):Prop:=
 (v=.slice none 0 0∧l=[])∨∃g cap,v=.slice (some ⟨g,0,none⟩) l.length cap∧base≤g∧g<w.heap.size∧l.length≤cap∧cap≤maxLen∧(∀j u,l[j]?=some u→w.cell? ⟨g,j,none⟩=some u)∧
  (∀j,j<cap→(w.cell? ⟨g,j,none⟩).isSome=true)∧∀j,j<cap→w.frozen? ⟨g,j,none⟩=false
section
variable {P:Program} {w w':World} {base:Nat} {l:List Value} {v:Value}
theorem RowC.nil(base:Nat)(w:World):RowC base [] (.slice none 0 0) w:=.inl ⟨rfl,rfl⟩
theorem BN{w w':World}{b:Nat}(h:w'.heap[b]?=w.heap[b]?)(i:Nat):w'.frozen? ⟨b,i,none⟩=w.frozen? ⟨b,i,none⟩:=by
 unfold World.frozen?;rw[h]
theorem RowC.keep(h:RowC base l v w)(hb:Below w.heap.size w w'):RowC base l v w':=by
 rcases h with h|⟨g,cap,h1,h2,h3,h4,h5,h6,h7,h8⟩
 ·exact .inl h
 ·have hc:∀j,w'.cell? ⟨g,j,none⟩=w.cell? ⟨g,j,none⟩:=fun j=>hb.cell (p:=⟨g,j,none⟩) h3
  exact .inr ⟨g,cap,h1,h2,Nat.lt_of_lt_of_le h3 hb.size,h4,h5,fun j u hj=>(hc j).trans (h6 j u hj),fun j hj=>by rw[hc];exact h7 j hj,fun j hj=>(BN (hb.block g h3) j).trans (h8 j hj)⟩
theorem RowC.lower(h:RowC base l v w){b:Nat}(hb:b≤base):RowC b l v w:=by
 rcases h with h|⟨g,cap,h1,h2,h3⟩
 ·exact .inl h
 ·exact .inr ⟨g,cap,h1,Nat.le_trans hb h2,h3⟩
theorem RowC.slice(h:RowC base l v w):∃p cap,v=.slice p l.length cap∧∀j u,l[j]?=some u→∃g,p=some ⟨g,0,none⟩∧g<w.heap.size∧w.cell? ⟨g,j,none⟩=some u:=by
 rcases h with⟨rfl,rfl⟩|⟨g,cap,h1,h2,h3,h4,h5,h6,h7,h8⟩
 ·exact⟨none,0,rfl,fun j u hj=>by cases hj⟩
 ·exact⟨_,cap,h1,fun j u hj=>⟨g,rfl,h3,h6 j u hj⟩⟩
theorem RowC.ofOwn{e:TypeId}{n:Nat}(hown:w.ownsRow base e 1 v n l):RowC base l v w:=by
 obtain⟨h0,h|⟨g,cap,cur,h1,h2,h3,h4,h5,h6,h7⟩⟩:=hown
 ·obtain⟨rfl,rfl⟩:=h;exact .inl ⟨rfl,List.eq_nil_of_length_eq_zero aC⟩
 ·have hn:l.length=n:=by omega
  rw[Nat.mul_one]at h6 h7;refine .inr ⟨g,cap,by rw[hn];exact h1,h2,lH h3,aC,h5,fun j u hj=>?_,fun j hj=>?_,fun j hj=>?_⟩
  ·rw[lF h3,←Array.getElem?_toList];rw[←h7,List.getElem?_take]at hj;split at hj
   ·exact hj
   ·cases hj
  ·rw[lF h3,Array.getElem?_eq_getElem aC]
   rfl
  ·simp[World.frozen?,h3]
theorem RowC.app{t ty e:TypeId}{i:TypeInfo}{z:Value}{bytes:Nat}(h:RowC base l v w)(ht:P.underlying t=some (.slice e))(hi:P.info? e=some i)(hz:i.zero=some z)(hs:i.size=1)(hby:i.bytes=bytes)(hzs:z.cells.size=1)
  (u:Value) (a:Addr) (ha:w.cell? (a.add 0)=some u) (h1:u.oneCell'=true) (hlen:l.length+1≤maxLen) (hbytes:(l.length+1)*bytes≤140737488355328) (hb:base≤w.heap.size):
  ∃v' w',(Builtin.append_ #[t,t] ty #[v,.slice (some a) 1 1]).run P w=.ok v' w'∧RowC base (l++[u]) v' w'∧Below base w w':=by
 have hnews:∀j x,([u]:List Value)[j]?=some x→w.cell? (a.add j)=some x:=fun j x hj=>by
  match j,hj with
  |0,hj=>cases hj;exact ha
 have hones:∀x∈([u]:List Value),x.oneCell'=true:=fun x hx=>by rw[List.mem_singleton.1 hx];exact h1
 rcases h with⟨rfl,rfl⟩|⟨g,cap,rfl,h2,h3,h4,h5,h6,h7,h8⟩
 ·have hr:=run_append_nil (P:=P) w t ty e i z ht hi hz a 1 1 [u] (by rw[hs];rfl) hnews aC aC (by rw[hby];simp only[List.length_nil,Nat.zero_add,Nat.one_mul]at hbytes;omega);have hge:=grownCap_ge w 1 0 e
  have hsz:(#[u]++Builtin.zeroCells z.cells (grownCap w 1 0 e-1)).size=grownCap w 1 0 e:=by rw[Array.size_append,size_zeroCells,hzs];show 1+_=_;omega
  have hh:=lP w.drew (.cells (#[u]++Builtin.zeroCells z.cells (grownCap w 1 0 e-1)) e);refine⟨_,_,hr,.inr ⟨w.heap.size,grownCap w 1 0 e,rfl,hb,lH hh,hge,grownCap_le_maxLen w 1 0 e cT,fun j x hj=>?_,fun j hj=>?_,fun j hj=>?_⟩,?_⟩
  ·match j,hj with
   |0,hj=>
    cases hj;refine(lF hh).trans ?_;rw[Array.getElem?_append_left (by show 0<1;omega)]
    rfl
  ·refine(congrArg Option.isSome (lF hh)).trans ?_;rw[Array.getElem?_eq_getElem (by rw[hsz];exact hj)]
   rfl
  ·show World.frozen? _ _=false;unfold World.frozen?;rw[show(w.drew.alloc (.cells ([u].toArray++Builtin.zeroCells z.cells (grownCap w 1 0 e-1)) e)).heap[w.heap.size]?=_ from hh];simp
  ·exact(Below.refl base w).grown (row:=none) ⟨rfl,rfl,rfl,eZ,fun k hk _=>Below.heap_alloc w.drew _ k hk⟩ hb (fun k hk=>iN)
 ·by_cases hroom:l.length+1≤cap
  ·have hr:=run_append_room_cells (P:=P) w t ty e i ht hi g 0 l.length cap a 1 1 [u] (by rw[hs];rfl) hnews hones hroom (fun j hj=>by
    have:j=0:=by simpa using hj
    subst this;rw[hs];exact h7 _ aC) (fun j hj=>by
    have:j=0:=by simpa using hj
    subst this;rw[hs];exact h8 _ aC)
   rw[hs,Nat.mul_one,Nat.zero_add]at hr;refine⟨_,_,hr,.inr ⟨g,cap,by rw[List.length_append];rfl,h2,?_,by rw[List.length_append];exact hroom,h5,fun j x hj=>?_,fun j hj=>?_,fun j hj=>?_⟩,?_⟩
   ·show g<(w.setCell _ _).heap.size;rw[World.size_setCell];exact h3
   ·show(w.setCell ⟨g,l.length,none⟩ u).cell? _=_;by_cases hjl:j=l.length
    ·subst hjl;rw[List.getElem?_append_right (Nat.le_refl _),Nat.sub_self]at hj;cases hj;exact World.cell?_setCell_same' _ _ _ (h7 _ aC)
    ·rw[show(w.setCell ⟨g,l.length,none⟩ u).cell? ⟨g,j,none⟩=w.cell? ⟨g,j,none⟩from dM]
     have hjl2:j<l.length:=by
      have:=(List.getElem?_eq_some_iff.1 hj).1;rw[List.length_append,List.length_singleton]at this;omega
     rw[List.getElem?_append_left hjl2]at hj;exact h6 j x hj
   ·show((w.setCell ⟨g,l.length,none⟩ u).cell? _).isSome=true;by_cases hjl:j=l.length
    ·subst hjl;rw[World.cell?_setCell_same' _ _ _ (h7 _ aC)]
     rfl
    ·rw[show(w.setCell ⟨g,l.length,none⟩ u).cell? ⟨g,j,none⟩=w.cell? ⟨g,j,none⟩from dM];exact h7 j hj
   ·show(w.setCell ⟨g,l.length,none⟩ u).frozen? _=false;rw[World.frozen?_setCell];exact h8 j hj
   ·exact(Below.refl base w).setCell h2 u
  ·obtain⟨v',w',hr,ho,hg⟩:=run_append_arg_grows (P:=P) w t ty e i z 1 bytes ht hi hz hs hby hzs aC ⟨g,0,none⟩ l.length cap l aC (fun j x hj=>by
    rw[show(⟨g,0,none⟩:Addr).add j=⟨g,j,none⟩ by simp[Addr.add];intro e;exact e.symm];exact h6 j x hj) a 1 1 [u] rfl hnews aC hlen hbytes
   have hR:=RowC.ofOwn ho;refine⟨v',w',hr,?_,(Below.refl base w).grown hg hb (fun k hk=>iN)⟩;rcases hR with hR|⟨g',cap',e1,e2,e3⟩
   ·exact .inl hR
   ·exact .inr ⟨g',cap',e1,Nat.le_trans hb e2,e3⟩
theorem mD{ops:Array Oper}{rest:List Oper}{o:Oper}{a:Act}{Q:Exit→Act→World→Prop}(hgd:o.guard=none)(s x:Operand)(t:TypeId)
  (ho:o.op=.call {callee:=.builtin .append,args:=#[s,x],argTypes:=#[t,t]})
  (base:Nat) (e:TypeId) (i:TypeInfo) (z:Value) (bytes:Nat) (ht:P.underlying t=some (.slice e)) (hi:P.info? e=some i) (hz:i.zero=some z)
  (hsz:i.size=1) (hby:i.bytes=bytes) (hzs:z.cells.size=1) (l:List Value) (v:Value) (hs:a.eval s=v) (h:RowC base l v w)
  (u:Value) (ad:Addr) (hx:a.eval x=.slice (some ad) 1 1) (ha:w.cell? (ad.add 0)=some u) (h1:u.oneCell'=true) (hlen:l.length+1≤maxLen) (hbytes:(l.length+1)*bytes≤140737488355328) (hb:base≤w.heap.size)
  (hk:∀v' w',RowC base (l++[u]) v' w'→Below base w w'→wpList P ops Q rest (a.put o.dst v') w'):wpList P ops Q (o::rest) a w:=by
 refine wpList_plain hgd fun K hK=>?_
 obtain⟨v',w',hr,h2,h3⟩:=h.app (P:=P) (ty:=o.type) ht hi hz hsz hby hzs u ad ha h1 hlen hbytes hb;unfold Oper.wp execOp;simp only[ho,resolve,invoke,builtin,Sem.run_bind,Sem.run_pure,Result.andThen_ok,List.map_toArray,List.map_cons,List.map_nil,hs,hx,hr];exact hK _ _ (hk v' w' h2 h3)
theorem IR(w:World)(e:TypeId)(s:ByteArray)(base:Nat)(hb:base≤w.heap.size)(hs:s.size≤maxLen):
  RowC base (s.data.toList.map lG) (.slice (some ⟨w.heap.size,0,none⟩) s.size (grownCap w s.size 0 e)) (Lib.bytesWorld w e s)∧Below base w (Lib.bytesWorld w e s):=by
 have hl:(s.data.toList.map lG).length=s.size:=by rw[List.length_map];exact Array.length_toList
 have hge:=grownCap_ge w s.size 0 e;have hn:=Lib.bytesWorld_at_new w e s
 have hcs:(Lib.bytesCells w e s).size=grownCap w s.size 0 e:=by
  unfold Lib.bytesCells;rw[Array.size_append,Array.size_map,Array.size_replicate];show s.size+_=_
  omega
 have hcell:∀j,(Lib.bytesWorld w e s).cell? ⟨w.heap.size,j,none⟩=(Lib.bytesCells w e s)[j]?:=fun j=>by simp[World.cell?,hn]
 refine⟨.inr ⟨w.heap.size,grownCap w s.size 0 e,by rw[hl],hb,by rw[Lib.bytesWorld_size];omega,by rw[hl];exact hge,grownCap_le_maxLen w _ 0 e hs,fun j u hj=>?_,fun j hj=>?_,fun j hj=>?_⟩,?_⟩
 ·have hjl:j<s.size:=by rw[←hl];exact(List.getElem?_eq_some_iff.1 hj).1
  rw[Lib.bytesWorld_cell w e s j hjl,List.getD_eq_getElem?_getD];rw[List.getElem?_map]at hj
  cases hg:s.data.toList[j]? with
  |none=>rw[hg]at hj;cases hj
  |some x=>rw[hg]at hj;cases hj;rfl
 ·rw[hcell,Array.getElem?_eq_getElem (by rw[hcs];exact hj)]
  rfl
 ·unfold World.frozen?;rw[hn];simp[hcs];omega
 ·exact⟨rfl,rfl,rfl,by rw[Lib.bytesWorld_size];omega,fun b hb2=>Lib.bytesWorld_at_old w e s b aC⟩
end
def lV(l:List UInt8):Value:=.string ⟨l.toArray⟩
theorem RowC.put{base:Nat}{l:List Value}{x:Value}{v:Value}{w:World}(h:RowC base (l++[x]) v w):∃g cap,v=.slice (some ⟨g,0,none⟩) (l.length+1) cap∧w.cell? ⟨g,l.length,none⟩=some x∧w.frozen? ⟨g,l.length,none⟩=false∧base≤g∧g<w.heap.size∧l.length+1≤cap∧∀u,RowC base (l++[u]) v (w.setCell ⟨g,l.length,none⟩ u):=by
 rcases h with⟨-,h⟩|⟨g,cap,rfl,h2,h3,h4,h5,h6,h7,h8⟩
 ·exact absurd h eZ
 ·rw[List.length_append,List.length_singleton]at h4⊢;have hx:w.cell? ⟨g,l.length,none⟩=some x:=h6 _ _ iM
  refine⟨g,cap,rfl,hx,h8 _ aC,h2,h3,h4,fun u=>.inr ⟨g,cap,by rw[List.length_append,List.length_singleton],h2,?_,by rw[List.length_append,List.length_singleton];exact h4,h5,fun j y hj=>?_,fun j hj=>?_,fun j hj=>?_⟩⟩
  ·rw[World.size_setCell];exact h3
  ·by_cases hjl:j=l.length
   ·subst hjl;rw[List.getElem?_append_right (Nat.le_refl _),Nat.sub_self]at hj;cases hj;exact World.cell?_setCell_same' _ _ _ (by rw[hx];rfl)
   ·rw[show(w.setCell ⟨g,l.length,none⟩ u).cell? ⟨g,j,none⟩=w.cell? ⟨g,j,none⟩from dM]
    have hjl2:j<l.length:=by
     have:=(List.getElem?_eq_some_iff.1 hj).1;rw[List.length_append,List.length_singleton]at this;omega
    refine h6 j y ?_;rw[List.getElem?_append_left hjl2]at hj⊢;exact hj
  ·by_cases hjl:j=l.length
   ·subst hjl;rw[World.cell?_setCell_same' _ _ _ (by rw[hx];rfl)]
    rfl
   ·rw[show(w.setCell ⟨g,l.length,none⟩ u).cell? ⟨g,j,none⟩=w.cell? ⟨g,j,none⟩from dM];exact h7 j hj
  ·rw[World.frozen?_setCell];exact h8 j hj
theorem Kl(w:World)(t:TypeId)(u:Value)(base:Nat)(hb:base≤w.heap.size):RowC base [u] (.slice (some ⟨w.heap.size,0,none⟩) 1 1) (w.alloc (.cells #[u] t)):=by
 have hh:=lP w (.cells #[u] t);refine .inr ⟨w.heap.size,1,rfl,hb,lH hh,Nat.le_refl _,aA,fun j x hj=>?_,fun j hj=>?_,fun j hj=>?_⟩
 ·match j,hj with
  |0,hj=>cases hj;exact(lF hh).trans rfl
 ·have:j=0:=by omega
  subst this;rw[lF hh]
  rfl
 ·unfold World.frozen?;rw[hh];simp
theorem Km(c:UInt8)(l:List UInt8):∃a p,pcs c l=a++[p]:=by
 have h:=wL c l;exact⟨(pcs c l).dropLast,(pcs c l).getLast h,(List.dropLast_concat_getLast h).symm⟩
theorem LL{c b:UInt8}{l:List UInt8}{a:List (List UInt8)}{p:List UInt8}(h:pcs c l=a++[p])(hb:¬b=c):pcs c (l++[b])=a++[p++[b]]:=by
 rw[BM,if_neg hb,h,List.dropLast_concat,List.getLast?_append]
 rfl
theorem BO(c:UInt8):∀l:List UInt8,(pcs c l).flatten.length≤l.length
 |[]=>Nat.le_refl _
 |b::r=>by
  have ih:=BO c r;unfold pcs;split
  ·rw[List.flatten_cons,List.nil_append,List.length_cons];omega
  ·have hn:=wL c r
   cases hp:pcs c r with
   |nil=>exact absurd hp hn
   |cons p q=>
    rw[hp]at ih;simp only[List.flatten_cons,List.length_append,List.length_cons]at ih⊢;omega
theorem xA(w:World)(u:Value)(t:TypeId):(w.alloc (.cells #[u] t)).cell? ((⟨w.heap.size,0,none⟩:Addr).add 0)=some u:=by
 rw[show((⟨w.heap.size,0,none⟩:Addr).add 0)=⟨w.heap.size,0,none⟩ by simp[Addr.add]];exact lF (lP w _)
theorem IS(s:ByteArray):s.data.toList.take s.size=s.data.toList:=List.take_of_length_le (by rw[Array.length_toList];exact Nat.le_refl _)
theorem LM(p:List UInt8)(s:ByteArray){i:Nat}{b:UInt8}(h:s.data.toList[i]?=some b):(⟨p.toArray⟩:ByteArray)++s.extract i (i+1)=⟨(p++[b]).toArray⟩:=by
 refine ByteArray.ext ?_;rw[ByteArray.data_append,ByteArray.data_extract];refine Array.ext' ?_;rw[Array.toList_append,Array.toList_extract]
 show p++List.take (i+1-i) (s.data.toList.drop i)=p++[b]
 rw[Nat.add_sub_cancel_left,List.take_one,List.head?_drop,h]
 rfl
theorem EY(s:ByteArray)(c:UInt8)(hs:(s.size:Int)≤1000)(w:World):
  Calls Tryz.prog 73 #[.string s,.int .u8 c.toNat] w fun e w'=>∃v,e=.returned v∧RowC w.heap.size ((pcs c s.data.toList).map lV) v w'∧Below w.heap.size w w':=by
 obtain⟨i0,hi,hz0,hz1,hz2⟩:=info_parts CP;have hls:s.data.toList.length=s.size:=Array.length_toList
 go_enter Tryz.func73,Tryz.ntmps73;have HR0:Hid (RowC w.heap.size ((pcs c (s.data.toList.take 0)).map lV) (.slice (some ⟨w.heap.size,0,none⟩) 1 1) (w.alloc (.cells #[.string ⟨#[]⟩] 9))):=hZ (Kl w 9 (.string ⟨#[]⟩) w.heap.size (Nat.le_refl _))
 have HB0:Hid (Below w.heap.size w (w.alloc (.cells #[.string ⟨#[]⟩] 9))):=hZ ((Below.refl _ _).alloc (Nat.le_refl _) _);go_wp2_with fail;go_loopw [5,6] (fun v iv wr=>∃i:Nat,(i:Int)≤(s.size:Int)∧iv=.int .i64 i∧Hid (RowC w.heap.size ((pcs c (s.data.toList.take i)).map lV) v wr)∧Hid (Below w.heap.size w wr)) (fun _ iv _=>s.size-(intOf iv).toNat)
 case atStart=>exact⟨0,aC,rfl,HR0,HB0⟩
 case round=>
  obtain⟨i,hi2,rfl,HR,HB⟩:=hrel;by_cases hlt:(i:Int)<(s.size:Int)
  ·obtain⟨b,hb,hg⟩:=BJ (show i<s.size by omega);have hg':s[i]'(show i<s.size by omega)=b:=hg _
   have htk:s.data.toList.take (i+1)=s.data.toList.take i++[b]:=by rw[List.take_add_one,hb];rfl
   have hlen:(pcs c (s.data.toList.take i)).length≤i+1:=by
    rw[wM];have h1:(s.data.toList.take i).count c≤(s.data.toList.take i).length:=List.count_le_length
    rw[List.length_take]at h1;omega
   have HLEN:=hZ hlen;by_cases hbc:b=c
   ·have hq:((b.toNat:Int)==(c.toNat:Int))=true:=by rw[hbc];simp
    have hsn:pcs c (s.data.toList.take (i+1))=pcs c (s.data.toList.take i)++[[]]:=by rw[htk,BM,if_pos hbc]
    have HSN:=hZ hsn;obtain⟨p,cap,rfl,-⟩:=HR.out.slice;have hql:((pcs c (s.data.toList.take i)).map lV).length≤i+1:=by rw[List.length_map];exact hlen
    obtain⟨K,hK⟩:∃K,((pcs c (s.data.toList.take i)).map lV).length=K:=⟨_,rfl⟩
    rw[hK]at hql HR⊢;have HQL:=hZ hql
    have HK:=hZ hK;clear hsn htk hlen hb hg hql hK HLEN;go_wp2_with (at_builtin;refine mD rfl _ _ 31 rfl w.heap.size 9 i0 (.string ⟨#[]⟩) 16 Tryz.underlying31 hi hz0 hz1 hz2 rfl _ _ rfl (HR.out.keep ((Below.refl _ _).alloc (Nat.le_refl _) _)) (.string ⟨#[]⟩) ⟨wr.heap.size,0,none⟩ rfl (xA wr _ _) rfl (by rw[HK.out];have:=HQL.out;unfold maxLen;omega) (by rw[HK.out];have:=HQL.out;omega) cW ?_;intro v1 w7 hr7 hb7;have HR7:=hZ hr7;have HB7:Hid (Below w.heap.size w w7):=hZ ((HB.out.alloc lB _).trans hb7);clear hr7 hb7);refine⟨⟨i+1,aC,aG,hZ ?_,HB7⟩,cN⟩;rw[HSN.out,List.map_append];exact HR7.out
   ·have hq:((b.toNat:Int)==(c.toNat:Int))=false:=beq_eq_false_iff_ne.2 (fun e=>hbc (UInt8.toNat_inj.1 aC));obtain⟨a,p,hap⟩:=Km c (s.data.toList.take i);have hsn:pcs c (s.data.toList.take (i+1))=a++[p++[b]]:=by rw[htk,LL hap hbc]
    have HSN:=hZ hsn;have hR:=HR.out
    rw[hap,List.map_append]at hR;have hal:a.length≤i:=by rw[hap,List.length_append,List.length_singleton]at hlen;omega
    obtain⟨g,cap,rfl,hc,hfz,hbg,hgl,hcp,hst⟩:=hR.put;rw[List.length_map]at hc hfz hcp hst⊢
    obtain⟨K,hK⟩:∃K,a.length=K:=⟨_,rfl⟩
    rw[hK]at hal hc hfz hcp hst⊢;have HST:=hZ hst
    have HBG:=hZ hbg;have HAP:=hZ (LM p s hb)
    have hc2:wr.cell? ⟨g,K,none⟩=some (.string ⟨p.toArray⟩):=hc
    have hpl:(⟨p.toArray⟩:ByteArray).size≤100000:=by
     have h1:(pcs c (s.data.toList.take i)).flatten.length≤(s.data.toList.take i).length:=BO _ _;rw[hap,List.flatten_append,List.length_append]at h1;have h2:p.length≤[p].flatten.length:=eZ
     have h3:(s.data.toList.take i).length≤i:=by rw[List.length_take];omega
     show p.length≤_;omega
    obtain⟨T,hT⟩:∃T:ByteArray,T=⟨p.toArray⟩:=⟨_,rfl⟩
    rw[←hT]at hc2 hpl;have HT:=hZ hT
    clear hT hap hsn htk hlen hb hg hR HR hst hbg hc hgl;go_wp2_with fail;go_region;go_wp2_with fail;refine⟨⟨i+1,aC,aG,hZ ?_,hZ ?_⟩,cN⟩
    ·rw[HSN.out,List.map_append,HT.out,HAP.out];exact HST.out _
    ·first|exact HB.out.drew.setCell (p:=⟨g,K,none⟩) HBG.out _|exact HB.out.setCell (p:=⟨g,K,none⟩) HBG.out _
  ·obtain rfl:i=s.size:=by omega
   go_wp2_with fail;go_ret;exact⟨_,rfl,by rw[←IS s];exact HR.out,HB.out⟩
end Go.Proofs.YtdkedmngeahjiaaGreatDoor
