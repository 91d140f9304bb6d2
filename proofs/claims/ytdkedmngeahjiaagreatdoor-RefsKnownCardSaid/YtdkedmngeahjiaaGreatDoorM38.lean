import Derived.Test.YtdkedmngeahjiaaGreatDoorM6
import Derived.Still
import Derived.BigQuiet
set_option maxRecDepth 100000
set_option maxHeartbeats 25600000
namespace Go.Proofs.YtdkedmngeahjiaaGreatDoor
open Go
theorem qU{P:Program}{ops:Array Oper}{w0:World}{Q:Act→Prop}:∀(l:List Oper) (a:Act),wpQuiet P ops (fun W=>W=w0) Q l a→wpStill P ops w0 Q l a
 |[],_,h=>h
 |o::rest,a,h=>by
  unfold wpQuiet at h;unfold wpStill;by_cases hw:Region.wanted o (yielded ops a.tmps)=true
  ·rw[if_pos hw]at h⊢;obtain⟨v,h1,h2⟩:=h;have hq:=h1 w0 rfl
   unfold Oper.quietAt at hq;unfold Oper.still;generalize (execOp a.eval o).run P w0=r at hq⊢
   cases r with
   |ok n w'=>
    cases n with
    |value u=>
     obtain⟨rfl,rfl⟩:=hq;exact⟨rfl,qU rest _ h2⟩
    |skip=>
     obtain⟨rfl,rfl⟩:=hq;exact⟨rfl,qU rest _ h2⟩
    |enter f args=>
     obtain⟨rfl,hc⟩:=hq;exact⟨rfl,v,hc,qU rest _ h2⟩
    |_=>exact hq.elim
   |halt x w'=>exact hq.elim
  ·rw[if_neg hw]at h⊢;exact qU rest _ h
theorem AI{P:Program}{id:Nat}{Q:Exit→Act→World→Prop}{a:Act}{w:World}{l:List Oper}(n:Nat)(hm:P.follows .mixedOrders=true)(hB:Region.lexTailB .any l.toArray n=true)
  (h:wpQuiet P l.toArray (fun W=>W=w.drewN 1) (fun a'=>wpList P l.toArray Q (l.drop n) a' (w.drewN 1)) (l.take n) a):(Code.region id l.toArray true).wp P Q a w:=lT n hm hB (qU _ _ h)
section
variable {md:Region.Mode} {ops:Array Oper}
def B8(md:Region.Mode)(ops:Array Oper)(k:Nat):Bool:=
 match ops[k]? with
 |some o=>o.after.all fun e=>!Region.binds md e||Nat.blt e.on k
 |none=>false
def Iy(md:Region.Mode)(ops:Array Oper)(k:Nat):Bool:=
 match ops[k]? with
 |none=>false
 |some oi=>(List.range (ops.size-(k+1))).all fun j=>match ops[k+1+j]? with
   |some oj=>oj.after.any (fun e=>Region.binds md e&&e.on==k)||oi.apart ops oj
   |none=>true
def B9(md:Region.Mode)(ops:Array Oper)(n:Nat):Bool:=
 Region.noSelect ops&&Nat.blt n ops.size&&Region.sinkB md ops n&&Region.chainB md ops n&&((List.range n).all fun k=>B8 md ops k&&Iy md ops k)&&((List.range (ops.size-n)).all fun t=>B8 md ops (n+t))
def Pre(ops:Array Oper)(k:Nat)(listed:Array Bool):Prop:=listed.size=ops.size∧∀i,i<ops.size→listed[i]?=some (decide (i<k))
theorem Pre.start:Pre ops 0 (Array.replicate ops.size false):=⟨eZ,fun i hi=>by simp[hi]⟩
theorem Pre.next{k:Nat}{listed:Array Bool}(h:Pre ops k listed)(_:k<ops.size):Pre ops (k+1) (listed.setIfInBounds k true):=by
 refine⟨by rw[Array.size_setIfInBounds];exact h.1,fun i hi=>?_⟩;rw[Array.getElem?_setIfInBounds];by_cases e:k=i
 ·subst e;rw[if_pos rfl,if_pos (by rw[h.1];exact hi),decide_eq_true (Nat.lt_succ_self k)]
 ·rw[if_neg e,h.2 i hi]
  congr 1
  by_cases h2:i<k
  ·rw[decide_eq_true h2,decide_eq_true aC]
  ·rw[decide_eq_false h2,decide_eq_false aC]
theorem Pre.at{k i:Nat}{listed:Array Bool}(h:Pre ops k listed)(hi:i<ops.size)(x:Bool):listed.getD i x=decide (i<k):=by
 rw[Array.getD_eq_getD_getElem?,h.2 i hi]
 rfl
theorem Dn{k:Nat}{listed:Array Bool}(h:Pre ops k listed)(hk:k<ops.size)(hb:B8 md ops k=true):k∈Region.ready md ops listed:=by
 unfold Region.ready;rw[List.mem_filter];refine⟨List.mem_range.2 hk,?_⟩
 obtain⟨o,ho⟩:∃o,ops[k]?=some o:=⟨_,Array.getElem?_eq_getElem hk⟩
 unfold B8 at hb;rw[ho]at hb;rw[h.at hk,decide_eq_false (Nat.lt_irrefl k),ho];simp only[Option.map_some,Option.getD_some,Bool.not_false,Bool.true_and];rw[Array.all_eq_true_iff_forall_mem]at hb⊢;intro e he;have h1:=hb e he
 rw[Bool.or_eq_true]at h1⊢;rcases h1 with h1|h1
 ·exact .inl h1
 ·have h2:e.on<k:=by
   have:Nat.ble (e.on+1) k=true:=h1;exact Nat.le_of_ble_eq_true this
  right;rw[h.at aC,decide_eq_true h2]
theorem KJ{k:Nat}{listed:Array Bool}(h:Pre ops k listed)(hk:k<ops.size)(hf:Iy md ops k=true):Region.free md ops listed k=true:=by
 unfold Region.free
 obtain⟨o,ho⟩:∃o,ops[k]?=some o:=⟨_,Array.getElem?_eq_getElem hk⟩
 unfold Iy at hf;rw[ho]at hf⊢;simp only at hf⊢;rw[List.all_eq_true]at hf⊢;intro j hj;have hjs:=List.mem_range.1 hj
 rw[h.at hjs];by_cases h1:j<k
 ·rw[decide_eq_true h1];simp
 ·by_cases h2:j=k
  ·subst h2;simp
  ·have h3:=hf (j-(k+1)) (List.mem_range.2 aC);rw[show k+1+(j-(k+1))=j by omega]at h3;rw[Bool.or_eq_true];right;exact h3
theorem Ca{p:Nat→Bool}{k:Nat}:∀{n:Nat},k<n→p k=true→(∀i,i<n→i≠k→p i=false)→(List.range n).filter p=[k]
 |0,h,_,_=>absurd h (Nat.not_lt_zero _)
 |n+1,h,hp,hn=>by
  rw[List.range_succ,List.filter_append];by_cases e:k=n
  ·subst e
   have h1:(List.range k).filter p=[]:=List.filter_eq_nil_iff.2 fun i hi=>by
    have:=List.mem_range.1 hi;rw[hn i aC aC];exact Bool.false_ne_true
   rw[h1,List.filter_cons_of_pos hp]
   rfl
  ·rw[Ca aC hp (fun i hi=>hn i aC),List.filter_cons_of_neg (by rw[hn n aC (fun h=>e h.symm)];exact Bool.false_ne_true)]
   rfl
theorem Iz{n:Nat}(hc:Region.chainB md ops n=true)(hb:∀t,n≤t→t<ops.size→B8 md ops t=true):∀(g k:Nat) (listed:Array Bool),k+g=ops.size→n≤k→Pre ops k listed→Region.seqB md ops g k listed=true
 |0,k,listed,hg,_,h=>by
  show(Region.ready md ops listed).isEmpty=true;rw[List.isEmpty_iff];refine List.filter_eq_nil_iff.2 fun i hi=>?_
  have his:=List.mem_range.1 hi;rw[h.at his,decide_eq_true aC];simp
 |g+1,k,listed,hg,hn,h=>by
  have hk:k<ops.size:=aC
  have hr:Region.ready md ops listed=[k]:=by
   refine Ca hk ?_ fun i hi hne=>?_
   ·have:=Dn h hk (hb k hn hk);unfold Region.ready at this;exact(List.mem_filter.1 this).2
   ·rw[h.at hi];by_cases h1:i<k
    ·rw[decide_eq_true h1];rfl
    ·rw[decide_eq_false h1];have h2:k<i:=aC
     unfold Region.chainB at hc;rw[List.all_eq_true]at hc;have h3:=hc i (List.mem_range.2 hi)
     rw[decide_eq_false aC,Bool.false_or]at h3;obtain⟨oj,ho,e,he,hbd,hon⟩:=Region.waitsFor_spec h3;rw[ho];simp only[Option.map_some,Option.getD_some,Bool.not_false,Bool.true_and];rw[←Bool.not_eq_true];intro hall;rw[Array.all_eq_true_iff_forall_mem]at hall;have h4:=hall e he
     rw[hbd,hon,h.at aC,decide_eq_false aC]at h4;cases h4
  show(decide (Region.ready md ops listed=[k])&&_)=true;rw[decide_eq_true hr,Bool.true_and];exact Iz hc hb g (k+1) _ aC aC (h.next hk)
theorem IA{n:Nat}(hn:n<ops.size)(hc:Region.chainB md ops n=true)(hh:∀k,k<n→B8 md ops k=true∧Iy md ops k=true)(hb:∀t,n≤t→t<ops.size→B8 md ops t=true):
  ∀(f k:Nat) (listed:Array Bool),k+f=n→Pre ops k listed→Region.lexHead md ops (ops.size-n) f k listed=true
 |0,k,listed,hk,h=>by
  obtain rfl:k=n:=aC;exact Iz hc hb (ops.size-k) k listed aC (Nat.le_refl _) h
 |f+1,k,listed,hk,h=>by
  have h1:=hh k aC;have hks:k<ops.size:=aC
  show((Region.ready md ops listed).contains k&&Region.free md ops listed k&&_)=true;rw[KJ h hks h1.2,show(Region.ready md ops listed).contains k=true from List.contains_iff_mem.2 (Dn h hks h1.1),Bool.true_and,Bool.true_and];exact IA hn hc hh hb f (k+1) _ aC (h.next hks)
theorem En{n:Nat}(h:B9 md ops n=true):Region.lexTailB md ops n=true:=by
 unfold B9 at h;simp only[Bool.and_eq_true,List.all_eq_true,List.mem_range]at h;obtain⟨⟨⟨⟨⟨h1,h2⟩,h3⟩,h4⟩,h5⟩,h6⟩:=h
 have hn:n<ops.size:=by
  have:Nat.ble (n+1) ops.size=true:=h2;exact Nat.le_of_ble_eq_true this
 unfold Region.lexTailB;rw[h1,h3,h4,decide_eq_true hn];simp only[Bool.true_and]
 exact IA hn h4 h5 (fun t ht hts=>by
  have:=h6 (t-n) aC;rwa[show n+(t-n)=t by omega]at this) n 0 _ aC Pre.start
end
theorem pF{P:Program}{id:Nat}{Q:Exit→Act→World→Prop}{a:Act}{w:World}{l:List Oper}(n:Nat)(hm:P.follows .mixedOrders=true)(hB:B9 .any l.toArray n=true)
  (h:wpQuiet P l.toArray (fun W=>W=w.drewN 1) (fun a'=>wpList P l.toArray Q (l.drop n) a' (w.drewN 1)) (l.take n) a):(Code.region id l.toArray true).wp P Q a w:=AI n hm (En hB) h
end Go.Proofs.YtdkedmngeahjiaaGreatDoor
