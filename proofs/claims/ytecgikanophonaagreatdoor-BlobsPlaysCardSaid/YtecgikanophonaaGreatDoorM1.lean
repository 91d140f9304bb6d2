/- Texts of the seat, one behind the other: Plain, Sha. -/
import Derived.WalkKit
import Derived.Lib.Hide
set_option maxRecDepth 100000
set_option maxHeartbeats 25600000
/- Plain definitions and laws: blocks of bytes in a world, octal digits: no program in sight. -/
namespace Go.Proofs.YtecgikanophonaaGreatDoor
open Go.RowKit
theorem hZ {p : Prop} (h : p) : Hid p := Lib.hid h
theorem ret_int {k:IntKind} {a b:Int} (h:a=b):Ending.returned (.int k a)=.returned (.int k b):=by rw [h]
abbrev Bs:=List UInt8
def byteV (x:UInt8):Value:=.int .u8 (x.toNat:Int)
def setBlk (w:World) (b:Nat) (o:Obj):World:={ w with heap:=w.heap.setIfInBounds b o }
theorem heap_ext {w w':World} (h:∀ k:Nat,w.heap[k]?=w'.heap[k]?) (h1:w.tape=w'.tape) (h2:w.drawn=w'.drawn) (h3:w.os=w'.os) (h4:w.output=w'.output):w=w':=by
 cases w;cases w'
 simp only at h h1 h2 h3 h4
 subst h1 h2 h3 h4
 simp only [World.mk.injEq,and_true]
 exact Array.ext_getElem? h
theorem setBlk_at (w:World) (b:Nat) (o:Obj) (k:Nat):(setBlk w b o).heap[k]?=if b=k then (if b < w.heap.size then some o else none) else w.heap[k]?:=by
 unfold setBlk;exact Array.getElem?_setIfInBounds
theorem setBlk_heap {w:World} {b:Nat} {o:Obj} (h:b < w.heap.size):(setBlk w b o).heap[b]?=some o:=by
 rw [setBlk_at,if_pos rfl,if_pos h]
theorem setBlk_other {w:World} {b:Nat} {o:Obj} {k:Nat} (h:k≠b):(setBlk w b o).heap[k]?=w.heap[k]?:=by
 rw [setBlk_at,if_neg (Ne.symm h)]
theorem setBlk_size {w:World} {b:Nat} {o:Obj}:(setBlk w b o).heap.size=w.heap.size:=by simp [setBlk]
theorem setBlk_setBlk {w:World} {b:Nat} {o o':Obj}:setBlk (setBlk w b o) b o'=setBlk w b o':=by
 refine heap_ext (fun k=>?_) rfl rfl rfl rfl
 rw [setBlk_at,setBlk_at,setBlk_at,setBlk_size]
 by_cases e:b=k
 ·rw [if_pos e,if_pos e]
 ·rw [if_neg e,if_neg e,if_neg e]
theorem setBlk_self {w:World} {b:Nat} {o:Obj} (h:w.heap[b]?=some o):setBlk w b o=w:=by
 refine heap_ext (fun k=>?_) rfl rfl rfl rfl
 rw [setBlk_at]
 by_cases e:b=k
 ·subst e
  rw [if_pos rfl,h,if_pos]
  exact (Array.getElem?_eq_some_iff.1 h).1
 ·rw [if_neg e]
theorem blk_lt {w:World} {b:Nat} {o:Obj} (h:w.heap[b]?=some o):b < w.heap.size:=by
 rcases Nat.lt_or_ge b w.heap.size with h' | h'
 ·exact h'
 ·simp [Array.getElem?_eq_none h'] at h
def octal:Nat→Int→Bs
 |0,_=>[]
 |d+1,x=>octal d (x / 8) ++ [(48+x % 8).toNat.toUInt8]
def over (l:Bs) (i:Nat) (s:Bs):Bs:=l.take i ++ s ++ l.drop (i+s.length)
end Go.Proofs.YtecgikanophonaaGreatDoor
/- Plain: a hash takes bytes; the numbers behind whole blocks; what stands behind a text. -/
namespace Go.Proofs.YtecgikanophonaaGreatDoor
structure R8 where
 a:Int
 b:Int
 c:Int
 d:Int
 e:Int
 f:Int
 g:Int
 k:Int
structure HS where
 h:R8
 rest:List UInt8
 n:Nat
section
variable (c:R8→List UInt8→R8)
def feed1 (st:HS) (b:UInt8):HS :=
 if st.n % 64=63 then ⟨c st.h (st.rest.set (st.n % 64) b),st.rest.set (st.n % 64) b,st.n+1⟩ else ⟨st.h,st.rest.set (st.n % 64) b,st.n+1⟩
def feed (st:HS) (l:List UInt8):HS:=l.foldl (feed1 c) st
def chunks (h:R8) (b:List UInt8):Nat→R8
 |0=>h
 |j+1=>c (chunks h b j) ((b.drop (64 * j)).take 64)
def lay (r:List UInt8) (a:Nat) (l:List UInt8):List UInt8:=r.take a ++ l ++ r.drop (a+l.length)
theorem lay_length {r:List UInt8} {a:Nat} {l:List UInt8} (h:a+l.length≤r.length):(lay r a l).length=r.length:=by
 unfold lay
 rw [List.length_append,List.length_append,List.length_take,List.length_drop]
 omega
theorem lay_nil (r:List UInt8) (a:Nat):lay r a []=r:=by
 unfold lay
 rw [List.append_nil]
 exact List.take_append_drop ..
theorem lay_cons {r:List UInt8} {a:Nat} {b:UInt8} {l:List UInt8} (h:a < r.length):lay (r.set a b) (a+1) l=lay r a (b :: l):=by
 unfold lay
 rw [List.length_cons,show a+1+l.length=a+(l.length+1) by omega,List.drop_set_of_lt (by omega),List.take_add_one,List.getElem?_set_self h,List.take_set_of_le (Nat.le_refl _)]
 simp
theorem feed_append (st:HS) (l m:List UInt8):feed c st (l ++ m)=feed c (feed c st l) m:=List.foldl_append
theorem feed_nil (st:HS):feed c st []=st:=rfl
theorem feed_cons (st:HS) (b:UInt8) (l:List UInt8):feed c st (b :: l)=feed c (feed1 c st b) l:=rfl
theorem feed_n (l:List UInt8):∀ st:HS,(feed c st l).n=st.n+l.length:=by
 induction l with
 |nil=>intro st;rfl
 |cons b l ih =>
  intro st
  rw [feed_cons,ih]
  have:(feed1 c st b).n=st.n+1:=by unfold feed1;split <;> rfl
  rw [this,List.length_cons]
  omega
theorem feed1_rest (st:HS) (b:UInt8):(feed1 c st b).rest.length=st.rest.length:=by
 unfold feed1
 split
 ·exact List.length_set ..
 ·exact List.length_set ..
theorem feed_rest (l:List UInt8):∀ st:HS,(feed c st l).rest.length=st.rest.length:=by
 induction l with
 |nil=>intro st;rfl
 |cons b l ih=>intro st;rw [feed_cons,ih,feed1_rest]
theorem feed_piece (l:List UInt8):∀ (st:HS),st.rest.length=64→st.n % 64+l.length≤64→l≠[] →
  feed c st l=⟨if st.n % 64+l.length=64 then c st.h (lay st.rest (st.n % 64) l) else st.h,lay st.rest (st.n % 64) l,st.n+l.length⟩:=by
 induction l with
 |nil=>intro st h1 h2 h3;exact absurd rfl h3
 |cons b l ih =>
  intro st h1 h2 h3
  obtain ⟨h,rest,n⟩:=st
  rw [feed_cons]
  rw [List.length_cons] at h2
  have hset:=lay_cons (r:=rest) (a:=n % 64) (b:=b) (l:=l) (by show n % 64 < rest.length;rw [show rest.length=64 from h1];omega)
  cases l with
  |nil =>
   rw [lay_nil] at hset
   rw [feed_nil]
   unfold feed1
   show (if n % 64=63 then _ else _)=(⟨if n % 64+1=64 then c h (lay rest (n % 64) [b]) else h,lay rest (n % 64) [b],n+1⟩:HS)
   rw [← hset]
   by_cases h63:n % 64=63
   ·rw [if_pos h63,if_pos (by omega)]
   ·rw [if_neg h63,if_neg (by omega)]
  |cons b' l' =>
   have h2':n % 64+((b' :: l').length+1)≤64:=h2
   have hl:0 < (b' :: l').length:=Nat.succ_pos _
   have e1:feed1 c ⟨h,rest,n⟩ b=⟨h,rest.set (n % 64) b,n+1⟩:=by
    unfold feed1
    exact if_neg (show ¬ n % 64=63 by omega)
   have hm:(n+1) % 64=n % 64+1:=by omega
   rw [e1,ih ⟨h,rest.set (n % 64) b,n+1⟩ (by rw [← h1];exact List.length_set ..) (by show (n+1) % 64+_≤64;omega) (fun e=>by cases e)]
   show (⟨if (n+1) % 64+(b' :: l').length=64 then c h (lay (rest.set (n % 64) b) ((n+1) % 64) (b' :: l')) else h,lay (rest.set (n % 64) b) ((n+1) % 64) (b' :: l'),n+1+(b' :: l').length⟩:HS)=(⟨if n % 64+((b' :: l').length+1)=64 then c h (lay rest (n % 64) (b :: b' :: l')) else h,lay rest (n % 64) (b :: b' :: l'),n+((b' :: l').length+1)⟩:HS)
   rw [hm,hset,show n % 64+1+(b' :: l').length=n % 64+((b' :: l').length+1) by omega,show n+1+(b' :: l').length=n+((b' :: l').length+1) by omega]
theorem feed_block {st:HS} (h:st.rest.length=64) (hn:st.n % 64=0) {l:List UInt8} (hl:l.length=64):feed c st l=⟨c st.h l,l,st.n+64⟩:=by
 have hne:l≠[]:=fun e=>by rw [e] at hl;cases hl
 rw [feed_piece c l st h (by omega) hne,if_pos (by omega),hn,hl]
 have:lay st.rest 0 l=l:=by
  unfold lay
  rw [List.take_zero,Nat.zero_add,hl,← h,List.drop_length,List.append_nil,List.nil_append]
 rw [this]
theorem chunks_more (h:R8) (b m:List UInt8):∀ j,64 * j≤b.length→chunks c h (b ++ m) j=chunks c h b j:=by
 intro j
 induction j with
 |zero=>intro _;rfl
 |succ j ih =>
  intro hj
  rw [chunks,chunks,ih (by omega),List.drop_append_of_le_length (by omega),List.take_append_of_le_length (by rw [List.length_drop];omega)]
theorem feed_chunks {st:HS} (h:st.rest.length=64) (hn:st.n % 64=0):∀ (j:Nat) (l:List UInt8),l.length=64 * j→(feed c st l).h=chunks c st.h l j:=by
 intro j
 induction j with
 |zero =>
  intro l hl
  have:l=[]:=List.length_eq_zero_iff.1 (by omega)
  subst this
  rfl
 |succ j ih =>
  intro l hl
  have e:l=l.take (64 * j) ++ l.drop (64 * j):=(List.take_append_drop ..).symm
  have h1:(l.take (64 * j)).length=64 * j:=by rw [List.length_take];omega
  have h2:(l.drop (64 * j)).length=64:=by rw [List.length_drop];omega
  have ih1:=ih _ h1
  have hf:=feed_block c (st:=feed c st (l.take (64 * j))) (by rw [feed_rest];exact h) (by rw [feed_n,h1];omega) h2
  conv=>lhs;rw [e]
  rw [feed_append,hf]
  show c (feed c st (l.take (64 * j))).h (l.drop (64 * j))=_
  rw [ih1,chunks]
  have h3:(l.drop (64 * j)).take 64=l.drop (64 * j):=List.take_of_length_le (by omega)
  rw [h3]
  congr 1
  conv=>rhs;rw [e]
  exact (chunks_more c st.h _ _ j (by omega)).symm
end
def len8 (n:Nat):List UInt8:=[56,48,40,32,24,16,8,0].map fun k=>UInt8.ofNat (8 * n / 2 ^ k)
def zeros (n:Nat):Nat:=(119 - n % 64) % 64
def padB (l:List UInt8):List UInt8:=l ++ [128] ++ List.replicate (zeros l.length) 0 ++ len8 l.length
theorem padB_length (l:List UInt8):(padB l).length % 64=0:=by
 unfold padB zeros len8
 simp only [List.length_append,List.length_replicate,List.length_cons,List.length_nil,List.length_map]
 omega
def shaH (c:R8→List UInt8→R8) (h0:R8) (l:List UInt8):R8:=chunks c h0 (padB l) ((padB l).length / 64)
theorem sha_feed (c:R8→List UInt8→R8) (h0:R8) (r0:List UInt8) (hr:r0.length=64) (l:List UInt8) :
  c (feed c ⟨h0,r0,0⟩ (l ++ [128] ++ List.replicate (zeros l.length) 0)).h (lay (feed c ⟨h0,r0,0⟩ (l ++ [128] ++ List.replicate (zeros l.length) 0)).rest 56 (len8 l.length))=shaH c h0 l:=by
 have hp:=padB_length l
 have h1:=feed_chunks c (st:=⟨h0,r0,0⟩) hr rfl ((padB l).length / 64) (padB l) (by omega)
 unfold shaH
 rw [← h1]
 unfold padB
 rw [feed_append c _ (l ++ [128] ++ List.replicate (zeros l.length) 0)]
 have hl8:(len8 l.length).length=8:=rfl
 have hn:=feed_n c (l ++ [128] ++ List.replicate (zeros l.length) 0) ⟨h0,r0,0⟩
 have hz:(l ++ [128] ++ List.replicate (zeros l.length) 0).length=l.length+1+zeros l.length:=by simp [List.length_append,List.length_replicate];omega
 have h56:(feed c ⟨h0,r0,0⟩ (l ++ [128] ++ List.replicate (zeros l.length) 0)).n % 64=56:=by
  rw [hn,hz]
  show (0+(l.length+1+zeros l.length)) % 64=56
  unfold zeros
  omega
 rw [feed_piece c (len8 l.length) _ (by rw [feed_rest];exact hr) (by rw [h56,hl8];omega) (fun e=>by cases e),h56,hl8]
 rfl
end Go.Proofs.YtecgikanophonaaGreatDoor
