/- Texts of the seat, one behind the other: ShaM, ShaB. -/
import Derived.Test.YtecgikanophonaaGreatDoorTurn
import Derived.Test.YtecgikanophonaaGreatDoorM3
import Derived.Test.YtecgikanophonaaGreatDoorM12
import Derived.BigRegion
import Derived.Deep.RegionWith
set_option maxRecDepth 100000
set_option maxHeartbeats 25600000
/- Plain: the numbers behind a block; a hash in memory. -/
namespace Go.Proofs.YtecgikanophonaaGreatDoor
open Go Go.RowKit
theorem mixedB:Tryz.prog.follows .mixedOrders=true:=by kernel_rfl
theorem quietT {P:Program} {f:FuncId} {args:Array Value} {W:World} {a x:Nat} {v:Value} (h:Calls P f args (W.drewN (a+x)) fun e w'=>e=.returned v∧∃ q,w'=(W.drewN (a+x)).drewN q):Calls P f args (W.drewN (a+x)) fun e w''=>e=.returned v∧∃ n,w''=W.drewN (a+n) :=
 h.mono fun _ _ ⟨he,q,hq⟩=>⟨he,x+q,by rw [hq,World.drewN_drewN,Nat.add_assoc]⟩
def u32V (x:Int):Value:=.int .u32 x
def rk:List Int:=[0x428a2f98,0x71374491,0xb5c0fbcf,0xe9b5dba5,0x3956c25b,0x59f111f1,0x923f82a4,0xab1c5ed5,0xd807aa98,0x12835b01,0x243185be,0x550c7dc3,0x72be5d74,0x80deb1fe,0x9bdc06a7,0xc19bf174,0xe49b69c1,0xefbe4786,0x0fc19dc6,0x240ca1cc,0x2de92c6f,0x4a7484aa,0x5cb0a9dc,0x76f988da,0x983e5152,0xa831c66d,0xb00327c8,0xbf597fc7,0xc6e00bf3,0xd5a79147,0x06ca6351,0x14292967,0x27b70a85,0x2e1b2138,0x4d2c6dfc,0x53380d13,0x650a7354,0x766a0abb,0x81c2c92e,0x92722c85,0xa2bfe8a1,0xa81a664b,0xc24b8b70,0xc76c51a3,0xd192e819,0xd6990624,0xf40e3585,0x106aa070,0x19a4c116,0x1e376c08,0x2748774c,0x34b0bcb5,0x391c0cb3,0x4ed8aa4a,0x5b9cca4f,0x682e6ff3,0x748f82ee,0x78a5636f,0x84c87814,0x8cc70208,0x90befffa,0xa4506ceb,0xbef9a3f7,0xc67178f2]
def r8i:R8:=⟨0x6a09e667,0xbb67ae85,0x3c6ef372,0xa54ff53a,0x510e527f,0x9b05688c,0x1f83d9ab,0x5be0cd19⟩
def word4 (x0 x1 x2 x3:Int):Int :=
 bits .or .u32 (bits .or .u32 (bits .or .u32 (x0 % 4294967296 * 16777216 % 4294967296) (x1 % 4294967296 * 65536 % 4294967296)) (x2 % 4294967296 * 256 % 4294967296)) (x3 % 4294967296)
def word (r:List UInt8) (i:Nat):Int:=word4 (r.getD (4 * i) 0).toNat (r.getD (4 * i+1) 0).toNat (r.getD (4 * i+2) 0).toNat (r.getD (4 * i+3) 0).toNat
def s0 (x:Int):Int:=bits .xor .u32 (bits .xor .u32 (rotr x 7) (rotr x 18)) (x / 8)
def s1 (y:Int):Int:=bits .xor .u32 (bits .xor .u32 (rotr y 17) (rotr y 19)) (y / 1024)
def wnext (l:List Int) (k:Nat):Int:=(((l.getD k 0+l.getD (k+9) 0) % 4294967296+s0 (l.getD (k+1) 0)) % 4294967296+s1 (l.getD (k+14) 0)) % 4294967296
def sch (r:List UInt8):Nat→List Int
 |0=>(List.range 16).map (word r)
 |k+1=>sch r k ++ [wnext (sch r k) k]
theorem sch_length (r:List UInt8):∀ k,(sch r k).length=16+k
 |0=>by rw [sch,List.length_map,List.length_range]
 |k+1=>by rw [sch,List.length_append,sch_length r k];rfl
def rone (s:R8) (kt wt:Int):Int:=((((s.k+bits .xor .u32 (bits .xor .u32 (rotr s.e 6) (rotr s.e 11)) (rotr s.e 25)) % 4294967296+bits .xor .u32 (bits .and .u32 s.e s.f) (bits .and .u32 (bits .xor .u32 4294967295 s.e) s.g)) % 4294967296+kt) % 4294967296+wt) % 4294967296
def rtwo (s:R8):Int:=(bits .xor .u32 (bits .xor .u32 (rotr s.a 2) (rotr s.a 13)) (rotr s.a 22)+bits .xor .u32 (bits .xor .u32 (bits .and .u32 s.a s.b) (bits .and .u32 s.a s.c)) (bits .and .u32 s.b s.c)) % 4294967296
def rnd (s:R8) (kt wt:Int):R8:=⟨(rone s kt wt+rtwo s) % 4294967296,s.a,s.b,s.c,(s.d+rone s kt wt) % 4294967296,s.e,s.f,s.g⟩
def rnds (s:R8) (l:List Int):Nat→R8
 |0=>s
 |i+1=>rnd (rnds s l i) (rk.getD i 0) (l.getD i 0)
def R8.add (h v:R8):R8:=⟨(h.a+v.a) % 4294967296,(h.b+v.b) % 4294967296,(h.c+v.c) % 4294967296,(h.d+v.d) % 4294967296,(h.e+v.e) % 4294967296,(h.f+v.f) % 4294967296,(h.g+v.g) % 4294967296,(h.k+v.k) % 4294967296⟩
def R8.part (h v:R8) (i:Nat):R8:=⟨if 0 < i then (h.a+v.a) % 4294967296 else h.a,if 1 < i then (h.b+v.b) % 4294967296 else h.b,if 2 < i then (h.c+v.c) % 4294967296 else h.c,if 3 < i then (h.d+v.d) % 4294967296 else h.d,if 4 < i then (h.e+v.e) % 4294967296 else h.e,if 5 < i then (h.f+v.f) % 4294967296 else h.f,if 6 < i then (h.g+v.g) % 4294967296 else h.g,if 7 < i then (h.k+v.k) % 4294967296 else h.k⟩
def compress (h:R8) (r:List UInt8):R8:=h.add (rnds h (sch r 48) 64)
def hashO (wd:Int) (h:R8) (r:List UInt8) (n:Nat):Obj :=
 .cells (.int .i64 wd :: u32V h.a :: u32V h.b :: u32V h.c :: u32V h.d :: u32V h.e :: u32V h.f :: u32V h.g :: u32V h.k :: (r.map byteV ++ [.int .i64 n])).toArray 190 (0,0)
def RoundsT (w:World):Prop:=(∀ i k,rk[i]?=some k→w.cell? ⟨3,i,none⟩=some (.int .u32 k))∧3 < w.heap.size
def wordsO (L:List Int):Obj:=.cells ((List.range 64).map fun i=>u32V (L.getD i 0)).toArray 169 (0,0)
theorem hash_rest {w:World} {hb:Nat} {wd:Int} {h:R8} {r:List UInt8} {n:Nat} (hh:w.heap[hb]?=some (hashO wd h r n)) {j:Nat} (hj:j < r.length):w.cell? ⟨hb,9+j,none⟩=some (byteV (r.getD j 0)):=by
 rw [cell_of_heapN hh,List.getElem?_toArray,show 9+j=j+1+1+1+1+1+1+1+1+1 by omega]
 simp only [List.getElem?_cons_succ]
 rw [List.getElem?_append_left (by rw [List.length_map];exact hj),List.getElem?_map,List.getElem?_eq_getElem hj,List.getD_eq_getElem?_getD,List.getElem?_eq_getElem hj]
 rfl
theorem words_cell {w:World} {b:Nat} {L:List Int} (h:w.heap[b]?=some (wordsO L)) {i:Nat} (hi:i < 64):w.cell? ⟨b,i,none⟩=some (.int .u32 (L.getD i 0)):=by
 rw [cell_of_heapN h,List.getElem?_toArray,List.getElem?_map,List.getElem?_range hi]
 rfl
theorem words_set {w:World} {b:Nat} {L:List Int} (h:w.heap[b]?=some (wordsO L)) {i:Nat} (hl:L.length=i) (hi:i < 64) (x:Int):(w.setCell ⟨b,i,none⟩ (.int .u32 x)).heap[b]?=some (wordsO (L ++ [x])):=by
 rw [setCell_blk h,setBlk_heap (blk_lt h)]
 unfold wordsO
 rw [List.setIfInBounds_toArray]
 congr 2
 congr 1
 refine List.ext_getElem? fun k=>?_
 rw [List.getElem?_set,List.getElem?_map,List.getElem?_map,List.length_map,List.length_range]
 by_cases hk:i=k
 ·subst hk
  rw [if_pos rfl,if_pos hi,List.getElem?_range hi]
  show some _=some (u32V ((L ++ [x]).getD i 0))
  rw [List.getD_eq_getElem?_getD,List.getElem?_append_right (by omega),hl,Nat.sub_self]
  rfl
 ·rw [if_neg hk]
  by_cases hk2:k < 64
  ·rw [List.getElem?_range hk2]
   show some (u32V (L.getD k 0))=some (u32V ((L ++ [x]).getD k 0))
   rw [List.getD_eq_getElem?_getD,List.getD_eq_getElem?_getD]
   by_cases hk3:k < L.length
   ·rw [List.getElem?_append_left hk3]
   ·rw [List.getElem?_eq_none (by omega),List.getElem?_eq_none (by rw [List.length_append,List.length_singleton];omega)]
  ·rw [List.getElem?_eq_none (by rw [List.length_range];omega)]
   rfl
theorem words_new:wordsO []=.cells (Array.replicate 64 (.int .u32 0)) 169 (0,0):=by
 unfold wordsO
 rfl
theorem updL_keep {L:Nat→Bool} {i k:Nat} (h:L k=true):updL L i k=true:=by
 by_cases e:k=i
 ·subst e;exact updL_self
 ·rw [updL_ne e];exact h
structure SchW (w:World) (r:List UInt8) (k:Nat) (L:Nat→Bool) (W:World):Prop where
 bel:Below w.heap.size w W
 lo:L 29=false→W.heap[w.heap.size]?=some (wordsO (sch r k))
 hi:L 29=true→W.heap[w.heap.size]?=some (wordsO (sch r (k+1)))
 dep:L 29=true→L 4=true∧L 8=true
section
variable {w W:World} {r:List UInt8} {k:Nat} {L:Nat→Bool}
theorem SchW.upd (h:SchW w r k L W) (j:Nat) (hj:j≠29):SchW w r k (updL L j) W:=by
 have e:updL L j 29=L 29:=updL_ne (show 29≠j by omega)
 refine ⟨h.bel,fun e2=>h.lo (e ▸ e2),fun e2=>h.hi (e ▸ e2),fun e2=>?_⟩
 obtain ⟨h4,h8⟩:=h.dep (e ▸ e2)
 exact ⟨updL_keep h4,updL_keep h8⟩
theorem SchW.drews (h:SchW w r k L W) (q:Nat):SchW w r k L (W.drewN q):=⟨⟨h.bel.os,h.bel.tape,h.bel.output,h.bel.size,h.bel.block⟩,h.lo,h.hi,h.dep⟩
theorem SchW.cell (h:SchW w r k L W) (hl:L 4=false∨L 8=false) {j:Nat} (hj:j < 64):W.cell? ⟨w.heap.size,j,none⟩=some (.int .u32 ((sch r k).getD j 0)):=by
 refine words_cell (h.lo ?_) hj
 cases e:L 29 with
 |false=>rfl
 |true =>
  have:=h.dep e
  rcases hl with hl | hl
  ·rw [hl] at this;cases this.1
  ·rw [hl] at this;cases this.2
theorem SchW.set (h:SchW w r k L W) (hl:L 29=false) (hk:k < 48) (h4:L 4=true) (h8:L 8=true):SchW w r k (updL L 29) (W.setCell ⟨w.heap.size,k+16,none⟩ (.int .u32 (wnext (sch r k) k))) :=
 ⟨h.bel.setCell (Nat.le_refl _) _,fun e=>by rw [updL_self] at e;(cases e),fun _=>words_set (h.lo hl) (by rw [sch_length];omega) (by omega) _,fun _=>⟨updL_keep h4,updL_keep h8⟩⟩
end
theorem idx8 (W:World) (a b c d e f g k x:Int) (j:Nat) (h:[a,b,c,d,e,f,g,k][j]?=some x) :
  Sem.run Tryz.prog (Instr.index 97 (.agg #[.int .u32 a,.int .u32 b,.int .u32 c,.int .u32 d,.int .u32 e,.int .u32 f,.int .u32 g,.int .u32 k]) (.int .i64 j)) W=.ok (.int .u32 x) W:=by
 match j,h with
 |0,h | 1,h | 2,h | 3,h | 4,h | 5,h | 6,h | 7,h =>
  cases h
  first | kernel_rfl | (simp [Instr.index,go_sem];done)
end Go.Proofs.YtecgikanophonaaGreatDoor
/- Contract of (*Hash).block. -/
namespace Go.Proofs.YtecgikanophonaaGreatDoor
open Go Go.RowKit
theorem block_any {w:World} {hb:Nat} {wd:Int} {h:R8} {r:List UInt8} {n:Nat} (hh:w.heap[hb]?=some (hashO wd h r n)) (hr:r.length=64) (hK:RoundsT w) :
  Calls Tryz.prog 129 #[.pointer (some ⟨hb,0,none⟩)] w fun e w'=>e=.returned (.tuple #[])∧w'.heap[hb]?=some (hashO wd (compress h r) r n)∧Off (fun b=>b=hb) w w':=by
 have HH:=hZ hh
 have HR:=hZ hr
 have HK:=hZ hK
 clear hh hr hK
 go_enter Tryz.func129,Tryz.ntmps129
 go_wp2_with fail
 go_loopw [20] (fun iv wr=>∃ i:Nat,(i:Int)≤16∧iv=.int .i64 i∧Hid (Below w.heap.size w wr)∧Hid (wr.heap[w.heap.size]?=some (wordsO ((List.range i).map (word r))))) (fun iv _=>16 - (intOf iv).toNat)
 case atStart=>exact ⟨0,by omega,rfl,hZ ((Below.refl _ _).alloc (Nat.le_refl _) _),hZ (by rw [heap_new];exact congrArg some words_new.symm)⟩
 case round =>
  obtain ⟨i,hi,rfl,HB,HW⟩:=hrel
  by_cases hlt:(i:Int) < 16
  ·have hlt2:i < 16:=by omega
   have hlb:=blk_lt HH.out
   have cf:∀ j,j < 64→wr.cell? ⟨hb,9+j,none⟩=some (.int .u8 ((r.getD j 0).toNat:Int)):=fun j hj=>(HB.out.cell (p:=⟨hb,9+j,none⟩) hlb).trans (hash_rest HH.out (by rw [HR.out];exact hj))
   have c0:=cf (4 * i) (by omega)
   have c1:=cf (4 * i+1) (by omega)
   have c2:=cf (4 * i+2) (by omega)
   have c3:=cf (4 * i+3) (by omega)
   have f0:wr.frozen? ⟨w.heap.size,i,none⟩=false:=frozen_blk HW.out
   have d0:=words_cell HW.out (i:=i) (by omega)
   clear cf
   have hwd:word r i=word4 (r.getD (4 * i) 0).toNat (r.getD (4 * i+1) 0).toNat (r.getD (4 * i+2) 0).toNat (r.getD (4 * i+3) 0).toNat:=rfl
   generalize ((r.getD (4 * i) 0).toNat:Int)=x0 at c0 hwd
   generalize ((r.getD (4 * i+1) 0).toNat:Int)=x1 at c1 hwd
   generalize ((r.getD (4 * i+2) 0).toNat:Int)=x2 at c2 hwd
   generalize ((r.getD (4 * i+3) 0).toNat:Int)=x3 at c3 hwd
   have HWD:=hZ hwd
   clear hwd
   generalize ((List.range i).map (word r)).getD i 0=y0 at d0
   go_wp2_with fail
   go_region
   go_wp2_with fail
   go_roundw
   case rel =>
    refine ⟨i+1,by omega,by rw [Int.natCast_add];rfl,hZ ((HB.out.setCell (Nat.le_refl _) _).trans ⟨rfl,rfl,rfl,Nat.le_refl _,fun _ _=>rfl⟩),hZ ?_⟩
    have h2:=words_set HW.out (i:=i) (by rw [List.length_map,List.length_range]) (by omega) (word r i)
    rw [HWD.out] at h2
    rw [List.range_succ,List.map_append,List.map_singleton,HWD.out]
    exact h2
   case measure=>simp [intOf];omega
  ·obtain rfl:i=16:=by omega
   have HW0:Hid (wr.heap[w.heap.size]?=some (wordsO (sch r 0))):=HW
   clear HW
   go_wp2_with fail
   go_loopw [4] (fun iv wr=>∃ k:Nat,(k:Int)≤48∧iv=.int .i64 ((k+16:Nat):Int)∧Hid (Below w.heap.size w wr)∧Hid (wr.heap[w.heap.size]?=some (wordsO (sch r k)))) (fun iv _=>64 - (intOf iv).toNat)
   case atStart=>exact ⟨0,by omega,rfl,HB,HW0⟩
   case round =>
    obtain ⟨k,hi,rfl,HB,HW⟩:=hrel
    by_cases hlt:((k+16:Nat):Int) < 64
    ·have hk48:k < 48:=by omega
     have hcell:∀ j,j < 64→wr.cell? ⟨w.heap.size,j,none⟩=some (.int .u32 ((sch r k).getD j 0)):=fun j hj=>words_cell HW.out hj
     have c15:=hcell (k+1) (by omega)
     have c2:=hcell (k+14) (by omega)
     clear hcell
     obtain ⟨y16,hy16⟩:∃ y,(sch r k).getD k 0=y:=⟨_,rfl⟩
     obtain ⟨y7,hy7⟩:∃ y,(sch r k).getD (k+9) 0=y:=⟨_,rfl⟩
     obtain ⟨y15,hy15⟩:∃ y,(sch r k).getD (k+1) 0=y:=⟨_,rfl⟩
     obtain ⟨y2,hy2⟩:∃ y,(sch r k).getD (k+14) 0=y:=⟨_,rfl⟩
     have HWN:=hZ (show wnext (sch r k) k=(((y16+y7) % 4294967296+s0 y15) % 4294967296+s1 y2) % 4294967296 by unfold wnext;rw [hy16,hy7,hy15,hy2])
     have H16:=hZ (show some (Value.int .u32 ((sch r k).getD k 0))=some (.int .u32 y16) by rw [hy16])
     have H7:=hZ (show some (Value.int .u32 ((sch r k).getD (k+9) 0))=some (.int .u32 y7) by rw [hy7])
     rw [hy15] at c15
     rw [hy2] at c2
     clear hy16 hy7 hy15 hy2
     go_wp2_with fail
     go_quiet (fail)
     rename_i nq
     go_wp2_with fail
     have hI0:SchW w r k (fun _=>false) (wr.drewN nq).drew:=⟨⟨HB.out.os,HB.out.tape,HB.out.output,HB.out.size,HB.out.block⟩,fun _=>HW.out,(fun e=>by cases e),(fun e=>by cases e)⟩
--FLOW10
     refine wp_region_flowG (fun _:Unit=>[.int .i64 ((k+16:Nat)),.int .i64 ((k+16:Nat)),.int .i64 (k),.pointer (some ⟨w.heap.size,k,none⟩),.int .u32 (y16),.int .i64 ((k+16:Nat)),.int .i64 ((k:Int)+9),.pointer (some ⟨w.heap.size,k+9,none⟩),.int .u32 (y7),.int .u32 ((y16+y7) % 4294967296),.int .u32 (y15),.int .u32 (rotr y15 7),.int .u32 (y15),.int .u32 (rotr y15 18),.int .u32 (bits .xor .u32 (rotr y15 7) (rotr y15 18)),.int .u32 (y15),.int .u32 (y15 / 8),.int .u32 (bits .xor .u32 (bits .xor .u32 (rotr y15 7) (rotr y15 18)) (y15 / 8)),.int .u32 (((y16+y7) % 4294967296+bits .xor .u32 (bits .xor .u32 (rotr y15 7) (rotr y15 18)) (y15 / 8)) % 4294967296),.int .u32 (y2),.int .u32 (rotr y2 17),.int .u32 (y2),.int .u32 (rotr y2 19),.int .u32 (bits .xor .u32 (rotr y2 17) (rotr y2 19)),.int .u32 (y2),.int .u32 (y2 / 1024),.int .u32 (bits .xor .u32 (bits .xor .u32 (rotr y2 17) (rotr y2 19)) (y2 / 1024)),.int .u32 ((((y16+y7) % 4294967296+bits .xor .u32 (bits .xor .u32 (rotr y15 7) (rotr y15 18)) (y15 / 8)) % 4294967296+bits .xor .u32 (bits .xor .u32 (rotr y2 17) (rotr y2 19)) (y2 / 1024)) % 4294967296),.pointer (some ⟨w.heap.size,k+16,none⟩),undef]) (fun L _ W=>SchW w r k L W)
      [[],[],[1],[2],[3],[],[5],[6],[7],[4,8],[],[10],[],[12,11],[11,13],[],[15],[14,16],[9,17],[],[19,13],[],[21,20],[20,22],[],[24],[23,25],[18,26],[0,0,1,2,3,4,5,6,7,8,9,10,11,12,13,14,15,16,17,18,19,20,21,22,23,24,25,26,27],[28,27,22,0,1,2,3,4,5,6,7,8,9,10,11,12,13,14,15,16,17,18,19,20,21,22,23,24,25,26,27]] 236 () mixedB rfl (by kernel_rfl) (fun _=>rfl) hI0 ?_ ?_
     ·refine ⟨?_,?_,?_,?_,?_,?_,?_,?_,?_,?_,?_,?_,?_,?_,?_,?_,?_,?_,?_,?_,?_,?_,?_,?_,?_,?_,?_,?_,?_,?_,rfl⟩
      all_goals intro L γ W ev hL hd hW hc hf hg he h0
      ·have e4:ev (.tmp 4)=.int .i64 ((k+16:Nat)):=h0 4 rfl
       clear he h0 hf hg
       exact .inl ⟨rfl,.inl ⟨_,W,(by go_simp <;> first | rfl | (rw [IntKind.wrap_i64];omega) | (rw [IntKind.wrap_u32];omega) | (intro h;exfalso;omega) | (rw [if_pos (by omega),show ((k:Int)+9).toNat=k+9 by omega])),.still (hW.upd 0 (by decide)) rfl⟩⟩
      ·have e4:ev (.tmp 4)=.int .i64 ((k+16:Nat)):=h0 4 rfl
       clear he h0 hf hg
       exact .inl ⟨rfl,.inl ⟨_,W,(by go_simp <;> first | rfl | (rw [IntKind.wrap_i64];omega) | (rw [IntKind.wrap_u32];omega) | (intro h;exfalso;omega) | (rw [if_pos (by omega),show ((k:Int)+9).toNat=k+9 by omega])),.still (hW.upd 1 (by decide)) rfl⟩⟩
      ·have e80:ev (.tmp 80)=.int .i64 ((k+16:Nat)):=he 1 (by decide) _ 80 rfl rfl
       clear he h0 hf hg
       exact .inl ⟨rfl,.inl ⟨_,W,(by go_simp <;> first | rfl | (rw [IntKind.wrap_i64];omega) | (rw [IntKind.wrap_u32];omega) | (intro h;exfalso;omega) | (rw [if_pos (by omega),show ((k:Int)+9).toNat=k+9 by omega])),.still (hW.upd 2 (by decide)) rfl⟩⟩
      ·have e2:ev (.tmp 2)=.pointer (some ⟨w.heap.size,0,none⟩):=h0 2 rfl
       have e81:ev (.tmp 81)=.int .i64 (k):=he 2 (by decide) _ 81 rfl rfl
       clear he h0 hf hg
       exact .inl ⟨rfl,.inl ⟨_,W,(by go_simp <;> first | rfl | (rw [IntKind.wrap_i64];omega) | (rw [IntKind.wrap_u32];omega) | (intro h;exfalso;omega) | (rw [if_pos (by omega),show ((k:Int)+9).toNat=k+9 by omega])),.still (hW.upd 3 (by decide)) rfl⟩⟩
      ·have e82:ev (.tmp 82)=.pointer (some ⟨w.heap.size,k,none⟩):=he 3 (by decide) _ 82 rfl rfl
       have c:W.cell? ⟨w.heap.size,k,none⟩=some (.int .u32 y16):=(hW.cell (.inl hL) (by omega)).trans H16.out
       clear he h0 hf hg
       exact .inl ⟨rfl,.inl ⟨_,W,(by go_simp <;> first | rfl | (rw [IntKind.wrap_i64];omega) | (rw [IntKind.wrap_u32];omega) | (intro h;exfalso;omega) | (rw [if_pos (by omega),show ((k:Int)+9).toNat=k+9 by omega])),.still (hW.upd 4 (by decide)) rfl⟩⟩
      ·have e4:ev (.tmp 4)=.int .i64 ((k+16:Nat)):=h0 4 rfl
       clear he h0 hf hg
       exact .inl ⟨rfl,.inl ⟨_,W,(by go_simp <;> first | rfl | (rw [IntKind.wrap_i64];omega) | (rw [IntKind.wrap_u32];omega) | (intro h;exfalso;omega) | (rw [if_pos (by omega),show ((k:Int)+9).toNat=k+9 by omega])),.still (hW.upd 5 (by decide)) rfl⟩⟩
      ·have e84:ev (.tmp 84)=.int .i64 ((k+16:Nat)):=he 5 (by decide) _ 84 rfl rfl
       clear he h0 hf hg
       exact .inl ⟨rfl,.inl ⟨_,W,(by go_simp <;> first | rfl | (rw [IntKind.wrap_i64];omega) | (rw [IntKind.wrap_u32];omega) | (intro h;exfalso;omega) | (rw [if_pos (by omega),show ((k:Int)+9).toNat=k+9 by omega])),.still (hW.upd 6 (by decide)) rfl⟩⟩
      ·have e2:ev (.tmp 2)=.pointer (some ⟨w.heap.size,0,none⟩):=h0 2 rfl
       have e85:ev (.tmp 85)=.int .i64 ((k:Int)+9):=he 6 (by decide) _ 85 rfl rfl
       clear he h0 hf hg
       exact .inl ⟨rfl,.inl ⟨_,W,(by go_simp <;> first | rfl | (rw [IntKind.wrap_i64];omega) | (rw [IntKind.wrap_u32];omega) | (intro h;exfalso;omega) | (rw [if_pos (by omega),show ((k:Int)+9).toNat=k+9 by omega])),.still (hW.upd 7 (by decide)) rfl⟩⟩
      ·have e86:ev (.tmp 86)=.pointer (some ⟨w.heap.size,k+9,none⟩):=he 7 (by decide) _ 86 rfl rfl
       have c:W.cell? ⟨w.heap.size,k+9,none⟩=some (.int .u32 y7):=(hW.cell (.inr hL) (by omega)).trans H7.out
       clear he h0 hf hg
       exact .inl ⟨rfl,.inl ⟨_,W,(by go_simp <;> first | rfl | (rw [IntKind.wrap_i64];omega) | (rw [IntKind.wrap_u32];omega) | (intro h;exfalso;omega) | (rw [if_pos (by omega),show ((k:Int)+9).toNat=k+9 by omega])),.still (hW.upd 8 (by decide)) rfl⟩⟩
      ·have e83:ev (.tmp 83)=.int .u32 (y16):=he 4 (by decide) _ 83 rfl rfl
       have e87:ev (.tmp 87)=.int .u32 (y7):=he 8 (by decide) _ 87 rfl rfl
       clear he h0 hf hg
       exact .inl ⟨rfl,.inl ⟨_,W,(by go_simp <;> first | rfl | (rw [IntKind.wrap_i64];omega) | (rw [IntKind.wrap_u32];omega) | (intro h;exfalso;omega) | (rw [if_pos (by omega),show ((k:Int)+9).toNat=k+9 by omega])),.still (hW.upd 9 (by decide)) rfl⟩⟩
      ·have e5:ev (.tmp 5)=.int .u32 (y15):=h0 5 rfl
       clear he h0 hf hg
       exact .inl ⟨rfl,.inl ⟨_,W,(by go_simp <;> first | rfl | (rw [IntKind.wrap_i64];omega) | (rw [IntKind.wrap_u32];omega) | (intro h;exfalso;omega) | (rw [if_pos (by omega),show ((k:Int)+9).toNat=k+9 by omega])),.still (hW.upd 10 (by decide)) rfl⟩⟩
      ·have e89:ev (.tmp 89)=.int .u32 (y15):=he 10 (by decide) _ 89 rfl rfl
       clear he h0 hg
       refine .inl ⟨rfl,.inr (.inr ⟨155,#[.int .u32 y15,.int .i64 7],W,(by have hff:=hf 155;have hcc:=hc (.int .i64 7);clear hf hc;go_simp <;> rfl),?_⟩)⟩
       refine (turn_any y15 7 (by decide) W).mono ?_
       rintro e w' ⟨rfl,q,rfl⟩
       exact ⟨_,rfl,.still ((hW.drews q).upd 11 (by decide)) rfl⟩
      ·have e5:ev (.tmp 5)=.int .u32 (y15):=h0 5 rfl
       clear he h0 hf hg
       exact .inl ⟨rfl,.inl ⟨_,W,(by go_simp <;> first | rfl | (rw [IntKind.wrap_i64];omega) | (rw [IntKind.wrap_u32];omega) | (intro h;exfalso;omega) | (rw [if_pos (by omega),show ((k:Int)+9).toNat=k+9 by omega])),.still (hW.upd 12 (by decide)) rfl⟩⟩
      ·have e91:ev (.tmp 91)=.int .u32 (y15):=he 12 (by decide) _ 91 rfl rfl
       clear he h0 hg
       refine .inl ⟨rfl,.inr (.inr ⟨155,#[.int .u32 y15,.int .i64 18],W,(by have hff:=hf 155;have hcc:=hc (.int .i64 18);clear hf hc;go_simp <;> rfl),?_⟩)⟩
       refine (turn_any y15 18 (by decide) W).mono ?_
       rintro e w' ⟨rfl,q,rfl⟩
       exact ⟨_,rfl,.still ((hW.drews q).upd 13 (by decide)) rfl⟩
      ·have e90:ev (.tmp 90)=.int .u32 (rotr y15 7):=he 11 (by decide) _ 90 rfl rfl
       have e92:ev (.tmp 92)=.int .u32 (rotr y15 18):=he 13 (by decide) _ 92 rfl rfl
       clear he h0 hf hg
       exact .inl ⟨rfl,.inl ⟨_,W,(by go_simp <;> first | rfl | (rw [IntKind.wrap_i64];omega) | (rw [IntKind.wrap_u32];omega) | (intro h;exfalso;omega) | (rw [if_pos (by omega),show ((k:Int)+9).toNat=k+9 by omega])),.still (hW.upd 14 (by decide)) rfl⟩⟩
      ·have e5:ev (.tmp 5)=.int .u32 (y15):=h0 5 rfl
       clear he h0 hf hg
       exact .inl ⟨rfl,.inl ⟨_,W,(by go_simp <;> first | rfl | (rw [IntKind.wrap_i64];omega) | (rw [IntKind.wrap_u32];omega) | (intro h;exfalso;omega) | (rw [if_pos (by omega),show ((k:Int)+9).toNat=k+9 by omega])),.still (hW.upd 15 (by decide)) rfl⟩⟩
      ·have e94:ev (.tmp 94)=.int .u32 (y15):=he 15 (by decide) _ 94 rfl rfl
       clear he h0 hf hg
       exact .inl ⟨rfl,.inl ⟨_,W,(by go_simp <;> first | rfl | (rw [IntKind.wrap_i64];omega) | (rw [IntKind.wrap_u32];omega) | (intro h;exfalso;omega) | (rw [if_pos (by omega),show ((k:Int)+9).toNat=k+9 by omega])),.still (hW.upd 16 (by decide)) rfl⟩⟩
      ·have e93:ev (.tmp 93)=.int .u32 (bits .xor .u32 (rotr y15 7) (rotr y15 18)):=he 14 (by decide) _ 93 rfl rfl
       have e95:ev (.tmp 95)=.int .u32 (y15 / 8):=he 16 (by decide) _ 95 rfl rfl
       clear he h0 hf hg
       exact .inl ⟨rfl,.inl ⟨_,W,(by go_simp <;> first | rfl | (rw [IntKind.wrap_i64];omega) | (rw [IntKind.wrap_u32];omega) | (intro h;exfalso;omega) | (rw [if_pos (by omega),show ((k:Int)+9).toNat=k+9 by omega])),.still (hW.upd 17 (by decide)) rfl⟩⟩
      ·have e88:ev (.tmp 88)=.int .u32 ((y16+y7) % 4294967296):=he 9 (by decide) _ 88 rfl rfl
       have e96:ev (.tmp 96)=.int .u32 (bits .xor .u32 (bits .xor .u32 (rotr y15 7) (rotr y15 18)) (y15 / 8)):=he 17 (by decide) _ 96 rfl rfl
       clear he h0 hf hg
       exact .inl ⟨rfl,.inl ⟨_,W,(by go_simp <;> first | rfl | (rw [IntKind.wrap_i64];omega) | (rw [IntKind.wrap_u32];omega) | (intro h;exfalso;omega) | (rw [if_pos (by omega),show ((k:Int)+9).toNat=k+9 by omega])),.still (hW.upd 18 (by decide)) rfl⟩⟩
      ·have e6:ev (.tmp 6)=.int .u32 (y2):=h0 6 rfl
       clear he h0 hf hg
       exact .inl ⟨rfl,.inl ⟨_,W,(by go_simp <;> first | rfl | (rw [IntKind.wrap_i64];omega) | (rw [IntKind.wrap_u32];omega) | (intro h;exfalso;omega) | (rw [if_pos (by omega),show ((k:Int)+9).toNat=k+9 by omega])),.still (hW.upd 19 (by decide)) rfl⟩⟩
      ·have e98:ev (.tmp 98)=.int .u32 (y2):=he 19 (by decide) _ 98 rfl rfl
       clear he h0 hg
       refine .inl ⟨rfl,.inr (.inr ⟨155,#[.int .u32 y2,.int .i64 17],W,(by have hff:=hf 155;have hcc:=hc (.int .i64 17);clear hf hc;go_simp <;> rfl),?_⟩)⟩
       refine (turn_any y2 17 (by decide) W).mono ?_
       rintro e w' ⟨rfl,q,rfl⟩
       exact ⟨_,rfl,.still ((hW.drews q).upd 20 (by decide)) rfl⟩
      ·have e6:ev (.tmp 6)=.int .u32 (y2):=h0 6 rfl
       clear he h0 hf hg
       exact .inl ⟨rfl,.inl ⟨_,W,(by go_simp <;> first | rfl | (rw [IntKind.wrap_i64];omega) | (rw [IntKind.wrap_u32];omega) | (intro h;exfalso;omega) | (rw [if_pos (by omega),show ((k:Int)+9).toNat=k+9 by omega])),.still (hW.upd 21 (by decide)) rfl⟩⟩
      ·have e100:ev (.tmp 100)=.int .u32 (y2):=he 21 (by decide) _ 100 rfl rfl
       clear he h0 hg
       refine .inl ⟨rfl,.inr (.inr ⟨155,#[.int .u32 y2,.int .i64 19],W,(by have hff:=hf 155;have hcc:=hc (.int .i64 19);clear hf hc;go_simp <;> rfl),?_⟩)⟩
       refine (turn_any y2 19 (by decide) W).mono ?_
       rintro e w' ⟨rfl,q,rfl⟩
       exact ⟨_,rfl,.still ((hW.drews q).upd 22 (by decide)) rfl⟩
      ·have e99:ev (.tmp 99)=.int .u32 (rotr y2 17):=he 20 (by decide) _ 99 rfl rfl
       have e101:ev (.tmp 101)=.int .u32 (rotr y2 19):=he 22 (by decide) _ 101 rfl rfl
       clear he h0 hf hg
       exact .inl ⟨rfl,.inl ⟨_,W,(by go_simp <;> first | rfl | (rw [IntKind.wrap_i64];omega) | (rw [IntKind.wrap_u32];omega) | (intro h;exfalso;omega) | (rw [if_pos (by omega),show ((k:Int)+9).toNat=k+9 by omega])),.still (hW.upd 23 (by decide)) rfl⟩⟩
      ·have e6:ev (.tmp 6)=.int .u32 (y2):=h0 6 rfl
       clear he h0 hf hg
       exact .inl ⟨rfl,.inl ⟨_,W,(by go_simp <;> first | rfl | (rw [IntKind.wrap_i64];omega) | (rw [IntKind.wrap_u32];omega) | (intro h;exfalso;omega) | (rw [if_pos (by omega),show ((k:Int)+9).toNat=k+9 by omega])),.still (hW.upd 24 (by decide)) rfl⟩⟩
      ·have e103:ev (.tmp 103)=.int .u32 (y2):=he 24 (by decide) _ 103 rfl rfl
       clear he h0 hf hg
       exact .inl ⟨rfl,.inl ⟨_,W,(by go_simp <;> first | rfl | (rw [IntKind.wrap_i64];omega) | (rw [IntKind.wrap_u32];omega) | (intro h;exfalso;omega) | (rw [if_pos (by omega),show ((k:Int)+9).toNat=k+9 by omega])),.still (hW.upd 25 (by decide)) rfl⟩⟩
      ·have e102:ev (.tmp 102)=.int .u32 (bits .xor .u32 (rotr y2 17) (rotr y2 19)):=he 23 (by decide) _ 102 rfl rfl
       have e104:ev (.tmp 104)=.int .u32 (y2 / 1024):=he 25 (by decide) _ 104 rfl rfl
       clear he h0 hf hg
       exact .inl ⟨rfl,.inl ⟨_,W,(by go_simp <;> first | rfl | (rw [IntKind.wrap_i64];omega) | (rw [IntKind.wrap_u32];omega) | (intro h;exfalso;omega) | (rw [if_pos (by omega),show ((k:Int)+9).toNat=k+9 by omega])),.still (hW.upd 26 (by decide)) rfl⟩⟩
      ·have e97:ev (.tmp 97)=.int .u32 (((y16+y7) % 4294967296+bits .xor .u32 (bits .xor .u32 (rotr y15 7) (rotr y15 18)) (y15 / 8)) % 4294967296):=he 18 (by decide) _ 97 rfl rfl
       have e105:ev (.tmp 105)=.int .u32 (bits .xor .u32 (bits .xor .u32 (rotr y2 17) (rotr y2 19)) (y2 / 1024)):=he 26 (by decide) _ 105 rfl rfl
       clear he h0 hf hg
       exact .inl ⟨rfl,.inl ⟨_,W,(by go_simp <;> first | rfl | (rw [IntKind.wrap_i64];omega) | (rw [IntKind.wrap_u32];omega) | (intro h;exfalso;omega) | (rw [if_pos (by omega),show ((k:Int)+9).toNat=k+9 by omega])),.still (hW.upd 27 (by decide)) rfl⟩⟩
      ·have e2:ev (.tmp 2)=.pointer (some ⟨w.heap.size,0,none⟩):=h0 2 rfl
       have e79:ev (.tmp 79)=.int .i64 ((k+16:Nat)):=he 0 (by decide) _ 79 rfl rfl
       clear he h0 hf hg
       exact .inl ⟨rfl,.inl ⟨_,W,(by go_simp <;> first | rfl | (rw [IntKind.wrap_i64];omega) | (rw [IntKind.wrap_u32];omega) | (intro h;exfalso;omega) | (rw [if_pos (by omega),show ((k:Int)+9).toNat=k+9 by omega])),.still (hW.upd 28 (by decide)) rfl⟩⟩
      ·have e106:ev (.tmp 106)=.int .u32 ((((y16+y7) % 4294967296+bits .xor .u32 (bits .xor .u32 (rotr y15 7) (rotr y15 18)) (y15 / 8)) % 4294967296+bits .xor .u32 (bits .xor .u32 (rotr y2 17) (rotr y2 19)) (y2 / 1024)) % 4294967296):=he 27 (by decide) _ 106 rfl rfl
       have e107:ev (.tmp 107)=.pointer (some ⟨w.heap.size,k+16,none⟩):=he 28 (by decide) _ 107 rfl rfl
       clear he h0 hg
       have fz:W.frozen? ⟨w.heap.size,k+16,none⟩=false:=frozen_blk (hW.lo hL)
       have c:W.cell? ⟨w.heap.size,k+16,none⟩=some (.int .u32 ((sch r k).getD (k+16) 0)):=words_cell (hW.lo hL) (by omega)
       refine .inl ⟨rfl,.inr (.inl ⟨_,?_,.still (hW.set hL (by omega) (hd 4 (by decide)) (hd 8 (by decide))) rfl⟩)⟩
       rw [HWN.out]
       clear hf hW
       go_simp
       rfl
--END10
     intro _ L W hL hW
     simp only [putAll,Act.put,List.setIfInBounds_toArray,List.set_cons_succ,List.set_cons_zero]
     have HB1:=hZ hW.bel
     have HW1:=hZ (hW.hi (hL 29 (by decide)))
     clear hL hW hI0
     go_wp2_with fail
     go_roundw
     case rel=>exact ⟨k+1,by omega,by simp only [Int.natCast_add];rfl,HB1,HW1⟩
     case measure=>simp [intOf];omega
    ·obtain rfl:k=48:=by simp only [Int.natCast_add] at hlt;omega
     have hlb:=blk_lt HH.out
     obtain ⟨a,b,c,d,e,f,g,k⟩:=h
     have hcell:∀ j,wr.cell? ⟨hb,j,none⟩=_:=fun j=>(HB.out.cell (p:=⟨hb,j,none⟩) hlb).trans (cell_of_heapN HH.out)
     have c1:wr.cell? ⟨hb,1,none⟩=some (.int .u32 a):=hcell 1
     have c2:wr.cell? ⟨hb,2,none⟩=some (.int .u32 b):=hcell 2
     have c3:wr.cell? ⟨hb,3,none⟩=some (.int .u32 c):=hcell 3
     have c4:wr.cell? ⟨hb,4,none⟩=some (.int .u32 d):=hcell 4
     have c5:wr.cell? ⟨hb,5,none⟩=some (.int .u32 e):=hcell 5
     have c6:wr.cell? ⟨hb,6,none⟩=some (.int .u32 f):=hcell 6
     have c7:wr.cell? ⟨hb,7,none⟩=some (.int .u32 g):=hcell 7
     have c8:wr.cell? ⟨hb,8,none⟩=some (.int .u32 k):=hcell 8
     clear hcell
     obtain ⟨ws,hws⟩:∃ l,sch r 48=l:=⟨_,rfl⟩
     have HWS:=hZ hws
     rw [hws] at HW
     clear hws
     go_wp2_with fail
     go_quiet (fail)
     rename_i nq
     go_wp2_with fail
     clear c1 c2 c3 c4 c5 c6 c7 c8
     have HB1:Hid (Below w.heap.size w (wr.drewN nq)):=hZ ⟨HB.out.os,HB.out.tape,HB.out.output,HB.out.size,HB.out.block⟩
     have HW1:Hid ((wr.drewN nq).heap[w.heap.size]?=some (wordsO ws)):=HW
     clear HB HW HW0
     go_loopw [7,8,9,10,11,12,13,14,148] (fun va vb vc vd ve vf vg vk iv wr=>∃ (i:Nat) (t:R8),(i:Int)≤64∧iv=.int .i64 i∧va=.int .u32 t.a∧vb=.int .u32 t.b∧vc=.int .u32 t.c∧vd=.int .u32 t.d∧ve=.int .u32 t.e∧vf=.int .u32 t.f∧vg=.int .u32 t.g∧vk=.int .u32 t.k∧Hid (t=rnds ⟨a,b,c,d,e,f,g,k⟩ ws i)∧Hid (Below w.heap.size w wr)∧Hid (wr.heap[w.heap.size]?=some (wordsO ws))) (fun _ _ _ _ _ _ _ _ iv _=>64 - (intOf iv).toNat)
     case atStart=>exact ⟨0,⟨a,b,c,d,e,f,g,k⟩,by omega,rfl,rfl,rfl,rfl,rfl,rfl,rfl,rfl,rfl,hZ rfl,HB1,HW1⟩
     case round =>
      obtain ⟨i,⟨ta,tb,tc,td,te,tf,tg,tk⟩,hi,rfl,rfl,rfl,rfl,rfl,rfl,rfl,rfl,rfl,HT,HB,HW⟩:=hrel
      by_cases hlt:(i:Int) < 64
      ·have hi64:i < 64:=by omega
       obtain ⟨K,hKi⟩:∃ K,rk[i]?=some K:=⟨_,List.getElem?_eq_getElem (i:=i) (by show i < 64;exact hi64)⟩
       have ck:wr.cell? ⟨3,i,none⟩=some (.int .u32 K):=(HB.out.cell (p:=⟨3,i,none⟩) HK.out.2).trans (HK.out.1 i K hKi)
       have cw:=words_cell HW.out hi64
       obtain ⟨y,hy⟩:∃ y,ws.getD i 0=y:=⟨_,rfl⟩
       rw [hy] at cw
       have HT1:Hid (rnd ⟨ta,tb,tc,td,te,tf,tg,tk⟩ K y=rnds ⟨a,b,c,d,e,f,g,k⟩ ws (i+1)):=hZ (by rw [rnds,← HT.out,hy,List.getD_eq_getElem?_getD,hKi];rfl)
       clear hKi hy HT
       go_wp2_with fail
       go_big_quiet ((first | (go_at_call_of 155 (Value.int .i64 (6:Int));exact Calls.quiet_of (turn_any _ 6 (by decide) _)) | (go_at_call_of 155 (Value.int .i64 (11:Int));exact Calls.quiet_of (turn_any _ 11 (by decide) _)) | (go_at_call_of 155 (Value.int .i64 (25:Int));exact Calls.quiet_of (turn_any _ 25 (by decide) _))))
       rename_i n1
       rw [show (if IntKind.u32.signed=true then (-1:Int) else IntKind.u32.max)=4294967295 from by decide]
       have hone:rone ⟨ta,tb,tc,td,te,tf,tg,tk⟩ K y=((tk+bits .xor .u32 (bits .xor .u32 (rotr te 6) (rotr te 11)) (rotr te 25)+bits .xor .u32 (bits .and .u32 te tf) (bits .and .u32 (bits .xor .u32 4294967295 te) tg)+K) % 4294967296+y) % 4294967296:=by
        unfold rone
        show ((((tk+bits .xor .u32 (bits .xor .u32 (rotr te 6) (rotr te 11)) (rotr te 25)) % 4294967296+bits .xor .u32 (bits .and .u32 te tf) (bits .and .u32 (bits .xor .u32 4294967295 te) tg)) % 4294967296+K) % 4294967296+y) % 4294967296=_
        omega
       generalize bits .xor .u32 (bits .xor .u32 (rotr te 6) (rotr te 11)) (rotr te 25)=x6 at hone ⊢
       generalize bits .xor .u32 (bits .and .u32 te tf) (bits .and .u32 (bits .xor .u32 4294967295 te) tg)=y6 at hone ⊢
       generalize ((tk+x6+y6+K) % 4294967296+y) % 4294967296=o at hone ⊢
       generalize (tk+x6+y6+K) % 4294967296=z3
       generalize ((tk+x6) % 4294967296+y6) % 4294967296=z2
       generalize (tk+x6) % 4294967296=z1
       have HONE:=hZ hone
       clear hone
       go_wp2_with (first | (go_at_call_of 155 (Value.int .i64 (2:Int));refine (turn_any _ 2 (by decide) _).mono ?_;rintro e' w' ⟨rfl,q2,rfl⟩) | (go_at_call_of 155 (Value.int .i64 (13:Int));refine (turn_any _ 13 (by decide) _).mono ?_;rintro e' w' ⟨rfl,q13,rfl⟩) | (go_at_call_of 155 (Value.int .i64 (22:Int));refine (turn_any _ 22 (by decide) _).mono ?_;rintro e' w' ⟨rfl,q22,rfl⟩))
       refine ⟨⟨i+1,rnd ⟨ta,tb,tc,td,te,tf,tg,tk⟩ K y,by omega,by rw [Int.natCast_add];rfl,by rw [← HONE.out];rfl,rfl,rfl,rfl,by rw [← HONE.out];rfl,rfl,rfl,rfl,HT1,hZ ⟨HB.out.os,HB.out.tape,HB.out.output,HB.out.size,HB.out.block⟩,HW⟩,by simp [intOf];omega⟩
      ·obtain rfl:i=64:=by omega
       have HT2:=hZ (show (⟨ta,tb,tc,td,te,tf,tg,tk⟩:R8)=rnds ⟨a,b,c,d,e,f,g,k⟩ (sch r 48) 64 from by rw [HWS.out];exact HT.out)
       clear HT
       go_wp2_with fail
       go_loopw [220] (fun iv wr=>∃ j:Nat,j≤8∧iv=.int .i64 j∧Hid (Off (fun b=>b=hb) w wr)∧Hid (wr.heap[hb]?=some (hashO wd (R8.part ⟨a,b,c,d,e,f,g,k⟩ ⟨ta,tb,tc,td,te,tf,tg,tk⟩ j) r n))) (fun iv _=>8 - (intOf iv).toNat)
       case atStart=>exact ⟨0,by omega,rfl,hZ ⟨HB.out.os,HB.out.tape,HB.out.output,HB.out.size,fun b hb2 _=>HB.out.block b hb2⟩,hZ ((HB.out.block hb hlb).trans HH.out)⟩
       case round =>
        obtain ⟨j,hj,rfl,HO,HC⟩:=hrel
        by_cases hlt:(j:Int) < 8
        ·have hz:=blk_lt HC.out
         rcases (show j=0∨j=1∨j=2∨j=3∨j=4∨j=5∨j=6∨j=7 by omega) with rfl | rfl | rfl | rfl | rfl | rfl | rfl | rfl
         ·have c0:wr.cell? ⟨hb,1,none⟩=some (.int .u32 a):=cell_of_heapN HC.out
          have f0:wr.frozen? ⟨hb,1,none⟩=false:=frozen_blk HC.out
          have hx:∀ W:World,Sem.run Tryz.prog (Instr.index 97 (.agg #[.int .u32 ta,.int .u32 tb,.int .u32 tc,.int .u32 td,.int .u32 te,.int .u32 tf,.int .u32 tg,.int .u32 tk]) (.int .i64 0)) W=.ok (.int .u32 ta) W:=fun W=>idx8 W ta tb tc td te tf tg tk _ 0 rfl
          go_wp2_with fail
          go_region
          go_wp2_with fail
          go_roundw
          case rel =>
           refine ⟨1,by omega,rfl,hZ ((HO.out.setCell _ _ (fun _=>rfl)).draws 1),hZ ?_⟩
           show (wr.setCell ⟨hb,1,none⟩ (.int .u32 ((a+ta) % 4294967296))).heap[hb]?=_
           rw [setCell_blk HC.out,setBlk_heap hz]
           rfl
          case measure=>simp [intOf]
         ·have c0:wr.cell? ⟨hb,2,none⟩=some (.int .u32 b):=cell_of_heapN HC.out
          have f0:wr.frozen? ⟨hb,2,none⟩=false:=frozen_blk HC.out
          have hx:∀ W:World,Sem.run Tryz.prog (Instr.index 97 (.agg #[.int .u32 ta,.int .u32 tb,.int .u32 tc,.int .u32 td,.int .u32 te,.int .u32 tf,.int .u32 tg,.int .u32 tk]) (.int .i64 1)) W=.ok (.int .u32 tb) W:=fun W=>idx8 W ta tb tc td te tf tg tk _ 1 rfl
          go_wp2_with fail
          go_region
          go_wp2_with fail
          go_roundw
          case rel =>
           refine ⟨2,by omega,rfl,hZ ((HO.out.setCell _ _ (fun _=>rfl)).draws 1),hZ ?_⟩
           show (wr.setCell ⟨hb,2,none⟩ (.int .u32 ((b+tb) % 4294967296))).heap[hb]?=_
           rw [setCell_blk HC.out,setBlk_heap hz]
           rfl
          case measure=>simp [intOf]
         ·have c0:wr.cell? ⟨hb,3,none⟩=some (.int .u32 c):=cell_of_heapN HC.out
          have f0:wr.frozen? ⟨hb,3,none⟩=false:=frozen_blk HC.out
          have hx:∀ W:World,Sem.run Tryz.prog (Instr.index 97 (.agg #[.int .u32 ta,.int .u32 tb,.int .u32 tc,.int .u32 td,.int .u32 te,.int .u32 tf,.int .u32 tg,.int .u32 tk]) (.int .i64 2)) W=.ok (.int .u32 tc) W:=fun W=>idx8 W ta tb tc td te tf tg tk _ 2 rfl
          go_wp2_with fail
          go_region
          go_wp2_with fail
          go_roundw
          case rel =>
           refine ⟨3,by omega,rfl,hZ ((HO.out.setCell _ _ (fun _=>rfl)).draws 1),hZ ?_⟩
           show (wr.setCell ⟨hb,3,none⟩ (.int .u32 ((c+tc) % 4294967296))).heap[hb]?=_
           rw [setCell_blk HC.out,setBlk_heap hz]
           rfl
          case measure=>simp [intOf]
         ·have c0:wr.cell? ⟨hb,4,none⟩=some (.int .u32 d):=cell_of_heapN HC.out
          have f0:wr.frozen? ⟨hb,4,none⟩=false:=frozen_blk HC.out
          have hx:∀ W:World,Sem.run Tryz.prog (Instr.index 97 (.agg #[.int .u32 ta,.int .u32 tb,.int .u32 tc,.int .u32 td,.int .u32 te,.int .u32 tf,.int .u32 tg,.int .u32 tk]) (.int .i64 3)) W=.ok (.int .u32 td) W:=fun W=>idx8 W ta tb tc td te tf tg tk _ 3 rfl
          go_wp2_with fail
          go_region
          go_wp2_with fail
          go_roundw
          case rel =>
           refine ⟨4,by omega,rfl,hZ ((HO.out.setCell _ _ (fun _=>rfl)).draws 1),hZ ?_⟩
           show (wr.setCell ⟨hb,4,none⟩ (.int .u32 ((d+td) % 4294967296))).heap[hb]?=_
           rw [setCell_blk HC.out,setBlk_heap hz]
           rfl
          case measure=>simp [intOf]
         ·have c0:wr.cell? ⟨hb,5,none⟩=some (.int .u32 e):=cell_of_heapN HC.out
          have f0:wr.frozen? ⟨hb,5,none⟩=false:=frozen_blk HC.out
          have hx:∀ W:World,Sem.run Tryz.prog (Instr.index 97 (.agg #[.int .u32 ta,.int .u32 tb,.int .u32 tc,.int .u32 td,.int .u32 te,.int .u32 tf,.int .u32 tg,.int .u32 tk]) (.int .i64 4)) W=.ok (.int .u32 te) W:=fun W=>idx8 W ta tb tc td te tf tg tk _ 4 rfl
          go_wp2_with fail
          go_region
          go_wp2_with fail
          go_roundw
          case rel =>
           refine ⟨5,by omega,rfl,hZ ((HO.out.setCell _ _ (fun _=>rfl)).draws 1),hZ ?_⟩
           show (wr.setCell ⟨hb,5,none⟩ (.int .u32 ((e+te) % 4294967296))).heap[hb]?=_
           rw [setCell_blk HC.out,setBlk_heap hz]
           rfl
          case measure=>simp [intOf]
         ·have c0:wr.cell? ⟨hb,6,none⟩=some (.int .u32 f):=cell_of_heapN HC.out
          have f0:wr.frozen? ⟨hb,6,none⟩=false:=frozen_blk HC.out
          have hx:∀ W:World,Sem.run Tryz.prog (Instr.index 97 (.agg #[.int .u32 ta,.int .u32 tb,.int .u32 tc,.int .u32 td,.int .u32 te,.int .u32 tf,.int .u32 tg,.int .u32 tk]) (.int .i64 5)) W=.ok (.int .u32 tf) W:=fun W=>idx8 W ta tb tc td te tf tg tk _ 5 rfl
          go_wp2_with fail
          go_region
          go_wp2_with fail
          go_roundw
          case rel =>
           refine ⟨6,by omega,rfl,hZ ((HO.out.setCell _ _ (fun _=>rfl)).draws 1),hZ ?_⟩
           show (wr.setCell ⟨hb,6,none⟩ (.int .u32 ((f+tf) % 4294967296))).heap[hb]?=_
           rw [setCell_blk HC.out,setBlk_heap hz]
           rfl
          case measure=>simp [intOf]
         ·have c0:wr.cell? ⟨hb,7,none⟩=some (.int .u32 g):=cell_of_heapN HC.out
          have f0:wr.frozen? ⟨hb,7,none⟩=false:=frozen_blk HC.out
          have hx:∀ W:World,Sem.run Tryz.prog (Instr.index 97 (.agg #[.int .u32 ta,.int .u32 tb,.int .u32 tc,.int .u32 td,.int .u32 te,.int .u32 tf,.int .u32 tg,.int .u32 tk]) (.int .i64 6)) W=.ok (.int .u32 tg) W:=fun W=>idx8 W ta tb tc td te tf tg tk _ 6 rfl
          go_wp2_with fail
          go_region
          go_wp2_with fail
          go_roundw
          case rel =>
           refine ⟨7,by omega,rfl,hZ ((HO.out.setCell _ _ (fun _=>rfl)).draws 1),hZ ?_⟩
           show (wr.setCell ⟨hb,7,none⟩ (.int .u32 ((g+tg) % 4294967296))).heap[hb]?=_
           rw [setCell_blk HC.out,setBlk_heap hz]
           rfl
          case measure=>simp [intOf]
         ·have c0:wr.cell? ⟨hb,8,none⟩=some (.int .u32 k):=cell_of_heapN HC.out
          have f0:wr.frozen? ⟨hb,8,none⟩=false:=frozen_blk HC.out
          have hx:∀ W:World,Sem.run Tryz.prog (Instr.index 97 (.agg #[.int .u32 ta,.int .u32 tb,.int .u32 tc,.int .u32 td,.int .u32 te,.int .u32 tf,.int .u32 tg,.int .u32 tk]) (.int .i64 7)) W=.ok (.int .u32 tk) W:=fun W=>idx8 W ta tb tc td te tf tg tk _ 7 rfl
          go_wp2_with fail
          go_region
          go_wp2_with fail
          go_roundw
          case rel =>
           refine ⟨8,by omega,rfl,hZ ((HO.out.setCell _ _ (fun _=>rfl)).draws 1),hZ ?_⟩
           show (wr.setCell ⟨hb,8,none⟩ (.int .u32 ((k+tk) % 4294967296))).heap[hb]?=_
           rw [setCell_blk HC.out,setBlk_heap hz]
           rfl
          case measure=>simp [intOf]
        ·obtain rfl:j=8:=by omega
         go_wp2_with fail
         go_end0
         refine ⟨rfl,?_,HO.out⟩
         have h8:=HC.out
         rw [HT2.out] at h8
         exact h8
end Go.Proofs.YtecgikanophonaaGreatDoor
