import Derived.Test.YtdkedmngeahjiaaGreatDoorM1
import Derived.Test.YtdkedmngeahjiaaGreatDoorM2
import Derived.Test.YtdkedmngeahjiaaGreatDoorM3
import Derived.Test.YtdkedmngeahjiaaGreatDoorM14
import Derived.Test.YtdkedmngeahjiaaGreatDoorM23
import Derived.Deep.QuietTactic
import Derived.BigQuiet
import Derived.Test.YtdkedmngeahjiaaGreatDoorProg
import Derived.Lib.Hide
import Derived.Test.YtdkedmngeahjiaaGreatDoorM6
set_option maxRecDepth 100000
set_option maxHeartbeats 25600000
namespace Go.Proofs.YtdkedmngeahjiaaGreatDoor
open Go Go.RowKit
theorem wP{L:Nat→Bool}{i k:Nat}(h:L k=true):mQ L i k=true:=by
 by_cases e:k=i
 ·subst e;exact nV
 ·rw[mB e];exact h
def vV(x:Int)(n:Nat):Int:=bits .or .u32 (x/2^n) (x*2^(32-n) %4294967296)
theorem pC(x:Int)(n:Nat)(hn:(n:Int)≤32)(w:World):Calls Tryz.prog 162 #[.int .u32 x,.int .i64 n] w fun e w'=>e=.returned (.int .u32 (vV x n))∧∃q,w'=w.drewN q:=by
 go_enter Tryz.func162,Tryz.ntmps162;go_wp2_with fail;go_quiet (fail);rename_i nq;go_wp2_with fail;go_ret;exact⟨rfl,nq,rfl⟩
theorem GS{P:Program}{f:FuncId}{args:Array Value}{W:World}{a x:Nat}{v:Value}(h:Calls P f args (W.drewN (a+x)) fun e w'=>e=.returned v∧∃q,w'=(W.drewN (a+x)).drewN q):Calls P f args (W.drewN (a+x)) fun e w''=>e=.returned v∧∃n,w''=W.drewN (a+n):=
 h.mono fun _ _ ⟨he,q,hq⟩=>⟨he,x+q,by rw[hq,World.drewN_drewN,Nat.add_assoc]⟩
def rT(x:Int):Value:=.int .u32 x
def rk:List Int:=[0x428a2f98,0x71374491,0xb5c0fbcf,0xe9b5dba5,0x3956c25b,0x59f111f1,0x923f82a4,0xab1c5ed5,0xd807aa98,0x12835b01,0x243185be,0x550c7dc3,0x72be5d74,0x80deb1fe,0x9bdc06a7,0xc19bf174,0xe49b69c1,0xefbe4786,0x0fc19dc6,0x240ca1cc,0x2de92c6f,0x4a7484aa,0x5cb0a9dc,0x76f988da,0x983e5152,0xa831c66d,0xb00327c8,0xbf597fc7,0xc6e00bf3,0xd5a79147,0x06ca6351,0x14292967,0x27b70a85,0x2e1b2138,0x4d2c6dfc,0x53380d13,0x650a7354,0x766a0abb,0x81c2c92e,0x92722c85,0xa2bfe8a1,0xa81a664b,0xc24b8b70,0xc76c51a3,0xd192e819,0xd6990624,0xf40e3585,0x106aa070,0x19a4c116,0x1e376c08,0x2748774c,0x34b0bcb5,0x391c0cb3,0x4ed8aa4a,0x5b9cca4f,0x682e6ff3,0x748f82ee,0x78a5636f,0x84c87814,0x8cc70208,0x90befffa,0xa4506ceb,0xbef9a3f7,0xc67178f2]
def r8i:R8:=⟨0x6a09e667,0xbb67ae85,0x3c6ef372,0xa54ff53a,0x510e527f,0x9b05688c,0x1f83d9ab,0x5be0cd19⟩
def C8(x0 x1 x2 x3:Int):Int:=
 bits .or .u32 (bits .or .u32 (bits .or .u32 (x0%4294967296*16777216%4294967296) (x1%4294967296*65536%4294967296)) (x2%4294967296*256%4294967296)) (x3%4294967296)
def LY(r:List UInt8)(i:Nat):Int:=C8 (r.getD (4*i) 0).toNat (r.getD (4*i+1) 0).toNat (r.getD (4*i+2) 0).toNat (r.getD (4*i+3) 0).toNat
def s0(x:Int):Int:=bits .xor .u32 (bits .xor .u32 (vV x 7) (vV x 18)) (x/8)
def s1(y:Int):Int:=bits .xor .u32 (bits .xor .u32 (vV y 17) (vV y 19)) (y/1024)
def A5(l:List Int)(k:Nat):Int:=(((l.getD k 0+l.getD (k+9) 0) %4294967296+s0 (l.getD (k+1) 0)) %4294967296+s1 (l.getD (k+14) 0)) %4294967296
def sch(r:List UInt8):Nat→List Int
 |0=>(List.range 16).map (LY r)
 |k+1=>sch r k++[A5 (sch r k) k]
theorem BV(r:List UInt8):∀k,(sch r k).length=16+k
 |0=>by rw[sch,List.length_map,List.length_range]
 |k+1=>by rw[sch,List.length_append,BV r k];rfl
def LZ(s:R8)(kt wt:Int):Int:=((((s.k+bits .xor .u32 (bits .xor .u32 (vV s.e 6) (vV s.e 11)) (vV s.e 25)) %4294967296+bits .xor .u32 (bits .and .u32 s.e s.f) (bits .and .u32 (bits .xor .u32 4294967295 s.e) s.g)) %4294967296+kt) %4294967296+wt) %4294967296
def MO(s:R8):Int:=(bits .xor .u32 (bits .xor .u32 (vV s.a 2) (vV s.a 13)) (vV s.a 22)+bits .xor .u32 (bits .xor .u32 (bits .and .u32 s.a s.b) (bits .and .u32 s.a s.c)) (bits .and .u32 s.b s.c)) %4294967296
def rnd(s:R8)(kt wt:Int):R8:=⟨(LZ s kt wt+MO s) %4294967296,s.a,s.b,s.c,(s.d+LZ s kt wt) %4294967296,s.e,s.f,s.g⟩
def Ff(s:R8)(l:List Int):Nat→R8
 |0=>s
 |i+1=>rnd (Ff s l i) (rk.getD i 0) (l.getD i 0)
def R8.add(h v:R8):R8:=⟨(h.a+v.a) %4294967296,(h.b+v.b) %4294967296,(h.c+v.c) %4294967296,(h.d+v.d) %4294967296,(h.e+v.e) %4294967296,(h.f+v.f) %4294967296,(h.g+v.g) %4294967296,(h.k+v.k) %4294967296⟩
def R8.part(h v:R8)(i:Nat):R8:=⟨if 0<i then(h.a+v.a) %4294967296 else h.a,if 1<i then(h.b+v.b) %4294967296 else h.b,if 2<i then(h.c+v.c) %4294967296 else h.c,if 3<i then(h.d+v.d) %4294967296 else h.d,if 4<i then(h.e+v.e) %4294967296 else h.e,if 5<i then(h.f+v.f) %4294967296 else h.f,if 6<i then(h.g+v.g) %4294967296 else h.g,if 7<i then(h.k+v.k) %4294967296 else h.k⟩
def pV(h:R8)(r:List UInt8):R8:=h.add (Ff h (sch r 48) 64)
def AD(L:List Int):Obj:=.cells ((List.range 64).map fun i=>rT (L.getD i 0)).toArray 226 (0,0)
theorem GT{w:World}{b:Nat}{L:List Int}(h:w.heap[b]?=some (AD L)){i:Nat}(hi:i<64):w.cell? ⟨b,i,none⟩=some (.int .u32 (L.getD i 0)):=by
 rw[lF h,List.getElem?_toArray,List.getElem?_map,List.getElem?_range hi]
 rfl
theorem I5{w:World}{b:Nat}{L:List Int}(h:w.heap[b]?=some (AD L)){i:Nat}(hl:L.length=i)(hi:i<64)(x:Int):(w.setCell ⟨b,i,none⟩ (.int .u32 x)).heap[b]?=some (AD (L++[x])):=by
 rw[lY h,lM (lH h)];unfold AD;rw[List.setIfInBounds_toArray]
 congr 2
 congr 1
 refine List.ext_getElem? fun k=>?_
 rw[List.getElem?_set,List.getElem?_map,List.getElem?_map,List.length_map,List.length_range];by_cases hk:i=k
 ·subst hk;rw[if_pos rfl,if_pos hi,List.getElem?_range hi];show some _=some (rT ((L++[x]).getD i 0))
  rw[List.getD_eq_getElem?_getD,List.getElem?_append_right aC,hl,Nat.sub_self]
  rfl
 ·rw[if_neg hk];by_cases hk2:k<64
  ·rw[List.getElem?_range hk2];show some (rT (L.getD k 0))=some (rT ((L++[x]).getD k 0))
   rw[List.getD_eq_getElem?_getD,List.getD_eq_getElem?_getD];by_cases hk3:k<L.length
   ·rw[List.getElem?_append_left hk3]
   ·rw[List.getElem?_eq_none aC,List.getElem?_eq_none cY]
  ·rw[List.getElem?_eq_none (by rw[List.length_range];omega)]
   rfl
structure SchW (w:World) (r:List UInt8) (k:Nat) (L:Nat→Bool) (W:World):Prop where
 bel:Below w.heap.size w W
 lo:L 29=false→W.heap[w.heap.size]?=some (AD (sch r k))
 hi:L 29=true→W.heap[w.heap.size]?=some (AD (sch r (k+1)))
 dep:L 29=true→L 4=true∧L 8=true
section
variable {w W:World} {r:List UInt8} {k:Nat} {L:Nat→Bool}
theorem SchW.upd(h:SchW w r k L W)(j:Nat)(hj:j≠29):SchW w r k (mQ L j) W:=by
 have e:mQ L j 29=L 29:=mB (show 29≠j by omega);refine⟨h.bel,fun e2=>h.lo (e▸e2),fun e2=>h.hi (e▸e2),fun e2=>?_⟩;obtain⟨h4,h8⟩:=h.dep (e▸e2);exact⟨wP h4,wP h8⟩
theorem SchW.drews(h:SchW w r k L W)(q:Nat):SchW w r k L (W.drewN q):=⟨⟨h.bel.os,h.bel.tape,h.bel.output,h.bel.size,h.bel.block⟩,h.lo,h.hi,h.dep⟩
theorem SchW.cell(h:SchW w r k L W)(hl:L 4=false∨L 8=false){j:Nat}(hj:j<64):W.cell? ⟨w.heap.size,j,none⟩=some (.int .u32 ((sch r k).getD j 0)):=by
 refine GT (h.lo ?_) hj
 cases e:L 29 with
 |false=>rfl
 |true=>
  have:=h.dep e;rcases hl with hl|hl
  ·rw[hl]at this;cases this.1
  ·rw[hl]at this;cases this.2
theorem SchW.set(h:SchW w r k L W)(hl:L 29=false)(hk:k<48)(h4:L 4=true)(h8:L 8=true):SchW w r k (mQ L 29) (W.setCell ⟨w.heap.size,k+16,none⟩ (.int .u32 (A5 (sch r k) k))):=
 ⟨h.bel.setCell (Nat.le_refl _) _,fun e=>by rw[nV]at e;(cases e),fun _=>I5 (h.lo hl) fS aC _,fun _=>⟨wP h4,wP h8⟩⟩
end
def R8.at(v:R8)(i:Nat):Int:=[v.a,v.b,v.c,v.d,v.e,v.f,v.g,v.k].getD i 0
def uS(v:R8)(m:Nat):List Value:=(List.range 32).map fun i=>.int .u8 (if i<m then v.at (i/4)/2^(24-8*(i%4)) %256 else 0)
theorem BA{w:World}{b:Nat}{V:R8}{i:Nat}(h:w.heap[b]?=some (.cells (uS V i).toArray 33 (0,0)))(hi:i<32):
  (w.setCell ⟨b,i,none⟩ (.int .u8 (V.at (i/4)/2^(24-8*(i%4)) %256))).heap[b]?=some (.cells (uS V (i+1)).toArray 33 (0,0)):=by
 rw[lY h,lM (lH h),List.setIfInBounds_toArray]
 congr 3
 unfold uS;refine List.ext_getElem? fun k=>?_
 rw[List.getElem?_set,List.getElem?_map,List.getElem?_map,List.length_map,List.length_range];by_cases hk:i=k
 ·subst hk;rw[if_pos rfl,if_pos hi,List.getElem?_range hi];simp only[Option.map_some];rw[if_pos (show i<i+1 by omega)]
 ·rw[if_neg hk];by_cases hk2:k<32
  ·rw[List.getElem?_range hk2];simp only[Option.map_some];by_cases hk3:k<i
   ·rw[if_pos hk3,if_pos (show k<i+1 by omega)]
   ·rw[if_neg hk3,if_neg (show¬k<i+1 by omega)]
  ·rw[List.getElem?_eq_none (by rw[List.length_range];omega)]
   rfl
def CC(x:Int):Int:=min (max x 1) 32
def L1(x:Int)(s:ByteArray):List Value:=uS (Kd pV r8i s.data.toList) (CC x).toNat
theorem Kw(v:R8)(m:Nat):(uS v m).length=32:=by unfold uS;rw[List.length_map,List.length_range]
theorem Kx(v:R8)(m:Nat):∀u∈uS v m,u.oneCell'=true:=by
 intro u hu;unfold uS at hu;obtain⟨x,_,rfl⟩:=List.mem_map.1 hu
 rfl
structure ActR where
 name:ByteArray
 dig:List UInt8
 del:Bool
 num:Int
 keep:List Int
def ActR.cells(m:ActR)(kv:Value):List Value:=.string m.name::(m.dig.map lG++[.bool m.del,.int .i64 m.num,kv])
def Ef(x:Int):Prop:=-9223372036854775808≤x∧x≤9223372036854775807
def ActR.Fits(m:ActR):Prop:=m.dig.length=32∧Ef m.num∧m.name.size≤140737488351232∧m.keep.length*8≤140737488351232
def IntsIn(w:World)(kv:Value)(ks:List Int):Prop:=IntsRd (fun _=>False) w kv ks
theorem IntsIn.rd{w w1:World}{kv:Value}{ks:List Int}(h:IntsIn w kv ks)(hb:Below w.heap.size w w1){S:Nat→Prop}(hS:∀b,S b→w.heap.size≤b):IntsRd S w1 kv ks:=by
 obtain⟨p,cap,h1,h2,h3⟩:=h;refine⟨p,cap,h1,h2,fun j k hj=>?_⟩;obtain⟨h4,b,off,h5,h6,h7,-⟩:=h3 j k hj;exact⟨h4,b,off,h5,(hb.cell (p:=⟨b,off+j,none⟩) h7).trans h6,Nat.lt_of_lt_of_le h7 hb.size,.inl (fun hs=>by have:=hS b hs;omega)⟩
theorem IntsIn.bounds{w:World}{kv:Value}{ks:List Int}(h:IntsIn w kv ks):∀k∈ks,-9223372036854775808≤k∧k≤9223372036854775807:=fun k hk=>by
 obtain⟨j,hj,hjk⟩:=List.getElem_of_mem hk;obtain⟨p,cap,-,-,h3⟩:=h;exact(h3 j k (by rw[List.getElem?_eq_getElem hj,hjk])).1
def Ky(w:World)(v:Value)(l:List ActR):Prop:=
 ∃p cap,v=.slice p l.length cap∧∀i m,l[i]?=some m→∃b off kv,p=some ⟨b,off,none⟩∧b<w.heap.size∧(∀j,j<36→w.cell? ⟨b,off+(i*36+j),none⟩=(m.cells kv)[j]?)∧IntsIn w kv m.keep
section
variable {m:ActR} {kv:Value}
theorem ActR.len(h:m.dig.length=32):(m.cells kv).length=36:=by
 unfold ActR.cells;rw[List.length_cons,List.length_append,List.length_map,h]
 rfl
theorem ActR.c33(h:m.dig.length=32):(m.cells kv)[33]?=some (.bool m.del):=by
 unfold ActR.cells;rw[List.getElem?_cons_succ,List.getElem?_append_right dU,List.length_map,h]
 rfl
theorem ActR.c34(h:m.dig.length=32):(m.cells kv)[34]?=some (.int .i64 m.num):=by
 unfold ActR.cells;rw[List.getElem?_cons_succ,List.getElem?_append_right dU,List.length_map,h]
 rfl
theorem ActR.c35(h:m.dig.length=32):(m.cells kv)[35]?=some kv:=by
 unfold ActR.cells;rw[List.getElem?_cons_succ,List.getElem?_append_right dU,List.length_map,h]
 rfl
theorem ActR.cd{j:Nat}(h:m.dig.length=32)(hj:j<32):(m.cells kv)[1+j]?=(m.dig.map lG)[j]?:=by
 unfold ActR.cells;rw[Nat.add_comm 1 j,List.getElem?_cons_succ,List.getElem?_append_left (by rw[List.length_map,h];exact hj)]
theorem ActR.one(hk:kv.oneCell'=true):(m.cells kv).toArray.all (·.oneCell')=true:=by
 refine all_oneCell_toArray fun v hv=>?_
 unfold ActR.cells at hv;rcases List.mem_cons.1 hv with rfl|hv
 ·rfl
 ·rcases List.mem_append.1 hv with hv|hv
  ·obtain⟨x,-,rfl⟩:=List.mem_map.1 hv
   rfl
  ·rcases List.mem_cons.1 hv with rfl|hv
   ·rfl
   ·rcases List.mem_cons.1 hv with rfl|hv
    ·rfl
    ·rw[List.mem_singleton.1 hv];exact hk
theorem Fg(h:m.dig.length=32):(Tryz.prog.info? 59).map (·.size)=some (m.cells kv).length:=by rw[ActR.len h];kernel_rfl
theorem I6(h:m.dig.length=32):(Tryz.prog.info? 59).map (·.size)=some (m.cells kv).toArray.size:=by rw[List.size_toArray];exact Fg h
end
def L2(w:World)(n:Nat)(e:Ending)(w':World):Prop:=∃b,e=.returned (.bool b)∧(b=true→n≤100)∧Below w.heap.size w w'
theorem L3(w:World)(p:Option Addr)(cap:Nat)(l:List ActR)(hv:Ky w (.slice p l.length cap) l)(hl:l.length≤8800000000000)(hs:∀a∈l,a.Fits):
  Calls Tryz.prog 22 #[.slice p l.length cap] w (L2 w l.length):=by
 have HV:=hZ hv;have HSZ:=hZ hs
 obtain⟨L,hL⟩:∃L,l.length=L:=⟨_,rfl⟩
 rw[hL]at HV hl⊢;have HL:=hZ hL
 have hli:(L:Int)≤8800000000000:=aC;clear hv hs hL;go_enter Tryz.func22,Tryz.ntmps22;go_wp2_with fail;go_loopw [3,4] (fun nv iv wr=>∃(i c:Nat),(i:Int)≤L∧iv=.int .i64 i∧nv=.int .i64 c∧(c:Int)≤422212465053696∧Hid (Below w.heap.size w wr)) (fun _ iv _=>L-(intOf iv).toNat)
 case atStart=>exact⟨0,0,aC,rfl,rfl,aC,hZ (Below.refl _ _)⟩
 case round=>
  obtain⟨i,c,hi,rfl,rfl,hc,HB⟩:=hrel;by_cases hgo:(i:Int)<L∧(c:Int)≤65536
  ·obtain⟨hlt,hc6⟩:=hgo;have hil:i<l.length:=jU
   obtain⟨act,ha⟩:∃act,l[i]?=some act:=⟨_,List.getElem?_eq_getElem hil⟩
   obtain⟨hd,-,hnm,hkp⟩:=HSZ.out act (List.mem_of_getElem? ha);obtain⟨p',cap',he,hvv⟩:=HV.out;obtain⟨vb,vo,kv,hvp,hvl,hvc,hki⟩:=hvv i act ha;have hpe:p=some ⟨vb,vo,none⟩:=dN
   subst hpe;obtain⟨kp,kc,rfl,-,-⟩:=hki;have hcel:∀(W:World),Below w.heap.size w W→∀j,j<36→W.cell? ⟨vb,vo+(i*36+j),none⟩=(act.cells (.slice kp act.keep.length kc))[j]?:=fun W hb j hj=>(hb.cell (p:=⟨vb,vo+(i*36+j),none⟩) hvl).trans (hvc j hj)
   have c0:∀n:Nat,(wr.drewN n).cell? ⟨vb,vo+i*36,none⟩=some (.string act.name):=fun n=>hcel _ (oS HB.out n) 0 aA
   have c35:∀n:Nat,(wr.drewN n).cell? ⟨vb,vo+i*36+35,none⟩=some (.slice kp act.keep.length kc):=fun n=>by rw[Nat.add_assoc];exact(hcel _ (oS HB.out n) 35 aA).trans (ActR.c35 hd)
   obtain⟨nm,hnm2⟩:∃nm,act.name=nm:=⟨_,rfl⟩
   obtain⟨kl,hkl⟩:∃kl,act.keep.length=kl:=⟨_,rfl⟩
   rw[hnm2]at hnm c0;rw[hkl]at hkp c35;have hn2:(nm.size:Int)≤140737488351232:=aC
   have hk2:(kl:Int)≤140737488351232:=aC;have hi0:(0:Int)≤(i:Int):=aC
   have hw1:IntKind.i64.wrap ((c:Int)+(nm.size:Int))=(c:Int)+(nm.size:Int):=xK aC aC;have hw2:IntKind.i64.wrap ((c:Int)+(nm.size:Int)+(kl:Int))=(c:Int)+(nm.size:Int)+(kl:Int):=xK aC aC
   clear hcel hil ha he hvv hvp hvl hvc hnm2 hkl hnm hkp hd;go_wp2_with fail;go_quiet (fail);rename_i nq
   obtain⟨W,hW⟩:∃W,wr.drewN nq=W:=⟨_,rfl⟩
   rw[hW];have HB4:=hZ (show Below w.heap.size w W by rw[←hW];exact oS HB.out nq)
   clear hW;go_wp2_with fail;exact⟨⟨i+1,c+nm.size+kl,aC,aG,by rw[Int.natCast_add,Int.natCast_add],aC,HB4⟩,cN⟩
  ·rcases (show(L:Int)≤i∨((i:Int)<L∧65536<(c:Int)) by omega)with h1|⟨h1,h2⟩<;>rcases (show 100<(L:Int)∨((L:Int)≤100∧65536<(c:Int))∨((L:Int)≤100∧(c:Int)≤65536) by omega)with h3|⟨h3,h4⟩|⟨h3,h4⟩
   all_goals first
    |(exfalso;omega)
    |(go_wp2_with fail
      go_ret
      first|exact⟨false,rfl,(fun h=>aK),HB.out⟩|exact⟨_,rfl,(fun _=>aC),HB.out⟩)
end Go.Proofs.YtdkedmngeahjiaaGreatDoor
