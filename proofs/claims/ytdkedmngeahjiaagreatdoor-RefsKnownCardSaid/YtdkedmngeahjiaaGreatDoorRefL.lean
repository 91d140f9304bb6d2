import Derived.Test.YtdkedmngeahjiaaGreatDoorRefO
import Derived.Test.YtdkedmngeahjiaaGreatDoorM15
import Derived.Lib.ConvBytes
set_option maxRecDepth 100000
set_option maxHeartbeats 25600000
namespace Go.Proofs.YtdkedmngeahjiaaGreatDoor
theorem kI{p:Prop}(h:p:=by rw[hand];rfl):p:=h
open Go Go.RowKit Go.Maps
theorem Lr(d:ByteArray)(a k:Nat)(h:a+k≤d.size):d.extract 0 a++(d.extract a d.size).extract 0 k=d.extract 0 (a+k):=by
 apply ByteArray.ext;simp only[ByteArray.data_append,ByteArray.data_extract];rw[Array.extract_extract,Nat.add_zero,Nat.min_eq_left h,Array.extract_append_extract,Nat.zero_min,Nat.max_eq_right aC]
theorem J3(w:World)(K:Nat)(hK:K≤8000000000000):(Instr.makeSlice 155 (.int .i64 K) (.int .i64 K)).run Tryz.prog w=.ok (.slice (some ⟨w.heap.size,0,none⟩) K K) (w.alloc (.cells (madeCells #[.int .u8 0] K) 5)):=by
 obtain⟨i0,hi,hz0,hz1,hz2⟩:=info_parts Ip;have h:=run_make (P:=Tryz.prog) w 155 5 i0 (.int .u8 0) Tryz.underlying155 hi hz0 .i64 .i64 K K aC (Int.le_refl _) (by rw[hz2];omega) aC
 rw[hz1,Int.toNat_natCast,Nat.mul_one]at h;exact h
theorem J4(w:World)(K:Nat)(hK:K≤8000000000000):OwnB w.heap.size (List.replicate K (0:UInt8)) (.slice (some ⟨w.heap.size,0,none⟩) K K) (w.alloc (.cells (madeCells #[.int .u8 0] K) 5)):=by
 refine⟨eZ,.inr ⟨w.heap.size,K,madeCells #[.int .u8 0] K,eZ,Nat.le_refl _,lP w _,eZ,cT,by rw[size_madeCells];simp,?_⟩⟩;simp only[List.length_replicate,Nat.mul_one];refine List.ext_getElem? fun i=>?_
 rw[List.getElem?_take];by_cases h:i<K
 ·rw[if_pos h,Array.getElem?_toList];unfold madeCells;rw[Array.getElem?_map,show(Array.range K)[i]?=some i by simp[h],List.getElem?_map,List.getElem?_replicate,if_pos h];show some ((#[Value.int .u8 0]:Array Value)[i%1]!)=_
  rw[Nat.mod_one]
  rfl
 ·rw[if_neg h,List.getElem?_map,List.getElem?_replicate,if_neg h]
  rfl
def xL(f:Fil):Array Value:=#[.string f.data,.int .i64 f.safe]
theorem vL(f:Fil):(xL f).size=2:=rfl
theorem My(f:Fil):∀u∈(xL f).toList,u.oneCell'=true:=by
 intro u hu;have h:u=.string f.data∨u=.int .i64 f.safe:=by simpa[xL]using hu
 rcases h with rfl|rfl<;>rfl
theorem Gh(d:ByteArray)(a b:Nat):(d.extract a b).size=min b d.size-a:=ByteArray.size_extract
theorem Gi(n:Nat):(⟨(List.replicate n (0:UInt8)).toArray⟩:ByteArray)=zJ n:=by
 unfold zJ;rw[List.toArray_replicate]
theorem Gj(f:Fil)(n:Int)(w:World)(h1:f.safe≤f.data.size)(h2:f.data.size≤268435456):
  Calls Tryz.prog 158 #[.agg (xL f),.int .i64 n] w fun e w'=>e=.returned (.string (f.left n))∧Below w.heap.size w w':=by
 obtain⟨data,safe⟩:=f;show Calls _ _ #[.agg #[.string data,.int .i64 safe],.int .i64 n] w _
 have h1:safe≤data.size:=h1;have h2:data.size≤268435456:=h2
 have hb0:=(Below.refl w.heap.size w).alloc (Nat.le_refl _) (.cells #[.string data,.int .i64 safe] 180);have HB:=hZ hb0
 have HBX:=hZ (lP w (.cells #[.string data,.int .i64 safe] 180));have c0:(w.alloc (.cells #[.string data,.int .i64 safe] 180)).cell? ⟨w.heap.size,0,none⟩=some (.string data):=lF HBX.out
 have c1:(w.alloc (.cells #[.string data,.int .i64 safe] 180)).cell? ⟨w.heap.size,1,none⟩=some (.int .i64 safe):=lF HBX.out;have hs0:(0:Int)≤(safe:Int):=aC
 have hs1:(safe:Int)≤(data.size:Int):=aC;have hand:=yI n
 have hq:=Int.emod_nonneg n (show(4:Int)≠0 by decide);have hq4:=Int.emod_lt_of_pos n (show(0:Int)<4 by decide)
 have hle:∀k,n%4=k→(Fil.mk data safe).left n=if k=0 then data.extract 0 safe else if k=1 then data else if k=2 then data.extract 0 (safe+(data.size-safe)/2)else data.extract 0 safe++zJ (data.size-safe):=by
  intro k hk;unfold Fil.left;simp only[hk]
 have HLE:=hZ hle;clear hb0 hle
 obtain⟨k,hk⟩:∃k,n%4=k:=⟨_,rfl⟩
 have HK:=hZ hk;rw[hk]at hand hq hq4;have hway:k=0∨k=1∨k=2∨k=3:=aC
 clear hk;have hsz:=Gh data safe data.size
 rw[Nat.min_self]at hsz;rcases hway with rfl|rfl|rfl|rfl
 all_goals
  have HE:=hZ (HLE.out _ HK.out);clear HLE
 ·have b1:(bits .and .i64 n 3==1)=false:=by rw[hand];rfl
  have b2:(bits .and .i64 n 3==2)=false:=kI;have b3:(bits .and .i64 n 3==3)=false:=kI
  clear hand;go_enter Tryz.func158,Tryz.ntmps158;go_wp2_with fail;go_ret;exact⟨by rw[HE.out];rfl,HB.out⟩
 ·have b1:(bits .and .i64 n 3==1)=true:=by rw[hand];rfl
  clear hand;go_enter Tryz.func158,Tryz.ntmps158;go_wp2_with fail;go_ret;exact⟨by rw[HE.out];rfl,HB.out⟩
 ·have b1:(bits .and .i64 n 3==1)=false:=by rw[hand];rfl
  have b2:(bits .and .i64 n 3==2)=true:=kI;clear hand;have hj:=Lr data safe ((data.size-safe)/2) aC
  have HJ:=hZ hj;clear hj;go_enter Tryz.func158,Tryz.ntmps158;go_wp2_with fail;go_ret;exact⟨by rw[HE.out,←HJ.out];rfl,HB.out⟩
 ·have b1:(bits .and .i64 n 3==1)=false:=by rw[hand];rfl
  have b2:(bits .and .i64 n 3==2)=false:=kI;have b3:(bits .and .i64 n 3==3)=true:=kI
  clear hand;have hmk:=J3 (w.alloc (.cells #[.string data,.int .i64 safe] 180)) (data.size-safe) aC
  have hcv:=(J4 (w.alloc (.cells #[.string data,.int .i64 safe] 180)) (data.size-safe) aC).conv;rw[Gi,World.size_alloc]at hcv;have hzs:(zJ (data.size-safe)).size=data.size-safe:=by unfold zJ;show(Array.replicate _ _).size=_;rw[Array.size_replicate]
  have hes:(data.extract 0 safe).size=safe:=by rw[Gh];omega
  go_enter Tryz.func158,Tryz.ntmps158;go_wp2_with fail;go_ret;exact⟨by rw[HE.out];rfl,(HB.out).alloc HB.out.size _⟩
end Go.Proofs.YtdkedmngeahjiaaGreatDoor
