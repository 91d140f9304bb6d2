import Derived.Test.YtdkedmngeahjiaaGreatDoorM2
import Derived.Stop.Asserts
import Derived.RowKitTokens
set_option maxRecDepth 100000
set_option maxHeartbeats 25600000
namespace Go.Proofs.YtdkedmngeahjiaaGreatDoor
open Go.RowKit Go.Extern.Stop Go.Stop Go.Extern
theorem tN(v:Value)(w:World):(ReflectliteType.typeOf #[.iface 71 v]).run Tryz.prog w=.ok (.iface 198 (.agg #[.pointer (some ⟨6,71,none⟩)])) w:=aE
def A7:Array Value→Sem Value:=ReflectliteType.method fun t=>do Rtype.noPackHeld "Comparable" t;pure (.bool (←typeInfo t).comparable)
theorem vX(w:World):(A7 #[.agg #[.pointer (some ⟨6,71,none⟩)]]).run Tryz.prog w=.ok (.bool true) w:=aE
theorem uY:Extern.find Tryz.f86=some ReflectliteType.typeOf:=aE
theorem xB:Extern.find Tryz.f236=some A7:=aE
theorem uZ(k:Nat)(h:Value)(w:World):(Go.method (k+1) 198 (.agg #[h]) "Comparable").run Tryz.prog w= .ok (236, .agg #[h]) w:=by kernel_rfl
theorem A8(v:Value)(w:World):(Instr.typeAssert (.iface 71 v) 25 209 true).run Tryz.prog w=.ok (.tuple #[.nilIface,.bool false]) w:=run_typeAssert_lacksB Tryz.underlying209 aE aE v 25 w
theorem vA(v:Value)(w:World):(Instr.typeAssert (.iface 71 v) 25 205 true).run Tryz.prog w=.ok (.tuple #[.nilIface,.bool false]) w:=run_typeAssert_lacksB Tryz.underlying205 aE aE v 25 w
theorem tP(v:Value)(w:World):(Instr.typeAssert (.iface 71 v) 25 206 true).run Tryz.prog w=.ok (.tuple #[.nilIface,.bool false]) w:=run_typeAssert_lacksB Tryz.underlying206 aE aE v 25 w
theorem Fo(n k:Int)(w:World):(binOp .eql 25 (.iface 71 (.int .i64 n)) (.iface 71 (.int .i64 k))).run Tryz.prog w=.ok (.bool (n==k)) w:=aE
theorem It{n k:Int}{b:Bool}(h:(n==k)=b):Ending.returned (.bool b)=.returned (.bool (n==k)):=by rw[h]
theorem Fp(n k:Int)(w:World):
  Calls Tryz.prog 87 #[nJ n,nJ k,.bool true] w fun e w'=>e=.returned (.bool (n==k))∧w=w':=by
 unfold nJ;have t0:=Fo
 have t1:=A8;have t2:=vA
 have t3:=tP;go_enter Tryz.func87,Tryz.ntmps87;go_wp2_with fail;refine wp_loop_rounds 1 ?_;rw[rounds_succ];go_wp2_with fail
 all_goals
  go_ret;exact⟨It ‹_›,rfl⟩
theorem Fq(n k:Int)(w:World):
  Calls Tryz.prog 41 #[nJ n,nJ k] w fun e w'=>e=.returned (.bool (n==k))∧w=w':=by
 unfold nJ;have h40:=@run_callFunc_extern Tryz.prog 86 _ _ Tryz.func86 aE aE aE uY
 have h103:=@run_callFunc_extern Tryz.prog 236 _ _ Tryz.func236 aE aE aE xB;have c1:=tN
 have c2:=vX;have c3:=uZ
 go_enter Tryz.func41,Tryz.ntmps41;go_wp2_with fail;refine(Fp n k _).mono ?_;rintro e w1 ⟨rfl,rfl⟩;go_wp2_with fail;go_ret;exact cF
def KE(e:Value)(m:Int):Prop:=∀(k:Int) (w:World),Calls Tryz.prog 41 #[e,nJ k] w fun r w'=>r=.returned (.bool (m==k))∧Below w.heap.size w w'
theorem Fr(n:Int):KE (nJ n) n:=fun k w=>(Fq n k w).mono fun _ _ ⟨h,hw⟩=>⟨h,by rw[←hw];exact Below.refl _ _⟩
theorem Iu(w:World):Calls Tryz.prog 36 #[.nilIface] w fun e w'=>e=.returned (.int .i64 0)∧w=w':=by
 go_enter Tryz.func36,Tryz.ntmps36;go_wp2_with fail;go_ret;exact cF
theorem Iv(t:TypeId)(x:Value)(m:Int)(w:World)(hI:KE (.iface t x) m)(h1:1≤m)(h2:m≤32):
  Calls Tryz.prog 36 #[.iface t x] w fun e w'=>e=.returned (.int .i64 m)∧Below w.heap.size w w':=by
 go_enter Tryz.func36,Tryz.ntmps36;go_wp2_with fail;go_loopw [3,4] (fun fv nv wr=>∃k v:Int,1≤k∧k≤33∧nv=.int .i64 k∧fv=.int .i64 v∧Hid ((m<k→v=m)∧(k≤m→v=0))∧Hid (Below w.heap.size w wr)) (fun _ nv _=>(33-intOf nv).toNat)
 case atStart=>exact⟨1,0,aC,aC,rfl,rfl,⟨fun h=>aC,fun _=>rfl⟩,Below.refl _ _⟩
 case round=>
  obtain⟨k,v,hk1,hk2,rfl,rfl,hv,hb⟩:=hrel;by_cases hlt:k≤32
  ·rcases Int.lt_trichotomy k m with hm|hm|hm
   ·have hmk:(m==k)=false:=by rw[beq_eq_false_iff_ne];omega
    have HM:=hZ hmk;clear hmk;go_wp2_with fail;refine(hI k _).mono ?_;rintro e w1 ⟨rfl,hb1⟩;rw[HM.out];have HB:=hZ (hb.out.trans (hb1.mono hb.out.size))
    clear hb1;go_wp2_with fail;go_roundw
    case rel=>exact⟨k+1,v,aC,aC,rfl,rfl,⟨fun h=>aC,fun _=>hv.out.2 aC⟩,HB.out⟩
    case measure=>simp[intOf];omega
   ·have hv0:v=0:=hv.out.2 aC;subst hv0
    obtain⟨j,hj⟩:∃j,j=m:=⟨_,rfl⟩
    have hmk:(m==k)=true:=by rw[beq_iff_eq];omega
    have HM:=hZ hmk;have HK:=hZ hm
    clear hmk hj j;have hkm1:k≤m:=aC
    have hkm2:m≤k:=aC;clear hm;go_wp2_with fail;refine(hI k _).mono ?_;rintro e w1 ⟨rfl,hb1⟩;rw[HM.out];have HB:=hZ (hb.out.trans (hb1.mono hb.out.size))
    clear hb1;go_wp2_with fail;go_roundw
    case rel=>exact⟨k+1,k,aC,aC,rfl,rfl,⟨fun _=>HK.out,fun h=>aC⟩,HB.out⟩
    case measure=>simp[intOf];omega
   ·have hv0:v=m:=hv.out.1 aC;have hmk:(m==k)=false:=by rw[beq_eq_false_iff_ne];omega
    have HM:=hZ hmk;subst hv0;clear hmk;go_wp2_with fail;refine(hI k _).mono ?_;rintro e w1 ⟨rfl,hb1⟩;rw[HM.out];have HB:=hZ (hb.out.trans (hb1.mono hb.out.size))
    clear hb1;go_wp2_with fail;go_roundw
    case rel=>exact⟨k+1,v,aC,aC,rfl,rfl,⟨fun _=>rfl,fun h=>aC⟩,HB.out⟩
    case measure=>simp[intOf];omega
  ·have hv0:v=m:=hv.out.1 aC;subst hv0;have hne:(v==0)=false:=by rw[beq_eq_false_iff_ne];omega
   have hm0:(v==(0:Int))=false:=hne;have HM:=hZ hm0
   go_wp2_with fail;refine(hI 0 _).mono ?_;rintro e w1 ⟨rfl,hb1⟩;rw[HM.out];have HB:=hZ (hb.out.trans (hb1.mono hb.out.size))
   clear hb1;go_wp2_with fail;go_ret;exact⟨rfl,HB.out⟩
end Go.Proofs.YtdkedmngeahjiaaGreatDoor
