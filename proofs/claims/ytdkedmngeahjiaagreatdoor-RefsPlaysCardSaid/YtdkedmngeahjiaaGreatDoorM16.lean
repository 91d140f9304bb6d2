/- Texts of the seat, one behind the other: ErrFacts, Errs, Num. -/
import Derived.Test.YtdkedmngeahjiaaGreatDoorM4
import Derived.Stop.Asserts
import Derived.RowKitTokens
set_option maxRecDepth 100000
set_option maxHeartbeats 25600000
/- Closed facts on the model's entries for reflectlite, at the errors' types. -/
namespace Go.Proofs.YtdkedmngeahjiaaGreatDoor
open Go.RowKit Go.Extern.Stop Go.Stop Go.Extern
theorem typeOf_errno (v:Value) (w:World):(ReflectliteType.typeOf #[.iface 71 v]).run Tryz.prog w=.ok (.iface 198 (.agg #[.pointer (some ⟨6,71,none⟩)])) w:=by kernel_rfl
def comparableX : Array Value → Sem Value := ReflectliteType.method fun t => do Rtype.noPackHeld "Comparable" t; pure (.bool (← typeInfo t).comparable)
theorem comparable_errno (w:World):(comparableX #[.agg #[.pointer (some ⟨6,71,none⟩)]]).run Tryz.prog w=.ok (.bool true) w:=by kernel_rfl
theorem call_typeOf:Extern.find Tryz.f86=some ReflectliteType.typeOf:=by kernel_rfl
theorem call_comparable:Extern.find Tryz.f236=some comparableX:=by kernel_rfl
theorem method_comparable (k : Nat) (h : Value) (w : World) : (Go.method (k + 1) 198 (.agg #[h]) "Comparable").run Tryz.prog w = .ok (236, .agg #[h]) w := by kernel_rfl
theorem ta_is_errno (v:Value) (w:World):(Instr.typeAssert (.iface 71 v) 25 209 true).run Tryz.prog w=.ok (.tuple #[.nilIface,.bool false]) w:=run_typeAssert_lacksB Tryz.underlying209 (by kernel_rfl) (by kernel_rfl) v 25 w
theorem ta_un_errno (v:Value) (w:World):(Instr.typeAssert (.iface 71 v) 25 205 true).run Tryz.prog w=.ok (.tuple #[.nilIface,.bool false]) w:=run_typeAssert_lacksB Tryz.underlying205 (by kernel_rfl) (by kernel_rfl) v 25 w
theorem ta_uns_errno (v:Value) (w:World):(Instr.typeAssert (.iface 71 v) 25 206 true).run Tryz.prog w=.ok (.tuple #[.nilIface,.bool false]) w:=run_typeAssert_lacksB Tryz.underlying206 (by kernel_rfl) (by kernel_rfl) v 25 w
theorem ta_is_fault (v:Value) (w:World):(Instr.typeAssert (.iface 73 v) 25 209 true).run Tryz.prog w=.ok (.tuple #[.nilIface,.bool false]) w:=run_typeAssert_lacksB Tryz.underlying209 (by kernel_rfl) (by kernel_rfl) v 25 w
theorem ta_un_fault (v:Value) (w:World):(Instr.typeAssert (.iface 73 v) 25 205 true).run Tryz.prog w=.ok (.tuple #[.iface 73 v,.bool true]) w:=run_typeAssert_hasB Tryz.underlying205 (by kernel_rfl) v 25 w
theorem method_unwrap (k : Nat) (n l a : Int) (w : World) : (Go.method (k + 1) 73 (.agg #[.int .i64 n, .int .i64 l, .int .i64 a]) "Unwrap").run Tryz.prog w = .ok (227, .agg #[.int .i64 n, .int .i64 l, .int .i64 a]) w := by kernel_rfl
theorem eq_errno (n k:Int) (w:World):(binOp .eql 25 (.iface 71 (.int .i64 n)) (.iface 71 (.int .i64 k))).run Tryz.prog w=.ok (.bool (n == k)) w:=by kernel_rfl
theorem eq_fault_errno (v x:Value) (w:World):(binOp .eql 25 (.iface 73 v) (.iface 71 x)).run Tryz.prog w=.ok (.bool false) w:=run_eql_iface_types _ _ v x Tryz.underlying25 (by decide) w
end Go.Proofs.YtdkedmngeahjiaaGreatDoor
/- Contracts of errors.Is, stratakit.Num at an Errno and at a Fault. -/
namespace Go.Proofs.YtdkedmngeahjiaaGreatDoor
open Go.RowKit Go.Extern.Stop Go.Stop Go.Extern
theorem ret_beq {n k:Int} {b:Bool} (h:(n == k)=b):Ending.returned (.bool b)=.returned (.bool (n == k)):=by rw [h]
theorem is_errno_in (n k:Int) (w:World) :
  Calls Tryz.prog 87 #[errV n,errV k,.bool true] w fun e w'=>e=.returned (.bool (n == k))∧w=w':=by
 unfold errV
 have t0:=eq_errno
 have t1:=ta_is_errno
 have t2:=ta_un_errno
 have t3:=ta_uns_errno
 go_enter Tryz.func87,Tryz.ntmps87
 go_wp2_with fail
 refine wp_loop_rounds 1 ?_
 rw [rounds_succ]
 go_wp2_with fail
 all_goals
  go_ret
  exact ⟨ret_beq ‹_›,rfl⟩
theorem unwrap_any (n l a:Int) (w:World) :
  Calls Tryz.prog 227 #[.agg #[.int .i64 n,.int .i64 l,.int .i64 a]] w fun e w'=>e=.returned (errV n)∧Below w.heap.size w w':=by
 unfold errV
 go_enter Tryz.func227,Tryz.ntmps227
 go_wp2_with fail
 go_ret
 exact ⟨rfl,(Below.refl _ _).alloc (Nat.le_refl _) _⟩
theorem is_fault_in (n l a k:Int) (w:World) :
  Calls Tryz.prog 87 #[faultV n l a,errV k,.bool true] w fun e w'=>e=.returned (.bool (n == k))∧Below w.heap.size w w':=by
 unfold errV faultV
 have t0:=eq_errno
 have t1:=ta_is_errno
 have t2:=ta_un_errno
 have t3:=ta_uns_errno
 have t4:=eq_fault_errno
 have t5:=ta_is_fault
 have t6:=ta_un_fault
 have t7:=method_unwrap
 go_enter Tryz.func87,Tryz.ntmps87
 go_wp2_with fail
 refine wp_loop_rounds 2 ?_
 rw [rounds_succ]
 go_wp2_with fail
 refine (unwrap_any n l a _).mono ?_
 rintro e w1 ⟨rfl,hb⟩
 have HB:=hZ hb
 clear hb
 unfold errV
 go_wp2_with fail
 rw [rounds_succ]
 go_wp2_with fail
 all_goals
  go_ret
  exact ⟨ret_beq ‹_›,HB.out⟩
theorem is_errno (n k:Int) (w:World) :
  Calls Tryz.prog 41 #[errV n,errV k] w fun e w'=>e=.returned (.bool (n == k))∧w=w':=by
 unfold errV
 have h40:=@run_callFunc_extern Tryz.prog 86 _ _ Tryz.func86 (by kernel_rfl) (by kernel_rfl) (by kernel_rfl) call_typeOf
 have h103:=@run_callFunc_extern Tryz.prog 236 _ _ Tryz.func236 (by kernel_rfl) (by kernel_rfl) (by kernel_rfl) call_comparable
 have c1:=typeOf_errno
 have c2:=comparable_errno
 have c3:=method_comparable
 go_enter Tryz.func41,Tryz.ntmps41
 go_wp2_with fail
 refine (is_errno_in n k _).mono ?_
 rintro e w1 ⟨rfl,rfl⟩
 go_wp2_with fail
 go_ret
 exact ⟨rfl,rfl⟩
theorem is_fault (n l a k:Int) (w:World) :
  Calls Tryz.prog 41 #[faultV n l a,errV k] w fun e w'=>e=.returned (.bool (n == k))∧Below w.heap.size w w':=by
 unfold errV faultV
 have h40:=@run_callFunc_extern Tryz.prog 86 _ _ Tryz.func86 (by kernel_rfl) (by kernel_rfl) (by kernel_rfl) call_typeOf
 have h103:=@run_callFunc_extern Tryz.prog 236 _ _ Tryz.func236 (by kernel_rfl) (by kernel_rfl) (by kernel_rfl) call_comparable
 have c1:=typeOf_errno
 have c2:=comparable_errno
 have c3:=method_comparable
 go_enter Tryz.func41,Tryz.ntmps41
 go_wp2_with fail
 refine (is_fault_in n l a k _).mono ?_
 rintro e w1 ⟨rfl,hb⟩
 have HB:=hZ hb
 clear hb
 go_wp2_with fail
 go_ret
 exact ⟨rfl,HB.out⟩
end Go.Proofs.YtdkedmngeahjiaaGreatDoor
/- Contract of stratakit.Num at an Errno and at a Fault. -/
namespace Go.Proofs.YtdkedmngeahjiaaGreatDoor
open Go.RowKit
def IsNum (e:Value) (m:Int):Prop:=∀ (k:Int) (w:World),Calls Tryz.prog 41 #[e,errV k] w fun r w'=>r=.returned (.bool (m == k))∧Below w.heap.size w w'
theorem isNum_errno (n:Int):IsNum (errV n) n:=fun k w=>(is_errno n k w).mono fun _ _ ⟨h,hw⟩=>⟨h,by rw [← hw];exact Below.refl _ _⟩
theorem isNum_fault (n l a:Int):IsNum (faultV n l a) n:=fun k w=>is_fault n l a k w
theorem num_nil (w:World):Calls Tryz.prog 36 #[.nilIface] w fun e w'=>e=.returned (.int .i64 0)∧w=w':=by
 go_enter Tryz.func36,Tryz.ntmps36
 go_wp2_with fail
 go_ret
 exact ⟨rfl,rfl⟩
theorem num_any (t:TypeId) (x:Value) (m:Int) (w:World) (hI:IsNum (.iface t x) m) (h1:1≤m) (h2:m≤32) :
  Calls Tryz.prog 36 #[.iface t x] w fun e w'=>e=.returned (.int .i64 m)∧Below w.heap.size w w':=by
 go_enter Tryz.func36,Tryz.ntmps36
 go_wp2_with fail
 go_loopw [3,4] (fun fv nv wr=>∃ k v:Int,1≤k∧k≤33∧nv=.int .i64 k∧fv=.int .i64 v∧Hid ((m < k→v=m)∧(k≤m→v=0))∧Hid (Below w.heap.size w wr)) (fun _ nv _=>(33 - intOf nv).toNat)
 case atStart=>exact ⟨1,0,by omega,by omega,rfl,rfl,⟨fun h=>by omega,fun _=>rfl⟩,Below.refl _ _⟩
 case round =>
  obtain ⟨k,v,hk1,hk2,rfl,rfl,hv,hb⟩:=hrel
  by_cases hlt:k≤32
  ·rcases Int.lt_trichotomy k m with hm | hm | hm
   ·have hmk:(m == k)=false:=by rw [beq_eq_false_iff_ne];omega
    have HM:=hZ hmk
    clear hmk
    go_wp2_with fail
    refine (hI k _).mono ?_
    rintro e w1 ⟨rfl,hb1⟩
    rw [HM.out]
    have HB:=hZ (hb.out.trans (hb1.mono hb.out.size))
    clear hb1
    go_wp2_with fail
    go_roundw
    case rel=>exact ⟨k+1,v,by omega,by omega,rfl,rfl,⟨fun h=>by omega,fun _=>hv.out.2 (by omega)⟩,HB.out⟩
    case measure=>simp [intOf];omega
   ·have hv0:v=0:=hv.out.2 (by omega)
    subst hv0
    obtain ⟨j,hj⟩:∃ j,j=m:=⟨_,rfl⟩
    have hmk:(m == k)=true:=by rw [beq_iff_eq];omega
    have HM:=hZ hmk
    have HK:=hZ hm
    clear hmk hj j
    have hkm1:k≤m:=by omega
    have hkm2:m≤k:=by omega
    clear hm
    go_wp2_with fail
    refine (hI k _).mono ?_
    rintro e w1 ⟨rfl,hb1⟩
    rw [HM.out]
    have HB:=hZ (hb.out.trans (hb1.mono hb.out.size))
    clear hb1
    go_wp2_with fail
    go_roundw
    case rel=>exact ⟨k+1,k,by omega,by omega,rfl,rfl,⟨fun _=>HK.out,fun h=>by omega⟩,HB.out⟩
    case measure=>simp [intOf];omega
   ·have hv0:v=m:=hv.out.1 (by omega)
    have hmk:(m == k)=false:=by rw [beq_eq_false_iff_ne];omega
    have HM:=hZ hmk
    subst hv0
    clear hmk
    go_wp2_with fail
    refine (hI k _).mono ?_
    rintro e w1 ⟨rfl,hb1⟩
    rw [HM.out]
    have HB:=hZ (hb.out.trans (hb1.mono hb.out.size))
    clear hb1
    go_wp2_with fail
    go_roundw
    case rel=>exact ⟨k+1,v,by omega,by omega,rfl,rfl,⟨fun _=>rfl,fun h=>by omega⟩,HB.out⟩
    case measure=>simp [intOf];omega
  ·have hv0:v=m:=hv.out.1 (by omega)
   subst hv0
   have hne:(v == 0)=false:=by rw [beq_eq_false_iff_ne];omega
   have hm0:(v == (0:Int))=false:=hne
   have HM:=hZ hm0
   go_wp2_with fail
   refine (hI 0 _).mono ?_
   rintro e w1 ⟨rfl,hb1⟩
   rw [HM.out]
   have HB:=hZ (hb.out.trans (hb1.mono hb.out.size))
   clear hb1
   go_wp2_with fail
   go_ret
   exact ⟨rfl,HB.out⟩
end Go.Proofs.YtdkedmngeahjiaaGreatDoor
