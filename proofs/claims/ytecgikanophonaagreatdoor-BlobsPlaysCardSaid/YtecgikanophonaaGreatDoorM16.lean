/- Texts of the seat, one behind the other: ErrFacts, Errs, Num. -/
import Derived.Test.YtecgikanophonaaGreatDoorM4
import Derived.Stop.Asserts
import Derived.RowKitTokens
set_option maxRecDepth 100000
set_option maxHeartbeats 25600000
/- Closed facts on the model's entries for reflectlite, at the errors' types. -/
namespace Go.Proofs.YtecgikanophonaaGreatDoor
open Go.RowKit Go.Extern.Stop Go.Stop Go.Extern
theorem typeOf_errno (v:Value) (w:World):(ReflectliteType.typeOf #[.iface 76 v]).run Tryz.prog w=.ok (.iface 193 (.agg #[.pointer (some ⟨5,76,none⟩)])) w:=by kernel_rfl
def comparableX : Array Value → Sem Value := ReflectliteType.method fun t => do Rtype.noPackHeld "Comparable" t; pure (.bool (← typeInfo t).comparable)
theorem comparable_errno (w:World):(comparableX #[.agg #[.pointer (some ⟨5,76,none⟩)]]).run Tryz.prog w=.ok (.bool true) w:=by kernel_rfl
theorem call_typeOf:Extern.find Tryz.f97=some ReflectliteType.typeOf:=by kernel_rfl
theorem call_comparable:Extern.find Tryz.f219=some comparableX:=by kernel_rfl
theorem method_comparable (k : Nat) (h : Value) (w : World) : (Go.method (k + 1) 193 (.agg #[h]) "Comparable").run Tryz.prog w = .ok (219, .agg #[h]) w := by kernel_rfl
theorem ta_is_errno (v:Value) (w:World):(Instr.typeAssert (.iface 76 v) 26 204 true).run Tryz.prog w=.ok (.tuple #[.nilIface,.bool false]) w:=run_typeAssert_lacksB Tryz.underlying204 (by kernel_rfl) (by kernel_rfl) v 26 w
theorem ta_un_errno (v:Value) (w:World):(Instr.typeAssert (.iface 76 v) 26 200 true).run Tryz.prog w=.ok (.tuple #[.nilIface,.bool false]) w:=run_typeAssert_lacksB Tryz.underlying200 (by kernel_rfl) (by kernel_rfl) v 26 w
theorem ta_uns_errno (v:Value) (w:World):(Instr.typeAssert (.iface 76 v) 26 201 true).run Tryz.prog w=.ok (.tuple #[.nilIface,.bool false]) w:=run_typeAssert_lacksB Tryz.underlying201 (by kernel_rfl) (by kernel_rfl) v 26 w
theorem eq_errno (n k:Int) (w:World):(binOp .eql 26 (.iface 76 (.int .i64 n)) (.iface 76 (.int .i64 k))).run Tryz.prog w=.ok (.bool (n == k)) w:=by kernel_rfl
end Go.Proofs.YtecgikanophonaaGreatDoor
/- Contracts of errors.Is, stratakit.Num at an Errno and at a Fault. -/
namespace Go.Proofs.YtecgikanophonaaGreatDoor
open Go.RowKit Go.Extern.Stop Go.Stop Go.Extern
theorem ret_beq {n k:Int} {b:Bool} (h:(n == k)=b):Ending.returned (.bool b)=.returned (.bool (n == k)):=by rw [h]
theorem is_errno_in (n k:Int) (w:World) :
  Calls Tryz.prog 98 #[errV n,errV k,.bool true] w fun e w'=>e=.returned (.bool (n == k))∧w=w':=by
 unfold errV
 have t0:=eq_errno
 have t1:=ta_is_errno
 have t2:=ta_un_errno
 have t3:=ta_uns_errno
 go_enter Tryz.func98,Tryz.ntmps98
 go_wp2_with fail
 refine wp_loop_rounds 1 ?_
 rw [rounds_succ]
 go_wp2_with fail
 all_goals
  go_ret
  exact ⟨ret_beq ‹_›,rfl⟩
theorem is_errno (n k:Int) (w:World) :
  Calls Tryz.prog 44 #[errV n,errV k] w fun e w'=>e=.returned (.bool (n == k))∧w=w':=by
 unfold errV
 have h40:=@run_callFunc_extern Tryz.prog 97 _ _ Tryz.func97 (by kernel_rfl) (by kernel_rfl) (by kernel_rfl) call_typeOf
 have h103:=@run_callFunc_extern Tryz.prog 219 _ _ Tryz.func219 (by kernel_rfl) (by kernel_rfl) (by kernel_rfl) call_comparable
 have c1:=typeOf_errno
 have c2:=comparable_errno
 have c3:=method_comparable
 go_enter Tryz.func44,Tryz.ntmps44
 go_wp2_with fail
 refine (is_errno_in n k _).mono ?_
 rintro e w1 ⟨rfl,rfl⟩
 go_wp2_with fail
 go_ret
 exact ⟨rfl,rfl⟩
end Go.Proofs.YtecgikanophonaaGreatDoor
/- Contract of stratakit.Num at an Errno and at a Fault. -/
namespace Go.Proofs.YtecgikanophonaaGreatDoor
open Go.RowKit
def IsNum (e:Value) (m:Int):Prop:=∀ (k:Int) (w:World),Calls Tryz.prog 44 #[e,errV k] w fun r w'=>r=.returned (.bool (m == k))∧Below w.heap.size w w'
theorem isNum_errno (n:Int):IsNum (errV n) n:=fun k w=>(is_errno n k w).mono fun _ _ ⟨h,hw⟩=>⟨h,by rw [← hw];exact Below.refl _ _⟩
theorem num_nil (w:World):Calls Tryz.prog 23 #[.nilIface] w fun e w'=>e=.returned (.int .i64 0)∧w=w':=by
 go_enter Tryz.func23,Tryz.ntmps23
 go_wp2_with fail
 go_ret
 exact ⟨rfl,rfl⟩
theorem num_any (t:TypeId) (x:Value) (m:Int) (w:World) (hI:IsNum (.iface t x) m) (h1:1≤m) (h2:m≤32) :
  Calls Tryz.prog 23 #[.iface t x] w fun e w'=>e=.returned (.int .i64 m)∧Below w.heap.size w w':=by
 go_enter Tryz.func23,Tryz.ntmps23
 go_wp2_with fail
 go_loopw [3,4] (fun fv nv wr=>∃ k v:Int,1≤k∧k≤33∧nv=.int .i64 k∧fv=.int .i64 v∧Hid ((m < k→v=m)∧(k≤m→v=0))∧Hid (Below w.heap.size w wr)) (fun _ nv _=>(33 - intOf nv).toNat)
 case atStart=>exact ⟨1,0,by omega,by omega,rfl,rfl,⟨fun h=>by omega,fun _=>rfl⟩,Below.refl _ _⟩
 case round =>
  obtain ⟨k,v,hk1,hk2,rfl,rfl,hv,hb⟩:=hrel
  by_cases hlt:k≤32
  ·rcases Int.lt_trichotomy k m with hm | hm | hm
   ·have hmk:(m == k)=false:=by rw [beq_eq_false_iff_ne];omega
    have HM:=hZ hmk
    clear hmk
    go_wp2_with fail
    refine (hI k _).mono ?_
    rintro e w1 ⟨rfl,hb1⟩
    rw [HM.out]
    have HB:=hZ (hb.out.trans (hb1.mono hb.out.size))
    clear hb1
    go_wp2_with fail
    go_roundw
    case rel=>exact ⟨k+1,v,by omega,by omega,rfl,rfl,⟨fun h=>by omega,fun _=>hv.out.2 (by omega)⟩,HB.out⟩
    case measure=>simp [intOf];omega
   ·have hv0:v=0:=hv.out.2 (by omega)
    subst hv0
    obtain ⟨j,hj⟩:∃ j,j=m:=⟨_,rfl⟩
    have hmk:(m == k)=true:=by rw [beq_iff_eq];omega
    have HM:=hZ hmk
    have HK:=hZ hm
    clear hmk hj j
    have hkm1:k≤m:=by omega
    have hkm2:m≤k:=by omega
    clear hm
    go_wp2_with fail
    refine (hI k _).mono ?_
    rintro e w1 ⟨rfl,hb1⟩
    rw [HM.out]
    have HB:=hZ (hb.out.trans (hb1.mono hb.out.size))
    clear hb1
    go_wp2_with fail
    go_roundw
    case rel=>exact ⟨k+1,k,by omega,by omega,rfl,rfl,⟨fun _=>HK.out,fun h=>by omega⟩,HB.out⟩
    case measure=>simp [intOf];omega
   ·have hv0:v=m:=hv.out.1 (by omega)
    have hmk:(m == k)=false:=by rw [beq_eq_false_iff_ne];omega
    have HM:=hZ hmk
    subst hv0
    clear hmk
    go_wp2_with fail
    refine (hI k _).mono ?_
    rintro e w1 ⟨rfl,hb1⟩
    rw [HM.out]
    have HB:=hZ (hb.out.trans (hb1.mono hb.out.size))
    clear hb1
    go_wp2_with fail
    go_roundw
    case rel=>exact ⟨k+1,v,by omega,by omega,rfl,rfl,⟨fun _=>rfl,fun h=>by omega⟩,HB.out⟩
    case measure=>simp [intOf];omega
  ·have hv0:v=m:=hv.out.1 (by omega)
   subst hv0
   have hne:(v == 0)=false:=by rw [beq_eq_false_iff_ne];omega
   have hm0:(v == (0:Int))=false:=hne
   have HM:=hZ hm0
   go_wp2_with fail
   refine (hI 0 _).mono ?_
   rintro e w1 ⟨rfl,hb1⟩
   rw [HM.out]
   have HB:=hZ (hb.out.trans (hb1.mono hb.out.size))
   clear hb1
   go_wp2_with fail
   go_ret
   exact ⟨rfl,HB.out⟩
end Go.Proofs.YtecgikanophonaaGreatDoor
