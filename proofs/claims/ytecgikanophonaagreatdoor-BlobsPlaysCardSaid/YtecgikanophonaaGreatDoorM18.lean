/- Texts of the seat, one behind the other: AsFacts, AsSet, As. -/
import Derived.Test.YtecgikanophonaaGreatDoorM16
import Derived.LaidEql
import Derived.Test.YtecgikanophonaaGreatDoorCopy
import Derived.Test.YtecgikanophonaaGreatDoorWorld
set_option maxRecDepth 100000
set_option maxHeartbeats 25600000
/- Closed facts for errors.As at a target *api.Fault. -/
namespace Go.Proofs.YtecgikanophonaaGreatDoor
open Go.RowKit Go.Extern.Stop Go.Stop Go.Extern
theorem as_valueOfT (t:Addr) (w:World):(ReflectliteValue.unpack (.iface 94 (.pointer (some t)))).run Tryz.prog w
  = .ok (.agg #[.pointer (some ⟨5,94,none⟩),.pointer (some ⟨w.heap.size,0,none⟩),.int .u64 150]) (w.alloc (.cells #[.pointer (some t)] 94)):=by kernel_rfl
theorem as_typeT (a : Addr) (w : World) : (ReflectliteValue.methodAny (ReflectliteValue.valueError "reflectlite.Value.Type" 0) (fun t _ _ _ => ReflectliteType.toType t) #[.agg #[.pointer (some ⟨5, 94, none⟩), .pointer (some a), .int .u64 150]]).run Tryz.prog w
  = .ok (.iface 193 (.agg #[.pointer (some ⟨5,94,none⟩)])) w:=by kernel_rfl
theorem as_methodKind (k : Nat) (h : Value) (w : World) : (Go.method (k + 2) 193 (.agg #[h]) "Kind").run Tryz.prog w = .ok (208, h) w := by kernel_rfl
theorem as_kindT (w:World):((ReflectliteType.abiMethod fun t=>(fun a:Nat=>Value.int IntKind.u8 (a:Int)) <$> Rtype.kind t) #[.pointer (some ⟨5,94,none⟩)]).run Tryz.prog w=.ok (.int .u8 22) w:=by kernel_rfl
theorem as_kindF (w:World):((ReflectliteType.abiMethod fun t=>(fun a:Nat=>Value.int IntKind.u8 (a:Int)) <$> Rtype.kind t) #[.pointer (some ⟨5,92,none⟩)]).run Tryz.prog w=.ok (.int .u8 25) w:=by kernel_rfl
theorem rlm (z:Sem Value) (f:TypeId→Addr→Nat→Nat→Sem Value) (v:Value) :
  ReflectliteValue.method z f #[v]=(do match ← ReflectliteValue.parts v with | none=>z | some (t,a,fl)=>f t a fl (fl % 32)):=rfl
theorem as_partsT (a:Addr) (w:World):(ReflectliteValue.parts (.agg #[.pointer (some ⟨5,94,none⟩),.pointer (some a),.int .u64 150])).run Tryz.prog w=.ok (some (94,a,150)) w:=by kernel_rfl
theorem as_isNilT (a p:Addr) (W:World) (ha:W.cell? a=some (.pointer (some p))) :
  (ReflectliteValue.method (ReflectliteValue.valueError "reflectlite.Value.IsNil" 0) ReflectliteValue.isNil #[.agg #[.pointer (some ⟨5, 94, none⟩), .pointer (some a), .int .u64 150]]).run Tryz.prog W = .ok (.bool false) W := by
 rw [rlm]
 simp only [Sem.run_bind,as_partsT,Result.andThen]
 simp [ReflectliteValue.isNil,loadVar,isAgg,underlying,Tryz.underlying94,ha,Result.andThen]
theorem as_methodElem (k : Nat) (h : Value) (w : World) : (Go.method (k + 1) 193 (.agg #[h]) "Elem").run Tryz.prog w = .ok (220, .agg #[h]) w := by kernel_rfl
theorem as_methodImplements (k : Nat) (h : Value) (w : World) : (Go.method (k + 1) 193 (.agg #[h]) "Implements").run Tryz.prog w = .ok (221, .agg #[h]) w := by kernel_rfl
theorem as_methodAssignableTo (k : Nat) (h : Value) (w : World) : (Go.method (k + 1) 193 (.agg #[h]) "AssignableTo").run Tryz.prog w = .ok (218, .agg #[h]) w := by kernel_rfl
theorem as_elemT (w:World):(ReflectliteType.method ReflectliteType.elem #[.agg #[.pointer (some ⟨5,94,none⟩)]]).run Tryz.prog w=.ok (.iface 193 (.agg #[.pointer (some ⟨5,92,none⟩)])) w:=by kernel_rfl
theorem as_implementsF (w : World) : (ReflectliteType.relation "Implements" ReflectliteType.implements_ #[.agg #[.pointer (some ⟨5, 92, none⟩)], .iface 193 (.agg #[.pointer (some ⟨5, 26, none⟩)])]).run Tryz.prog w = .ok (.bool true) w := by kernel_rfl
theorem as_assignEF (w : World) : (ReflectliteType.relation "AssignableTo" ReflectliteType.assignableTo #[.agg #[.pointer (some ⟨5, 76, none⟩)], .iface 193 (.agg #[.pointer (some ⟨5, 92, none⟩)])]).run Tryz.prog w = .ok (.bool false) w := by kernel_rfl
end Go.Proofs.YtecgikanophonaaGreatDoor
/- The model's entry (Value).Set at an api.Fault. -/
namespace Go.Proofs.YtecgikanophonaaGreatDoor
open Go.RowKit Go.Extern.Stop Go.Stop Go.Extern
end Go.Proofs.YtecgikanophonaaGreatDoor
/- Contracts of errors.As at a target *api.Fault. -/
namespace Go.Proofs.YtecgikanophonaaGreatDoor
open Go.RowKit Go.Extern.Stop Go.Stop Go.Extern
theorem call_valueOf:Extern.find Tryz.f92=some (fun args=>ReflectliteValue.unpack (args.getD 0 (.tuple #[]))):=by kernel_rfl
theorem call_type : Extern.find Tryz.f93 = some (ReflectliteValue.methodAny (ReflectliteValue.valueError "reflectlite.Value.Type" 0) (fun t _ _ _ => ReflectliteType.toType t)) := by kernel_rfl
theorem call_isNil : Extern.find Tryz.f94 = some (ReflectliteValue.method (ReflectliteValue.valueError "reflectlite.Value.IsNil" 0) ReflectliteValue.isNil) := by kernel_rfl
theorem call_kind:Extern.find Tryz.f208=some (ReflectliteType.abiMethod fun t=>do pure (.int .u8 (← Rtype.kind t))):=by kernel_rfl
theorem call_elem:Extern.find Tryz.f220=some (ReflectliteType.method ReflectliteType.elem):=by kernel_rfl
theorem call_implements : Extern.find Tryz.f221 = some (ReflectliteType.relation "Implements" ReflectliteType.implements_) := by kernel_rfl
theorem call_assignable : Extern.find Tryz.f218 = some (ReflectliteType.relation "AssignableTo" ReflectliteType.assignableTo) := by kernel_rfl
def rtF:Value:=.iface 193 (.agg #[.pointer (some ⟨5,92,none⟩)])
theorem ta_as_errno (v:Value) (w:World):(Instr.typeAssert (.iface 76 v) 26 197 true).run Tryz.prog w=.ok (.tuple #[.nilIface,.bool false]) w:=run_typeAssert_lacksB Tryz.underlying197 (by kernel_rfl) (by kernel_rfl) v 26 w
theorem asin_errno (n:Int) (x rv:Value) (hrv:∃ cs:Array Value,rv=.agg cs) (w:World) :
  Calls Tryz.prog 95 #[errV n,x,rv,rtF] w fun e w'=>e=.returned (.bool false)∧Below w.heap.size w w':=by
 obtain ⟨cs,rfl⟩:=hrv
 unfold errV rtF
 have h40:=@run_callFunc_extern Tryz.prog 97 _ _ Tryz.func97 (by kernel_rfl) (by kernel_rfl) (by kernel_rfl) call_typeOf
 have h102:=@run_callFunc_extern Tryz.prog 218 _ _ Tryz.func218 (by kernel_rfl) (by kernel_rfl) (by kernel_rfl) call_assignable
 have tO:=typeOf_errno
 have mA:=as_methodAssignableTo
 have aF:=as_assignEF
 have t1:=ta_as_errno
 have t2:=ta_un_errno
 have t3:=ta_uns_errno
 go_enter Tryz.func95,Tryz.ntmps95
 go_wp2_with fail
 refine wp_loop_rounds 1 ?_
 rw [rounds_succ]
 go_wp2_with fail
 go_ret
 exact ⟨rfl,(Below.refl _ _).alloc (Nat.le_refl _) _⟩
def ErrT (w:World):Prop:=w.cell? ⟨1,0,none⟩=some (.iface 193 (.agg #[.pointer (some ⟨5,26,none⟩)]))∧1 < w.heap.size
theorem as_errno (n:Int) (t:Nat) (w:World) (hG:ErrT w) :
  Calls Tryz.prog 41 #[errV n,.iface 94 (.pointer (some ⟨t,0,none⟩))] w fun e w' =>
   e=.returned (.bool false)∧Below w.heap.size w w':=by
 unfold errV
 have h52:=@run_callFunc_extern Tryz.prog 92 _ _ Tryz.func92 (by kernel_rfl) (by kernel_rfl) (by kernel_rfl) call_valueOf
 have h53:=@run_callFunc_extern Tryz.prog 93 _ _ Tryz.func93 (by kernel_rfl) (by kernel_rfl) (by kernel_rfl) call_type
 have h54:=@run_callFunc_extern Tryz.prog 94 _ _ Tryz.func94 (by kernel_rfl) (by kernel_rfl) (by kernel_rfl) call_isNil
 have h94:=@run_callFunc_extern Tryz.prog 208 _ _ Tryz.func208 (by kernel_rfl) (by kernel_rfl) (by kernel_rfl) call_kind
 have h104:=@run_callFunc_extern Tryz.prog 220 _ _ Tryz.func220 (by kernel_rfl) (by kernel_rfl) (by kernel_rfl) call_elem
 have h105:=@run_callFunc_extern Tryz.prog 221 _ _ Tryz.func221 (by kernel_rfl) (by kernel_rfl) (by kernel_rfl) call_implements
 have vT:=as_valueOfT
 have tT:=as_typeT
 have mK:=as_methodKind
 have kT:=as_kindT
 have kF:=as_kindF
 have mE:=as_methodElem
 have eT:=as_elemT
 have mI:=as_methodImplements
 have iF:=as_implementsF
 have n54:=as_isNilT ⟨w.heap.size,0,none⟩ ⟨t,0,none⟩ ((w.alloc (.cells #[.pointer (some ⟨t,0,none⟩)] 94)).alloc (.cells #[.pointer (some ⟨5,94,none⟩),.pointer (some ⟨w.heap.size,0,none⟩),.int .u64 150] 159))
  ((cell_alloc' (by simp)).trans (cell_new _ _ _ _))
 have hg2:((w.alloc (.cells #[.pointer (some ⟨t,0,none⟩)] 94)).alloc (.cells #[.pointer (some ⟨5,94,none⟩),.pointer (some ⟨w.heap.size,0,none⟩),.int .u64 150] 159)).cell? ⟨1,0,none⟩=some (.iface 193 (.agg #[.pointer (some ⟨5,26,none⟩)])) :=
  (cell_alloc' (by have h:=hG.2;rw [World.size_alloc];show 1 < _;omega)).trans ((cell_alloc' hG.2).trans hG.1)
 go_enter Tryz.func41,Tryz.ntmps41
 go_wp2_with fail
 refine (asin_errno n _ _ ⟨_,rfl⟩ _).mono ?_
 rintro e w1 ⟨rfl,h2⟩
 have H2:=hZ (((((Below.refl w.heap.size w).alloc (Nat.le_refl _) (.cells #[.pointer (some ⟨t,0,none⟩)] 94)).alloc (by simp) (.cells #[.pointer (some ⟨5,94,none⟩),.pointer (some ⟨w.heap.size,0,none⟩),.int .u64 150] 159)).trans (h2.mono (by simp;omega))))
 clear h2
 go_wp2_with fail
 go_ret
 exact ⟨rfl,H2.out⟩
end Go.Proofs.YtecgikanophonaaGreatDoor
