/- Texts of the seat, one behind the other: AsFacts, AsSet, As. -/
import Derived.Test.YtdkedmngeahjiaaGreatDoorM16
import Derived.LaidEql
import Derived.Test.YtdkedmngeahjiaaGreatDoorCopy
import Derived.Test.YtdkedmngeahjiaaGreatDoorWorld
set_option maxRecDepth 100000
set_option maxHeartbeats 25600000
/- Closed facts for errors.As at a target *api.Fault. -/
namespace Go.Proofs.YtdkedmngeahjiaaGreatDoor
open Go.RowKit Go.Extern.Stop Go.Stop Go.Extern
theorem as_valueOfT (t:Addr) (w:World):(ReflectliteValue.unpack (.iface 76 (.pointer (some t)))).run Tryz.prog w
  = .ok (.agg #[.pointer (some ⟨6,76,none⟩),.pointer (some ⟨w.heap.size,0,none⟩),.int .u64 150]) (w.alloc (.cells #[.pointer (some t)] 76)):=by kernel_rfl
theorem as_typeT (a : Addr) (w : World) : (ReflectliteValue.methodAny (ReflectliteValue.valueError "reflectlite.Value.Type" 0) (fun t _ _ _ => ReflectliteType.toType t) #[.agg #[.pointer (some ⟨6, 76, none⟩), .pointer (some a), .int .u64 150]]).run Tryz.prog w
  = .ok (.iface 198 (.agg #[.pointer (some ⟨6,76,none⟩)])) w:=by kernel_rfl
theorem as_methodKind (k : Nat) (h : Value) (w : World) : (Go.method (k + 2) 198 (.agg #[h]) "Kind").run Tryz.prog w = .ok (222, h) w := by kernel_rfl
theorem as_kindT (w:World):((ReflectliteType.abiMethod fun t=>(fun a:Nat=>Value.int IntKind.u8 (a:Int)) <$> Rtype.kind t) #[.pointer (some ⟨6,76,none⟩)]).run Tryz.prog w=.ok (.int .u8 22) w:=by kernel_rfl
theorem as_kindF (w:World):((ReflectliteType.abiMethod fun t=>(fun a:Nat=>Value.int IntKind.u8 (a:Int)) <$> Rtype.kind t) #[.pointer (some ⟨6,73,none⟩)]).run Tryz.prog w=.ok (.int .u8 25) w:=by kernel_rfl
theorem rlm (z:Sem Value) (f:TypeId→Addr→Nat→Nat→Sem Value) (v:Value) :
  ReflectliteValue.method z f #[v]=(do match ← ReflectliteValue.parts v with | none=>z | some (t,a,fl)=>f t a fl (fl % 32)):=rfl
theorem as_partsT (a:Addr) (w:World):(ReflectliteValue.parts (.agg #[.pointer (some ⟨6,76,none⟩),.pointer (some a),.int .u64 150])).run Tryz.prog w=.ok (some (76,a,150)) w:=by kernel_rfl
theorem as_isNilT (a p:Addr) (W:World) (ha:W.cell? a=some (.pointer (some p))) :
  (ReflectliteValue.method (ReflectliteValue.valueError "reflectlite.Value.IsNil" 0) ReflectliteValue.isNil #[.agg #[.pointer (some ⟨6, 76, none⟩), .pointer (some a), .int .u64 150]]).run Tryz.prog W = .ok (.bool false) W := by
 rw [rlm]
 simp only [Sem.run_bind,as_partsT,Result.andThen]
 simp [ReflectliteValue.isNil,loadVar,isAgg,underlying,Tryz.underlying76,ha,Result.andThen]
theorem as_methodElem (k : Nat) (h : Value) (w : World) : (Go.method (k + 1) 198 (.agg #[h]) "Elem").run Tryz.prog w = .ok (237, .agg #[h]) w := by kernel_rfl
theorem as_methodImplements (k : Nat) (h : Value) (w : World) : (Go.method (k + 1) 198 (.agg #[h]) "Implements").run Tryz.prog w = .ok (238, .agg #[h]) w := by kernel_rfl
theorem as_methodAssignableTo (k : Nat) (h : Value) (w : World) : (Go.method (k + 1) 198 (.agg #[h]) "AssignableTo").run Tryz.prog w = .ok (235, .agg #[h]) w := by kernel_rfl
theorem as_elemT (w:World):(ReflectliteType.method ReflectliteType.elem #[.agg #[.pointer (some ⟨6,76,none⟩)]]).run Tryz.prog w=.ok (.iface 198 (.agg #[.pointer (some ⟨6,73,none⟩)])) w:=by kernel_rfl
theorem as_implementsF (w : World) : (ReflectliteType.relation "Implements" ReflectliteType.implements_ #[.agg #[.pointer (some ⟨6, 73, none⟩)], .iface 198 (.agg #[.pointer (some ⟨6, 25, none⟩)])]).run Tryz.prog w = .ok (.bool true) w := by kernel_rfl
theorem as_typeOfF (v:Value) (w:World):(ReflectliteType.typeOf #[.iface 73 v]).run Tryz.prog w=.ok (.iface 198 (.agg #[.pointer (some ⟨6,73,none⟩)])) w:=by kernel_rfl
theorem as_assignFF (w : World) : (ReflectliteType.relation "AssignableTo" ReflectliteType.assignableTo #[.agg #[.pointer (some ⟨6, 73, none⟩)], .iface 198 (.agg #[.pointer (some ⟨6, 73, none⟩)])]).run Tryz.prog w = .ok (.bool true) w := by kernel_rfl
theorem as_assignEF (w : World) : (ReflectliteType.relation "AssignableTo" ReflectliteType.assignableTo #[.agg #[.pointer (some ⟨6, 71, none⟩)], .iface 198 (.agg #[.pointer (some ⟨6, 73, none⟩)])]).run Tryz.prog w = .ok (.bool false) w := by kernel_rfl
theorem as_valueOfF (n l a:Int) (w:World):(ReflectliteValue.unpack (.iface 73 (.agg #[.int .i64 n,.int .i64 l,.int .i64 a]))).run Tryz.prog w
  = .ok (.agg #[.pointer (some ⟨6,73,none⟩),.pointer (some ⟨w.heap.size,0,none⟩),.int .u64 153]) (w.alloc (.cells #[.int .i64 n,.int .i64 l,.int .i64 a] 73)):=by kernel_rfl
theorem as_elemOfT (w:World):(Rtype.elem? 76).run Tryz.prog w=.ok (some 73) w:=by kernel_rfl
theorem as_mkF (p:Addr) (w:World):(ReflectliteValue.mk 73 p ReflectliteValue.flagAddr).run Tryz.prog w=.ok (.agg #[.pointer (some ⟨6,73,none⟩),.pointer (some p),.int .u64 409]) w:=by kernel_rfl
theorem as_elemVT (a p:Addr) (W:World) (ha:W.cell? a=some (.pointer (some p))) :
  (ReflectliteValue.method (ReflectliteValue.valueError "reflectlite.Value.Elem" 0) ReflectliteValue.elem #[.agg #[.pointer (some ⟨6, 76, none⟩), .pointer (some a), .int .u64 150]]).run Tryz.prog W
   = .ok (.agg #[.pointer (some ⟨6,73,none⟩),.pointer (some p),.int .u64 409]) W:=by
 rw [rlm]
 simp only [Sem.run_bind,as_partsT,Result.andThen]
 simp [ReflectliteValue.elem,loadVar,isAgg,underlying,Tryz.underlying76,ha,Result.andThen,as_elemOfT,as_mkF]
theorem rls (v x:Value):ReflectliteValue.set #[v,x]=(do
  let (some (dst,a,fl),some (src,b,_)):=(← ReflectliteValue.parts v,← ReflectliteValue.parts x)
   |unsupported (.noEntry "extern/(internal/reflectlite.Value).Set.zeroValue")
  if fl / ReflectliteValue.flagAddr % 2 == 0 then unsupported (.noEntry "extern/(internal/reflectlite.Value).Set.unaddressable")
  let val ← loadVar src b
  if ← Rtype.directlyAssignable dst src then storeVar dst a val
  else if ← Rtype.implements dst src then
   if (← Rtype.kind src) == 20 then
    match val with
    |.nilIface => unsupported (.noEntry "extern/reflectlite: a nil value of one interface type handed on as a value of another")
    |_=>storeVar dst a val
   else storeVar dst a (.iface src val)
  else panicString ("reflectlite.Set: value of type " ++ (← Rtype.spelt src) ++ " is not assignable to type " ++ (← Rtype.spelt dst))
  pure (.tuple #[])):=rfl
theorem as_partsFa (a:Addr) (w:World):(ReflectliteValue.parts (.agg #[.pointer (some ⟨6,73,none⟩),.pointer (some a),.int .u64 409])).run Tryz.prog w=.ok (some (73,a,409)) w:=by kernel_rfl
theorem as_partsF (a:Addr) (w:World):(ReflectliteValue.parts (.agg #[.pointer (some ⟨6,73,none⟩),.pointer (some a),.int .u64 153])).run Tryz.prog w=.ok (some (73,a,153)) w:=by kernel_rfl
theorem as_directF (w:World):(Rtype.directlyAssignable 73 73).run Tryz.prog w=.ok true w:=by kernel_rfl
end Go.Proofs.YtdkedmngeahjiaaGreatDoor
/- The model's entry (Value).Set at an api.Fault. -/
namespace Go.Proofs.YtdkedmngeahjiaaGreatDoor
open Go.RowKit Go.Extern.Stop Go.Stop Go.Extern
theorem as_setF (t b:Nat) (n l a:Int) (o0 o1 o2:Value) (T:TypeId) (W:World) (hb0:W.cell? ⟨b,0,none⟩=some (.int .i64 n)) (hb1:W.cell? ⟨b,1,none⟩=some (.int .i64 l)) (hb2:W.cell? ⟨b,2,none⟩=some (.int .i64 a))
  (ht:W.heap[t]?=some (.cells #[o0,o1,o2] T (0,0))) :
  (ReflectliteValue.set #[.agg #[.pointer (some ⟨6,73,none⟩),.pointer (some ⟨t,0,none⟩),.int .u64 409],.agg #[.pointer (some ⟨6,73,none⟩),.pointer (some ⟨b,0,none⟩),.int .u64 153]]).run Tryz.prog W
   = .ok (.tuple #[]) (setBlk W t (.cells #[.int .i64 n,.int .i64 l,.int .i64 a] T (0,0))):=by
 have hl:=run_loadCells_list (P:=Tryz.prog) W ⟨b,0,none⟩ [.int .i64 n,.int .i64 l,.int .i64 a] (fun j v hj=>by
  match j,hj with
  |0,hj=>simp at hj;subst hj;exact hb0
  |1,hj=>simp at hj;subst hj;exact hb1
  |2,hj=>simp at hj;subst hj;exact hb2
  |(j+3),hj=>simp at hj)
 have hs:=run_storeCells_at Tryz.prog t 0 T [.int .i64 n,.int .i64 l,.int .i64 a] 0 #[o0,o1,o2] W ht (by simp) (by
  intro v hv
  simp at hv
  rcases hv with rfl | rfl | rfl <;> rfl)
 rw [setRow_setBlk ht] at hs
 simp at hs hl
 rw [rls]
 simp only [Sem.run_bind,as_partsFa,as_partsF,Result.andThen]
 simp [ReflectliteValue.flagAddr,loadVar,isAgg,underlying,Tryz.underlying73,Result.andThen,as_directF,storeVar,Value.cells,hl,hs]
end Go.Proofs.YtdkedmngeahjiaaGreatDoor
/- Contracts of errors.As at a target *api.Fault. -/
namespace Go.Proofs.YtdkedmngeahjiaaGreatDoor
open Go.RowKit Go.Extern.Stop Go.Stop Go.Extern
theorem call_valueOf:Extern.find Tryz.f81=some (fun args=>ReflectliteValue.unpack (args.getD 0 (.tuple #[]))):=by kernel_rfl
theorem call_type : Extern.find Tryz.f82 = some (ReflectliteValue.methodAny (ReflectliteValue.valueError "reflectlite.Value.Type" 0) (fun t _ _ _ => ReflectliteType.toType t)) := by kernel_rfl
theorem call_isNil : Extern.find Tryz.f83 = some (ReflectliteValue.method (ReflectliteValue.valueError "reflectlite.Value.IsNil" 0) ReflectliteValue.isNil) := by kernel_rfl
theorem call_kind:Extern.find Tryz.f222=some (ReflectliteType.abiMethod fun t=>do pure (.int .u8 (← Rtype.kind t))):=by kernel_rfl
theorem call_elem:Extern.find Tryz.f237=some (ReflectliteType.method ReflectliteType.elem):=by kernel_rfl
theorem call_implements : Extern.find Tryz.f238 = some (ReflectliteType.relation "Implements" ReflectliteType.implements_) := by kernel_rfl
theorem call_assignable : Extern.find Tryz.f235 = some (ReflectliteType.relation "AssignableTo" ReflectliteType.assignableTo) := by kernel_rfl
theorem call_velem : Extern.find Tryz.f144 = some (ReflectliteValue.method (ReflectliteValue.valueError "reflectlite.Value.Elem" 0) ReflectliteValue.elem) := by kernel_rfl
theorem call_vset:Extern.find Tryz.f145=some ReflectliteValue.set:=by kernel_rfl
def rvT (b:Nat):Value:=.agg #[.pointer (some ⟨6,76,none⟩),.pointer (some ⟨b,0,none⟩),.int .u64 150]
def rtF:Value:=.iface 198 (.agg #[.pointer (some ⟨6,73,none⟩)])
theorem asin_fault (n l a:Int) (t vb:Nat) (o0 o1 o2:Value) (T:TypeId) (w:World) (hv:w.cell? ⟨vb,0,none⟩=some (.pointer (some ⟨t,0,none⟩))) (ht:w.heap[t]?=some (.cells #[o0,o1,o2] T (0,0))) :
  Calls Tryz.prog 84 #[faultV n l a,.iface 76 (.pointer (some ⟨t,0,none⟩)),rvT vb,rtF] w fun e w' =>
   e=.returned (.bool true)∧w'.heap[t]?=some (.cells #[.int .i64 n,.int .i64 l,.int .i64 a] T (0,0))∧w.grownBy w' (some t):=by
 unfold faultV rvT rtF
 have htl:=blk_lt ht
 have hvl:vb < w.heap.size:=by
  rcases Nat.lt_or_ge vb w.heap.size with h | h
  ·exact h
  ·simp [World.cell?,Array.getElem?_eq_none h] at hv
 have h40:=@run_callFunc_extern Tryz.prog 86 _ _ Tryz.func86 (by kernel_rfl) (by kernel_rfl) (by kernel_rfl) call_typeOf
 have h52:=@run_callFunc_extern Tryz.prog 81 _ _ Tryz.func81 (by kernel_rfl) (by kernel_rfl) (by kernel_rfl) call_valueOf
 have h102:=@run_callFunc_extern Tryz.prog 235 _ _ Tryz.func235 (by kernel_rfl) (by kernel_rfl) (by kernel_rfl) call_assignable
 have h59:=@run_callFunc_extern Tryz.prog 144 _ _ Tryz.func144 (by kernel_rfl) (by kernel_rfl) (by kernel_rfl) call_velem
 have h60:=@run_callFunc_extern Tryz.prog 145 _ _ Tryz.func145 (by kernel_rfl) (by kernel_rfl) (by kernel_rfl) call_vset
 have tO:=as_typeOfF
 have mA:=as_methodAssignableTo
 have aF:=as_assignFF
 have vF:=as_valueOfF
 obtain ⟨W1,hW1⟩:∃ W1,w.alloc (.cells #[.pointer (some ⟨6,76,none⟩),.pointer (some ⟨vb,0,none⟩),.int .u64 150] 137)=W1:=⟨_,rfl⟩
 have hW1s:W1.heap.size=w.heap.size+1:=by rw [← hW1];simp
 have hW1t:W1.heap[t]?=some (.cells #[o0,o1,o2] T (0,0)):=by rw [← hW1,Below.heap_alloc _ _ _ htl];exact ht
 have el:=as_elemVT ⟨vb,0,none⟩ ⟨t,0,none⟩ (w.alloc (.cells #[.pointer (some ⟨6,76,none⟩),.pointer (some ⟨vb,0,none⟩),.int .u64 150] 137)) ((cell_alloc' hvl).trans hv)
 have st:=as_setF t W1.heap.size n l a o0 o1 o2 T (W1.alloc (.cells #[.int .i64 n,.int .i64 l,.int .i64 a] 73)) (cell_of_heapN (heap_new _ _)) (cell_of_heapN (heap_new _ _)) (cell_of_heapN (heap_new _ _))
  (by rw [Below.heap_alloc _ _ _ (by omega)];exact hW1t)
 have hfin1:(setBlk (W1.alloc (.cells #[.int .i64 n,.int .i64 l,.int .i64 a] 73)) t (.cells #[.int .i64 n,.int .i64 l,.int .i64 a] T (0,0))).heap[t]?=some (.cells #[.int .i64 n,.int .i64 l,.int .i64 a] T (0,0)):=setBlk_heap (by simp;omega)
 have hfin2:w.grownBy (setBlk (W1.alloc (.cells #[.int .i64 n,.int .i64 l,.int .i64 a] 73)) t (.cells #[.int .i64 n,.int .i64 l,.int .i64 a] T (0,0))) (some t):=by
  refine ⟨by rw [← hW1];rfl,by rw [← hW1];rfl,by rw [← hW1];rfl,by rw [setBlk_size];simp;omega,fun i hi hne=>?_⟩
  rw [setBlk_other (fun e=>hne (by rw [e])),Below.heap_alloc _ _ _ (by omega),← hW1,Below.heap_alloc _ _ _ hi]
 rw [← hW1] at st hfin1 hfin2
 rw [World.size_alloc] at st
 have F1:=hZ hfin1
 have F2:=hZ hfin2
 clear hW1 hW1s hW1t hfin1 hfin2 ht hv W1
 go_enter Tryz.func84,Tryz.ntmps84
 go_wp2_with fail
 refine wp_loop_rounds 1 ?_
 rw [rounds_succ]
 go_wp2_with fail
 go_ret
 exact ⟨rfl,F1.out,F2.out⟩
theorem ta_as_errno (v:Value) (w:World):(Instr.typeAssert (.iface 71 v) 25 202 true).run Tryz.prog w=.ok (.tuple #[.nilIface,.bool false]) w:=run_typeAssert_lacksB Tryz.underlying202 (by kernel_rfl) (by kernel_rfl) v 25 w
theorem asin_errno (n:Int) (x rv:Value) (hrv:∃ cs:Array Value,rv=.agg cs) (w:World) :
  Calls Tryz.prog 84 #[errV n,x,rv,rtF] w fun e w'=>e=.returned (.bool false)∧Below w.heap.size w w':=by
 obtain ⟨cs,rfl⟩:=hrv
 unfold errV rtF
 have h40:=@run_callFunc_extern Tryz.prog 86 _ _ Tryz.func86 (by kernel_rfl) (by kernel_rfl) (by kernel_rfl) call_typeOf
 have h102:=@run_callFunc_extern Tryz.prog 235 _ _ Tryz.func235 (by kernel_rfl) (by kernel_rfl) (by kernel_rfl) call_assignable
 have tO:=typeOf_errno
 have mA:=as_methodAssignableTo
 have aF:=as_assignEF
 have t1:=ta_as_errno
 have t2:=ta_un_errno
 have t3:=ta_uns_errno
 go_enter Tryz.func84,Tryz.ntmps84
 go_wp2_with fail
 refine wp_loop_rounds 1 ?_
 rw [rounds_succ]
 go_wp2_with fail
 go_ret
 exact ⟨rfl,(Below.refl _ _).alloc (Nat.le_refl _) _⟩
def ErrT (w:World):Prop:=w.cell? ⟨0,0,none⟩=some (.iface 198 (.agg #[.pointer (some ⟨6,25,none⟩)]))∧0 < w.heap.size
theorem as_fault (n l a:Int) (t:Nat) (o0 o1 o2:Value) (T:TypeId) (w:World) (hG:ErrT w) (ht:w.heap[t]?=some (.cells #[o0,o1,o2] T (0,0))) :
  Calls Tryz.prog 37 #[faultV n l a,.iface 76 (.pointer (some ⟨t,0,none⟩))] w fun e w' =>
   e=.returned (.bool true)∧w'.heap[t]?=some (.cells #[.int .i64 n,.int .i64 l,.int .i64 a] T (0,0))∧w.grownBy w' (some t):=by
 unfold faultV
 have htl:=blk_lt ht
 have h52:=@run_callFunc_extern Tryz.prog 81 _ _ Tryz.func81 (by kernel_rfl) (by kernel_rfl) (by kernel_rfl) call_valueOf
 have h53:=@run_callFunc_extern Tryz.prog 82 _ _ Tryz.func82 (by kernel_rfl) (by kernel_rfl) (by kernel_rfl) call_type
 have h54:=@run_callFunc_extern Tryz.prog 83 _ _ Tryz.func83 (by kernel_rfl) (by kernel_rfl) (by kernel_rfl) call_isNil
 have h94:=@run_callFunc_extern Tryz.prog 222 _ _ Tryz.func222 (by kernel_rfl) (by kernel_rfl) (by kernel_rfl) call_kind
 have h104:=@run_callFunc_extern Tryz.prog 237 _ _ Tryz.func237 (by kernel_rfl) (by kernel_rfl) (by kernel_rfl) call_elem
 have h105:=@run_callFunc_extern Tryz.prog 238 _ _ Tryz.func238 (by kernel_rfl) (by kernel_rfl) (by kernel_rfl) call_implements
 have vT:=as_valueOfT
 have tT:=as_typeT
 have mK:=as_methodKind
 have kT:=as_kindT
 have kF:=as_kindF
 have mE:=as_methodElem
 have eT:=as_elemT
 have mI:=as_methodImplements
 have iF:=as_implementsF
 have n54:=as_isNilT ⟨w.heap.size,0,none⟩ ⟨t,0,none⟩ ((w.alloc (.cells #[.pointer (some ⟨t,0,none⟩)] 76)).alloc (.cells #[.pointer (some ⟨6,76,none⟩),.pointer (some ⟨w.heap.size,0,none⟩),.int .u64 150] 137))
  ((cell_alloc' (by simp)).trans (cell_new _ _ _ _))
 have hg2:((w.alloc (.cells #[.pointer (some ⟨t,0,none⟩)] 76)).alloc (.cells #[.pointer (some ⟨6,76,none⟩),.pointer (some ⟨w.heap.size,0,none⟩),.int .u64 150] 137)).cell? ⟨0,0,none⟩=some (.iface 198 (.agg #[.pointer (some ⟨6,25,none⟩)])) :=
  (cell_alloc' (by have h:=hG.2;rw [World.size_alloc];show 0 < _;omega)).trans ((cell_alloc' hG.2).trans hG.1)
 have HT:=hZ ht
 clear ht
 go_enter Tryz.func37,Tryz.ntmps37
 go_wp2_with fail
 refine (asin_fault n l a t w.heap.size o0 o1 o2 T _ ((cell_alloc' (by simp)).trans (cell_new _ _ _ _)) (by
  rw [Below.heap_alloc _ _ _ (by simp;omega),Below.heap_alloc _ _ _ htl];exact HT.out)).mono ?_
 rintro e w1 ⟨rfl,h1,h2⟩
 have H1:=hZ h1
 have hgr:w.grownBy w1 (some t):=by
  refine ⟨h2.os,h2.tape,h2.output,?_,fun i hi hne=>?_⟩
  ·have:=h2.size;simp at this;omega
  ·rw [h2.block i (by simp;omega) hne,Below.heap_alloc _ _ _ (by simp;omega),Below.heap_alloc _ _ _ hi]
 have H2:=hZ hgr
 clear h1 h2 hgr
 go_wp2_with fail
 go_ret
 exact ⟨rfl,H1.out,H2.out⟩
theorem as_errno (n:Int) (t:Nat) (w:World) (hG:ErrT w) :
  Calls Tryz.prog 37 #[errV n,.iface 76 (.pointer (some ⟨t,0,none⟩))] w fun e w' =>
   e=.returned (.bool false)∧Below w.heap.size w w':=by
 unfold errV
 have h52:=@run_callFunc_extern Tryz.prog 81 _ _ Tryz.func81 (by kernel_rfl) (by kernel_rfl) (by kernel_rfl) call_valueOf
 have h53:=@run_callFunc_extern Tryz.prog 82 _ _ Tryz.func82 (by kernel_rfl) (by kernel_rfl) (by kernel_rfl) call_type
 have h54:=@run_callFunc_extern Tryz.prog 83 _ _ Tryz.func83 (by kernel_rfl) (by kernel_rfl) (by kernel_rfl) call_isNil
 have h94:=@run_callFunc_extern Tryz.prog 222 _ _ Tryz.func222 (by kernel_rfl) (by kernel_rfl) (by kernel_rfl) call_kind
 have h104:=@run_callFunc_extern Tryz.prog 237 _ _ Tryz.func237 (by kernel_rfl) (by kernel_rfl) (by kernel_rfl) call_elem
 have h105:=@run_callFunc_extern Tryz.prog 238 _ _ Tryz.func238 (by kernel_rfl) (by kernel_rfl) (by kernel_rfl) call_implements
 have vT:=as_valueOfT
 have tT:=as_typeT
 have mK:=as_methodKind
 have kT:=as_kindT
 have kF:=as_kindF
 have mE:=as_methodElem
 have eT:=as_elemT
 have mI:=as_methodImplements
 have iF:=as_implementsF
 have n54:=as_isNilT ⟨w.heap.size,0,none⟩ ⟨t,0,none⟩ ((w.alloc (.cells #[.pointer (some ⟨t,0,none⟩)] 76)).alloc (.cells #[.pointer (some ⟨6,76,none⟩),.pointer (some ⟨w.heap.size,0,none⟩),.int .u64 150] 137))
  ((cell_alloc' (by simp)).trans (cell_new _ _ _ _))
 have hg2:((w.alloc (.cells #[.pointer (some ⟨t,0,none⟩)] 76)).alloc (.cells #[.pointer (some ⟨6,76,none⟩),.pointer (some ⟨w.heap.size,0,none⟩),.int .u64 150] 137)).cell? ⟨0,0,none⟩=some (.iface 198 (.agg #[.pointer (some ⟨6,25,none⟩)])) :=
  (cell_alloc' (by have h:=hG.2;rw [World.size_alloc];show 0 < _;omega)).trans ((cell_alloc' hG.2).trans hG.1)
 go_enter Tryz.func37,Tryz.ntmps37
 go_wp2_with fail
 refine (asin_errno n _ _ ⟨_,rfl⟩ _).mono ?_
 rintro e w1 ⟨rfl,h2⟩
 have H2:=hZ (((((Below.refl w.heap.size w).alloc (Nat.le_refl _) (.cells #[.pointer (some ⟨t,0,none⟩)] 76)).alloc (by simp) (.cells #[.pointer (some ⟨6,76,none⟩),.pointer (some ⟨w.heap.size,0,none⟩),.int .u64 150] 137)).trans (h2.mono (by simp;omega))))
 clear h2
 go_wp2_with fail
 go_ret
 exact ⟨rfl,H2.out⟩
theorem as_nil (x:Value) (w:World):Calls Tryz.prog 37 #[.nilIface,x] w fun e w'=>e=.returned (.bool false)∧w=w':=by
 go_enter Tryz.func37,Tryz.ntmps37
 go_wp2_with fail
 go_ret
 exact ⟨rfl,rfl⟩
end Go.Proofs.YtdkedmngeahjiaaGreatDoor
