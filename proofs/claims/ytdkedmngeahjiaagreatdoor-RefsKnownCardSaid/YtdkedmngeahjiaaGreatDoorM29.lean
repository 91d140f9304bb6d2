import Derived.Test.YtdkedmngeahjiaaGreatDoorM28
import Derived.LaidEql
import Derived.Test.YtdkedmngeahjiaaGreatDoorM15
import Derived.Test.YtdkedmngeahjiaaGreatDoorM2
set_option maxRecDepth 100000
set_option maxHeartbeats 25600000
namespace Go.Proofs.YtdkedmngeahjiaaGreatDoor
open Go.RowKit Go.Extern.Stop Go.Stop Go.Extern
theorem A9(t:Addr)(w:World):(ReflectliteValue.unpack (.iface 76 (.pointer (some t)))).run Tryz.prog w
  = .ok (.agg #[.pointer (some ⟨6,76,none⟩),.pointer (some ⟨w.heap.size,0,none⟩),.int .u64 150]) (w.alloc (.cells #[.pointer (some t)] 76)):=aE
theorem Fs(a:Addr)(w:World):(ReflectliteValue.methodAny (ReflectliteValue.valueError "reflectlite.Value.Type" 0) (fun t _ _ _=>ReflectliteType.toType t) #[.agg #[.pointer (some ⟨6,76,none⟩), .pointer (some a), .int .u64 150]]).run Tryz.prog w
  = .ok (.iface 198 (.agg #[.pointer (some ⟨6,76,none⟩)])) w:=aE
theorem yX(k:Nat)(h:Value)(w:World):(Go.method (k+2) 198 (.agg #[h]) "Kind").run Tryz.prog w= .ok (222,h) w:=by kernel_rfl
theorem Ft(w:World):((ReflectliteType.abiMethod fun t=>(fun a:Nat=>Value.int IntKind.u8 (a:Int))<$>Rtype.kind t) #[.pointer (some ⟨6,76,none⟩)]).run Tryz.prog w=.ok (.int .u8 22) w:=aE
theorem Fu(w:World):((ReflectliteType.abiMethod fun t=>(fun a:Nat=>Value.int IntKind.u8 (a:Int))<$>Rtype.kind t) #[.pointer (some ⟨6,73,none⟩)]).run Tryz.prog w=.ok (.int .u8 25) w:=aE
theorem rlm(z:Sem Value)(f:TypeId→Addr→Nat→Nat→Sem Value)(v:Value):
  ReflectliteValue.method z f #[v]=(do match←ReflectliteValue.parts v with|none=>z|some (t,a,fl)=>f t a fl (fl%32)):=rfl
theorem I8(a:Addr)(w:World):(ReflectliteValue.parts (.agg #[.pointer (some ⟨6,76,none⟩),.pointer (some a),.int .u64 150])).run Tryz.prog w=.ok (some (76,a,150)) w:=aE
theorem Db(a p:Addr)(W:World)(ha:W.cell? a=some (.pointer (some p))):
  (ReflectliteValue.method (ReflectliteValue.valueError "reflectlite.Value.IsNil" 0) ReflectliteValue.isNil #[.agg #[.pointer (some ⟨6,76,none⟩), .pointer (some a), .int .u64 150]]).run Tryz.prog W= .ok (.bool false) W:=by
 rw[rlm];simp only[Sem.run_bind,I8,Result.andThen];simp[ReflectliteValue.isNil,loadVar,isAgg,underlying,Tryz.underlying76,ha,Result.andThen]
theorem yY(k:Nat)(h:Value)(w:World):(Go.method (k+1) 198 (.agg #[h]) "Elem").run Tryz.prog w= .ok (237, .agg #[h]) w:=by kernel_rfl
theorem tG(k:Nat)(h:Value)(w:World):(Go.method (k+1) 198 (.agg #[h]) "Implements").run Tryz.prog w= .ok (238, .agg #[h]) w:=by kernel_rfl
theorem sC(k:Nat)(h:Value)(w:World):(Go.method (k+1) 198 (.agg #[h]) "AssignableTo").run Tryz.prog w= .ok (235, .agg #[h]) w:=by kernel_rfl
theorem Fv(w:World):(ReflectliteType.method ReflectliteType.elem #[.agg #[.pointer (some ⟨6,76,none⟩)]]).run Tryz.prog w=.ok (.iface 198 (.agg #[.pointer (some ⟨6,73,none⟩)])) w:=aE
theorem xV(w:World):(ReflectliteType.relation "Implements" ReflectliteType.implements_ #[.agg #[.pointer (some ⟨6,73,none⟩)], .iface 198 (.agg #[.pointer (some ⟨6,25,none⟩)])]).run Tryz.prog w= .ok (.bool true) w:=by kernel_rfl
theorem Ba(w:World):(ReflectliteType.relation "AssignableTo" ReflectliteType.assignableTo #[.agg #[.pointer (some ⟨6,71,none⟩)], .iface 198 (.agg #[.pointer (some ⟨6,73,none⟩)])]).run Tryz.prog w= .ok (.bool false) w:=by kernel_rfl
theorem rls(v x:Value):ReflectliteValue.set #[v,x]=(do
  let (some (dst,a,fl),some (src,b,_)):=(←ReflectliteValue.parts v,←ReflectliteValue.parts x)
   |unsupported (.noEntry "extern/(internal/reflectlite.Value).Set.zeroValue")
  if fl/ReflectliteValue.flagAddr%2==0 then unsupported (.noEntry "extern/(internal/reflectlite.Value).Set.unaddressable")
  let val←loadVar src b
  if←Rtype.directlyAssignable dst src then storeVar dst a val
  else if←Rtype.implements dst src then
   if(←Rtype.kind src)==20 then
    match val with
    |.nilIface=>unsupported (.noEntry "extern/reflectlite: a nil value of one interface type handed on as a value of another")
    |_=>storeVar dst a val
   else storeVar dst a (.iface src val)
  else panicString ("reflectlite.Set: value of type " ++(←Rtype.spelt src)++ " is not assignable to type " ++(←Rtype.spelt dst))
  pure (.tuple #[])):=rfl
theorem Aa:Extern.find Tryz.f81=some (fun args=>ReflectliteValue.unpack (args.getD 0 (.tuple #[]))):=aE
theorem Dc:Extern.find Tryz.f82=some (ReflectliteValue.methodAny (ReflectliteValue.valueError "reflectlite.Value.Type" 0) (fun t _ _ _=>ReflectliteType.toType t)):=by kernel_rfl
theorem BY:Extern.find Tryz.f83=some (ReflectliteValue.method (ReflectliteValue.valueError "reflectlite.Value.IsNil" 0) ReflectliteValue.isNil):=by kernel_rfl
theorem Dd:Extern.find Tryz.f222=some (ReflectliteType.abiMethod fun t=>do pure (.int .u8 (←Rtype.kind t))):=aE
theorem De:Extern.find Tryz.f237=some (ReflectliteType.method ReflectliteType.elem):=aE
theorem xC:Extern.find Tryz.f238=some (ReflectliteType.relation "Implements" ReflectliteType.implements_):=by kernel_rfl
theorem xD:Extern.find Tryz.f235=some (ReflectliteType.relation "AssignableTo" ReflectliteType.assignableTo):=by kernel_rfl
def rtF:Value:=.iface 198 (.agg #[.pointer (some ⟨6,73,none⟩)])
theorem Bb(v:Value)(w:World):(Instr.typeAssert (.iface 71 v) 25 202 true).run Tryz.prog w=.ok (.tuple #[.nilIface,.bool false]) w:=run_typeAssert_lacksB Tryz.underlying202 aE aE v 25 w
theorem GY(n:Int)(x rv:Value)(hrv:∃cs:Array Value,rv=.agg cs)(w:World):
  Calls Tryz.prog 84 #[nJ n,x,rv,rtF] w fun e w'=>e=.returned (.bool false)∧Below w.heap.size w w':=by
 obtain⟨cs,rfl⟩:=hrv;unfold nJ rtF;have h40:=@run_callFunc_extern Tryz.prog 86 _ _ Tryz.func86 aE aE aE uY
 have h102:=@run_callFunc_extern Tryz.prog 235 _ _ Tryz.func235 aE aE aE xD;have tO:=tN
 have mA:=sC;have aF:=Ba
 have t1:=Bb;have t2:=vA
 have t3:=tP;go_enter Tryz.func84,Tryz.ntmps84;go_wp2_with fail;refine wp_loop_rounds 1 ?_;rw[rounds_succ];go_wp2_with fail;go_ret;exact bP
def ErrT(w:World):Prop:=w.cell? ⟨0,0,none⟩=some (.iface 198 (.agg #[.pointer (some ⟨6,25,none⟩)]))∧0<w.heap.size
theorem KF(n:Int)(t:Nat)(w:World)(hG:ErrT w):
  Calls Tryz.prog 37 #[nJ n,.iface 76 (.pointer (some ⟨t,0,none⟩))] w fun e w'=>
   e=.returned (.bool false)∧Below w.heap.size w w':=by
 unfold nJ;have h52:=@run_callFunc_extern Tryz.prog 81 _ _ Tryz.func81 aE aE aE Aa
 have h53:=@run_callFunc_extern Tryz.prog 82 _ _ Tryz.func82 aE aE aE Dc;have h54:=@run_callFunc_extern Tryz.prog 83 _ _ Tryz.func83 aE aE aE BY
 have h94:=@run_callFunc_extern Tryz.prog 222 _ _ Tryz.func222 aE aE aE Dd;have h104:=@run_callFunc_extern Tryz.prog 237 _ _ Tryz.func237 aE aE aE De
 have h105:=@run_callFunc_extern Tryz.prog 238 _ _ Tryz.func238 aE aE aE xC;have vT:=A9
 have tT:=Fs;have mK:=yX
 have kT:=Ft;have kF:=Fu
 have mE:=yY;have eT:=Fv
 have mI:=tG;have iF:=xV
 have n54:=Db ⟨w.heap.size,0,none⟩ ⟨t,0,none⟩ ((w.alloc (.cells #[.pointer (some ⟨t,0,none⟩)] 76)).alloc (.cells #[.pointer (some ⟨6,76,none⟩),.pointer (some ⟨w.heap.size,0,none⟩),.int .u64 150] 137))
  ((rL eZ).trans (vO _ _ _ _))
 have hg2:((w.alloc (.cells #[.pointer (some ⟨t,0,none⟩)] 76)).alloc (.cells #[.pointer (some ⟨6,76,none⟩),.pointer (some ⟨w.heap.size,0,none⟩),.int .u64 150] 137)).cell? ⟨0,0,none⟩=some (.iface 198 (.agg #[.pointer (some ⟨6,25,none⟩)])):=
  (rL jO).trans ((rL hG.2).trans hG.1)
 go_enter Tryz.func37,Tryz.ntmps37;go_wp2_with fail;refine(GY n _ _ ⟨_,rfl⟩ _).mono ?_;rintro e w1 ⟨rfl,h2⟩;have H2:=hZ (((((Below.refl w.heap.size w).alloc (Nat.le_refl _) (.cells #[.pointer (some ⟨t,0,none⟩)] 76)).alloc eZ (.cells #[.pointer (some ⟨6,76,none⟩),.pointer (some ⟨w.heap.size,0,none⟩),.int .u64 150] 137)).trans (h2.mono iE)))
 clear h2;go_wp2_with fail;go_ret;exact⟨rfl,H2.out⟩
end Go.Proofs.YtdkedmngeahjiaaGreatDoor
