import Derived.Test.YtdkedmngeahjiaaGreatDoorM30
import Derived.Test.YtdkedmngeahjiaaGreatDoorRows
import Derived.LaidLaws
import Derived.LaidHandle
import Derived.Deep.DeepHandedRow
import Derived.Deep.DeepLaidRun
set_option maxRecDepth 100000
set_option maxHeartbeats 25600000
namespace Go.Proofs.YtdkedmngeahjiaaGreatDoor
open Go Go.ChangeShapes Go.WideShapes Go.ChangeAt Go.RowKit
theorem own:ownKnob Tryz.prog.godebug=none:=aE
theorem NG:Tryz.prog.globalNamed "errors.errorType" =some 0:=by kernel_rfl
theorem rType:(Tryz.prog.cutTypes.find? (·.1== "internal/reflectlite.rtype")).map (·.2)=some 198:=by kernel_rfl
theorem J8:∃n,Tryz.prog.types.size=n∧((List.range n).filter fun t=>Tryz.prog.rowNamed t [101,114,114,111,114])=[25]:=⟨_,rfl,aE⟩
theorem Nr:typeHandle Tryz.prog 25=.pointer (some ⟨6,25,none⟩):=aE
theorem Mz{W:World}(h:handlesMet Tryz.prog [("errors.errorType",Rows.laid_errors_errorType)] W):ErrT W:=by
 obtain⟨name,u,ty,e1,e2,e3,e4,e5⟩:=h _ (List.mem_singleton.2 rfl);have en:name=[101,114,114,111,114]:=(Option.some.inj e1).symm
 subst en;obtain rfl:=Option.some.inj (rType.symm.trans e2);obtain⟨n,hn,hr⟩:=J8;have hm:ty∈(List.range n).filter fun t=>Tryz.prog.rowNamed t [101,114,114,111,114]:=List.mem_filter.2 ⟨List.mem_range.2 (by rw[←hn];exact e3),e4⟩
 rw[hr]at hm;obtain rfl:=List.mem_singleton.1 hm;rw[Nr]at e5;have hc:W.cell? ⟨0,0,none⟩=some (.iface 198 (.agg #[.pointer (some ⟨6,25,none⟩)])):=by simpa using World.var?_cell NG e5 0
 refine⟨hc,?_⟩;unfold World.cell? at hc;split at hc
 ·rename_i hh;exact lH hh
 ·cases hc
def MI:DataW Unit→Value
 |.lit (.int k n)=>.int k n
 |_=>undef
def MJ:DataW Unit→List Value
 |.agg ps=>ps.flatMap fun
  |.agg qs=>qs.map MI
  |d=>[MI d]
 |_=>[]
def Lv(l:List Value):Obj→Obj
 |.cells _ t frozen=>.cells l.toArray t frozen
 |o=>o
end Go.Proofs.YtdkedmngeahjiaaGreatDoor
