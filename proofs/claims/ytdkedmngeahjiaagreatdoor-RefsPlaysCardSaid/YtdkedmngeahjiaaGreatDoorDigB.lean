/- Digests in cells: facts, and steps of a walk at rows of 32 cells (for a seat without the store). -/
import Derived.Test.YtdkedmngeahjiaaGreatDoorM28
import Derived.Stop.BytesEq
import Derived.Deep.MidRow
import Derived.Deep.WholeRow
set_option maxRecDepth 100000
set_option maxHeartbeats 25600000
namespace Go.Proofs.YtdkedmngeahjiaaGreatDoor
open Go Go.RowKit
theorem dig_info {d:List UInt8} (hd:d.length=32):(Tryz.prog.info? 33).map (·.size)=some (d.map byteV).length:=by rw [List.length_map,hd];kernel_rfl
theorem dig_info2 {d:List UInt8} (hd:d.length=32):(Tryz.prog.info? 33).map (·.size)=some (d.map byteV).toArray.size:=by rw [List.size_toArray];exact dig_info hd
theorem dig_one (d:List UInt8):(d.map byteV).toArray.all (·.oneCell')=true:=all_oneCell_toArray fun v hv=>by obtain ⟨x,_,rfl⟩:=List.mem_map.1 hv;rfl
theorem dig_und:Tryz.prog.underlying 33=some (.array 32 5):=Tryz.underlying33
theorem dig_size {d:List UInt8} (hd:d.length=32):z32.size=(d.map byteV).toArray.size:=show (32:Nat)=(d.map byteV).length by rw [List.length_map,hd]
theorem dig_range {w:World} {b:Nat} {d:List UInt8} (h:w.heap[b]?=some (.cells (d.map byteV).toArray 33 (0,0))):w.rangeAt b 0 (d.map byteV):=fun j v hv=>by
 rw [Nat.zero_add,cell_of_heapN h,List.getElem?_toArray]
 exact hv
theorem size_u8 (w:World):(Go.sizeOf 5).run Tryz.prog w=.ok 1 w:=by
 obtain ⟨i0,h1,h2⟩:=Option.map_eq_some_iff.1 (show (Tryz.prog.info? 5).map (·.size)=some 1 by kernel_rfl)
 simp [Go.sizeOf,Go.typeInfo,h1,h2,go_sem]
theorem dig_in (w:World) {d e:List UInt8} (hd:d.length=32) (he:e.length=32):(Op.equalIn 10000 33 (.agg (d.map byteV).toArray) (.agg (e.map byteV).toArray)).run Tryz.prog w=.ok (d == e) w :=
 run_equalIn_bytes (P:=Tryz.prog) w 9998 33 5 32 dig_und Tryz.underlying5 size_u8 d e hd he
theorem dig_eql (w:World) {d e:List UInt8} (hd:d.length=32) (he:e.length=32):(binOp .eql 33 (.agg (d.map byteV).toArray) (.agg (e.map byteV).toArray)).run Tryz.prog w=.ok (.bool (d == e)) w :=
 run_eql_bytes w 33 5 32 dig_und Tryz.underlying5 size_u8 d e hd he
theorem dig_neq (w:World) {d e:List UInt8} (hd:d.length=32) (he:e.length=32):(binOp .neq 33 (.agg (d.map byteV).toArray) (.agg (e.map byteV).toArray)).run Tryz.prog w=.ok (.bool (!(d == e))) w:=by
 have h:=run_equalIn_bytes (P:=Tryz.prog) w 9998 33 5 32 dig_und Tryz.underlying5 size_u8 d e hd he
 rw [run_neq_struct]
 have h':(Op.equalIn 10000 33 (.agg (d.map byteV).toArray) (.agg (e.map byteV).toArray)).run Tryz.prog w=.ok (d == e) w:=h
 rw [h']
 rfl
theorem wpList_store_new {P:Program} {ops:Array Oper} {rest:List Oper} {op:Oper} {a:Act} {w:World} {Q:Exit→Act→World→Prop} (hgd:op.guard=none) (ty:TypeId) (x y:Operand) (ho:op.op=.store ty x y) (c c':Array Value) (b:Nat) (hb:b=w.heap.size)
  (hx:a.eval x=.pointer (some ⟨b,0,none⟩)) (hy:a.eval y=.agg c') (hi:(P.info? ty).map (·.size)=some c'.size) (hc:c.size=c'.size) (h1:c'.all (·.oneCell')=true)
  (h:wpList P ops Q rest (a.put op.dst undef) (w.alloc (.cells c' ty))):wpList P ops Q (op :: rest) a (w.alloc (.cells c ty)) :=
 wpList_plain hgd fun _ hK=>by
  subst hb
  unfold Oper.wp execOp
  simp only [ho,hx,hy,Instr.storeAt,Instr.sureAddr,Sem.run_bind,Sem.run_pure,Result.andThen_ok,run_storeVar_new w ty c c' hi hc h1]
  exact hK _ _ h
theorem wpList_load_midG {P:Program} {ops:Array Oper} {rest:List Oper} {op:Oper} {a:Act} {w:World} {Q:Exit→Act→World→Prop} (hw:Region.wanted op (yielded ops a.tmps)=true) (ty:TypeId) (x:Operand) (ho:op.op=.load ty x)
  (b o:Nat) (hx:a.eval x=.pointer (some ⟨b,o,none⟩)) (cs:List Value) (d:TypeDesc) (hc:w.rangeAt b o cs)
  (hu:P.underlying ty=some d) (hd:d.isRow=true) (hi:(P.info? ty).map (·.size)=some cs.length)
  (h:wpList P ops Q rest (a.put op.dst (.agg cs.toArray)) w):wpList P ops Q (op :: rest) a w :=
 wpList_step fun _ hK=>by
  rw [if_pos hw]
  exact wp_load_mid ty x ho b o hx cs d hc hu hd hi (hK _ _ h)
theorem wpList_eqlD {ops:Array Oper} {rest:List Oper} {op:Oper} {a:Act} {w:World} {Q:Exit→Act→World→Prop} (hgd:op.guard=none) (x y:Operand) (ty:TypeId) (ho:op.op=.binOp .eql 33 x y ty) {d e:List UInt8} (hd:d.length=32) (he:e.length=32)
  (hx:a.eval x=.agg (d.map byteV).toArray) (hy:a.eval y=.agg (e.map byteV).toArray) (h:wpList Tryz.prog ops Q rest (a.put op.dst (.bool (d == e))) w):wpList Tryz.prog ops Q (op :: rest) a w:=by
 refine wpList_plain hgd fun K hK=>?_
 have hq:=dig_eql w hd he
 have ht:Tryz.prog.eqGuardType Tryz.prog.depth 33=false:=by kernel_rfl
 have hg:(eqGuard .eql 33 x y (.agg (d.map byteV).toArray) (.agg (e.map byteV).toArray)).run Tryz.prog w=.ok () w:=by
  unfold eqGuard
  have hpr:∀ W:World,(Sem.program Sem.pure).run Tryz.prog W=.ok Tryz.prog W:=fun _=>rfl
  simp [Sem.run_bind,program,hpr,ht,Result.andThen]
 unfold Oper.wp execOp
 simp only [ho,hx,hy,hg,hq,Sem.run_bind,Sem.run_pure,Result.andThen_ok]
 exact hK _ _ h
theorem wpList_neqDG {ops:Array Oper} {rest:List Oper} {op:Oper} {a:Act} {w:World} {Q:Exit→Act→World→Prop} (hw:Region.wanted op (yielded ops a.tmps)=true) (x y:Operand) (ty:TypeId) (ho:op.op=.binOp .neq 33 x y ty) {d e:List UInt8} (hd:d.length=32) (he:e.length=32)
  (hx:a.eval x=.agg (d.map byteV).toArray) (hy:a.eval y=.agg (e.map byteV).toArray) (h:wpList Tryz.prog ops Q rest (a.put op.dst (.bool (!(d == e)))) w):wpList Tryz.prog ops Q (op :: rest) a w:=by
 refine wpList_step fun K hK=>?_
 rw [if_pos hw]
 have hq:=dig_neq w hd he
 have ht:Tryz.prog.eqGuardType Tryz.prog.depth 33=false:=by kernel_rfl
 have hg:(eqGuard .neq 33 x y (.agg (d.map byteV).toArray) (.agg (e.map byteV).toArray)).run Tryz.prog w=.ok () w:=by
  unfold eqGuard
  have hpr:∀ W:World,(Sem.program Sem.pure).run Tryz.prog W=.ok Tryz.prog W:=fun _=>rfl
  simp [Sem.run_bind,program,hpr,ht,Result.andThen]
 unfold Oper.wp execOp
 simp only [ho,hx,hy,hg,hq,Sem.run_bind,Sem.run_pure,Result.andThen_ok]
 exact hK _ _ h
end Go.Proofs.YtdkedmngeahjiaaGreatDoor
