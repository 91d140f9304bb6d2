import Derived.Test.YtdkedmngeahjiaaGreatDoorM22
import Derived.Stop.BytesEq
import Derived.Deep.MidRow
import Derived.Deep.WholeRow
import Derived.Test.YtdkedmngeahjiaaGreatDoorUsed
import Derived.Maps.RangeWalk
set_option maxRecDepth 100000
set_option maxHeartbeats 25600000
namespace Go.Proofs.YtdkedmngeahjiaaGreatDoor
theorem fY{p:Prop}(h:p:=by have:=Option.some.inj e;omega):p:=h
theorem jJ{p:Prop}(h:p:=by cases hj;omega):p:=h
theorem kZ{p:Prop}(h:p:=by have:=HO2.out;rw[Fy]at this;exact this):p:=h
open Go Go.RowKit
theorem oM{d:List UInt8}(hd:d.length=32):(Tryz.prog.info? 33).map (·.size)=some (d.map lG).length:=by rw[List.length_map,hd];kernel_rfl
theorem lX{d:List UInt8}(hd:d.length=32):(Tryz.prog.info? 33).map (·.size)=some (d.map lG).toArray.size:=by rw[List.size_toArray];exact oM hd
theorem nW(d:List UInt8):(d.map lG).toArray.all (·.oneCell')=true:=all_oneCell_toArray fun v hv=>bY
theorem nD:Tryz.prog.underlying 33=some (.array 32 5):=Tryz.underlying33
theorem nE{d:List UInt8}(hd:d.length=32):z32.size=(d.map lG).toArray.size:=show(32:Nat)=(d.map lG).length by rw[List.length_map,hd]
theorem oF{w:World}{b:Nat}{d:List UInt8}(h:w.heap[b]?=some (.cells (d.map lG).toArray 33 (0,0))):w.rangeAt b 0 (d.map lG):=fun j v hv=>by
 rw[Nat.zero_add,lF h,List.getElem?_toArray];exact hv
theorem Ec(w:World):(Go.sizeOf 5).run Tryz.prog w=.ok 1 w:=by
 obtain⟨i0,h1,h2⟩:=Option.map_eq_some_iff.1 (show(Tryz.prog.info? 5).map (·.size)=some 1 by kernel_rfl);simp[Go.sizeOf,Go.typeInfo,h1,h2,go_sem]
theorem GQ(w:World){d e:List UInt8}(hd:d.length=32)(he:e.length=32):(Op.equalIn 10000 33 (.agg (d.map lG).toArray) (.agg (e.map lG).toArray)).run Tryz.prog w=.ok (d==e) w:=
 run_equalIn_bytes (P:=Tryz.prog) w 9998 33 5 32 nD Tryz.underlying5 Ec d e hd he
theorem LU(w:World){d e:List UInt8}(hd:d.length=32)(he:e.length=32):(binOp .eql 33 (.agg (d.map lG).toArray) (.agg (e.map lG).toArray)).run Tryz.prog w=.ok (.bool (d==e)) w:=
 run_eql_bytes w 33 5 32 nD Tryz.underlying5 Ec d e hd he
theorem LV(w:World){d e:List UInt8}(hd:d.length=32)(he:e.length=32):(binOp .neq 33 (.agg (d.map lG).toArray) (.agg (e.map lG).toArray)).run Tryz.prog w=.ok (.bool (!(d==e))) w:=by
 have h:=run_equalIn_bytes (P:=Tryz.prog) w 9998 33 5 32 nD Tryz.underlying5 Ec d e hd he;rw[run_neq_struct];have h':(Op.equalIn 10000 33 (.agg (d.map lG).toArray) (.agg (e.map lG).toArray)).run Tryz.prog w=.ok (d==e) w:=h
 rw[h']
 rfl
theorem lO{P:Program}{ops:Array Oper}{rest:List Oper}{op:Oper}{a:Act}{w:World}{Q:Exit→Act→World→Prop}(hgd:op.guard=none)(ty:TypeId)(x y:Operand)(ho:op.op=.store ty x y)(c c':Array Value)(b:Nat)(hb:b=w.heap.size)
  (hx:a.eval x=.pointer (some ⟨b,0,none⟩)) (hy:a.eval y=.agg c') (hi:(P.info? ty).map (·.size)=some c'.size) (hc:c.size=c'.size) (h1:c'.all (·.oneCell')=true)
  (h:wpList P ops Q rest (a.put op.dst undef) (w.alloc (.cells c' ty))):wpList P ops Q (op::rest) a (w.alloc (.cells c ty)):=
 wpList_plain hgd fun _ hK=>by
  subst hb;unfold Oper.wp execOp;simp only[ho,hx,hy,Instr.storeAt,Instr.sureAddr,Sem.run_bind,Sem.run_pure,Result.andThen_ok,run_storeVar_new w ty c c' hi hc h1];exact hK _ _ h
theorem vQ{P:Program}{ops:Array Oper}{rest:List Oper}{op:Oper}{a:Act}{w:World}{Q:Exit→Act→World→Prop}(hw:Region.wanted op (yielded ops a.tmps)=true)(ty:TypeId)(x:Operand)(ho:op.op=.load ty x)
  (b o:Nat) (hx:a.eval x=.pointer (some ⟨b,o,none⟩)) (cs:List Value) (d:TypeDesc) (hc:w.rangeAt b o cs)
  (hu:P.underlying ty=some d) (hd:d.isRow=true) (hi:(P.info? ty).map (·.size)=some cs.length)
  (h:wpList P ops Q rest (a.put op.dst (.agg cs.toArray)) w):wpList P ops Q (op::rest) a w:=
 wpList_step fun _ hK=>by
  rw[if_pos hw];exact wp_load_mid ty x ho b o hx cs d hc hu hd hi (hK _ _ h)
theorem Fc{ops:Array Oper}{rest:List Oper}{op:Oper}{a:Act}{w:World}{Q:Exit→Act→World→Prop}(hgd:op.guard=none)(x y:Operand)(ty:TypeId)(ho:op.op=.binOp .eql 33 x y ty){d e:List UInt8}(hd:d.length=32)(he:e.length=32)
  (hx:a.eval x=.agg (d.map lG).toArray) (hy:a.eval y=.agg (e.map lG).toArray) (h:wpList Tryz.prog ops Q rest (a.put op.dst (.bool (d==e))) w):wpList Tryz.prog ops Q (op::rest) a w:=by
 refine wpList_plain hgd fun K hK=>?_
 have hq:=LU w hd he;have ht:Tryz.prog.eqGuardType Tryz.prog.depth 33=false:=aE
 have hg:(eqGuard .eql 33 x y (.agg (d.map lG).toArray) (.agg (e.map lG).toArray)).run Tryz.prog w=.ok () w:=by
  unfold eqGuard;have hpr:∀W:World,(Sem.program Sem.pure).run Tryz.prog W=.ok Tryz.prog W:=fun _=>rfl
  simp[Sem.run_bind,program,hpr,ht,Result.andThen]
 unfold Oper.wp execOp;simp only[ho,hx,hy,hg,hq,Sem.run_bind,Sem.run_pure,Result.andThen_ok];exact hK _ _ h
theorem Ed{ops:Array Oper}{rest:List Oper}{op:Oper}{a:Act}{w:World}{Q:Exit→Act→World→Prop}(hw:Region.wanted op (yielded ops a.tmps)=true)(x y:Operand)(ty:TypeId)(ho:op.op=.binOp .neq 33 x y ty){d e:List UInt8}(hd:d.length=32)(he:e.length=32)
  (hx:a.eval x=.agg (d.map lG).toArray) (hy:a.eval y=.agg (e.map lG).toArray) (h:wpList Tryz.prog ops Q rest (a.put op.dst (.bool (!(d==e)))) w):wpList Tryz.prog ops Q (op::rest) a w:=by
 refine wpList_step fun K hK=>?_
 rw[if_pos hw];have hq:=LV w hd he
 have ht:Tryz.prog.eqGuardType Tryz.prog.depth 33=false:=aE
 have hg:(eqGuard .neq 33 x y (.agg (d.map lG).toArray) (.agg (e.map lG).toArray)).run Tryz.prog w=.ok () w:=by
  unfold eqGuard;have hpr:∀W:World,(Sem.program Sem.pure).run Tryz.prog W=.ok Tryz.prog W:=fun _=>rfl
  simp[Sem.run_bind,program,hpr,ht,Result.andThen]
 unfold Oper.wp execOp;simp only[ho,hx,hy,hg,hq,Sem.run_bind,Sem.run_pure,Result.andThen_ok];exact hK _ _ h
open Go.Maps
def mR:List UInt8→Nat
 |[]=>0
 |b::r=>b.toNat+256*mR r
def I2:Nat→Nat→List UInt8
 |0,_=>[]
 |k+1,n=>UInt8.ofNat n::I2 k (n/256)
def rS(n:Nat):List UInt8:=I2 32 n
theorem Fd:∀k n,(I2 k n).length=k
 |0,_=>rfl
 |k+1,n=>by rw[I2,List.length_cons,Fd k]
theorem uG(n:Nat):(rS n).length=32:=Fd 32 n
theorem C6:∀d:List UInt8,I2 d.length (mR d)=d
 |[]=>rfl
 |b::r=>by
  have hb:=b.toNat_lt;rw[List.length_cons,I2,mR]
  have h1:UInt8.ofNat (b.toNat+256*mR r)=b:=by
   refine UInt8.toNat_inj.1 ?_;rw[UInt8.toNat_ofNat'];omega
  have h2:(b.toNat+256*mR r)/256=mR r:=aC;rw[h1,h2,C6 r]
theorem sX{d:List UInt8}(h:d.length=32):rS (mR d)=d:=by
 unfold rS;rw[←h];exact C6 d
theorem Fe:∀{d e:List UInt8},d.map lG=e.map lG→d=e
 |[],[],_=>rfl
 |[],_::_,h=>aK
 |_::_,[],h=>aK
 |x::r,y::s,h=>by
  rw[List.map_cons,List.map_cons]at h;have h1:=(List.cons.inj h).1
  have h2:Value.int .u8 ((x.toNat:Nat):Int)=Value.int .u8 ((y.toNat:Nat):Int):=h1;simp only[Value.int.injEq]at h2;rw[UInt8.toNat_inj.1 (show x.toNat=y.toNat by omega),Fe (List.cons.inj h).2]
theorem I3{d e:List UInt8}(h:(d.map lG).toArray=(e.map lG).toArray):d=e:=Fe (Array.mk.inj h)
noncomputable def oK (v:Value):Option (DataW Unit×List MemPlace):=
 open Classical in
 if h:∃d:List UInt8,d.length=32∧v=nH d then some (.lit (.int .i64 (mR h.choose:Int)),[])else none
theorem zI{d:List UInt8}(h:d.length=32):oK (nH d)=some (.lit (.int .i64 (mR d:Int)),[]):=by
 have he:∃e:List UInt8,e.length=32∧nH d=nH e:=⟨d,h,rfl⟩
 unfold oK;rw[dif_pos he];have h1:=he.choose_spec.2
 have h2:d=he.choose:=I3 (by unfold nH at h1;exact Value.agg.inj h1);rw[←h2]
theorem xT{v:Value}{y:DataW Unit×List MemPlace}(h:oK v=some y):∃d:List UInt8,d.length=32∧v=nH d∧y=(.lit (.int .i64 (mR d:Int)),[]):=by
 unfold oK at h;split at h
 ·rename_i he;exact⟨he.choose,he.choose_spec.1,he.choose_spec.2,(Option.some.inj h).symm⟩
 ·cases h
def LedAt(w:World)(b:Nat)(l:Tab):Prop:=w.ownsMap Tryz.prog 9 oK b l.length (rE l)
theorem yN{w:World}{b n:Nat}{l:Tab}(h:w.ownsMap Tryz.prog 9 oK b n (rE l)):LedAt w b l:=by
 obtain⟨es,clock,hb,F,hs,hD⟩:=h;refine⟨es,clock,hb,F,?_,hD⟩;have e:=DataW.map.inj hD
 have e2:=congrArg List.length e;rw[length_sorted,List.length_map,List.length_map]at e2;have e3:es.toList.length=es.size:=Array.length_toList
 omega
theorem LedAt.rising{w:World}{b:Nat}{l:Tab}(h:LedAt w b l):mF l:=BZ (World.ownsMap.canon h mH) rfl
theorem LedAt.lt{w:World}{b:Nat}{l:Tab}(h:LedAt w b l):b<w.heap.size:=World.ownsMap.lt h
theorem LedAt.keep{w w':World}{b:Nat}{l:Tab}(h:LedAt w b l)(hb:w'.heap[b]?=w.heap[b]?):LedAt w' b l:=by
 obtain⟨es,clock,h1,r⟩:=h;exact⟨es,clock,hb.trans h1,r⟩
theorem LedAt.below{w w':World}{b:Nat}{l:Tab}(h:LedAt w b l)(hb:Below w.heap.size w w'):LedAt w' b l:=h.keep (hb.block b h.lt)
theorem LX(l:Tab)(s:Bs):Maps.has (rE l) (.string s)=(lS l s).isSome:=by
 show List.any (l.map qS) (fun p=>p.1.sameKey (.string s))=_;unfold lS;rw[List.any_map,Option.isSome_map]
 induction l with
 |nil=>rfl
 |cons p r ih=>
  rw[List.any_cons,List.find?_cons,ih];have e:((fun p:Lit×DataW Unit=>p.1.sameKey (.string s))∘qS) p=(p.1==s):=rfl
  rw[e];cases p.1==s<;>rfl
theorem GR(s:ByteArray)(h:s.size≤maxLen):keyOf Tryz.prog 9 (.string s)=some (.string s.data.toList):=B5 h
theorem I4(w:World):(zeroValue 33).run Tryz.prog w=.ok (nH zeroD) w:=aE
theorem uX:Tryz.prog.underlying 40=some (.map 9 33):=Tryz.underlying40
def Ee(o:Option Nat):List UInt8:=match o with
 |some c=>rS c
 |none=>zeroD
theorem vR(o:Option Nat):(Ee o).length=32:=by
 cases o with
 |none=>rfl
 |some c=>exact uG c
section
variable {w:World} {ops:Array Oper} {rest:List Oper} {o:Oper} {a:Act} {Q:Exit→Act→World→Prop}
theorem pM(hg:o.guard=none)(m x:Operand)(hop:o.op=Op.lookup 40 m x true)(b:Nat)(l:Tab)
  (hm:a.eval m=.map (some b)) (hown:LedAt w b l) (s:ByteArray) (hs:s.size≤maxLen) (hx:a.eval x=.string s)
  (hK:wpList Tryz.prog ops Q rest (a.put o.dst (.tuple #[.agg ((Ee (lS l s.data.toList)).map lG).toArray,.bool (lS l s.data.toList).isSome])) w):
  wpList Tryz.prog ops Q (o::rest) a w:=by
 refine wpList_lookup_own_ok w hg m x _ hop 9 33 mH uX oK (I4 w) _ _ (zI (d:=zeroD) rfl) b _ _ hm hown _ _ hx (GR s hs) ?_;intro v ps hv;obtain⟨d,hd,rfl,hy⟩:=xT hv;rw[LX];have h1:=(Prod.mk.inj hy).1
 rw[BB]at h1
 have h2:d=Ee (lS l s.data.toList):=by
  cases ht:lS l s.data.toList with
  |some c=>
   rw[ht]at h1;simp only[DataW.lit.injEq,Lit.int.injEq,true_and]at h1;have h3:c=mR d:=aC
   show d=rS c;rw[h3,sX hd]
  |none=>
   rw[ht]at h1;simp only[DataW.lit.injEq,Lit.int.injEq,true_and]at h1;have h3:mR zeroD=mR d:=aC
   have h4:rS (mR zeroD)=zeroD:=sX rfl;show d=zeroD
   rw[←h4,h3,sX hd]
 rw[h2];exact hK
theorem xU(hg:o.guard=none)(m:Operand)(hop:o.op=Op.call {callee:=Callee.builtin Builtin.len,args:=#[m],argTypes:=#[40]})
  (b:Nat) (l:Tab) (hm:a.eval m=.map (some b)) (hown:LedAt w b l) (hK:wpList Tryz.prog ops Q rest (a.put o.dst (.int .i64 (l.length:Int))) w):
  wpList Tryz.prog ops Q (o::rest) a w:=by
 refine wpList_len_own w hg m _ hop 9 33 uX oK b _ _ hm hown ?_;have e:Maps.size (rE l)=l.length:=List.length_map ..
 rw[e];exact hK
theorem Bu(hg:o.guard=none)(it:Operand)(hop:o.op=Op.next it false)(b r n:Nat)(D:DataW Unit)(left:Lit→Bool)(cnt:Nat)
  (hit:a.eval it=.pointer (some ⟨r,0,none⟩)) (h:w.ranges Tryz.prog 9 oK b r n D left cnt)
  (hDone:cnt=0→(∀kl,left kl=false)→wpList Tryz.prog ops Q rest (a.put o.dst (.tuple #[.bool false])) w)
  (hMore:∀(k:Bs) (d:List UInt8) (w':World) (cnt':Nat),(⟨k.toArray⟩:ByteArray).size≤maxLen→d.length=32→left (.string k)=true→(∀zd,D.atKey (.string k) zd=.lit (.int .i64 (mR d:Int)))→w'.ranges Tryz.prog 9 oK b r n D (fun z=>left z&& !z.sameKey (.string k)) cnt'→cnt'<cnt→
   w.grownBy w' (some r)→w'.heap.size=w.heap.size→(Instr.entry (.pointer (some ⟨r,0,none⟩))).run Tryz.prog w'=.ok (.tuple #[.string ⟨k.toArray⟩,.agg (d.map lG).toArray]) w'→wpList Tryz.prog ops Q rest (a.put o.dst (.tuple #[.bool true,.string ⟨k.toArray⟩,.agg (d.map lG).toArray])) w'):
  wpList Tryz.prog ops Q (o::rest) a w:=by
 refine wpList_next_ranges w hg it hop 9 mH oK Go.Proofs.encStr nH (fun key kl hk=>by obtain⟨x,h1,h2⟩:=Maps.keyOf_str Tryz.underlying9 hk;exact⟨x,h1⟩) (fun v y hv=>by obtain⟨d,-,h2,-⟩:=xT hv;exact⟨d,h2⟩) b r n D left cnt hit h hDone ?_;intro x c kl y w' cnt' hkey hlk hv hat hrg hlt hgr hsz hen;obtain⟨x',e1,rfl,hxs⟩:=Maps.keyOf_str Tryz.underlying9 hkey;obtain rfl:=Go.encStr_inj e1;obtain⟨d,hd,e2,rfl⟩:=xT hv;rw[e2]at hen⊢;exact hMore x d w' cnt' hxs hd hlk hat hrg hlt hgr hsz hen
end
def vS(l:Tab)(k:Bs)(c:Nat)(gone:Bool):Tab:=if gone then nF (oJ l k c) k else oJ l k c
theorem vU(w:World)(b:Nat)(l:Tab)(hown:LedAt w b l)(hl:l.length≤1000000)(s:ByteArray)(hs:s.size≤maxLen)(D:List UInt8)(hD:D.length=32)(gone:Bool):
  Calls Tryz.prog 16 #[.map (some b),.string s,nH D,.bool gone] w fun e w'=>∃q,e=.returned (.map (some q))∧w.heap.size≤q∧LedAt w' q (vS l s.data.toList (mR D) gone)∧Below w.heap.size w w':=by
 have hbl:=hown.lt;have hI:=oM hD
 have hI2:=lX hD;have hU:=nD
 have hmm:=@run_makeMap Tryz.prog;have HO:=hZ hown
 have HDL:=hZ hD;have HKS:=hZ (GR s hs)
 have HEM:=hZ (zI hD)
 obtain⟨W1,hW1⟩:∃W,w.alloc (.cells (D.map lG).toArray 33)=W:=⟨_,rfl⟩
 have hb1:Below w.heap.size w W1:=aQ;have hx1:W1.heap[w.heap.size]?=some (.cells (D.map lG).toArray 33 (0,0)):=cB
 have HB1:=hZ hb1;have HX1:=hZ hx1
 have hz1:W1.heap.size=w.heap.size+1:=by rw[←hW1,World.size_alloc]
 have HZ1:=hZ hz1;unfold nH;clear hown hs hb1 hx1 hz1 hD;go_enter Tryz.func16,Tryz.ntmps16;go_wp2_with (at_range;refine wpList_range_own _ rfl _ 40 rfl 9 33 mH uX oK b _ _ rfl ((HO.out.below HB1.out).alloc _) ?_;intro w0 hrg0 hg0 hs0);go_frame;have e1:(W1.alloc (.map #[] 0)).heap.size=w.heap.size+2:=by rw[World.size_alloc,HZ1.out]
 have e2:W1.heap.size=w.heap.size+1:=HZ1.out;rw[e1]at hrg0 hs0
 have hout0:w0.ownsMap Tryz.prog 9 oK (w.heap.size+1) 0 (.map []):=by
  have h1:=(World.ownsMap_made W1 Tryz.prog 9 oK).kept hg0 eZ;rw[e2]at h1;exact h1
 have HB0:Hid (Below w.heap.size w w0):=hZ ((HB1.out.alloc (by rw[e2];omega) _).grown hg0 (by rw[World.size_alloc,e2];omega) (fun j hj=>by cases hj));have HX0:Hid (w0.heap[w.heap.size]?=some (.cells (D.map lG).toArray 33 (0,0))):=hZ ((hg0.block _ (by rw[World.size_alloc,e2];omega) eZ).trans ((Below.heap_alloc W1 _ _ (by rw[e2];omega)).trans HX1.out))
 have HR0:=hZ hrg0;have HOUT0:=hZ hout0
 have HS0:Hid (w0.heap.size=w.heap.size+3):=hZ hs0;have hcan:=World.ownsMap.canon HO.out mH
 have HCAN:=hZ hcan;clear hrg0 hg0 hs0 hout0 hcan
 try simp only[e1,e2]
 go_loopw [] (fun wr=>∃(left:Lit→Bool) (cnt:Nat) (Dout:DataW Unit),Hid (wr.ranges Tryz.prog 9 oK b (w.heap.size+2) l.length (rE l) left cnt)∧Hid (cnt≤l.length∧wr.ownsMap Tryz.prog 9 oK (w.heap.size+1) (l.length-cnt) Dout∧Agree Dout (rE l) left)∧Hid (Below w.heap.size w wr∧w.heap.size+3≤wr.heap.size)∧Hid (wr.heap[w.heap.size]?=some (.cells (D.map lG).toArray 33 (0,0))))
  (fun wr=>wr.rangeLeft b (w.heap.size+2))
 case atStart=>
  have hsz:Maps.size (rE l)=l.length:=List.length_map ..;exact⟨_,_,.map [],HR0,hZ ⟨by rw[hsz];exact Nat.le_refl _,HOUT0.out.mono (Nat.zero_le _),agree_start (rE l)⟩,hZ ⟨HB0.out,by rw[HS0.out];exact Nat.le_refl _⟩,HX0⟩
 case round=>
  obtain⟨left,cnt,Dout,HRG,HA,HB,HX⟩:=hrel;go_wp2_with (at_next;refine Bu rfl _ rfl b (w.heap.size+2) _ _ left cnt rfl HRG.out ?_ ?_)
  ·intro hc0 hl0;subst hc0;have hout:=HA.out.2.1
   have e:=agree_end HA.out.2.2 hl0 (hout.canon mH) HCAN.out;subst e;have HL0:=hZ (yN hout)
   have HRX:=hZ (oF HX.out);clear hout hl0;have hlm:l.length<maxLen:=cT
   cases gone with
   |false=>
    go_wp2_with (first|refine wpList_load_mid rfl _ _ rfl w.heap.size 0 rfl (D.map lG) _ HRX.out hU rfl hI ?_|(at_mapUpdate;refine wpList_mapUpdate_in _ rfl _ _ _ 40 rfl 9 33 mH uX oK (w.heap.size+1) _ _ rfl HL0.out aC _ _ _ rfl rfl HKS.out _ _ HEM.out ?_;intro w2 hown2 hturn2;have HO2:=hZ hown2;have HT2:=hZ hturn2;clear hown2 hturn2));go_ret;exact⟨_,rfl,aC,yN kZ,HB.out.1.grown HT2.out.grown HB.out.1.size (fun j hj=>jJ)⟩
   |true=>
    go_wp2_with (first|refine wpList_load_mid rfl _ _ rfl w.heap.size 0 rfl (D.map lG) _ HRX.out hU rfl hI ?_|(at_mapUpdate;refine wpList_mapUpdate_in _ rfl _ _ _ 40 rfl 9 33 mH uX oK (w.heap.size+1) _ _ rfl HL0.out aC _ _ _ rfl rfl HKS.out _ _ HEM.out ?_;intro w2 hown2 hturn2;have HO2:=hZ hown2;have HT2:=hZ hturn2;clear hown2 hturn2)|(at_delete;refine wpList_delete_own _ rfl _ _ 40 9 rfl 33 mH uX oK (w.heap.size+1) _ _ rfl (yN kZ) _ _ rfl HKS.out ?_;intro w3 hown3 hturn3;have HO3:=hZ hown3;have HT3:=hZ hturn3;clear hown3 hturn3));go_ret;have hb2:=HB.out.1.grown HT2.out.grown HB.out.1.size (fun j hj=>jJ)
    exact⟨_,rfl,aC,yN (by have:=HO3.out;rw[Fw]at this;exact this),hb2.grown HT3.out.grown hb2.size (fun j hj=>jJ)⟩
  ·intro k d w1 cnt1 hks hd hlk hat hrg1 hlt hg1 hs1 hen;have hid:=oM hd
   have hid2:=lX hd;have hd1:=nW d
   have hdz:=nE hd;have hout1:=HA.out.2.1.kept hg1 eZ
   have HRG1:=hZ hrg1;have HOUT1:=hZ hout1
   have HG1:=hZ hg1;have HS1:=hZ hs1
   have HLT:=hZ hlt;have HAT:=hZ hat
   have HKK:=hZ (GR ⟨k.toArray⟩ hks);have HEK:=hZ (zI hd)
   clear hrg1 hout1 hg1 hs1 hlt hat hks hlk hd;go_wp2_with (first|(refine lO rfl _ _ _ rfl _ (d.map lG).toArray _ rfl rfl rfl hid2 hdz hd1 ?_;(obtain⟨W4,hW4⟩:∃W,w1.alloc (.cells (d.map lG).toArray 33)=W:=⟨_,rfl⟩;have hx4:W4.heap[w1.heap.size]?=some (.cells (d.map lG).toArray 33 (0,0)):=jE;have HRX4:=hZ (oF hx4);have HOUT4:Hid (W4.ownsMap Tryz.prog 9 oK (w.heap.size+1) (l.length-cnt) Dout):=hZ (by rw[←hW4];exact HOUT1.out.alloc _);have HRG4:Hid (W4.ranges Tryz.prog 9 oK b (w.heap.size+2) l.length (rE l) (fun z=>left z&& !z.sameKey (.string k)) cnt1):=hZ (by rw[←hW4];exact HRG1.out.alloc _);have HB4:Hid (Below w1.heap.size w1 W4):=hZ bB;rw[hW4];clear hW4 hx4))|refine wpList_load_mid rfl _ _ rfl w1.heap.size 0 rfl (d.map lG) _ HRX4.out hU rfl hid ?_|(at_mapUpdate;refine wpList_mapUpdate_in _ rfl _ _ _ 40 rfl 9 33 mH uX oK (w.heap.size+1) _ _ rfl HOUT4.out cT _ _ _ rfl rfl HKK.out _ _ HEK.out ?_;intro w2 hown2 hturn2;have HO2:=hZ hown2;have HT2:=hZ hturn2;clear hown2 hturn2));have hsz:=HS1.out
   have hszb:=HB.out.2;have hg2:=HT2.out.grown
   have hrg2:=HRG4.out.kept hg2 (fun e=>fY) (fun e=>fY);have hbw1:Below w.heap.size w w1:=HB.out.1.grown HG1.out HB.out.1.size (fun j hj=>jJ)
   have hbw4:=hbw1.trans (HB4.out.mono hbw1.size);have hbw2:=hbw4.grown hg2 hbw4.size (fun j hj=>jJ)
   have hx2:w2.heap[w.heap.size]?=some (.cells (D.map lG).toArray 33 (0,0)):=(hg2.block _ (by have:=HB4.out.size;omega) (fun e=>fY)).trans ((HB4.out.block _ aC).trans ((HG1.out.block _ aC (fun e=>fY)).trans HX.out));refine⟨⟨_,cnt1,hZ hrg2,⟨_,hZ ⟨by have:=HA.out.1;have:=HLT.out;omega,HO2.out.mono (by have:=HA.out.1;have:=HLT.out;omega),agree_step HA.out.2.2 HA.out.2.1.isMap trivial HAT.out⟩⟩,hZ ⟨hbw2,by have:=hg2.size;have:=HB4.out.size;omega⟩,hZ hx2⟩,?_⟩;rw[hrg2.left_eq,HRG.out.left_eq];exact HLT.out
end Go.Proofs.YtdkedmngeahjiaaGreatDoor
