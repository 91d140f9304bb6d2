/- Texts of the seat, one behind the other: Texts, RfErr. -/
import Derived.Test.YtdkedmngeahjiaaGreatDoorM18
import Derived.Test.YtdkedmngeahjiaaGreatDoorM16
import Derived.Test.YtdkedmngeahjiaaGreatDoorM11
set_option maxRecDepth 100000
set_option maxHeartbeats 25600000
/- Contracts of Plain and SameTexts. -/
namespace Go.Proofs.YtdkedmngeahjiaaGreatDoor
open Go Go.RowKit Go.Maps Go.Shelf
theorem ErrT.below {w w':World} (h:ErrT w) {B:Nat} (hb:Below B w w') (hB:0 < B):ErrT w' :=
 ⟨(hb.cell (p:=⟨0,0,none⟩) hB).trans h.1,Nat.lt_of_lt_of_le h.2 hb.size⟩
theorem ErrT.alloc {w:World} (h:ErrT w) (o:Obj):ErrT (w.alloc o):=h.below ((Below.refl w.heap.size w).alloc (Nat.le_refl _) o) h.2
theorem errE_nz {x:Int} (h:x≠0):errE x=errV x:=by unfold errE;rw [if_neg h]
theorem plain_E (x:Int) (hx:x=0∨(1≤x∧x≤32)) (n:Int) (w:World) (hG:ErrT w) :
  Calls Tryz.prog 10 #[errE x,.int .i64 n] w fun e w'=>e=.returned (.bool (x == n))∧Below w.heap.size w w':=by
 by_cases h0:x=0
 ·subst h0
  have hn:=fun W=>num_nil W
  cases hc:((0:Int) == n) with
  |true =>
   obtain rfl:(0:Int)=n:=by simpa using hc
   show Calls _ _ #[.nilIface,_] _ _
   go_enter Tryz.func10,Tryz.ntmps10
   go_wp2_with (go_at_call 36;refine (hn _).mono ?_;rintro e w1 ⟨rfl,rfl⟩)
   go_ret
   exact ⟨rfl,(Below.refl _ _).alloc (Nat.le_refl _) _⟩
  |false =>
   have hne:¬ (0:Int)=n:=by simpa using hc
   show Calls _ _ #[.nilIface,_] _ _
   go_enter Tryz.func10,Tryz.ntmps10
   go_wp2_with (go_at_call 36;refine (hn _).mono ?_;rintro e w1 ⟨rfl,rfl⟩)
   go_ret
   exact ⟨by simp [hc],(Below.refl _ _).alloc (Nat.le_refl _) _⟩
 ·have hx1:1≤x∧x≤32:=by omega
  rw [errE_nz h0]
  have hn:=fun W=>num_any _ _ x W (isNum_errno x) hx1.1 hx1.2
  have ha:=fun W (hE:ErrT W)=>as_errno x w.heap.size W hE
  unfold errV at ha ⊢
  cases hc:(x == n) with
  |true =>
   obtain rfl:x=n:=by simpa using hc
   go_enter Tryz.func10,Tryz.ntmps10
   go_wp2_with (first
    |(go_at_call 36;refine (hn _).mono ?_;rintro e w1 ⟨rfl,hb⟩;have HB:=hZ (((Below.refl w.heap.size w).alloc (Nat.le_refl _) _).trans (hb.mono (by simp)));clear hb)
    |(go_at_call 37;refine (ha _ (hG.below HB.out hG.2)).mono ?_;rintro e w2 ⟨rfl,hb⟩;have HB2:=hZ (HB.out.trans (hb.mono HB.out.size));clear hb))
   go_ret
   exact ⟨rfl,HB2.out⟩
  |false =>
   have hne:¬ x=n:=by simpa using hc
   go_enter Tryz.func10,Tryz.ntmps10
   go_wp2_with (first
    |(go_at_call 36;refine (hn _).mono ?_;rintro e w1 ⟨rfl,hb⟩;have HB:=hZ (((Below.refl w.heap.size w).alloc (Nat.le_refl _) _).trans (hb.mono (by simp)));clear hb))
   go_ret
   exact ⟨by simp [hc],HB.out⟩
def TextsRd (w:World) (v:Value) (l:List ByteArray):Prop:=∃ p cap,v=.slice p l.length cap∧∀ (i:Nat) (s:ByteArray),l[i]?=some s→∃ b off,p=some ⟨b,off,none⟩∧b < w.heap.size∧w.cell? ⟨b,off+i,none⟩=some (.string s)
theorem OwnTexts.rd {B:Nat} {w:World} {v:Value} {l:List ByteArray} (h:OwnTexts B w v l):TextsRd w v l:=by
 obtain ⟨p,cap,rfl,h1⟩:=row_at h
 refine ⟨p,cap,rfl,fun i s hs=>?_⟩
 obtain ⟨g,cs,e,hg,hc⟩:=h1 i (strV s) (by rw [List.getElem?_map,hs];rfl)
 exact ⟨g,0,e,blk_lt hg,by rw [Nat.zero_add,cell_of_heapN hg];exact hc⟩
theorem TextsRd.below {w w':World} {v:Value} {l:List ByteArray} (h:TextsRd w v l) (hb:Below w.heap.size w w'):TextsRd w' v l:=by
 obtain ⟨p,cap,rfl,h1⟩:=h
 refine ⟨p,cap,rfl,fun i s hs=>?_⟩
 obtain ⟨b,off,e,h2,h3⟩:=h1 i s hs
 exact ⟨b,off,e,Nat.lt_of_lt_of_le h2 hb.size,(hb.cell (p:=⟨b,off+i,none⟩) h2).trans h3⟩
theorem TextsRd.len {w:World} {v:Value} {l:List ByteArray} (h:TextsRd w v l):∃ p cap,v=.slice p l.length cap:=by
 obtain ⟨p,cap,rfl,_⟩:=h
 exact ⟨p,cap,rfl⟩
def sameT (a b:List ByteArray):Bool:=decide (a=b)
theorem same_texts (w:World) (v u:Value) (a b:List ByteArray) (ha:TextsRd w v a) (hb:TextsRd w u b) (hl:a.length≤8000000000000) :
  Calls Tryz.prog 66 #[v,u] w fun e w'=>e=.returned (.bool (sameT a b))∧Below w.heap.size w w':=by
 obtain ⟨p,cap,rfl,ha⟩:=ha
 obtain ⟨q,cap2,rfl,hb⟩:=hb
 have HA:=hZ ha
 have HB:=hZ hb
 clear ha hb
 by_cases hlen:(a.length:Int)=(b.length:Int)
 ·obtain ⟨N,hN⟩:∃ N,a.length=N:=⟨_,rfl⟩
  have hN2:b.length=N:=by omega
  rw [hN,hN2]
  have hNi:(N:Int)≤8000000000000:=by omega
  have HNA:=hZ hN
  have HNB:=hZ hN2
  clear hN hN2 hlen hl
  go_enter Tryz.func66,Tryz.ntmps66
  go_wp2_with fail
  go_loopw [5] (fun iv wr=>∃ i:Nat,i≤N∧iv=.int .i64 i∧Hid (a.take i=b.take i)∧Hid (Below w.heap.size w wr)) (fun iv _=>(N - intOf iv).toNat)
  case atStart=>exact ⟨0,Nat.zero_le _,rfl,rfl,Below.refl _ _⟩
  case round =>
   obtain ⟨i,hi,rfl,HE,HW⟩:=hrel
   by_cases hlt:(i:Int) < (N:Int)
   ·obtain ⟨x,hx⟩:∃ x,a[i]?=some x:=⟨_,List.getElem?_eq_getElem (by have:=HNA.out;have:=HNB.out;omega)⟩
    obtain ⟨y,hy⟩:∃ y,b[i]?=some y:=⟨_,List.getElem?_eq_getElem (by have:=HNA.out;have:=HNB.out;omega)⟩
    obtain ⟨b1,o1,rfl,hb1,hc1⟩:=HA.out i x hx
    obtain ⟨b2,o2,rfl,hb2,hc2⟩:=HB.out i y hy
    have c1:wr.cell? ⟨b1,o1+i,none⟩=some (.string x):=(HW.out.cell (p:=⟨b1,o1+i,none⟩) hb1).trans hc1
    have c2:wr.cell? ⟨b2,o2+i,none⟩=some (.string y):=(HW.out.cell (p:=⟨b2,o2+i,none⟩) hb2).trans hc2
    have HX:=hZ hx
    have HY:=hZ hy
    clear hx hy hc1 hc2 hb1 hb2
    by_cases hxy:x=y
    ·subst hxy
     have HN:=hZ (show a.take (i+1)=b.take (i+1) by rw [List.take_add_one,List.take_add_one,HX.out,HY.out,HE.out])
     go_wp2_with fail
     refine wp_region_tailD 8 mixedD (by kernel_rfl) ?_
     simp only [List.take_succ_cons,List.take_zero,List.drop_succ_cons,List.drop_zero]
     repeat still_step
     refine wpStill_nil ?_
     go_wp2_with fail
     go_roundw
     case rel=>exact ⟨i+1,by omega,rfl,HN,HW.out.drew⟩
     case measure=>simp [intOf];omega
    ·have e:sameT a b=false:=by
      unfold sameT
      rw [decide_eq_false_iff_not]
      rintro rfl
      have h1:=HX.out
      rw [HY.out] at h1
      cases h1
      exact hxy rfl
     have hne:(x.toList == y.toList)=false:=beq_eq_false_iff_ne.2 fun h=>hxy (by
      rw [ByteArray.toList_eq,ByteArray.toList_eq] at h
      exact ByteArray.ext (Array.toList_inj.1 h))
     go_wp2_with fail
     refine wp_region_tailD 8 mixedD (by kernel_rfl) ?_
     simp only [List.take_succ_cons,List.take_zero,List.drop_succ_cons,List.drop_zero]
     repeat still_step
     refine wpStill_nil ?_
     go_wp2_with fail
     go_ret
     exact ⟨by first | rfl | (rw [e];rfl),HW.out.drew⟩
   ·obtain rfl:i=N:=by omega
    have e:sameT a b=true:=by
     unfold sameT
     rw [decide_eq_true_eq]
     have:=HE.out
     rw [List.take_of_length_le (by have:=HNA.out;omega),List.take_of_length_le (by have:=HNB.out;omega)] at this
     exact this
    go_wp2_with fail
    go_ret
    exact ⟨by first | rfl | (rw [e];rfl),HW.out⟩
 ·have e:sameT a b=false:=by unfold sameT;rw [decide_eq_false_iff_not];rintro rfl;exact hlen rfl
  have hali:(a.length:Int)≤8000000000000:=by omega
  go_enter Tryz.func66,Tryz.ntmps66
  go_wp2_with fail
  go_ret
  exact ⟨by first | rfl | (rw [e];rfl),Below.refl _ _⟩
end Go.Proofs.YtdkedmngeahjiaaGreatDoor
/- refs' wrapped errors: errors.Is, errors.As, stratakit.Num and Plain at them. -/
namespace Go.Proofs.YtdkedmngeahjiaaGreatDoor
open Go.RowKit Go.Extern.Stop Go.Stop Go.Extern
def refV (s:ByteArray) (n:Int):Value:=.iface 132 (.agg #[.string s,errV n])
theorem ta_is_ref (v:Value) (w:World):(Instr.typeAssert (.iface 132 v) 25 209 true).run Tryz.prog w=.ok (.tuple #[.nilIface,.bool false]) w:=run_typeAssert_lacksB Tryz.underlying209 (by kernel_rfl) (by kernel_rfl) v 25 w
theorem ta_as_ref (v:Value) (w:World):(Instr.typeAssert (.iface 132 v) 25 202 true).run Tryz.prog w=.ok (.tuple #[.nilIface,.bool false]) w:=run_typeAssert_lacksB Tryz.underlying202 (by kernel_rfl) (by kernel_rfl) v 25 w
theorem ta_un_ref (v:Value) (w:World):(Instr.typeAssert (.iface 132 v) 25 205 true).run Tryz.prog w=.ok (.tuple #[.iface 132 v,.bool true]) w:=run_typeAssert_hasB Tryz.underlying205 (by kernel_rfl) v 25 w
theorem method_unwrapR (k : Nat) (x y : Value) (w : World) : (Go.method (k + 1) 132 (.agg #[x, y]) "Unwrap").run Tryz.prog w = .ok (229, .agg #[x, y]) w := by kernel_rfl
theorem eq_ref_errno (v x:Value) (w:World):(binOp .eql 25 (.iface 132 v) (.iface 71 x)).run Tryz.prog w=.ok (.bool false) w:=run_eql_iface_types _ _ v x Tryz.underlying25 (by decide) w
theorem typeOf_ref (v:Value) (w:World):(ReflectliteType.typeOf #[.iface 132 v]).run Tryz.prog w=.ok (.iface 198 (.agg #[.pointer (some ⟨6,132,none⟩)])) w:=by kernel_rfl
theorem as_assignRF (w : World) : (ReflectliteType.relation "AssignableTo" ReflectliteType.assignableTo #[.agg #[.pointer (some ⟨6, 132, none⟩)], .iface 198 (.agg #[.pointer (some ⟨6, 73, none⟩)])]).run Tryz.prog w = .ok (.bool false) w := by kernel_rfl
theorem unwrapR_any (s:ByteArray) (n:Int) (w:World) :
  Calls Tryz.prog 229 #[.agg #[.string s,errV n]] w fun e w'=>e=.returned (errV n)∧Below w.heap.size w w':=by
 unfold errV
 go_enter Tryz.func229,Tryz.ntmps229
 go_wp2_with fail
 go_ret
 exact ⟨rfl,(Below.refl _ _).alloc (Nat.le_refl _) _⟩
theorem is_ref_in (s:ByteArray) (n k:Int) (w:World) :
  Calls Tryz.prog 87 #[refV s n,errV k,.bool true] w fun e w'=>e=.returned (.bool (n == k))∧Below w.heap.size w w':=by
 unfold refV errV
 have t0:=eq_errno
 have t1:=ta_is_errno
 have t2:=ta_un_errno
 have t3:=ta_uns_errno
 have t4:=eq_ref_errno
 have t5:=ta_is_ref
 have t6:=ta_un_ref
 have t7:=method_unwrapR
 go_enter Tryz.func87,Tryz.ntmps87
 go_wp2_with fail
 refine wp_loop_rounds 2 ?_
 rw [rounds_succ]
 go_wp2_with fail
 refine (unwrapR_any s n _).mono ?_
 rintro e w1 ⟨rfl,hb⟩
 have HB:=hZ hb
 clear hb
 unfold errV
 go_wp2_with fail
 rw [rounds_succ]
 go_wp2_with fail
 all_goals
  go_ret
  exact ⟨ret_beq ‹_›,HB.out⟩
theorem is_ref (s:ByteArray) (n k:Int) (w:World) :
  Calls Tryz.prog 41 #[refV s n,errV k] w fun e w'=>e=.returned (.bool (n == k))∧Below w.heap.size w w':=by
 have hin:=is_ref_in s n k
 unfold refV errV at hin ⊢
 have HIN:=hZ hin
 have h40:=@run_callFunc_extern Tryz.prog 86 _ _ Tryz.func86 (by kernel_rfl) (by kernel_rfl) (by kernel_rfl) call_typeOf
 have h103:=@run_callFunc_extern Tryz.prog 236 _ _ Tryz.func236 (by kernel_rfl) (by kernel_rfl) (by kernel_rfl) call_comparable
 have c1:=typeOf_errno
 have c2:=comparable_errno
 have c3:=method_comparable
 clear hin
 go_enter Tryz.func41,Tryz.ntmps41
 go_wp2_with fail
 refine (HIN.out _).mono ?_
 rintro e w1 ⟨rfl,hb⟩
 have HB:=hZ hb
 clear hb
 go_wp2_with fail
 go_ret
 exact ⟨rfl,HB.out⟩
theorem isNum_ref (s:ByteArray) (n:Int):IsNum (refV s n) n:=fun k w=>is_ref s n k w
theorem asin_refused (s:ByteArray) (n:Int) (x rv:Value) (hrv:∃ cs:Array Value,rv=.agg cs) (w:World) :
  Calls Tryz.prog 84 #[refV s n,x,rv,rtF] w fun e w'=>e=.returned (.bool false)∧Below w.heap.size w w':=by
 obtain ⟨cs,rfl⟩:=hrv
 unfold refV errV rtF
 have h40:=@run_callFunc_extern Tryz.prog 86 _ _ Tryz.func86 (by kernel_rfl) (by kernel_rfl) (by kernel_rfl) call_typeOf
 have h102:=@run_callFunc_extern Tryz.prog 235 _ _ Tryz.func235 (by kernel_rfl) (by kernel_rfl) (by kernel_rfl) call_assignable
 have tO:=typeOf_errno
 have tR:=typeOf_ref
 have mA:=as_methodAssignableTo
 have aF:=as_assignEF
 have aR:=as_assignRF
 have t1:=ta_as_errno
 have t2:=ta_un_errno
 have t3:=ta_uns_errno
 have t4:=ta_as_ref
 have t5:=ta_un_ref
 have t6:=method_unwrapR
 go_enter Tryz.func84,Tryz.ntmps84
 go_wp2_with fail
 refine wp_loop_rounds 2 ?_
 rw [rounds_succ]
 go_wp2_with fail
 refine (unwrapR_any s n _).mono ?_
 rintro e w1 ⟨rfl,hb⟩
 have HBB:=hZ hb
 clear hb
 unfold errV
 go_wp2_with fail
 rw [rounds_succ]
 go_wp2_with fail
 go_ret
 exact ⟨rfl,((Below.refl w.heap.size w).alloc (Nat.le_refl _) _).trans (HBB.out.mono (by rw [World.size_alloc];omega))⟩
theorem as_refused (s:ByteArray) (n:Int) (t:Nat) (w:World) (hG:ErrT w) :
  Calls Tryz.prog 37 #[refV s n,.iface 76 (.pointer (some ⟨t,0,none⟩))] w fun e w' =>
   e=.returned (.bool false)∧Below w.heap.size w w':=by
 unfold refV errV
 have h52:=@run_callFunc_extern Tryz.prog 81 _ _ Tryz.func81 (by kernel_rfl) (by kernel_rfl) (by kernel_rfl) call_valueOf
 have h53:=@run_callFunc_extern Tryz.prog 82 _ _ Tryz.func82 (by kernel_rfl) (by kernel_rfl) (by kernel_rfl) call_type
 have h54:=@run_callFunc_extern Tryz.prog 83 _ _ Tryz.func83 (by kernel_rfl) (by kernel_rfl) (by kernel_rfl) call_isNil
 have h94:=@run_callFunc_extern Tryz.prog 222 _ _ Tryz.func222 (by kernel_rfl) (by kernel_rfl) (by kernel_rfl) call_kind
 have h104:=@run_callFunc_extern Tryz.prog 237 _ _ Tryz.func237 (by kernel_rfl) (by kernel_rfl) (by kernel_rfl) call_elem
 have h105:=@run_callFunc_extern Tryz.prog 238 _ _ Tryz.func238 (by kernel_rfl) (by kernel_rfl) (by kernel_rfl) call_implements
 have vT:=as_valueOfT
 have tT:=as_typeT
 have mK:=as_methodKind
 have kT:=as_kindT
 have kF:=as_kindF
 have mE:=as_methodElem
 have eT:=as_elemT
 have mI:=as_methodImplements
 have iF:=as_implementsF
 have n54:=as_isNilT ⟨w.heap.size,0,none⟩ ⟨t,0,none⟩ ((w.alloc (.cells #[.pointer (some ⟨t,0,none⟩)] 76)).alloc (.cells #[.pointer (some ⟨6,76,none⟩),.pointer (some ⟨w.heap.size,0,none⟩),.int .u64 150] 137))
  ((cell_alloc' (by simp)).trans (cell_new _ _ _ _))
 have hg2:((w.alloc (.cells #[.pointer (some ⟨t,0,none⟩)] 76)).alloc (.cells #[.pointer (some ⟨6,76,none⟩),.pointer (some ⟨w.heap.size,0,none⟩),.int .u64 150] 137)).cell? ⟨0,0,none⟩=some (.iface 198 (.agg #[.pointer (some ⟨6,25,none⟩)])) :=
  (cell_alloc' (by have h:=hG.2;rw [World.size_alloc];show 0 < _;omega)).trans ((cell_alloc' hG.2).trans hG.1)
 go_enter Tryz.func37,Tryz.ntmps37
 go_wp2_with fail
 refine (asin_refused s n _ _ ⟨_,rfl⟩ _).mono ?_
 rintro e w1 ⟨rfl,h2⟩
 have H2:=hZ (((((Below.refl w.heap.size w).alloc (Nat.le_refl _) (.cells #[.pointer (some ⟨t,0,none⟩)] 76)).alloc (by simp) (.cells #[.pointer (some ⟨6,76,none⟩),.pointer (some ⟨w.heap.size,0,none⟩),.int .u64 150] 137)).trans (h2.mono (by simp;omega))))
 clear h2
 go_wp2_with fail
 go_ret
 exact ⟨rfl,H2.out⟩
def wrapE (s:ByteArray) (n:Int):Value:=if n=0 then .nilIface else refV s n
theorem plain_ref (s:ByteArray) (x:Int) (hx:x=0∨(1≤x∧x≤32)) (n:Int) (w:World) (hG:ErrT w) :
  Calls Tryz.prog 10 #[wrapE s x,.int .i64 n] w fun e w'=>e=.returned (.bool (x == n))∧Below w.heap.size w w':=by
 by_cases h0:x=0
 ·subst h0
  have hn:=fun W=>num_nil W
  cases hc:((0:Int) == n) with
  |true =>
   obtain rfl:(0:Int)=n:=by simpa using hc
   show Calls _ _ #[.nilIface,_] _ _
   go_enter Tryz.func10,Tryz.ntmps10
   go_wp2_with (go_at_call 36;refine (hn _).mono ?_;rintro e w1 ⟨rfl,rfl⟩)
   go_ret
   exact ⟨rfl,(Below.refl _ _).alloc (Nat.le_refl _) _⟩
  |false =>
   have hne:¬ (0:Int)=n:=by simpa using hc
   show Calls _ _ #[.nilIface,_] _ _
   go_enter Tryz.func10,Tryz.ntmps10
   go_wp2_with (go_at_call 36;refine (hn _).mono ?_;rintro e w1 ⟨rfl,rfl⟩)
   go_ret
   exact ⟨by simp [hc],(Below.refl _ _).alloc (Nat.le_refl _) _⟩
 ·have hx1:1≤x∧x≤32:=by omega
  rw [show wrapE s x=refV s x from if_neg h0]
  have hn:=fun W=>num_any _ _ x W (isNum_ref s x) hx1.1 hx1.2
  have ha:=fun W (hE:ErrT W)=>as_refused s x w.heap.size W hE
  unfold refV errV at ha ⊢
  unfold errV at hn
  cases hc:(x == n) with
  |true =>
   obtain rfl:x=n:=by simpa using hc
   go_enter Tryz.func10,Tryz.ntmps10
   go_wp2_with (first
    |(go_at_call 36;refine (hn _).mono ?_;rintro e w1 ⟨rfl,hb⟩;have HB:=hZ (((Below.refl w.heap.size w).alloc (Nat.le_refl _) _).trans (hb.mono (by simp)));clear hb)
    |(go_at_call 37;refine (ha _ (hG.below HB.out hG.2)).mono ?_;rintro e w2 ⟨rfl,hb⟩;have HB2:=hZ (HB.out.trans (hb.mono HB.out.size));clear hb))
   go_ret
   exact ⟨rfl,HB2.out⟩
  |false =>
   have hne:¬ x=n:=by simpa using hc
   go_enter Tryz.func10,Tryz.ntmps10
   go_wp2_with (first
    |(go_at_call 36;refine (hn _).mono ?_;rintro e w1 ⟨rfl,hb⟩;have HB:=hZ (((Below.refl w.heap.size w).alloc (Nat.le_refl _) _).trans (hb.mono (by simp)));clear hb))
   go_ret
   exact ⟨by simp [hc],HB.out⟩
end Go.Proofs.YtdkedmngeahjiaaGreatDoor
