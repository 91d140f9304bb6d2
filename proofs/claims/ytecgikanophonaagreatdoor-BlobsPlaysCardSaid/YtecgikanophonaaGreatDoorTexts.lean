/- Contracts of Plain and SameTexts. -/
import Derived.Test.YtecgikanophonaaGreatDoorM18
import Derived.Test.YtecgikanophonaaGreatDoorM16
import Derived.Test.YtecgikanophonaaGreatDoorM11
set_option maxRecDepth 100000
set_option maxHeartbeats 25600000
namespace Go.Proofs.YtecgikanophonaaGreatDoor
open Go Go.RowKit Go.Maps Go.Shelf
theorem ErrT.below {w w':World} (h:ErrT w) {B:Nat} (hb:Below B w w') (hB:1 < B):ErrT w' :=
 ⟨(hb.cell (p:=⟨1,0,none⟩) hB).trans h.1,Nat.lt_of_lt_of_le h.2 hb.size⟩
theorem errE_nz {x:Int} (h:x≠0):errE x=errV x:=by unfold errE;rw [if_neg h]
theorem plain_E (x:Int) (hx:x=0∨(1≤x∧x≤32)) (n:Int) (w:World) (hG:ErrT w) :
  Calls Tryz.prog 11 #[errE x,.int .i64 n] w fun e w'=>e=.returned (.bool (x == n))∧Below w.heap.size w w':=by
 by_cases h0:x=0
 ·subst h0
  have hn:=fun W=>num_nil W
  cases hc:((0:Int) == n) with
  |true =>
   obtain rfl:(0:Int)=n:=by simpa using hc
   show Calls _ _ #[.nilIface,_] _ _
   go_enter Tryz.func11,Tryz.ntmps11
   go_wp2_with (go_at_call 23;refine (hn _).mono ?_;rintro e w1 ⟨rfl,rfl⟩)
   go_ret
   exact ⟨rfl,(Below.refl _ _).alloc (Nat.le_refl _) _⟩
  |false =>
   have hne:¬ (0:Int)=n:=by simpa using hc
   show Calls _ _ #[.nilIface,_] _ _
   go_enter Tryz.func11,Tryz.ntmps11
   go_wp2_with (go_at_call 23;refine (hn _).mono ?_;rintro e w1 ⟨rfl,rfl⟩)
   go_ret
   exact ⟨by simp [hc],(Below.refl _ _).alloc (Nat.le_refl _) _⟩
 ·have hx1:1≤x∧x≤32:=by omega
  rw [errE_nz h0]
  have hn:=fun W=>num_any _ _ x W (isNum_errno x) hx1.1 hx1.2
  have ha:=fun W (hE:ErrT W)=>as_errno x w.heap.size W hE
  unfold errV at ha ⊢
  cases hc:(x == n) with
  |true =>
   obtain rfl:x=n:=by simpa using hc
   go_enter Tryz.func11,Tryz.ntmps11
   go_wp2_with (first
    |(go_at_call 23;refine (hn _).mono ?_;rintro e w1 ⟨rfl,hb⟩;have HB:=hZ (((Below.refl w.heap.size w).alloc (Nat.le_refl _) _).trans (hb.mono (by simp)));clear hb)
    |(go_at_call 41;refine (ha _ (hG.below HB.out hG.2)).mono ?_;rintro e w2 ⟨rfl,hb⟩;have HB2:=hZ (HB.out.trans (hb.mono HB.out.size));clear hb))
   go_ret
   exact ⟨rfl,HB2.out⟩
  |false =>
   have hne:¬ x=n:=by simpa using hc
   go_enter Tryz.func11,Tryz.ntmps11
   go_wp2_with (first
    |(go_at_call 23;refine (hn _).mono ?_;rintro e w1 ⟨rfl,hb⟩;have HB:=hZ (((Below.refl w.heap.size w).alloc (Nat.le_refl _) _).trans (hb.mono (by simp)));clear hb))
   go_ret
   exact ⟨by simp [hc],HB.out⟩
def TextsRd (w:World) (v:Value) (l:List ByteArray):Prop:=∃ p cap,v=.slice p l.length cap∧∀ (i:Nat) (s:ByteArray),l[i]?=some s→∃ b off,p=some ⟨b,off,none⟩∧b < w.heap.size∧w.cell? ⟨b,off+i,none⟩=some (.string s)
theorem OwnTexts.rd {B:Nat} {w:World} {v:Value} {l:List ByteArray} (h:OwnTexts B w v l):TextsRd w v l:=by
 obtain ⟨p,cap,rfl,h1⟩:=row_at h
 refine ⟨p,cap,rfl,fun i s hs=>?_⟩
 obtain ⟨g,cs,e,hg,hc⟩:=h1 i (strV s) (by rw [List.getElem?_map,hs];rfl)
 exact ⟨g,0,e,blk_lt hg,by rw [Nat.zero_add,cell_of_heapN hg];exact hc⟩
theorem TextsRd.below {w w':World} {v:Value} {l:List ByteArray} (h:TextsRd w v l) (hb:Below w.heap.size w w'):TextsRd w' v l:=by
 obtain ⟨p,cap,rfl,h1⟩:=h
 refine ⟨p,cap,rfl,fun i s hs=>?_⟩
 obtain ⟨b,off,e,h2,h3⟩:=h1 i s hs
 exact ⟨b,off,e,Nat.lt_of_lt_of_le h2 hb.size,(hb.cell (p:=⟨b,off+i,none⟩) h2).trans h3⟩
theorem TextsRd.len {w:World} {v:Value} {l:List ByteArray} (h:TextsRd w v l):∃ p cap,v=.slice p l.length cap:=by
 obtain ⟨p,cap,rfl,_⟩:=h
 exact ⟨p,cap,rfl⟩
def sameT (a b:List ByteArray):Bool:=decide (a=b)
theorem same_texts (w:World) (v u:Value) (a b:List ByteArray) (ha:TextsRd w v a) (hb:TextsRd w u b) (hl:a.length≤8000000000000) :
  Calls Tryz.prog 66 #[v,u] w fun e w'=>e=.returned (.bool (sameT a b))∧Below w.heap.size w w':=by
 obtain ⟨p,cap,rfl,ha⟩:=ha
 obtain ⟨q,cap2,rfl,hb⟩:=hb
 have HA:=hZ ha
 have HB:=hZ hb
 clear ha hb
 by_cases hlen:(a.length:Int)=(b.length:Int)
 ·obtain ⟨N,hN⟩:∃ N,a.length=N:=⟨_,rfl⟩
  have hN2:b.length=N:=by omega
  rw [hN,hN2]
  have hNi:(N:Int)≤8000000000000:=by omega
  have HNA:=hZ hN
  have HNB:=hZ hN2
  clear hN hN2 hlen hl
  go_enter Tryz.func66,Tryz.ntmps66
  go_wp2_with fail
  go_loopw [5] (fun iv wr=>∃ i:Nat,i≤N∧iv=.int .i64 i∧Hid (a.take i=b.take i)∧Hid (Below w.heap.size w wr)) (fun iv _=>(N - intOf iv).toNat)
  case atStart=>exact ⟨0,Nat.zero_le _,rfl,rfl,Below.refl _ _⟩
  case round =>
   obtain ⟨i,hi,rfl,HE,HW⟩:=hrel
   by_cases hlt:(i:Int) < (N:Int)
   ·obtain ⟨x,hx⟩:∃ x,a[i]?=some x:=⟨_,List.getElem?_eq_getElem (by have:=HNA.out;have:=HNB.out;omega)⟩
    obtain ⟨y,hy⟩:∃ y,b[i]?=some y:=⟨_,List.getElem?_eq_getElem (by have:=HNA.out;have:=HNB.out;omega)⟩
    obtain ⟨b1,o1,rfl,hb1,hc1⟩:=HA.out i x hx
    obtain ⟨b2,o2,rfl,hb2,hc2⟩:=HB.out i y hy
    have c1:wr.cell? ⟨b1,o1+i,none⟩=some (.string x):=(HW.out.cell (p:=⟨b1,o1+i,none⟩) hb1).trans hc1
    have c2:wr.cell? ⟨b2,o2+i,none⟩=some (.string y):=(HW.out.cell (p:=⟨b2,o2+i,none⟩) hb2).trans hc2
    have HX:=hZ hx
    have HY:=hZ hy
    clear hx hy hc1 hc2 hb1 hb2
    by_cases hxy:x=y
    ·subst hxy
     have HN:=hZ (show a.take (i+1)=b.take (i+1) by rw [List.take_add_one,List.take_add_one,HX.out,HY.out,HE.out])
     go_wp2_with fail
     refine wp_region_tailD 8 mixedD (by kernel_rfl) ?_
     simp only [List.take_succ_cons,List.take_zero,List.drop_succ_cons,List.drop_zero]
     repeat still_step
     refine wpStill_nil ?_
     go_wp2_with fail
     go_roundw
     case rel=>exact ⟨i+1,by omega,rfl,HN,HW.out.drew⟩
     case measure=>simp [intOf];omega
    ·have e:sameT a b=false:=by
      unfold sameT
      rw [decide_eq_false_iff_not]
      rintro rfl
      have h1:=HX.out
      rw [HY.out] at h1
      cases h1
      exact hxy rfl
     have hne:(x.toList == y.toList)=false:=beq_eq_false_iff_ne.2 fun h=>hxy (by
      rw [ByteArray.toList_eq,ByteArray.toList_eq] at h
      exact ByteArray.ext (Array.toList_inj.1 h))
     go_wp2_with fail
     refine wp_region_tailD 8 mixedD (by kernel_rfl) ?_
     simp only [List.take_succ_cons,List.take_zero,List.drop_succ_cons,List.drop_zero]
     repeat still_step
     refine wpStill_nil ?_
     go_wp2_with fail
     go_ret
     exact ⟨by first | rfl | (rw [e];rfl),HW.out.drew⟩
   ·obtain rfl:i=N:=by omega
    have e:sameT a b=true:=by
     unfold sameT
     rw [decide_eq_true_eq]
     have:=HE.out
     rw [List.take_of_length_le (by have:=HNA.out;omega),List.take_of_length_le (by have:=HNB.out;omega)] at this
     exact this
    go_wp2_with fail
    go_ret
    exact ⟨by first | rfl | (rw [e];rfl),HW.out⟩
 ·have e:sameT a b=false:=by unfold sameT;rw [decide_eq_false_iff_not];rintro rfl;exact hlen rfl
  have hali:(a.length:Int)≤8000000000000:=by omega
  go_enter Tryz.func66,Tryz.ntmps66
  go_wp2_with fail
  go_ret
  exact ⟨by first | rfl | (rw [e];rfl),Below.refl _ _⟩
end Go.Proofs.YtecgikanophonaaGreatDoor
