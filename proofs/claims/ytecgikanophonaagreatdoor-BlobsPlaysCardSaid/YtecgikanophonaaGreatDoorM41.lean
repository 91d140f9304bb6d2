/- Texts of the seat, one behind the other: CmpD, SortC. -/
import Derived.Lib.Bytealg
import Derived.Sort.Statements
import Derived.Test.YtecgikanophonaaGreatDoorDigT
import Derived.Lib.BytesEntry
set_option maxRecDepth 100000
set_option maxHeartbeats 25600000
/- Plain law: the order of byte texts (Lib.compareBytes) is a strict weak order, and it parts whatever two are not one. -/
namespace Go.Proofs.YtecgikanophonaaGreatDoor
open Go Go.Lib Go.Sort
theorem u8_trich (x y:UInt8):x < y∨x=y∨y < x:=by
 by_cases h1:x < y
 ·exact .inl h1
 ·by_cases h2:x=y
  ·exact .inr (.inl h2)
  ·exact .inr (.inr (UInt8.lt_of_le_of_ne (UInt8.not_lt.1 h1) (Ne.symm h2)))
theorem cmpB_self:∀ a:List UInt8,compareBytes a a=0
 |[]=>rfl
 |x :: a=>by
  unfold compareBytes
  rw [if_neg (UInt8.lt_irrefl x),if_neg (UInt8.lt_irrefl x)]
  exact cmpB_self a
theorem cmpB_zero:∀ {a b:List UInt8},compareBytes a b=0→a=b
 |[],[],_=>rfl
 |[],_ :: _,h=>by unfold compareBytes at h;cases h
 |_ :: _,[],h=>by unfold compareBytes at h;cases h
 |x :: a,y :: b,h=>by
  unfold compareBytes at h
  split at h
  ·cases h
  ·split at h
   ·cases h
   ·rename_i h1 h2
    rcases u8_trich x y with e | e | e
    ·exact absurd e h1
    ·rw [e,cmpB_zero h]
    ·exact absurd e h2
theorem cmpB_neg:∀ a b:List UInt8,compareBytes b a=-compareBytes a b
 |[],[]=>rfl
 |[],_ :: _=>rfl
 |_ :: _,[]=>rfl
 |x :: a,y :: b=>by
  unfold compareBytes
  rcases u8_trich x y with e | e | e
  ·rw [if_neg (UInt8.lt_asymm e),if_pos e,if_pos e];rfl
  ·subst e
   rw [if_neg (UInt8.lt_irrefl x),if_neg (UInt8.lt_irrefl x),if_neg (UInt8.lt_irrefl x),if_neg (UInt8.lt_irrefl x)]
   exact cmpB_neg a b
  ·rw [if_pos e,if_neg (UInt8.lt_asymm e),if_pos e]
theorem cmpB_trans:∀ {a b c:List UInt8},compareBytes a b < 0→compareBytes b c < 0→compareBytes a c < 0
 |[],[],_,h,_=>by unfold compareBytes at h;exact absurd h (by decide)
 |[],_ :: _,[],_,h=>by unfold compareBytes at h;exact absurd h (by decide)
 |[],_ :: _,_ :: _,_,_=>by unfold compareBytes;decide
 |_ :: _,[],_,h,_=>by unfold compareBytes at h;exact absurd h (by decide)
 |_ :: _,_ :: _,[],_,h=>by unfold compareBytes at h;exact absurd h (by decide)
 |x :: a,y :: b,z :: c,h1,h2=>by
  unfold compareBytes at h1 h2 ⊢
  rcases u8_trich x y with e | e | e
  ·rcases u8_trich y z with f | f | f
   ·rw [if_pos (UInt8.lt_trans e f)];decide
   ·subst f;rw [if_pos e];decide
   ·rw [if_neg (UInt8.lt_asymm f),if_pos f] at h2;exact absurd h2 (by decide)
  ·subst e
   rcases u8_trich x z with f | f | f
   ·rw [if_pos f];decide
   ·subst f
    rw [if_neg (UInt8.lt_irrefl x),if_neg (UInt8.lt_irrefl x)] at h1 h2 ⊢
    exact cmpB_trans h1 h2
   ·rw [if_neg (UInt8.lt_asymm f),if_pos f] at h2;exact absurd h2 (by decide)
  ·rw [if_neg (UInt8.lt_asymm e),if_pos e] at h1;exact absurd h1 (by decide)
def ltB (a b:List UInt8):Bool:=decide (compareBytes a b < 0)
theorem ltB_swo:SWO ltB where
 irrefl x:=by unfold ltB;rw [cmpB_self];decide
 trans x y z h1 h2:=by
  unfold ltB at *
  exact decide_eq_true (cmpB_trans (of_decide_eq_true h1) (of_decide_eq_true h2))
 ntrans x y z h1 h2:=by
  unfold ltB at *
  have h1:=of_decide_eq_false h1
  have h2:=of_decide_eq_false h2
  refine decide_eq_false fun h=>?_
  by_cases e:compareBytes x y=0
  ·rw [cmpB_zero e] at h
   exact h2 h
  ·have h3:compareBytes y x < 0:=by rw [cmpB_neg x y];omega
   exact h2 (cmpB_trans h3 h)
theorem ltB_total (x y:List UInt8) (h1:ltB x y=false) (h2:ltB y x=false):x=y:=by
 unfold ltB at *
 have h1:=of_decide_eq_false h1
 have h2:=of_decide_eq_false h2
 rw [cmpB_neg x y] at h2
 exact cmpB_zero (by omega)
end Go.Proofs.YtecgikanophonaaGreatDoor
/- bytes.Compare at two rows of bytes, and the closure by which blobs.List sorts digests. -/
namespace Go.Proofs.YtecgikanophonaaGreatDoor
open Go Go.RowKit Go.Maps Go.Shelf Go.Sort
def LiesAt (w:World) (b:Nat) (l:List UInt8):Prop:=∀ (i:Nat) (x:UInt8),l[i]?=some x→w.cell? ⟨b,i,none⟩=some (byteV x)
theorem bytesOf_bytes (l:List UInt8):Lib.bytesOf (l.map fun x=>(x.toNat:Int))=l:=by
 unfold Lib.bytesOf
 rw [List.map_map]
 exact (List.map_congr_left (fun x _=>by simp)).trans (List.map_id l)
theorem loads_any {w:World} {b:Nat} {l:List UInt8} (h:LiesAt w b l) (n c:Nat) (hn:l.length=n):(Extern.Bytes.bytesOf (.slice (some ⟨b,0,none⟩) n c)).run Tryz.prog w=.ok ⟨l.toArray⟩ w:=by
 have hl:=Lib.run_loadBytesX (P:=Tryz.prog) w (l.map fun x=>(x.toNat:Int)) ⟨b,0,none⟩ .empty (fun j x hj=>by
  rw [List.getElem?_map] at hj
  obtain ⟨y,hy,rfl⟩:=Option.map_eq_some_iff.1 hj
  have e:(⟨b,0,none⟩:Addr).add j=⟨b,j,none⟩:=by unfold Addr.add;split <;> simp_all
  rw [e]
  exact h j y hy)
 rw [List.length_map,hn,bytesOf_bytes] at hl
 change (Extern.Bytes.loadBytes ⟨b,0,none⟩ n .empty).run Tryz.prog w=_
 rw [hl]
 congr 1
 apply ByteArray.ext
 simp
theorem compare_run {w:World} {b b':Nat} {l l':List UInt8} (h:LiesAt w b l) (h':LiesAt w b' l') (n n' c c':Nat) (hn:l.length=n) (hn':l'.length=n') :
  (Extern.BytealgCompare.compare #[.slice (some ⟨b,0,none⟩) n c,.slice (some ⟨b',0,none⟩) n' c']).run Tryz.prog w=.ok (.int .i64 (Lib.compareBytes l l')) w:=by
 change Sem.run Tryz.prog (do pure (goInt (Extern.BytealgCompare.cmp (← Extern.Bytes.bytesOf (.slice (some ⟨b,0,none⟩) n c)) (← Extern.Bytes.bytesOf (.slice (some ⟨b',0,none⟩) n' c'))))) w=_
 simp only [Sem.run_bind,Sem.run_pure,loads_any h n c hn,loads_any h' n' c' hn',Result.andThen]
 rw [Lib.cmp_eq]
 rfl
theorem compare_any {w:World} {b b':Nat} {l l':List UInt8} (h:LiesAt w b l) (h':LiesAt w b' l') (n n' c c':Nat) (hn:l.length=n) (hn':l'.length=n') :
  Calls Tryz.prog 101 #[.slice (some ⟨b,0,none⟩) n c,.slice (some ⟨b',0,none⟩) n' c'] w fun e w'=>e=.returned (.int .i64 (Lib.compareBytes l l'))∧w'=w:=by
 have hr:=compare_run h h' n n' c c' hn hn'
 clear h h'
 go_enter Tryz.func101,Tryz.ntmps101
 go_wp2
 rw [run_callFunc_extern Tryz.func138 (by kernel_rfl) (by kernel_rfl) (by kernel_rfl) (e:=Extern.BytealgCompare.compare) (by kernel_rfl),hr]
 simp only [Result.andThen]
 rw [Oper.upon_value]
 go_wp2
 go_ret
 exact ⟨rfl,rfl⟩
end Go.Proofs.YtecgikanophonaaGreatDoor
