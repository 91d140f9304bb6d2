/- Texts of the seat, one behind the other: Plain, DigH. -/
import Derived.WalkKit
import Derived.Lib.Hide
set_option maxRecDepth 100000
set_option maxHeartbeats 25600000
/- Plain definitions and laws: blocks of bytes in a world, octal digits: no program in sight. -/
namespace Go.Proofs.YtdkedmngeahjiaaGreatDoor
open Go.RowKit
theorem hZ {p : Prop} (h : p) : Hid p := Lib.hid h
theorem ret_int {k:IntKind} {a b:Int} (h:a=b):Ending.returned (.int k a)=.returned (.int k b):=by rw [h]
abbrev Bs:=List UInt8
def byteV (x:UInt8):Value:=.int .u8 (x.toNat:Int)
def blk (t:TypeId) (l:Bs):Obj:=.cells (l.map byteV).toArray t (0,0)
def setBlk (w:World) (b:Nat) (o:Obj):World:={ w with heap:=w.heap.setIfInBounds b o }
theorem heap_ext {w w':World} (h:∀ k:Nat,w.heap[k]?=w'.heap[k]?) (h1:w.tape=w'.tape) (h2:w.drawn=w'.drawn) (h3:w.os=w'.os) (h4:w.output=w'.output):w=w':=by
 cases w;cases w'
 simp only at h h1 h2 h3 h4
 subst h1 h2 h3 h4
 simp only [World.mk.injEq,and_true]
 exact Array.ext_getElem? h
theorem setBlk_at (w:World) (b:Nat) (o:Obj) (k:Nat):(setBlk w b o).heap[k]?=if b=k then (if b < w.heap.size then some o else none) else w.heap[k]?:=by
 unfold setBlk;exact Array.getElem?_setIfInBounds
theorem setBlk_heap {w:World} {b:Nat} {o:Obj} (h:b < w.heap.size):(setBlk w b o).heap[b]?=some o:=by
 rw [setBlk_at,if_pos rfl,if_pos h]
theorem setBlk_other {w:World} {b:Nat} {o:Obj} {k:Nat} (h:k≠b):(setBlk w b o).heap[k]?=w.heap[k]?:=by
 rw [setBlk_at,if_neg (Ne.symm h)]
theorem setBlk_size {w:World} {b:Nat} {o:Obj}:(setBlk w b o).heap.size=w.heap.size:=by simp [setBlk]
theorem setBlk_setBlk {w:World} {b:Nat} {o o':Obj}:setBlk (setBlk w b o) b o'=setBlk w b o':=by
 refine heap_ext (fun k=>?_) rfl rfl rfl rfl
 rw [setBlk_at,setBlk_at,setBlk_at,setBlk_size]
 by_cases e:b=k
 ·rw [if_pos e,if_pos e]
 ·rw [if_neg e,if_neg e,if_neg e]
theorem setBlk_self {w:World} {b:Nat} {o:Obj} (h:w.heap[b]?=some o):setBlk w b o=w:=by
 refine heap_ext (fun k=>?_) rfl rfl rfl rfl
 rw [setBlk_at]
 by_cases e:b=k
 ·subst e
  rw [if_pos rfl,h,if_pos]
  exact (Array.getElem?_eq_some_iff.1 h).1
 ·rw [if_neg e]
theorem blk_cell {w:World} {b i:Nat} {t:TypeId} {l:Bs} {x:UInt8} (h:w.heap[b]?=some (blk t l)) (hi:l[i]?=some x):w.cell? ⟨b,i,none⟩=some (byteV x):=by
 simp [World.cell?,h,blk,hi]
theorem blk_frozen {w:World} {b i:Nat} {t:TypeId} {l:Bs} (h:w.heap[b]?=some (blk t l)):w.frozen? ⟨b,i,none⟩=false:=by
 simp [World.frozen?,h,blk]
theorem blk_lt {w:World} {b:Nat} {o:Obj} (h:w.heap[b]?=some o):b < w.heap.size:=by
 rcases Nat.lt_or_ge b w.heap.size with h' | h'
 ·exact h'
 ·simp [Array.getElem?_eq_none h'] at h
theorem blk_set {w:World} {b i:Nat} {t:TypeId} {l:Bs} {x:UInt8} (h:w.heap[b]?=some (blk t l)):w.setCell ⟨b,i,none⟩ (byteV x)=setBlk w b (blk t (l.set i x)):=by
 refine heap_ext (fun k=>?_) rfl rfl rfl rfl
 rw [setBlk_at]
 simp only [World.setCell,Array.getElem?_modify]
 by_cases e:b=k
 ·subst e
  rw [if_pos rfl,if_pos rfl,if_pos (blk_lt h),h]
  simp [blk,List.map_set]
 ·rw [if_neg e,if_neg e]
def octal:Nat→Int→Bs
 |0,_=>[]
 |d+1,x=>octal d (x / 8) ++ [(48+x % 8).toNat.toUInt8]
theorem octal_length (d:Nat):∀ x,(octal d x).length=d:=by
 induction d with
 |zero=>intro x;rfl
 |succ d ih=>intro x;simp [octal,ih]
def over (l:Bs) (i:Nat) (s:Bs):Bs:=l.take i ++ s ++ l.drop (i+s.length)
theorem over_length {l s:Bs} {i:Nat} (h:i+s.length≤l.length):(over l i s).length=l.length:=by
 simp [over];omega
def div8 (x:Int):Nat→Int
 |0=>x
 |k+1=>div8 x k / 8
theorem div8_zero_le {x:Int} (h:0≤x):∀ k,0≤div8 x k∧div8 x k≤x:=by
 intro k
 induction k with
 |zero=>exact ⟨h,Int.le_refl _⟩
 |succ k ih=>simp only [div8];omega
theorem div8_succ (x:Int) (k:Nat):div8 x (k+1)=div8 (x / 8) k:=by
 induction k with
 |zero=>rfl
 |succ k ih=>simp only [div8] at ih ⊢;rw [ih]
theorem octal_snoc (k:Nat):∀ x,octal (k+1) x=(48+div8 x k % 8).toNat.toUInt8 :: octal k x:=by
 induction k with
 |zero=>intro x;simp [octal,div8]
 |succ k ih=>intro x;rw [octal,ih (x / 8),div8_succ];simp [octal]
theorem over_set {l s:Bs} {i:Nat} {x:UInt8} (h:i+1+s.length≤l.length):(over l (i+1) s).set i x=over l i (x :: s):=by
 simp only [over,List.length_cons]
 have h1:(l.take (i+1))=l.take i ++ [l[i]'(by omega)]:=by rw [List.take_succ_eq_append_getElem (by omega)]
 rw [h1,List.append_assoc,List.append_assoc,List.set_append_right _ _ (by simp;omega)]
 have:i - (l.take i).length=0:=by simp;omega
 rw [this]
 simp
 omega
end Go.Proofs.YtdkedmngeahjiaaGreatDoor
/- Plain: the digits of a digest, and back. -/
namespace Go.Proofs.YtdkedmngeahjiaaGreatDoor
open Go Go.RowKit
def z32:Array Value:=Array.replicate 32 (.int .u8 0)
def hx (n:Nat):UInt8:=if n < 10 then UInt8.ofNat (48+n) else UInt8.ofNat (87+n)
def hexB (d:List UInt8):List UInt8:=d.flatMap fun b=>[hx (b.toNat / 16),hx (b.toNat % 16)]
theorem hexB_cons (b:UInt8) (d:List UInt8):hexB (b :: d)=hx (b.toNat / 16) :: hx (b.toNat % 16) :: hexB d:=rfl
theorem hexB_append (d e:List UInt8):hexB (d ++ e)=hexB d ++ hexB e:=List.flatMap_append
theorem hexB_len:∀ d:List UInt8,(hexB d).length=2 * d.length
 |[]=>rfl
 |b :: d=>by rw [hexB_cons,List.length_cons,List.length_cons,List.length_cons,hexB_len d];omega
def hv (c:UInt8):Option Nat:=if 48≤c.toNat∧c.toNat≤57 then some (c.toNat - 48) else if 97≤c.toNat∧c.toNat≤102 then some (c.toNat - 87) else none
theorem hv_hx:∀ n,n < 16→hv (hx n)=some n:=by decide
theorem hv_inv {c:UInt8} {n:Nat} (h:hv c=some n):c=hx n∧n < 16:=by
 unfold hv at h
 have hc:c=UInt8.ofNat c.toNat:=by simp
 split at h
 ·cases h
  unfold hx
  rw [if_pos (by omega)]
  exact ⟨by rw [show 48+(c.toNat - 48)=c.toNat by omega];exact hc,by omega⟩
 split at h
 ·cases h
  unfold hx
  rw [if_neg (by omega)]
  exact ⟨by rw [show 87+(c.toNat - 87)=c.toNat by omega];exact hc,by omega⟩
 ·cases h
def unhex:List UInt8→Option (List UInt8)
 |[]=>some []
 |[_]=>none
 |x :: y :: r=>match hv x,hv y,unhex r with
  |some a,some b,some d=>some (UInt8.ofNat (16 * a+b) :: d)
  |_,_,_=>none
theorem unhex_hexB:∀ d:List UInt8,unhex (hexB d)=some d
 |[]=>rfl
 |b :: d=>by
  have hb:=b.toNat_lt
  rw [hexB_cons,unhex,hv_hx _ (by omega),hv_hx _ (by omega),unhex_hexB d]
  show some (UInt8.ofNat (16 * (b.toNat / 16)+b.toNat % 16) :: d)=_
  rw [show 16 * (b.toNat / 16)+b.toNat % 16=b.toNat by omega,UInt8.ofNat_toNat]
theorem unhex_inv:∀ {l d:List UInt8},unhex l=some d→l=hexB d
 |[],_,h=>by cases h;rfl
 |[_],_,h=>by cases h
 |x :: y :: r,d,h=>by
  rw [unhex] at h
  split at h
  ·rename_i a b e ha hb he
   cases h
   obtain ⟨rfl,h1⟩:=hv_inv ha
   obtain ⟨rfl,h2⟩:=hv_inv hb
   rw [hexB_cons,UInt8.toNat_ofNat',unhex_inv he]
   rw [show (16 * a+b) % 256 / 16=a by omega,show (16 * a+b) % 256 % 16=b by omega]
  ·cases h
theorem hexB_inj {d e:List UInt8} (h:hexB d=hexB e):d=e:=by
 have h1:=unhex_hexB d
 rw [h,unhex_hexB e] at h1
 exact (Option.some.inj h1).symm
def zeroD:List UInt8:=List.replicate 32 0
def shaHead:List UInt8:=[115,104,97,50,53,54,58]
def textD (d:List UInt8):ByteArray:=⟨(shaHead ++ hexB d).toArray⟩
def parseD (s:ByteArray):Option (List UInt8):=if s.data.toList.take 7=shaHead∧s.size=71 then unhex (s.data.toList.drop 7) else none
theorem parseD_textD (d:List UInt8) (h:d.length=32):parseD (textD d)=some d:=by
 unfold parseD textD
 have h1:(⟨(shaHead ++ hexB d).toArray⟩:ByteArray).size=71:=by
  show (shaHead ++ hexB d).length=71
  rw [List.length_append,hexB_len,h]
  rfl
 rw [if_pos ⟨by show (shaHead ++ hexB d).take 7=shaHead;rw [List.take_append_of_le_length (by decide)];rfl,h1⟩]
 show unhex ((shaHead ++ hexB d).drop 7)=some d
 rw [List.drop_append_of_le_length (by decide)]
 exact unhex_hexB d
theorem parseD_inv {s:ByteArray} {d:List UInt8} (h:parseD s=some d):s=textD d∧d.length=32:=by
 unfold parseD at h
 split at h
 ·rename_i hc
  have h1:=unhex_inv h
  have h2:s.data.toList=shaHead ++ hexB d:=by rw [← h1,← hc.1];exact (List.take_append_drop 7 _).symm
  have h3:s.data.toList.length=71:=by rw [Array.length_toList];exact hc.2
  rw [h2,List.length_append,hexB_len] at h3
  refine ⟨?_,by have:shaHead.length=7:=rfl;omega⟩
  unfold textD
  rw [← h2]
 ·cases h
end Go.Proofs.YtdkedmngeahjiaaGreatDoor
