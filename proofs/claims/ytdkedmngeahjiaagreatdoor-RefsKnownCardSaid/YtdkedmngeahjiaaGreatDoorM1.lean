import Derived.Test.YtdkedmngeahjiaaGreatDoorQ0
import Derived.WalkKit
import Derived.Lib.Hide
set_option maxRecDepth 100000
set_option maxHeartbeats 25600000
namespace Go.Proofs.YtdkedmngeahjiaaGreatDoor
open Go.RowKit
theorem hZ{p:Prop}(h:p):Hid p:=Lib.hid h
abbrev Bs:=List UInt8
def lG(x:UInt8):Value:=.int .u8 (x.toNat:Int)
def blk(t:TypeId)(l:Bs):Obj:=.cells (l.map lG).toArray t (0,0)
def setBlk(w:World)(b:Nat)(o:Obj):World:={w with heap:=w.heap.setIfInBounds b o}
theorem vM{w w':World}(h:∀k:Nat,w.heap[k]?=w'.heap[k]?)(h1:w.tape=w'.tape)(h2:w.drawn=w'.drawn)(h3:w.os=w'.os)(h4:w.output=w'.output):w=w':=by
 cases w;cases w';simp only at h h1 h2 h3 h4;subst h1 h2 h3 h4;simp only[World.mk.injEq,and_true];exact Array.ext_getElem? h
theorem qJ(w:World)(b:Nat)(o:Obj)(k:Nat):(setBlk w b o).heap[k]?=if b=k then(if b<w.heap.size then some o else none)else w.heap[k]?:=by
 unfold setBlk;exact Array.getElem?_setIfInBounds
theorem lM{w:World}{b:Nat}{o:Obj}(h:b<w.heap.size):(setBlk w b o).heap[b]?=some o:=by
 rw[qJ,if_pos rfl,if_pos h]
theorem mS{w:World}{b:Nat}{o:Obj}{k:Nat}(h:k≠b):(setBlk w b o).heap[k]?=w.heap[k]?:=by
 rw[qJ,if_neg (Ne.symm h)]
theorem pA{w:World}{b:Nat}{o:Obj}:(setBlk w b o).heap.size=w.heap.size:=by simp[setBlk]
theorem yW{w:World}{b:Nat}{o o':Obj}:setBlk (setBlk w b o) b o'=setBlk w b o':=by
 refine vM (fun k=>?_) rfl rfl rfl rfl;rw[qJ,qJ,qJ,pA];by_cases e:b=k
 ·rw[if_pos e,if_pos e]
 ·rw[if_neg e,if_neg e,if_neg e]
theorem EM{w:World}{b:Nat}{o:Obj}(h:w.heap[b]?=some o):setBlk w b o=w:=by
 refine vM (fun k=>?_) rfl rfl rfl rfl;rw[qJ];by_cases e:b=k
 ·subst e;rw[if_pos rfl,h,if_pos];exact(Array.getElem?_eq_some_iff.1 h).1
 ·rw[if_neg e]
theorem lH{w:World}{b:Nat}{o:Obj}(h:w.heap[b]?=some o):b<w.heap.size:=by
 rcases Nat.lt_or_ge b w.heap.size with h'|h'
 ·exact h'
 ·simp[Array.getElem?_eq_none h']at h
def Nc:Nat→Int→Bs
 |0,_=>[]
 |d+1,x=>Nc d (x/8)++[(48+x%8).toNat.toUInt8]
def NM(l:Bs)(i:Nat)(s:Bs):Bs:=l.take i++s++l.drop (i+s.length)
structure R8 where
 a:Int
 b:Int
 c:Int
 d:Int
 e:Int
 f:Int
 g:Int
 k:Int
structure HS where
 h:R8
 rest:List UInt8
 n:Nat
section
variable (c:R8→List UInt8→R8)
def zG(h:R8)(b:List UInt8):Nat→R8
 |0=>h
 |j+1=>c (zG h b j) ((b.drop (64*j)).take 64)
def lay(r:List UInt8)(a:Nat)(l:List UInt8):List UInt8:=r.take a++l++r.drop (a+l.length)
end
def qE(n:Nat):List UInt8:=[56,48,40,32,24,16,8,0].map fun k=>UInt8.ofNat (8*n/2^k)
def pH(n:Nat):Nat:=(119-n%64) %64
def Br(l:List UInt8):List UInt8:=l++[128]++List.replicate (pH l.length) 0++qE l.length
theorem EN(l:List UInt8):(Br l).length%64=0:=by
 unfold Br pH qE;simp only[List.length_append,List.length_replicate,List.length_cons,List.length_nil,List.length_map];omega
def Kd(c:R8→List UInt8→R8)(h0:R8)(l:List UInt8):R8:=zG c h0 (Br l) ((Br l).length/64)
open Go
def z32:Array Value:=Array.replicate 32 (.int .u8 0)
def hx(n:Nat):UInt8:=if n<10 then UInt8.ofNat (48+n)else UInt8.ofNat (87+n)
def uB(d:List UInt8):List UInt8:=d.flatMap fun b=>[hx (b.toNat/16),hx (b.toNat%16)]
theorem Az(b:UInt8)(d:List UInt8):uB (b::d)=hx (b.toNat/16)::hx (b.toNat%16)::uB d:=rfl
theorem A1(d e:List UInt8):uB (d++e)=uB d++uB e:=List.flatMap_append
theorem uC:∀d:List UInt8,(uB d).length=2*d.length
 |[]=>rfl
 |b::d=>by rw[Az,List.length_cons,List.length_cons,List.length_cons,uC d];omega
def hv(c:UInt8):Option Nat:=if 48≤c.toNat∧c.toNat≤57 then some (c.toNat-48)else if 97≤c.toNat∧c.toNat≤102 then some (c.toNat-87)else none
theorem Ke:∀n,n<16→hv (hx n)=some n:=aA
theorem AA{c:UInt8}{n:Nat}(h:hv c=some n):c=hx n∧n<16:=by
 unfold hv at h;have hc:c=UInt8.ofNat c.toNat:=eZ
 split at h
 ·cases h;unfold hx;rw[if_pos aC];exact⟨by rw[show 48+(c.toNat-48)=c.toNat by omega];exact hc,aC⟩
 split at h
 ·cases h;unfold hx;rw[if_neg aC];exact⟨by rw[show 87+(c.toNat-87)=c.toNat by omega];exact hc,aC⟩
 ·cases h
def sT:List UInt8→Option (List UInt8)
 |[]=>some []
 |[_]=>none
 |x::y::r=>match hv x,hv y,sT r with
  |some a,some b,some d=>some (UInt8.ofNat (16*a+b)::d)
  |_,_,_=>none
theorem zH:∀d:List UInt8,sT (uB d)=some d
 |[]=>rfl
 |b::d=>by
  have hb:=b.toNat_lt;rw[Az,sT,Ke _ aC,Ke _ aC,zH d];show some (UInt8.ofNat (16*(b.toNat/16)+b.toNat%16)::d)=_
  rw[show 16*(b.toNat/16)+b.toNat%16=b.toNat by omega,UInt8.ofNat_toNat]
theorem CO:∀{l d:List UInt8},sT l=some d→l=uB d
 |[],_,h=>by cases h;rfl
 |[_],_,h=>aK
 |x::y::r,d,h=>by
  rw[sT]at h;split at h
  ·rename_i a b e ha hb he;cases h;obtain⟨rfl,h1⟩:=AA ha;obtain⟨rfl,h2⟩:=AA hb;rw[Az,UInt8.toNat_ofNat',CO he];rw[show(16*a+b) %256/16=a by omega,show(16*a+b) %256%16=b by omega]
  ·cases h
def zeroD:List UInt8:=List.replicate 32 0
def shaHead:List UInt8:=[115,104,97,50,53,54,58]
def nA(d:List UInt8):ByteArray:=⟨(shaHead++uB d).toArray⟩
def nI(s:ByteArray):Option (List UInt8):=if s.data.toList.take 7=shaHead∧s.size=71 then sT (s.data.toList.drop 7)else none
theorem tI(d:List UInt8)(h:d.length=32):nI (nA d)=some d:=by
 unfold nI nA
 have h1:(⟨(shaHead++uB d).toArray⟩:ByteArray).size=71:=by
  show(shaHead++uB d).length=71;rw[List.length_append,uC,h]
  rfl
 rw[if_pos ⟨by show(shaHead++uB d).take 7=shaHead;rw[List.take_append_of_le_length aA];rfl,h1⟩];show sT ((shaHead++uB d).drop 7)=some d
 rw[List.drop_append_of_le_length aA];exact zH d
theorem sF{s:ByteArray}{d:List UInt8}(h:nI s=some d):s=nA d∧d.length=32:=by
 unfold nI at h;split at h
 ·rename_i hc;have h1:=CO h
  have h2:s.data.toList=shaHead++uB d:=by rw[←h1,←hc.1];exact(List.take_append_drop 7 _).symm
  have h3:s.data.toList.length=71:=by rw[Array.length_toList];exact hc.2
  rw[h2,List.length_append,uC]at h3;refine⟨?_,by have:shaHead.length=7:=rfl;omega⟩;unfold nA;rw[←h2]
 ·cases h
end Go.Proofs.YtdkedmngeahjiaaGreatDoor
