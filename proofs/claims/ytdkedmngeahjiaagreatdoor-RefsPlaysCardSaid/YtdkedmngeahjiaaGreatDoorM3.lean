/- Texts of the seat, one behind the other: Tab, Dm, TabAt, Disk, DmLaw. -/
import Derived.Test.YtdkedmngeahjiaaGreatDoorM1
import Derived.Maps.Ext
import Derived.Maps.OwnSet
import Derived.WideAt
import Derived.WideShapes
import Derived.Maps.OwnOps
import Derived.Deep.QuietTactic
import Derived.Test.YtdkedmngeahjiaaGreatDoorWorld
import Derived.Test.YtdkedmngeahjiaaGreatDoorProg
import Derived.StringKeys
set_option maxRecDepth 100000
set_option maxHeartbeats 25600000
/- Plain: tables from names to blocks: sorted lists, and as a map's datum. -/
namespace Go.Proofs.YtdkedmngeahjiaaGreatDoor
open Go Go.Maps
abbrev Tab:=List (Bs × Nat)
def tget (l:Tab) (k:Bs):Option Nat:=(l.find? (fun p=>p.1 == k)).map (·.2)
def tdel (l:Tab) (k:Bs):Tab:=l.filter fun p=>!(p.1 == k)
def tins (x:Bs × Nat):Tab→Tab
 |[]=>[x]
 |y :: r=>if bytesBefore x.1 y.1 then x :: y :: r else y :: tins x r
def tput (l:Tab) (k:Bs) (b:Nat):Tab:=tins (k,b) (tdel l k)
def Rising (l:Tab):Prop:=l.Pairwise (fun p q=>bytesBefore p.1 q.1=true)
def tentry (p:Bs × Nat):Lit × DataW Unit:=(.string p.1,.lit (.int .i64 (p.2:Int)))
def tabD (l:Tab):DataW Unit:=.map (l.map tentry)
theorem tabD_del (l:Tab) (k:Bs):(tabD l).del (.string k)=tabD (tdel l k):=by
 unfold tabD DataW.del tdel
 simp only [List.filter_map]
 rfl
theorem tabD_ins (x:Bs × Nat):∀ l:Tab,DataW.insert (tentry x) (l.map tentry)=(tins x l).map tentry
 |[]=>rfl
 |y :: r=>by
  unfold tins
  rw [List.map_cons,DataW.insert]
  have e:(tentry x).1.before (tentry y).1=bytesBefore x.1 y.1:=rfl
  rw [e]
  split
  ·rfl
  ·rw [tabD_ins x r];rfl
theorem tabD_put (l:Tab) (k:Bs) (b:Nat):(tabD l).put (.string k) (.lit (.int .i64 (b:Int)))=tabD (tput l k b):=by
 show DataW.map (DataW.insert (tentry (k,b)) ((l.map tentry).filter fun p=>!p.1.sameKey (.string k)))=_
 have e:((l.map tentry).filter fun p=>!p.1.sameKey (.string k))=(tdel l k).map tentry:=by
  unfold tdel
  rw [List.filter_map]
  rfl
 rw [e,tabD_ins]
 rfl
theorem tabD_at (l:Tab) (k:Bs) (z:DataW Unit):(tabD l).atKey (.string k) z=match tget l k with | some b=>.lit (.int .i64 (b:Int)) | none=>z:=by
 unfold tabD DataW.atKey tget
 simp only [List.find?_map]
 have e:((fun p:Lit × DataW Unit=>p.1.sameKey (.string k)) ∘ tentry)=fun p=>p.1 == k:=rfl
 rw [e]
 cases l.find? (fun p=>p.1 == k) <;> rfl
theorem tabD_canon {D:DataW Unit} {l:Tab} (h:Canon D) (hD:D=tabD l):Rising l:=by
 obtain ⟨es,rfl,hp,-⟩:=h
 have e:es=l.map tentry:=by unfold tabD at hD;exact DataW.map.inj hD
 subst e
 unfold Rising
 rw [List.pairwise_map] at hp
 exact hp
theorem bb_ne {a b:Bs} (h:bytesBefore a b=true):a≠b:=by
 rintro rfl
 rw [WideAt.bytes_irrefl] at h
 cases h
theorem tins_mem (x:Bs × Nat):∀ (l:Tab) (p:Bs × Nat),p∈tins x l ↔ p=x∨p∈l
 |[],p=>by simp [tins]
 |y :: r,p=>by
  unfold tins
  split
  ·simp
  ·rw [List.mem_cons,tins_mem x r,List.mem_cons]
   constructor
   ·rintro (h | h | h)
    ·exact .inr (.inl h)
    ·exact .inl h
    ·exact .inr (.inr h)
   ·rintro (h | h | h)
    ·exact .inr (.inl h)
    ·exact .inl h
    ·exact .inr (.inr h)
theorem tdel_mem {l:Tab} {k:Bs} {p:Bs × Nat}:p∈tdel l k ↔ p∈l∧p.1≠k:=by
 unfold tdel
 rw [List.mem_filter]
 simp
theorem tput_mem {l:Tab} {k:Bs} {b:Nat} {p:Bs × Nat}:p∈tput l k b ↔ p=(k,b)∨(p∈l∧p.1≠k):=by
 unfold tput
 rw [tins_mem,tdel_mem]
theorem tdel_rising {l:Tab} {k:Bs} (h:Rising l):Rising (tdel l k):=h.sublist (List.filter_sublist)
theorem tins_rising {x:Bs × Nat}:∀ {l:Tab},Rising l→(∀ p∈l,p.1≠x.1)→Rising (tins x l)
 |[],_,_=>by unfold tins Rising;exact List.pairwise_singleton _ _
 |y :: r,h,hn=>by
  unfold Rising at h ⊢
  rw [List.pairwise_cons] at h
  unfold tins
  split
  ·rename_i hb
   rw [List.pairwise_cons]
   refine ⟨fun p hp=>?_,List.pairwise_cons.2 h⟩
   rcases List.mem_cons.1 hp with rfl | hp
   ·exact hb
   ·exact WideShapes.bytes_trans _ _ _ hb (h.1 p hp)
  ·rename_i hb
   rw [List.pairwise_cons]
   refine ⟨fun p hp=>?_,tins_rising h.2 (fun p hp=>hn p (List.mem_cons_of_mem _ hp))⟩
   rcases (tins_mem x r p).1 hp with rfl | hp
   ·rcases WideAt.bytes_total y.1 p.1 (hn y List.mem_cons_self) with h1 | h1
    ·exact h1
    ·exact absurd h1 hb
   ·exact h.1 p hp
theorem tput_rising {l:Tab} {k:Bs} {b:Nat} (h:Rising l):Rising (tput l k b) :=
 tins_rising (tdel_rising h) (fun _ hp=>(tdel_mem.1 hp).2)
theorem tget_mem {l:Tab} {k:Bs} {b:Nat} (h:tget l k=some b):(k,b)∈l:=by
 unfold tget at h
 obtain ⟨p,hp,rfl⟩:=Option.map_eq_some_iff.1 h
 have h1:=List.find?_some hp
 have h2:=List.mem_of_find?_eq_some hp
 have:p.1=k:=by simpa using h1
 rw [← this]
 exact h2
theorem tget_of_mem {l:Tab} (hr:Rising l) {k:Bs} {b:Nat} (h:(k,b)∈l):tget l k=some b:=by
 induction l with
 |nil=>cases h
 |cons y r ih =>
  unfold Rising at hr
  rw [List.pairwise_cons] at hr
  unfold tget
  rw [List.find?_cons]
  rcases List.mem_cons.1 h with rfl | h
  ·simp
  ·have hne:(y.1 == k)=false:=by rw [beq_eq_false_iff_ne];exact bb_ne (hr.1 _ h)
   rw [hne]
   exact ih hr.2 h
theorem tget_none {l:Tab} {k:Bs}:tget l k=none ↔ ∀ p∈l,p.1≠k:=by
 unfold tget
 rw [Option.map_eq_none_iff,List.find?_eq_none]
 simp
theorem tget_put {l:Tab} {k j:Bs} {b:Nat} (hr:Rising l):tget (tput l k b) j=if j=k then some b else tget l j:=by
 by_cases e:j=k
 ·rw [if_pos e,e]
  exact tget_of_mem (tput_rising hr) (tput_mem.2 (.inl rfl))
 ·rw [if_neg e]
  cases h:tget l j with
  |none =>
   rw [tget_none] at h ⊢
   intro p hp
   rcases tput_mem.1 hp with rfl | ⟨hp,_⟩
   ·exact fun h'=>e h'.symm
   ·exact h p hp
  |some c=>exact tget_of_mem (tput_rising hr) (tput_mem.2 (.inr ⟨tget_mem h,e⟩))
theorem tget_del {l:Tab} {k j:Bs} (hr:Rising l):tget (tdel l k) j=if j=k then none else tget l j:=by
 by_cases e:j=k
 ·rw [if_pos e,e,tget_none]
  exact fun p hp=>(tdel_mem.1 hp).2
 ·rw [if_neg e]
  cases h:tget l j with
  |none =>
   rw [tget_none] at h ⊢
   exact fun p hp=>h p (tdel_mem.1 hp).1
  |some c=>exact tget_of_mem (tdel_rising hr) (tdel_mem.2 ⟨tget_mem h,e⟩)
theorem tab_ext {l m:Tab} (hl:Rising l) (hm:Rising m) (h:∀ k,tget l k=tget m k):l=m:=by
 have hp:∀ p:Bs × Nat,p∈l ↔ p∈m:=fun p=>⟨fun hp=>tget_mem (by rw [← h];exact tget_of_mem hl hp),fun hp=>tget_mem (by rw [h];exact tget_of_mem hm hp)⟩
 induction l generalizing m with
 |nil =>
  cases m with
  |nil=>rfl
  |cons y r=>exact absurd ((hp y).2 List.mem_cons_self) (by simp)
 |cons x xs ih =>
  cases m with
  |nil=>exact absurd ((hp x).1 List.mem_cons_self) (by simp)
  |cons y ys =>
   unfold Rising at hl hm
   have hl':=List.pairwise_cons.1 hl
   have hm':=List.pairwise_cons.1 hm
   have e:x=y:=by
    rcases List.mem_cons.1 ((hp x).1 List.mem_cons_self) with h1 | h1
    ·exact h1
    ·rcases List.mem_cons.1 ((hp y).2 List.mem_cons_self) with h2 | h2
     ·exact h2.symm
     ·have a:=hm'.1 x h1
      have b:=hl'.1 y h2
      exact absurd (WideShapes.bytes_trans _ _ _ a b) (by rw [WideAt.bytes_irrefl];simp)
   subst e
   have hne:∀ p∈xs,p≠x:=fun p hp2 e=>by
    have:=hl'.1 p hp2
    rw [e,WideAt.bytes_irrefl] at this
    cases this
   have hne2:∀ p∈ys,p≠x:=fun p hp2 e=>by
    have:=hm'.1 p hp2
    rw [e,WideAt.bytes_irrefl] at this
    cases this
   have hp':∀ p:Bs × Nat,p∈xs ↔ p∈ys:=fun p=>⟨fun h1=>by
    rcases List.mem_cons.1 ((hp p).1 (List.mem_cons_of_mem _ h1)) with h2 | h2
    ·exact absurd h2 (hne p h1)
    ·exact h2,fun h1=>by
    rcases List.mem_cons.1 ((hp p).2 (List.mem_cons_of_mem _ h1)) with h2 | h2
    ·exact absurd h2 (hne2 p h1)
    ·exact h2⟩
   rw [ih hl'.2 hm'.2 (fun k=>by
    cases h1:tget xs k with
    |none =>
     cases h2:tget ys k with
     |none=>rfl
     |some c =>
      have:=(hp' (k,c)).2 (tget_mem h2)
      rw [tget_of_mem hl'.2 this] at h1
      cases h1
    |some c =>
     have:=(hp' (k,c)).1 (tget_mem h1)
     rw [tget_of_mem hm'.2 this]) hp']
def ptrElem:Value→Option (DataW Unit × List MemPlace)
 |.pointer (some ⟨b,0,none⟩)=>some (.lit (.int .i64 (b:Int)),[])
 |.pointer none=>some (.nil,[])
 |_=>none
def ptrV:Option Nat→Value
 |some b=>.pointer (some ⟨b,0,none⟩)
 |none=>.pointer none
theorem ptrElem_inv {v:Value} {b:Nat} {ps:List MemPlace} (h:ptrElem v=some (.lit (.int .i64 (b:Int)),ps)):v=.pointer (some ⟨b,0,none⟩):=by
 unfold ptrElem at h
 split at h
 ·rename_i c
  have h1:=(Prod.mk.inj (Option.some.inj h)).1
  have h2:=DataW.lit.inj h1
  have h3:=(Lit.int.inj h2).2
  have:c=b:=by exact_mod_cast h3
  rw [this]
 ·have h1:=(Prod.mk.inj (Option.some.inj h)).1
  cases h1
 ·cases h
theorem ptrElem_nil {v:Value} {ps:List MemPlace} (h:ptrElem v=some (.nil,ps)):v=.pointer none:=by
 unfold ptrElem at h
 split at h
 ·have h1:=(Prod.mk.inj (Option.some.inj h)).1
  cases h1
 ·rfl
 ·cases h
end Go.Proofs.YtdkedmngeahjiaaGreatDoor
/- Plain: a disk whose power may fail: its state, and its operations. -/
namespace Go.Proofs.YtdkedmngeahjiaaGreatDoor
structure Fil where
 data:ByteArray
 safe:Nat
instance:Inhabited Fil:=⟨⟨⟨#[]⟩,0⟩⟩
inductive DOp where
 |create (n:ByteArray) (i:Nat)
 |rename (o n:ByteArray)
 |remove (n:ByteArray)
def DOp.act:DOp→Tab→Tab
 |.create n i,t=>tput t n.data.toList i
 |.rename o n,t=>match tget t o.data.toList with
  |some i=>tput (tdel t o.data.toList) n.data.toList i
  |none=>t
 |.remove n,t=>tdel t n.data.toList
structure DM where
 off:Bool
 room:Nat
 files:List Fil
 now:Tab
 safe:Tab
 pend:List DOp
 armed:Int
 keep:List Int
def zerosB (n:Nat):ByteArray:=⟨Array.replicate n 0⟩
def Fil.left (f:Fil) (k:Int):ByteArray :=
 if k % 4=0 then f.data.extract 0 f.safe
 else if k % 4=1 then f.data
 else if k % 4=2 then f.data.extract 0 (f.safe+(f.data.size - f.safe) / 2)
 else f.data.extract 0 f.safe ++ zerosB (f.data.size - f.safe)
def Fil.cut (f:Fil) (k:Int):Fil:=⟨f.left k,(f.left k).size⟩
def failPend:List DOp→List Int→Tab→Tab
 |[],_,t=>t
 |o :: r,ks,t=>failPend r ks.tail (if ks.headD 0 % 2=1 then o.act t else t)
def failFiles:Tab→List Int→List Fil→List Fil
 |[],_,fs=>fs
 |p :: r,ks,fs=>failFiles r ks.tail (fs.set p.2 (fs[p.2]!.cut (ks.headD 0)))
def DM.fail (m:DM) (ks:List Int):DM :=
 { off:=true,room:=m.room,files:=failFiles (failPend m.pend ks m.safe) (ks.drop m.pend.length) m.files,now:=failPend m.pend ks m.safe,safe:=failPend m.pend ks m.safe,pend:=[],armed:=0,keep:=[] }
def sizeOfTab (fs:List Fil):Tab→Nat
 |[]=>0
 |p :: r=>fs[p.2]!.data.size+sizeOfTab fs r
def DM.used (m:DM):Nat:=if m.off then 0 else sizeOfTab m.files m.now
def rightB (n:ByteArray):Bool:=decide (1≤n.size) && decide (n.size≤200)
inductive DCall where
 |create (n:ByteArray)
 |write (n s:ByteArray)
 |sync (n:ByteArray)
 |rename (o n:ByteArray)
 |remove (n:ByteArray)
 |flush
def DM.get (m:DM) (n:ByteArray):Option Nat:=tget m.now n.data.toList
def DM.refused (m:DM):DCall→Int
 |.create n=>if rightB n then if (m.get n).isSome then 11 else 0 else 8
 |.write n s=>if (m.get n).isSome then if m.used+s.size > m.room then 28 else 0 else 10
 |.sync n=>if (m.get n).isSome then 0 else 10
 |.rename o n=>if (m.get o).isSome then if rightB n then 0 else 8 else 10
 |.remove n=>if (m.get n).isSome then 0 else 10
 |.flush=>0
def DM.names (m:DM) (o:DOp):DM:={ m with now:=o.act m.now,pend:=m.pend ++ [o] }
def DM.act (m:DM):DCall→DM
 |.create n=>({ m with files:=m.files ++ [⟨⟨#[]⟩,0⟩] }:DM).names (.create n m.files.length)
 |.write n s=>match m.get n with
  |some i=>{ m with files:=m.files.set i ⟨m.files[i]!.data ++ s,m.files[i]!.safe⟩ }
  |none=>m
 |.sync n=>match m.get n with
  |some i=>{ m with files:=m.files.set i ⟨m.files[i]!.data,m.files[i]!.data.size⟩ }
  |none=>m
 |.rename o n=>m.names (.rename o n)
 |.remove n=>m.names (.remove n)
 |.flush=>{ m with safe:=m.now,pend:=[] }
def DCall.late:DCall→Bool
 |.sync _ | .flush=>true
 |_=>false
def DM.tick (m:DM):DM:={ m with armed:=if 1≤m.armed then m.armed - 1 else 0 }
def DM.op (m:DM) (c:DCall):DM × Int :=
 if m.off then (m,27)
 else if m.refused c≠0 then (m,m.refused c)
 else if m.armed=1 then ((if c.late then m.tick else m.tick.act c).fail m.keep,27)
 else (m.tick.act c,0)
def DM.new (room:Int):DM:=⟨false,(min (max room 0) 268435456).toNat,[],[],[],[],0,[]⟩
structure DM.Ok (m:DM) (n:Nat):Prop where
 now:Rising m.now
 safe:Rising m.safe
 nowI:∀ p∈m.now,p.2 < m.files.length
 safeI:∀ p∈m.safe,p.2 < m.files.length
 pendI:∀ k i,DOp.create k i∈m.pend→i < m.files.length
 file:∀ f∈m.files,f.safe≤f.data.size∧f.data.size≤m.room
 nowN:m.now.length≤n
 safeN:m.safe.length+m.pend.length≤n
 room:m.room≤268435456
 arm0:0≤m.armed
 arm1:m.armed≤9223372036854775807
 keepI:∀ k∈m.keep,-9223372036854775808≤k∧k≤9223372036854775807
theorem tdel_len (l:Tab) (k:Bs):(tdel l k).length≤l.length:=List.length_filter_le _ _
theorem tins_len (x:Bs × Nat):∀ l:Tab,(tins x l).length=l.length+1
 |[]=>rfl
 |y :: r=>by
  unfold tins
  split
  ·rfl
  ·rw [List.length_cons,tins_len x r,List.length_cons]
theorem tput_len (l:Tab) (k:Bs) (b:Nat):(tput l k b).length≤l.length+1:=by
 unfold tput
 rw [tins_len]
 have:=tdel_len l k
 omega
theorem act_len (o:DOp) (t:Tab):(o.act t).length≤t.length+1:=by
 cases o with
 |create n i=>exact tput_len _ _ _
 |rename o n =>
  simp only [DOp.act]
  split
  ·have:=tput_len (tdel t o.data.toList) n.data.toList ‹Nat›
   have:=tdel_len t o.data.toList
   omega
  ·omega
 |remove n=>have:=tdel_len t n.data.toList;simp only [DOp.act];omega
theorem act_rising (o:DOp) {t:Tab} (h:Rising t):Rising (o.act t):=by
 cases o with
 |create n i=>exact tput_rising h
 |rename o n =>
  simp only [DOp.act]
  split
  ·exact tput_rising (tdel_rising h)
  ·exact h
 |remove n=>exact tdel_rising h
theorem act_ids (o:DOp) {t:Tab} {N:Nat} (h:∀ p∈t,p.2 < N) (ho:∀ k i,o=.create k i→i < N):∀ p∈o.act t,p.2 < N:=by
 intro p hp
 cases o with
 |create n i =>
  rcases tput_mem.1 hp with rfl | ⟨hp,_⟩
  ·exact ho n i rfl
  ·exact h p hp
 |rename o n =>
  simp only [DOp.act] at hp
  split at hp
  ·rename_i i hi
   rcases tput_mem.1 hp with e | ⟨hp,_⟩
   ·rw [e];have h2:=h _ (tget_mem hi);exact h2
   ·exact h p (tdel_mem.1 hp).1
  ·exact h p hp
 |remove n=>exact h p (tdel_mem.1 hp).1
theorem failPend_all {Q:Tab→Prop} (ps:List DOp) (h:∀ o∈ps,∀ t,Q t→Q (o.act t)):∀ (ks:List Int) (t:Tab),Q t→Q (failPend ps ks t):=by
 induction ps with
 |nil=>exact fun _ _ h=>h
 |cons o r ih =>
  intro ks t ht
  rw [failPend]
  refine ih (fun o ho=>h o (List.mem_cons_of_mem _ ho)) _ _ ?_
  split
  ·exact h o List.mem_cons_self t ht
  ·exact ht
theorem failPend_len:∀ (ps:List DOp) (ks:List Int) (t:Tab),(failPend ps ks t).length≤t.length+ps.length
 |[],_,t=>Nat.le_refl _
 |o :: r,ks,t=>by
  rw [failPend]
  have:=failPend_len r ks.tail (if ks.headD 0 % 2=1 then o.act t else t)
  have h2:(if ks.headD 0 % 2=1 then o.act t else t).length≤t.length+1:=by
   split
   ·exact act_len o t
   ·omega
  rw [List.length_cons]
  omega
theorem failFiles_length:∀ (t:Tab) (ks:List Int) (fs:List Fil),(failFiles t ks fs).length=fs.length
 |[],_,_=>rfl
 |p :: r,ks,fs=>by rw [failFiles,failFiles_length,List.length_set]
theorem extract_sz (s:ByteArray) (n:Nat) (h:n≤s.size):(s.extract 0 n).size=n:=by
 rw [ByteArray.size_extract]
 omega
theorem zerosB_size (n:Nat):(zerosB n).size=n:=by
 show (Array.replicate n (0:UInt8)).size=n
 rw [Array.size_replicate]
theorem left_size (f:Fil) (k:Int) (h:f.safe≤f.data.size):f.safe≤(f.left k).size∧(f.left k).size≤f.data.size:=by
 unfold Fil.left
 split
 ·rw [extract_sz _ _ h];omega
 split
 ·omega
 split
 ·rw [extract_sz _ _ (by omega)];omega
 ·rw [ByteArray.size_append,extract_sz _ _ h,zerosB_size];omega
theorem cut_ok (f:Fil) (k:Int) {R:Nat} (h:f.safe≤f.data.size∧f.data.size≤R):(f.cut k).safe≤(f.cut k).data.size∧(f.cut k).data.size≤R :=
 ⟨Nat.le_refl _,Nat.le_trans (left_size f k h.1).2 h.2⟩
theorem get!_mem {fs:List Fil} {i:Nat} (h:i < fs.length):fs[i]!∈fs:=by
 rw [getElem!_pos fs i h]
 exact List.getElem_mem h
theorem failFiles_ok {R:Nat}:∀ (t:Tab) (ks:List Int) (fs:List Fil),(∀ p∈t,p.2 < fs.length)→(∀ f∈fs,f.safe≤f.data.size∧f.data.size≤R)→∀ f∈failFiles t ks fs,f.safe≤f.data.size∧f.data.size≤R
 |[],_,_,_,h=>h
 |p :: r,ks,fs,hp,h=>by
  rw [failFiles]
  refine failFiles_ok r _ _ (fun q hq=>by rw [List.length_set];exact hp q (List.mem_cons_of_mem _ hq)) (fun f hf=>?_)
  rcases List.mem_or_eq_of_mem_set hf with hf | rfl
  ·exact h f hf
  ·exact cut_ok _ _ (h _ (get!_mem (hp p List.mem_cons_self)))
theorem DM.Ok.mono {m:DM} {n n':Nat} (h:m.Ok n) (hn:n≤n'):m.Ok n' :=
 { h with nowN:=Nat.le_trans h.nowN hn,safeN:=Nat.le_trans h.safeN hn }
theorem DM.Ok.fail {m:DM} {n:Nat} (h:m.Ok n) (ks:List Int):(m.fail ks).Ok n:=by
 have h1:Rising (failPend m.pend ks m.safe):=failPend_all (Q:=Rising) m.pend (fun o _ t ht=>act_rising o ht) ks _ h.safe
 have h2:∀ p∈failPend m.pend ks m.safe,p.2 < m.files.length:=failPend_all (Q:=fun t=>∀ p∈t,p.2 < m.files.length) m.pend (fun o ho t ht=>act_ids o ht (fun k i e=>h.pendI k i (e ▸ ho))) ks _ h.safeI
 have h3:=failPend_len m.pend ks m.safe
 have h4:=h.safeN
 refine ⟨h1,h1,?_,?_,(fun k i hk=>by cases hk),?_,?_,?_,h.room,Int.le_refl _,(show (0:Int)≤9223372036854775807 by omega),(fun k hk=>by cases hk)⟩
 ·unfold DM.fail;rw [failFiles_length];exact h2
 ·unfold DM.fail;rw [failFiles_length];exact h2
 ·exact failFiles_ok _ _ _ h2 h.file
 ·show (failPend m.pend ks m.safe).length≤n;omega
 ·show (failPend m.pend ks m.safe).length+0≤n;omega
theorem DM.Ok.names {m:DM} {n:Nat} (h:m.Ok n) (o:DOp) (ho:∀ k i,o=.create k i→i < m.files.length):(m.names o).Ok (n+1):=by
 have h1:=act_len o m.now
 have h2:=h.nowN
 have h3:=h.safeN
 exact { h with
  now:=act_rising o h.now
  nowI:=act_ids o h.nowI ho
  pendI:=fun k i hk=>by
   rcases List.mem_append.1 hk with hk | hk
   ·exact h.pendI k i hk
   ·exact ho k i (List.mem_singleton.1 hk).symm
  nowN:=by show (o.act m.now).length≤_;omega
  safeN:=by show m.safe.length+(m.pend ++ [o]).length≤_;rw [List.length_append];simp only [List.length_cons,List.length_nil];omega }
theorem DM.Ok.tick {m:DM} {n:Nat} (h:m.Ok n):m.tick.Ok n:=by
 have h1:=h.arm0
 have h2:=h.arm1
 exact { h with
  arm0:=by show 0≤if 1≤m.armed then m.armed - 1 else 0;split <;> omega
  arm1:=by show (if 1≤m.armed then m.armed - 1 else 0)≤_;split <;> omega }
theorem tget_lt {t:Tab} {N:Nat} (h:∀ p∈t,p.2 < N) {k:Bs} {i:Nat} (hg:tget t k=some i):i < N:=h _ (tget_mem hg)
theorem DM.Ok.act {m:DM} {n:Nat} (h:m.Ok n) (c:DCall) (hr:m.refused c=0) (ho:m.off=false):(m.act c).Ok (n+1):=by
 have hn:=h.nowN
 have hs:=h.safeN
 cases c with
 |create k =>
  unfold DM.act
  refine DM.Ok.names (m:={ m with files:=m.files ++ [⟨⟨#[]⟩,0⟩] }) { h with nowI:=?_,safeI:=?_,pendI:=?_,file:=?_ } _ ?_
  ·intro p hp;show _ < (m.files ++ [_]).length;rw [List.length_append];exact Nat.lt_of_lt_of_le (h.nowI p hp) (Nat.le_add_right _ _)
  ·intro p hp;show _ < (m.files ++ [_]).length;rw [List.length_append];exact Nat.lt_of_lt_of_le (h.safeI p hp) (Nat.le_add_right _ _)
  ·intro k i hk;show _ < (m.files ++ [_]).length;rw [List.length_append];exact Nat.lt_of_lt_of_le (h.pendI k i hk) (Nat.le_add_right _ _)
  ·intro f hf
   rcases List.mem_append.1 hf with hf | hf
   ·exact h.file f hf
   ·rw [List.mem_singleton.1 hf]
    exact ⟨Nat.le_refl _,Nat.zero_le _⟩
  ·rintro k i e
   cases e
   show _ < (m.files ++ [_]).length
   rw [List.length_append,List.length_singleton]
   omega
 |write k s =>
  simp only [DM.act]
  split
  ·rename_i i hi
   have hil:=tget_lt h.nowI hi
   refine DM.Ok.mono (n:=n) { h with nowI:=?_,safeI:=?_,pendI:=?_,file:=?_ } (by omega)
   ·intro p hp;show _ < (m.files.set _ _).length;rw [List.length_set];exact h.nowI p hp
   ·intro p hp;show _ < (m.files.set _ _).length;rw [List.length_set];exact h.safeI p hp
   ·intro k i hk;show _ < (m.files.set _ _).length;rw [List.length_set];exact h.pendI k i hk
   ·intro f hf
    rcases List.mem_or_eq_of_mem_set hf with hf | rfl
    ·exact h.file f hf
    ·have h1:=h.file _ (get!_mem hil)
     have h2:m.files[i]!.data.size≤m.used:=by
      unfold DM.used
      rw [ho]
      have:∀ t:Tab,(∃ q∈t,q.2=i)→m.files[i]!.data.size≤sizeOfTab m.files t:=by
       intro t
       induction t with
       |nil=>rintro ⟨q,hq,_⟩;cases hq
       |cons x r ih =>
        rintro ⟨q,hq,rfl⟩
        rw [sizeOfTab]
        rcases List.mem_cons.1 hq with rfl | hq
        ·omega
        ·have:=ih ⟨q,hq,rfl⟩;omega
      exact this _ ⟨_,tget_mem hi,rfl⟩
     have h3:m.used+s.size≤m.room:=by
      simp only [DM.refused] at hr
      have e:(m.get k).isSome=true:=by rw [hi];rfl
      rw [if_pos e] at hr
      split at hr
      ·cases hr
      ·omega
     constructor
     ·show m.files[i]!.safe≤(m.files[i]!.data ++ s).size
      rw [ByteArray.size_append];omega
     ·show (m.files[i]!.data ++ s).size≤m.room
      rw [ByteArray.size_append];omega
  ·exact h.mono (by omega)
 |sync k =>
  simp only [DM.act]
  split
  ·rename_i i hi
   have hil:=tget_lt h.nowI hi
   refine DM.Ok.mono (n:=n) { h with nowI:=?_,safeI:=?_,pendI:=?_,file:=?_ } (by omega)
   ·intro p hp;show _ < (m.files.set _ _).length;rw [List.length_set];exact h.nowI p hp
   ·intro p hp;show _ < (m.files.set _ _).length;rw [List.length_set];exact h.safeI p hp
   ·intro k i hk;show _ < (m.files.set _ _).length;rw [List.length_set];exact h.pendI k i hk
   ·intro f hf
    rcases List.mem_or_eq_of_mem_set hf with hf | rfl
    ·exact h.file f hf
    ·exact ⟨Nat.le_refl _,(h.file _ (get!_mem hil)).2⟩
  ·exact h.mono (by omega)
 |rename o k=>exact h.names _ (fun k i e=>by cases e)
 |remove k=>exact h.names _ (fun k i e=>by cases e)
 |flush =>
  exact { h with safe:=h.now,safeI:=h.nowI,pendI:=fun k i hk=>(by cases hk),nowN:=by show m.now.length≤_;omega,safeN:=by show m.now.length+0≤_;omega }
theorem tick_refused (m:DM) (c:DCall):m.tick.refused c=m.refused c:=by cases c <;> rfl
theorem DM.Ok.op {m:DM} {n:Nat} (h:m.Ok n) (c:DCall):(m.op c).1.Ok (n+1):=by
 unfold DM.op
 split
 ·exact h.mono (by omega)
 rename_i ho
 have ho':m.off=false:=by cases hm:m.off <;> simp_all
 split
 ·exact h.mono (by omega)
 rename_i hr
 have hr':m.tick.refused c=0:=by rw [tick_refused];exact Decidable.not_not.1 hr
 split
 ·refine DM.Ok.fail ?_ _
  split
  ·exact h.tick.mono (by omega)
  ·exact h.tick.act c hr' ho'
 ·exact h.tick.act c hr' ho'
end Go.Proofs.YtdkedmngeahjiaaGreatDoor
/- A table in memory: a map from names to pointers; the laws on its operations, exact. -/
namespace Go.Proofs.YtdkedmngeahjiaaGreatDoor
open Go Go.Maps
section
variable {P:Program} {k:TypeId}
def TabAt (P:Program) (k:TypeId) (w:World) (b:Nat) (l:Tab):Prop:=w.ownsMap P k ptrElem b l.length (tabD l)
theorem size_exact {w:World} {b n:Nat} {l:Tab} (h:w.ownsMap P k ptrElem b n (tabD l)):TabAt P k w b l:=by
 obtain ⟨es,clock,hb,F,hs,hD⟩:=h
 refine ⟨es,clock,hb,F,?_,hD⟩
 have e:=DataW.map.inj hD
 have e2:=congrArg List.length e
 rw [length_sorted,List.length_map,List.length_map] at e2
 have e3:es.toList.length=es.size:=Array.length_toList
 omega
theorem TabAt.rising {w:World} {b:Nat} {l:Tab} (h:TabAt P k w b l) (K:Keyed P k):Rising l:=tabD_canon (World.ownsMap.canon h K) rfl
theorem TabAt.lt {w:World} {b:Nat} {l:Tab} (h:TabAt P k w b l):b < w.heap.size:=World.ownsMap.lt h
theorem TabAt.keep {w w':World} {b:Nat} {l:Tab} (h:TabAt P k w b l) (hb:w'.heap[b]?=w.heap[b]?):TabAt P k w' b l:=by
 obtain ⟨es,clock,h1,r⟩:=h
 exact ⟨es,clock,hb.trans h1,r⟩
theorem TabAt.look {w:World} {b:Nat} {l:Tab} (h:TabAt P k w b l) (K:Keyed P k) {t e:TypeId} (ht:P.underlying t=some (.map k e)) (hz:(zeroValue e).run P w=.ok (.pointer none) w) {key:Value} {s:Bs} (hk:keyOf P k key=some (.string s)) :
  (Instr.lookup t (.map (some b)) key false).run P w=.ok (ptrV (tget l s)) w:=by
 obtain ⟨v,ps,hrun,hv⟩:=World.ownsMap.lookup h K ht hz (zd:=.nil) (zp:=[]) rfl hk
 rw [hrun]
 rw [tabD_at] at hv
 cases hg:tget l s with
 |none=>rw [hg] at hv;rw [ptrElem_nil hv];rfl
 |some c=>rw [hg] at hv;rw [ptrElem_inv hv];rfl
theorem TabAt.store {w:World} {b:Nat} {l:Tab} (h:TabAt P k w b l) (K:Keyed P k) {t e:TypeId} (ht:P.underlying t=some (.map k e)) (hn:l.length < maxLen) {key:Value} {s:Bs} (hk:keyOf P k key=some (.string s)) (c:Nat) :
  ∃ w',(Instr.mapUpdate t (.map (some b)) key (ptrV (some c))).run P w=.ok () w'∧TabAt P k w' b (tput l s c)∧w.mapTurned w' b:=by
 obtain ⟨w',h1,h2,h3⟩:=World.ownsMap.store h K ht hn (val:=ptrV (some c)) (d:=.lit (.int .i64 (c:Int))) (ps:=[]) hk rfl
 rw [tabD_put] at h2
 exact ⟨w',h1,size_exact h2,h3⟩
theorem TabAt.drop {w:World} {b:Nat} {l:Tab} (h:TabAt P k w b l) (K:Keyed P k) {t e:TypeId} (ht:P.underlying t=some (.map k e)) {key:Value} {s:Bs} (hk:keyOf P k key=some (.string s)) (ty:TypeId) :
  ∃ w',(Builtin.delete_ #[t,k] ty #[.map (some b),key]).run P w=.ok (.tuple #[]) w'∧TabAt P k w' b (tdel l s)∧w.mapTurned w' b:=by
 obtain ⟨w',h1,h2,h3⟩:=World.ownsMap.drop h K ht hk ty
 rw [tabD_del] at h2
 exact ⟨w',h1,size_exact h2,h3⟩
theorem TabAt.made (w:World):TabAt P k (w.alloc (.map #[] 0)) w.heap.size []:=World.ownsMap_made w P k ptrElem
variable {w:World} {ops:Array Oper} {rest:List Oper} {o:Oper} {a:Act} {Q:Exit→Act→World→Prop}
theorem wpList_look_tab (hg:o.guard=none) (m x:Operand) (t:TypeId) (hop:o.op=Op.lookup t m x false)
  (e:TypeId) (K:Keyed P k) (ht:P.underlying t=some (.map k e)) (hz:∀ w,(zeroValue e).run P w=.ok (.pointer none) w) (b:Nat) (l:Tab)
  (hm:a.eval m=.map (some b)) (hT:TabAt P k w b l) (key:Value) (s:Bs) (hx:a.eval x=key) (hk:keyOf P k key=some (.string s))
  (hK:wpList P ops Q rest (a.put o.dst (ptrV (tget l s))) w):wpList P ops Q (o :: rest) a w:=by
 refine wpList_plain hg fun K' hK'=>?_
 have hrun:=hT.look K ht (hz w) hk
 unfold Oper.wp
 simp [execOp,hop,hm,hx,hrun,Result.andThen]
 exact hK' _ _ hK
theorem wpList_store_tab (hg:o.guard=none) (m x v:Operand) (t:TypeId) (hop:o.op=Op.mapUpdate t m x v)
  (e:TypeId) (K:Keyed P k) (ht:P.underlying t=some (.map k e)) (b:Nat) (l:Tab)
  (hm:a.eval m=.map (some b)) (hT:TabAt P k w b l) (hn:l.length < maxLen) (key:Value) (s:Bs) (c:Nat) (hx:a.eval x=key) (hv:a.eval v=ptrV (some c)) (hk:keyOf P k key=some (.string s))
  (hK:∀ w',TabAt P k w' b (tput l s c)→w.mapTurned w' b→wpList P ops Q rest (a.put o.dst undef) w'):wpList P ops Q (o :: rest) a w:=by
 refine wpList_plain hg fun K' hK'=>?_
 obtain ⟨w',hrun,r1,r2⟩:=hT.store K ht hn hk c
 unfold Oper.wp
 simp [execOp,hop,hm,hx,hv,hrun,Result.andThen]
 exact hK' _ _ (hK w' r1 r2)
theorem wpList_drop_tab (hg:o.guard=none) (m x:Operand) (t:TypeId) (hop:o.op=Op.call { callee:=Callee.builtin Builtin.delete,args:=#[m,x],argTypes:=#[t,k] })
  (e:TypeId) (K:Keyed P k) (ht:P.underlying t=some (.map k e)) (b:Nat) (l:Tab)
  (hm:a.eval m=.map (some b)) (hT:TabAt P k w b l) (key:Value) (s:Bs) (hx:a.eval x=key) (hk:keyOf P k key=some (.string s))
  (hK:∀ w',TabAt P k w' b (tdel l s)→w.mapTurned w' b→wpList P ops Q rest (a.put o.dst (.tuple #[])) w'):wpList P ops Q (o :: rest) a w:=by
 refine wpList_plain hg fun K' hK'=>?_
 obtain ⟨w',hrun,r1,r2⟩:=hT.drop K ht hk o.type
 unfold Oper.wp
 simp [execOp,hop,resolve,invoke,builtin,hm,hx,hrun,Result.andThen]
 exact hK' _ _ (hK w' r1 r2)
end
structure Off (S:Nat→Prop) (w w':World):Prop where
 os:w'.os=w.os
 tape:w'.tape=w.tape
 output:w'.output=w.output
 size:w.heap.size≤w'.heap.size
 block:∀ i,i < w.heap.size→¬ S i→w'.heap[i]?=w.heap[i]?
theorem Off.refl (S:Nat→Prop) (w:World):Off S w w:=⟨rfl,rfl,rfl,Nat.le_refl _,fun _ _ _=>rfl⟩
def grow (S:Nat→Prop) (w w':World):Nat→Prop:=fun b=>S b∨(w.heap.size≤b∧b < w'.heap.size)
theorem Off.trans {S S':Nat→Prop} {a b c:World} (h:Off S a b) (k:Off S' b c) (hs:∀ i,i < a.heap.size→S' i→S i):Off S a c :=
 ⟨k.os.trans h.os,k.tape.trans h.tape,k.output.trans h.output,Nat.le_trans h.size k.size,fun i hi hn=>(k.block i (Nat.lt_of_lt_of_le hi h.size) (fun hS=>hn (hs i hi hS))).trans (h.block i hi hn)⟩
theorem Off.tr {S:Nat→Prop} {a b c:World} (h:Off S a b) (k:Off S b c):Off S a c:=h.trans k (fun _ _ x=>x)
theorem Off.trG {S:Nat→Prop} {a b c:World} (h:Off S a b) (k:Off (grow S a b) b c):Off S a c :=
 h.trans k (fun i hi hs=>by rcases hs with hs | ⟨h1,_⟩;exact hs;omega)
theorem Off.mono {S S':Nat→Prop} {a b:World} (h:Off S a b) (hs:∀ i,i < a.heap.size→S i→S' i):Off S' a b :=
 ⟨h.os,h.tape,h.output,h.size,fun i hi hn=>h.block i hi (fun x=>hn (hs i hi x))⟩
theorem Off.alloc {S:Nat→Prop} {a b:World} (h:Off S a b) (o:Obj):Off S a (b.alloc o) :=
 h.tr ⟨rfl,rfl,rfl,by rw [World.size_alloc];omega,fun i hi _=>RowKit.Below.heap_alloc b o i hi⟩
theorem Off.below {S:Nat→Prop} {a b c:World} (h:Off S a b) {B:Nat} (k:RowKit.Below B b c) (hB:a.heap.size≤B):Off S a c :=
 ⟨k.os.trans h.os,k.tape.trans h.tape,k.output.trans h.output,Nat.le_trans h.size k.size,fun i hi hn=>(k.block i (by omega)).trans (h.block i hi hn)⟩
theorem Off.grown {S:Nat→Prop} {a b c:World} (h:Off S a b) {r:Nat} (k:b.grownBy c (some r)) (hr:r < a.heap.size→S r):Off S a c :=
 ⟨k.os.trans h.os,k.tape.trans h.tape,k.output.trans h.output,Nat.le_trans h.size k.size,fun i hi hn=>(k.block i (Nat.lt_of_lt_of_le hi h.size) (fun e=>by cases e;exact hn (hr hi))).trans (h.block i hi hn)⟩
theorem Off.setCell {S:Nat→Prop} {a b:World} (h:Off S a b) (p:Addr) (v:Value) (hr:p.block < a.heap.size→S p.block):Off S a (b.setCell p v) :=
 ⟨h.os,h.tape,h.output,by rw [World.size_setCell];exact h.size,fun i hi hn=>(RowKit.Below.heap_setCell _ _ _ _ (fun e=>hn (by rw [e] at hi ⊢;exact hr hi))).trans (h.block i hi hn)⟩
theorem Off.draws {S:Nat→Prop} {a b:World} (h:Off S a b) (n:Nat):Off S a (b.drewN n):=⟨h.os,h.tape,h.output,h.size,h.block⟩
theorem Off.toBelow {S:Nat→Prop} {a b:World} (h:Off S a b) {B:Nat} (hB:∀ i,S i→B≤i) (hb:B≤a.heap.size):RowKit.Below B a b :=
 ⟨h.os,h.tape,h.output,h.size,fun i hi=>h.block i (by omega) (fun hS=>by have:=hB i hS;omega)⟩
theorem Off.cell {S:Nat→Prop} {a b:World} (h:Off S a b) {p:Addr} (h1:p.block < a.heap.size) (h2:¬ S p.block):b.cell? p=a.cell? p:=by
 simp only [World.cell?,h.block p.block h1 h2]
theorem grow_grow {S:Nat→Prop} {a b c:World} (h1:a.heap.size≤b.heap.size) (h2:b.heap.size≤c.heap.size) (i:Nat):grow (grow S a b) b c i ↔ grow S a c i:=by
 unfold grow
 constructor
 ·rintro ((h | ⟨h3,h4⟩) | ⟨h3,h4⟩)
  ·exact .inl h
  ·exact .inr ⟨h3,by omega⟩
  ·exact .inr ⟨by omega,h4⟩
 ·rintro (h | ⟨h3,h4⟩)
  ·exact .inl (.inl h)
  ·by_cases h5:i < b.heap.size
   ·exact .inl (.inr ⟨h3,h5⟩)
   ·exact .inr ⟨by omega,h4⟩
end Go.Proofs.YtdkedmngeahjiaaGreatDoor
/- A disk in memory. -/
namespace Go.Proofs.YtdkedmngeahjiaaGreatDoor
open Go Go.RowKit Go.Maps
def locT (loc:Nat→Nat) (t:Tab):Tab:=t.map fun p=>(p.1,loc p.2)
theorem locT_get (loc:Nat→Nat) (t:Tab) (k:Bs):tget (locT loc t) k=(tget t k).map loc:=by
 unfold tget locT
 rw [List.find?_map,Option.map_map,Option.map_map]
 rfl
theorem locT_del (loc:Nat→Nat) (t:Tab) (k:Bs):tdel (locT loc t) k=locT loc (tdel t k):=by
 unfold tdel locT
 rw [List.filter_map]
 rfl
theorem tins_cons (x y:Bs × Nat) (r:Tab):tins x (y :: r)=if bytesBefore x.1 y.1 then x :: y :: r else y :: tins x r:=rfl
theorem locT_cons (loc:Nat→Nat) (y:Bs × Nat) (r:Tab):locT loc (y :: r)=(y.1,loc y.2) :: locT loc r:=rfl
theorem locT_ins (loc:Nat→Nat) (k:Bs) (i:Nat):∀ t:Tab,tins (k,loc i) (locT loc t)=locT loc (tins (k,i) t)
 |[]=>rfl
 |y :: r=>by
  rw [locT_cons,tins_cons,tins_cons]
  show (if bytesBefore k y.1 then _ else _)=locT loc (if bytesBefore k y.1 then _ else _)
  split
  ·rfl
  ·rw [locT_ins loc k i r]
   rfl
theorem locT_put (loc:Nat→Nat) (t:Tab) (k:Bs) (i:Nat):tput (locT loc t) k (loc i)=locT loc (tput t k i):=by
 unfold tput
 rw [locT_del,locT_ins]
theorem locT_len (loc:Nat→Nat) (t:Tab):(locT loc t).length=t.length:=List.length_map _
theorem locT_congr {loc loc':Nat→Nat} {t:Tab} (h:∀ p∈t,loc p.2=loc' p.2):locT loc t=locT loc' t:=List.map_congr_left fun p hp=>by rw [h p hp]
theorem locT_rising {loc:Nat→Nat} {t:Tab}:Rising (locT loc t) ↔ Rising t:=by
 unfold Rising locT
 rw [List.pairwise_map]
theorem key_string:Keyed Tryz.prog 9:=string_keyed Tryz.underlying9
theorem keyB {s:ByteArray} (h:s.size≤maxLen):keyOf Tryz.prog 9 (.string s)=some (.string s.data.toList):=WideMaps.keyOf_string_mk Tryz.underlying9 h
theorem zeroP (w:World):(zeroValue 93).run Tryz.prog w=.ok (.pointer none) w:=by kernel_rfl
abbrev TabM (w:World) (b:Nat) (l:Tab):Prop:=TabAt Tryz.prog 9 w b l
def ptr (b:Nat):Value:=.pointer (some ⟨b,0,none⟩)
def OpAt (S:Nat→Prop) (w:World) (loc:Nat→Nat) (v:Value):DOp→Prop
 |.create n i=>∃ bf bn,v=.func (.func 101) #[] #[.pointer (some ⟨bf,0,none⟩),.pointer (some ⟨bn,0,none⟩)]∧S bf∧S bn ∧
   w.heap[bf]?=some (.cells #[.pointer (some ⟨loc i,0,none⟩)] 93 (0,0))∧w.heap[bn]?=some (.cells #[.string n] 9 (0,0))∧n.size≤maxLen
 |.rename o n=>∃ bo bn,v=.func (.func 111) #[] #[.pointer (some ⟨bo,0,none⟩),.pointer (some ⟨bn,0,none⟩)]∧S bo∧S bn ∧
   w.heap[bo]?=some (.cells #[.string o] 9 (0,0))∧w.heap[bn]?=some (.cells #[.string n] 9 (0,0))∧o.size≤maxLen∧n.size≤maxLen
 |.remove n=>∃ bn,v=.func (.func 94) #[] #[.pointer (some ⟨bn,0,none⟩)]∧S bn ∧
   w.heap[bn]?=some (.cells #[.string n] 9 (0,0))∧n.size≤maxLen
def OpsAt (S:Nat→Prop) (w:World) (loc:Nat→Nat):List Value→List DOp→Prop
 |[],[]=>True
 |v :: vs,o :: os=>OpAt S w loc v o∧OpsAt S w loc vs os
 |_,_=>False
def InS (S:Nat→Prop) (v:Value):Prop:=∀ b,v.ownBlock=some b→S b
def PendAt (S:Nat→Prop) (w:World) (loc:Nat→Nat) (pv:Value) (os:List DOp):Prop :=
 ∃ vs:List Value,w.ownsRow 0 152 1 pv os.length vs∧OpsAt S w loc vs os∧InS S pv
def IntsOwn (S:Nat→Prop) (w:World) (fv:Value) (ks:List Int):Prop:=w.ownsRow 0 3 1 fv ks.length (ks.map (Value.int .i64))∧InS S fv
def diskV (m:DM) (bn bs:Nat) (pv fv:Value):Array Value:=#[.bool m.off,.int .i64 m.room,.map (some bn),.map (some bs),pv,.int .i64 m.armed,fv]
structure DiskIn (w:World) (a n:Nat) (m:DM) (S:Nat→Prop) (bn bs:Nat) (pv fv:Value) (loc:Nat→Nat):Prop where
 head:w.heap[a]?=some (.cells (diskV m bn bs pv fv) 88 (0,0))
 sa:S a
 sn:S bn
 ss:S bs
 ne:bn≠bs
 now:TabM w bn (locT loc m.now)
 safe:TabM w bs (locT loc m.safe)
 file:∀ i f,m.files[i]?=some f→S (loc i)∧w.heap[loc i]?=some (.cells #[.string f.data,.int .i64 f.safe] 95 (0,0))
 inj:∀ i j,i < m.files.length→j < m.files.length→loc i=loc j→i=j
 pend:PendAt S w loc pv m.pend
 fate:IntsOwn S w fv m.keep
 ok:m.Ok n
 lt:∀ b,S b→b < w.heap.size
def DiskAt (w:World) (a n:Nat) (m:DM) (S:Nat→Prop):Prop:=∃ bn bs pv fv loc,DiskIn w a n m S bn bs pv fv loc
/-! ### what stays -/
theorem OpAt.keep {S S':Nat→Prop} {w w':World} {loc loc':Nat→Nat} {v:Value} {o:DOp} (h:OpAt S w loc v o) (hb:∀ b t cs,S b→w.heap[b]?=some (.cells cs t (0,0))→(t=9∨t=93)→w'.heap[b]?=w.heap[b]?) (hs:∀ b,S b→S' b)
  (hl:∀ k i,o=.create k i→loc' i=loc i):OpAt S' w' loc' v o:=by
 cases o with
 |create n i =>
  obtain ⟨bf,bn,hv,h1,h2,h3,h4,h5⟩:=h
  exact ⟨bf,bn,hv,hs _ h1,hs _ h2,by rw [hl n i rfl];exact (hb _ _ _ h1 h3 (.inr rfl)).trans h3,(hb _ _ _ h2 h4 (.inl rfl)).trans h4,h5⟩
 |rename o n =>
  obtain ⟨bf,bn,hv,h1,h2,h3,h4,h5⟩:=h
  exact ⟨bf,bn,hv,hs _ h1,hs _ h2,(hb _ _ _ h1 h3 (.inl rfl)).trans h3,(hb _ _ _ h2 h4 (.inl rfl)).trans h4,h5⟩
 |remove n =>
  obtain ⟨bn,hv,h2,h4,h5⟩:=h
  exact ⟨bn,hv,hs _ h2,(hb _ _ _ h2 h4 (.inl rfl)).trans h4,h5⟩
theorem OpsAt.keep {S S':Nat→Prop} {w w':World} {loc loc':Nat→Nat} (hb:∀ b t cs,S b→w.heap[b]?=some (.cells cs t (0,0))→(t=9∨t=93)→w'.heap[b]?=w.heap[b]?) (hs:∀ b,S b→S' b) :
  ∀ {vs:List Value} {os:List DOp},OpsAt S w loc vs os→(∀ k i,DOp.create k i∈os→loc' i=loc i)→OpsAt S' w' loc' vs os
 |[],[],_,_=>trivial
 |_ :: _,_ :: _,h,hl=>⟨h.1.keep hb hs (fun k i e=>hl k i (e ▸ List.mem_cons_self)),OpsAt.keep hb hs h.2 (fun k i e=>hl k i (List.mem_cons_of_mem _ e))⟩
 |[],_ :: _,h,_=>h.elim
 |_ :: _,[],h,_=>h.elim
theorem OpsAt.snoc {S:Nat→Prop} {w:World} {loc:Nat→Nat} {v:Value} {o:DOp} (h:OpAt S w loc v o):∀ {vs:List Value} {os:List DOp},OpsAt S w loc vs os→OpsAt S w loc (vs ++ [v]) (os ++ [o])
 |[],[],_=>⟨h,trivial⟩
 |_ :: _,_ :: _,hh=>⟨hh.1,OpsAt.snoc h hh.2⟩
 |[],_ :: _,hh=>hh.elim
 |_ :: _,[],hh=>hh.elim
theorem OpsAt.len {S:Nat→Prop} {w:World} {loc:Nat→Nat}:∀ {vs:List Value} {os:List DOp},OpsAt S w loc vs os→vs.length=os.length
 |[],[],_=>rfl
 |_ :: _,_ :: _,h=>by rw [List.length_cons,List.length_cons,OpsAt.len h.2]
 |[],_ :: _,h=>h.elim
 |_ :: _,[],h=>h.elim
theorem row_keep {S:Nat→Prop} {w w':World} {base n:Nat} {t:TypeId} {v:Value} {xs:List Value} (h:w.ownsRow base t 1 v n xs) (hS:InS S v) (hb:∀ b cs,S b→w.heap[b]?=some (.cells cs t (0,0))→w'.heap[b]?=w.heap[b]?):w'.ownsRow base t 1 v n xs:=by
 refine ⟨h.1,?_⟩
 rcases h.2 with h2 | ⟨g,cap,cur,rfl,h3,h4,h5⟩
 ·exact .inl h2
 ·exact .inr ⟨g,cap,cur,rfl,h3,(hb g cur (hS g rfl) h4).trans h4,h5⟩
theorem DiskIn.frame {w w':World} {a n:Nat} {m:DM} {S:Nat→Prop} {bn bs:Nat} {pv fv:Value} {loc:Nat→Nat} (h:DiskIn w a n m S bn bs pv fv loc) (hb:∀ b,S b→w'.heap[b]?=w.heap[b]?) (hz:w.heap.size≤w'.heap.size):DiskIn w' a n m S bn bs pv fv loc :=
 { h with
  head:=(hb _ h.sa).trans h.head
  now:=h.now.keep (hb _ h.sn)
  safe:=h.safe.keep (hb _ h.ss)
  file:=fun i f hf=>⟨(h.file i f hf).1,(hb _ (h.file i f hf).1).trans (h.file i f hf).2⟩
  pend:=by
   obtain ⟨vs,h1,h2,h3⟩:=h.pend
   exact ⟨vs,row_keep h1 h3 (fun b _ hS _=>hb b hS),h2.keep (fun b _ _ hS _ _=>hb b hS) (fun _ x=>x) (fun _ _ _=>rfl),h3⟩
  fate:=⟨row_keep h.fate.1 h.fate.2 (fun b _ hS _=>hb b hS),h.fate.2⟩
  lt:=fun b hS=>Nat.lt_of_lt_of_le (h.lt b hS) hz }
theorem DiskAt.frame {w w':World} {a n:Nat} {m:DM} {S:Nat→Prop} (h:DiskAt w a n m S) (hb:∀ b,S b→w'.heap[b]?=w.heap[b]?) (hz:w.heap.size≤w'.heap.size):DiskAt w' a n m S:=by
 obtain ⟨bn,bs,pv,fv,loc,h⟩:=h
 exact ⟨bn,bs,pv,fv,loc,h.frame hb hz⟩
theorem DiskAt.lt {w:World} {a n:Nat} {m:DM} {S:Nat→Prop} (h:DiskAt w a n m S):∀ b,S b→b < w.heap.size:=by
 obtain ⟨bn,bs,pv,fv,loc,h⟩:=h
 exact h.lt
theorem DiskAt.ok {w:World} {a n:Nat} {m:DM} {S:Nat→Prop} (h:DiskAt w a n m S):m.Ok n:=by
 obtain ⟨bn,bs,pv,fv,loc,h⟩:=h
 exact h.ok
theorem DiskAt.mine {w:World} {a n:Nat} {m:DM} {S:Nat→Prop} (h:DiskAt w a n m S):S a:=by
 obtain ⟨bn,bs,pv,fv,loc,h⟩:=h
 exact h.sa
theorem DiskAt.below {w w':World} {a n:Nat} {m:DM} {S:Nat→Prop} (h:DiskAt w a n m S) (hb:Below w.heap.size w w'):DiskAt w' a n m S :=
 h.frame (fun b hS=>hb.block b (h.lt b hS)) hb.size
theorem DiskAt.off {w w':World} {a n:Nat} {m:DM} {S T:Nat→Prop} (h:DiskAt w a n m S) (hb:Off T w w') (hd:∀ b,S b→¬ T b):DiskAt w' a n m S :=
 h.frame (fun b hS=>hb.block b (h.lt b hS) (hd b hS)) hb.size
theorem DiskIn.bigger {w:World} {a n:Nat} {m:DM} {S S':Nat→Prop} {bn bs:Nat} {pv fv:Value} {loc:Nat→Nat} (h:DiskIn w a n m S bn bs pv fv loc) (hs:∀ b,S b→S' b) (hl:∀ b,S' b→b < w.heap.size):DiskIn w a n m S' bn bs pv fv loc :=
 { h with
  sa:=hs _ h.sa
  sn:=hs _ h.sn
  ss:=hs _ h.ss
  file:=fun i f hf=>⟨hs _ (h.file i f hf).1,(h.file i f hf).2⟩
  pend:=by
   obtain ⟨vs,h1,h2,h3⟩:=h.pend
   exact ⟨vs,h1,h2.keep (fun _ _ _ _ _ _=>rfl) hs (fun _ _ _=>rfl),fun b hb=>hs b (h3 b hb)⟩
  fate:=⟨h.fate.1,fun b hb=>hs b (h.fate.2 b hb)⟩
  lt:=hl }
theorem setCell_blk {w:World} {b i:Nat} {c:Array Value} {t:TypeId} {v:Value} (h:w.heap[b]?=some (.cells c t (0,0))):w.setCell ⟨b,i,none⟩ v=setBlk w b (.cells (c.setIfInBounds i v) t (0,0)):=by
 refine heap_ext (fun k=>?_) rfl rfl rfl rfl
 rw [setBlk_at]
 simp only [World.setCell,Array.getElem?_modify]
 by_cases e:b=k
 ·subst e
  rw [if_pos rfl,if_pos rfl,if_pos (blk_lt h),h]
  simp
 ·rw [if_neg e,if_neg e]
theorem setBlk_setCell {w:World} {b i:Nat} {c:Array Value} {t:TypeId} {v:Value} (hb:b < w.heap.size):(setBlk w b (.cells c t (0,0))).setCell ⟨b,i,none⟩ v=setBlk w b (.cells (c.setIfInBounds i v) t (0,0)):=by
 rw [setCell_blk (setBlk_heap hb),setBlk_setBlk]
theorem frozen_blk {w:World} {b i:Nat} {c:Array Value} {t:TypeId} (h:w.heap[b]?=some (.cells c t (0,0))):w.frozen? ⟨b,i,none⟩=false:=by
 simp [World.frozen?,h]
theorem ne_blk {w:World} {a b:Nat} {o o':Obj} (h:w.heap[a]?=some o) (h':w.heap[b]?=some o') (hne:o≠o'):b≠a:=by
 rintro rfl
 rw [h] at h'
 exact hne (Option.some.inj h')
theorem cells_ne {c c':Array Value} {t t':TypeId} {f f':Nat × Nat} (h:t≠t'):Obj.cells c t f≠Obj.cells c' t' f':=fun e=>by cases e;exact h rfl
theorem TabAt.ne {P:Program} {k:TypeId} {w:World} {b a:Nat} {l:Tab} (h:TabAt P k w b l) {c:Array Value} {t:TypeId} {f:Nat × Nat} (ha:w.heap[a]?=some (.cells c t f)):b≠a:=by
 obtain ⟨es,clock,h1,_⟩:=h
 exact ne_blk ha h1 (fun e=>by cases e)
theorem PendAt.keep {S S':Nat→Prop} {w w':World} {loc loc':Nat→Nat} {pv:Value} {os:List DOp} (h:PendAt S w loc pv os)
  (hb:∀ b t cs,S b→w.heap[b]?=some (.cells cs t (0,0))→(t=9∨t=93∨t=152)→w'.heap[b]?=w.heap[b]?) (hs:∀ b,S b→S' b) (hl:∀ k i,DOp.create k i∈os→loc' i=loc i):PendAt S' w' loc' pv os:=by
 obtain ⟨vs,h1,h2,h3⟩:=h
 refine ⟨vs,row_keep h1 h3 (fun b cs hS hc=>hb b _ cs hS hc (.inr (.inr rfl))),h2.keep (fun b t cs hS hc ht=>hb b t cs hS hc (ht.elim .inl (fun e=>.inr (.inl e)))) hs hl,fun b hb=>hs b (h3 b hb)⟩
theorem IntsOwn.keep {S S':Nat→Prop} {w w':World} {fv:Value} {ks:List Int} (h:IntsOwn S w fv ks) (hb:∀ b cs,S b→w.heap[b]?=some (.cells cs 3 (0,0))→w'.heap[b]?=w.heap[b]?) (hs:∀ b,S b→S' b):IntsOwn S' w' fv ks :=
 ⟨row_keep h.1 h.2 hb,fun b hb=>hs b (h.2 b hb)⟩
theorem DiskIn.other {w w':World} {a n n':Nat} {m m':DM} {S:Nat→Prop} {bn bs:Nat} {pv fv pv' fv':Value} {loc:Nat→Nat} (h:DiskIn w a n m S bn bs pv fv loc) (hb:∀ b,b≠a→S b→w'.heap[b]?=w.heap[b]?)
  (ha:w'.heap[a]?=some (.cells (diskV m' bn bs pv' fv') 88 (0,0))) (hz:w.heap.size≤w'.heap.size) (e1:m'.now=m.now) (e2:m'.safe=m.safe) (e3:m'.files=m.files) (hp:PendAt S w' loc pv' m'.pend) (hf:IntsOwn S w' fv' m'.keep) (ho:m'.Ok n') :
  DiskIn w' a n' m' S bn bs pv' fv' loc where
 head:=ha
 sa:=h.sa
 sn:=h.sn
 ss:=h.ss
 ne:=h.ne
 now:=by rw [e1];exact h.now.keep (hb _ (h.now.ne h.head) h.sn)
 safe:=by rw [e2];exact h.safe.keep (hb _ (h.safe.ne h.head) h.ss)
 file:=fun i f hi=>by
  rw [e3] at hi
  have h1:=h.file i f hi
  exact ⟨h1.1,(hb _ (ne_blk h.head h1.2 (cells_ne (by decide))) h1.1).trans h1.2⟩
 inj:=by rw [e3];exact h.inj
 pend:=hp
 fate:=hf
 ok:=ho
 lt:=fun b hS=>Nat.lt_of_lt_of_le (h.lt b hS) hz
theorem DiskIn.pendO {w w':World} {a n:Nat} {m:DM} {S:Nat→Prop} {bn bs:Nat} {pv fv:Value} {loc:Nat→Nat} (h:DiskIn w a n m S bn bs pv fv loc) (hb:∀ b,b≠a→S b→w'.heap[b]?=w.heap[b]?):PendAt S w' loc pv m.pend :=
 h.pend.keep (fun b t cs hS hc ht=>hb b (ne_blk h.head hc (cells_ne (by rcases ht with rfl | rfl | rfl <;> decide))) hS) (fun _ x=>x) (fun _ _ _=>rfl)
theorem DiskIn.fateO {w w':World} {a n:Nat} {m:DM} {S:Nat→Prop} {bn bs:Nat} {pv fv:Value} {loc:Nat→Nat} (h:DiskIn w a n m S bn bs pv fv loc) (hb:∀ b,b≠a→S b→w'.heap[b]?=w.heap[b]?):IntsOwn S w' fv m.keep :=
 h.fate.keep (fun b cs hS hc=>hb b (ne_blk h.head hc (cells_ne (by decide))) hS) (fun _ x=>x)
theorem ops_nil (S:Nat→Prop) (w:World) (loc:Nat→Nat):PendAt S w loc (.slice none 0 0) []:=⟨[],⟨rfl,.inl ⟨rfl,rfl⟩⟩,trivial,fun b hb=>by cases hb⟩
theorem ints_nil (S:Nat→Prop) (w:World):IntsOwn S w (.slice none 0 0) []:=⟨⟨rfl,.inl ⟨rfl,rfl⟩⟩,fun b hb=>by cases hb⟩
theorem Off.setBlk {S:Nat→Prop} {a b:World} (h:Off S a b) {k:Nat} {o:Obj} (hk:k < a.heap.size→S k):Off S a (Go.Proofs.YtdkedmngeahjiaaGreatDoor.setBlk b k o) :=
 ⟨h.os,h.tape,h.output,by rw [setBlk_size];exact h.size,fun i hi hn=>(setBlk_other (fun e=>hn (by rw [e] at hi ⊢;exact hk hi))).trans (h.block i hi hn)⟩
theorem grow_sub {S:Nat→Prop} {w w':World}:∀ b,S b→grow S w w' b:=fun _ h=>.inl h
def DiskPost (a n:Nat) (m:DM) (S:Nat→Prop) (w w':World):Prop:=DiskAt w' a n m (grow S w w')∧Off S w w'
theorem diskV_cell {w:World} {a n:Nat} {m:DM} {S:Nat→Prop} {bn bs:Nat} {pv fv:Value} {loc:Nat→Nat} (h:DiskIn w a n m S bn bs pv fv loc) (i:Nat):w.cell? ⟨a,i,none⟩=(diskV m bn bs pv fv)[i]?:=cell_of_heapN h.head
end Go.Proofs.YtdkedmngeahjiaaGreatDoor
/- Plain laws on disks: what is safe stays; a failure behind a failure changes nothing. -/
namespace Go.Proofs.YtdkedmngeahjiaaGreatDoor
def DM.Calm (m:DM):Prop:=m.off=false∧m.armed=0
theorem DM.Calm.names {m:DM} (h:m.Calm) (o:DOp):(m.names o).Calm:=h
theorem DM.Calm.tick {m:DM} (h:m.Calm):m.tick=m:=by
 unfold DM.tick
 rw [if_neg (by rw [h.2];decide)]
 obtain ⟨off,room,files,now,safe,pend,armed,keep⟩:=m
 obtain ⟨_,rfl⟩:=h
 rfl
theorem DM.Calm.act {m:DM} (h:m.Calm) (c:DCall):(m.act c).Calm:=by
 cases c with
 |create k=>exact h
 |write k s=>simp only [DM.act];split <;> exact h
 |sync k=>simp only [DM.act];split <;> exact h
 |rename o k=>exact h
 |remove k=>exact h
 |flush=>exact h
theorem DM.Calm.op_eq {m:DM} (h:m.Calm) (c:DCall):m.op c=if m.refused c≠0 then (m,m.refused c) else (m.act c,0):=by
 unfold DM.op
 rw [if_neg (by rw [h.1];decide),h.tick]
 by_cases hr:m.refused c≠0
 ·rw [if_pos hr,if_pos hr]
 ·rw [if_neg hr,if_neg (by rw [h.2];decide),if_neg hr]
theorem DM.Calm.op {m:DM} (h:m.Calm) (c:DCall):(m.op c).1.Calm:=by
 rw [h.op_eq]
 split
 ·exact h
 ·exact h.act c
def DM.revive (m:DM):DM:={ m with off:=false }
def DM.crash (m:DM) (ks:List Int):DM:=if m.off then m else m.fail ks
theorem crash_calm {m:DM} (h:m.off=false) (ks:List Int):(m.crash ks).revive.Calm:=by
 unfold DM.crash
 rw [h]
 exact ⟨rfl,rfl⟩
def Fil.whole (f:Fil):Prop:=f.safe=f.data.size
theorem extract_all (s:ByteArray):s.extract 0 s.size=s:=by
 ext1
 show (s.extract 0 s.size).data=s.data
 rw [ByteArray.data_extract]
 show s.data.extract 0 s.data.size=_
 simp
theorem Fil.whole.cut {f:Fil} (h:f.whole) (k:Int):f.cut k=f:=by
 have h2:f.left k=f.data:=by
  unfold Fil.left
  rw [h]
  split
  ·exact extract_all _
  split
  ·rfl
  split
  ·rw [Nat.sub_self];exact extract_all _
  ·rw [Nat.sub_self,extract_all]
   show f.data ++ (⟨#[]⟩:ByteArray)=f.data
   exact ByteArray.append_empty
 unfold Fil.cut
 rw [h2,← h]
theorem failFiles_whole:∀ (t:Tab) (ks:List Int) (fs:List Fil),(∀ p∈t,p.2 < fs.length∧fs[p.2]!.whole)→failFiles t ks fs=fs
 |[],_,_,_=>rfl
 |p :: r,ks,fs,h=>by
  have h1:=h p List.mem_cons_self
  have e:fs.set p.2 (fs[p.2]!.cut (ks.headD 0))=fs:=by
   rw [h1.2.cut,getElem!_pos fs p.2 h1.1]
   exact List.set_getElem_self _
  rw [failFiles,e]
  exact failFiles_whole r _ _ (fun q hq=>h q (List.mem_cons_of_mem _ hq))
structure DM.Still (m:DM):Prop where
 calm:m.Calm
 pend:m.pend=[]
 safe:m.safe=m.now
 whole:∀ p∈m.now,m.files[p.2]!.whole
theorem DM.Still.fail {m:DM} {n:Nat} (h:m.Still) (ho:m.Ok n) (hk:m.keep=[]) (ks:List Int):(m.crash ks).revive=m:=by
 have e1:failPend m.pend ks m.safe=m.now:=by rw [h.pend,h.safe];rfl
 have e2:failFiles m.now (ks.drop m.pend.length) m.files=m.files:=failFiles_whole _ _ _ (fun p hp=>⟨ho.nowI p hp,h.whole p hp⟩)
 unfold DM.crash
 rw [h.calm.1]
 show (m.fail ks).revive=m
 unfold DM.fail DM.revive
 rw [e1]
 simp only [e2]
 obtain ⟨off,room,files,now,safe,pend,armed,keep⟩:=m
 obtain ⟨⟨h1,h2⟩,h3,h4,h5⟩:=h
 simp only at h1 h2 h3 h4 hk
 subst h1 h2 h3 h4 hk
 rfl
theorem fail_set_len {fs:List Fil} {i j:Nat} {f:Fil} (h:j < fs.length):(fs.set i f)[j]! = if i=j then f else fs[j]!:=by
 rw [getElem!_pos _ j (by rw [List.length_set];exact h),getElem!_pos fs j h,List.getElem_set]
theorem cut_whole (f:Fil) (k:Int):(f.cut k).whole:=rfl
theorem failFiles_get {Q:Fil→Prop} (hc:∀ f k,Q f→Q (f.cut k)) {j:Nat}:∀ (t:Tab) (ks:List Int) (fs:List Fil),j < fs.length→Q fs[j]!→Q (failFiles t ks fs)[j]!
 |[],_,_,_,h=>h
 |p :: r,ks,fs,hj,h=>by
  rw [failFiles]
  refine failFiles_get hc r _ _ (by rw [List.length_set];exact hj) ?_
  rw [fail_set_len hj]
  split
  ·rename_i e;rw [e];exact hc _ _ h
  ·exact h
theorem failFiles_named {j:Nat}:∀ (t:Tab) (ks:List Int) (fs:List Fil),j < fs.length→(∃ p∈t,p.2=j)→(failFiles t ks fs)[j]!.whole
 |[],_,_,_,h=>by obtain ⟨p,hp,_⟩:=h;cases hp
 |p :: r,ks,fs,hj,h=>by
  rw [failFiles]
  by_cases e:p.2=j
  ·refine failFiles_get (Q:=Fil.whole) (fun f k _=>cut_whole f k) r _ _ (by rw [List.length_set];exact hj) ?_
   rw [fail_set_len hj,if_pos e]
   exact cut_whole _ _
  ·refine failFiles_named r _ _ (by rw [List.length_set];exact hj) ?_
   obtain ⟨q,hq,hqe⟩:=h
   rcases List.mem_cons.1 hq with rfl | hq
   ·exact absurd hqe e
   ·exact ⟨q,hq,hqe⟩
theorem fail_still {m:DM} {n:Nat} (ho:m.Ok n) (h:m.off=false) (ks:List Int):(m.crash ks).revive.Still:=by
 have hi:∀ p∈failPend m.pend ks m.safe,p.2 < m.files.length:=failPend_all (Q:=fun t=>∀ p∈t,p.2 < m.files.length) m.pend (fun o h2 t ht=>act_ids o ht (fun k i e=>ho.pendI k i (e ▸ h2))) ks _ ho.safeI
 refine ⟨crash_calm h ks,?_,?_,?_⟩
 ·unfold DM.crash;rw [h];rfl
 ·unfold DM.crash;rw [h];rfl
 ·unfold DM.crash
  rw [h]
  intro p hp
  exact failFiles_named _ _ _ (hi p hp) ⟨p,hp,rfl⟩
theorem fail_keep {m:DM} (h:m.off=false) (ks:List Int):(m.crash ks).revive.keep=[]:=by
 unfold DM.crash;rw [h];rfl
/-! ### what is safe stays -/
def Fil.Has (d:ByteArray) (f:Fil):Prop:=d.size≤f.safe∧f.safe≤f.data.size∧f.data.extract 0 d.size=d
theorem extract_extract0 (s:ByteArray) (a b:Nat) (h:a≤b):(s.extract 0 b).extract 0 a=s.extract 0 a:=by
 ext1
 simp only [ByteArray.data_extract,Array.extract_extract,Nat.zero_add,Nat.add_zero]
 rw [Nat.min_eq_left h]
theorem extract_append0 (s t:ByteArray) (a:Nat) (h:a≤s.size):(s ++ t).extract 0 a=s.extract 0 a:=by
 ext1
 simp only [ByteArray.data_extract,ByteArray.data_append]
 rw [Array.extract_append]
 have:(a - s.data.size:Nat)=0:=by have:s.size=s.data.size:=rfl;omega
 rw [this]
 simp
theorem Fil.Has.cut {d:ByteArray} {f:Fil} (h:f.Has d) (k:Int):(f.cut k).Has d:=by
 have h1:=left_size f k h.2.1
 refine ⟨Nat.le_trans h.1 h1.1,Nat.le_refl _,?_⟩
 show (f.left k).extract 0 d.size=d
 have h2:=h.1
 have h3:=h.2.1
 unfold Fil.left
 split
 ·rw [extract_extract0 _ _ _ h.1];exact h.2.2
 split
 ·exact h.2.2
 split
 ·rw [extract_extract0 _ _ _ (by omega)];exact h.2.2
 ·rw [extract_append0 _ _ _ (by rw [extract_sz _ _ h3];exact h2),extract_extract0 _ _ _ h.1];exact h.2.2
def DOp.leaves (o:DOp) (n:Bs):Prop:=∀ t:Tab,Rising t→tget (o.act t) n=tget t n
structure DM.Keeps (m:DM) (n:Bs) (i:Nat) (d:ByteArray):Prop where
 now:tget m.now n=some i
 safe:tget m.safe n=some i
 pend:∀ o∈m.pend,o.leaves n
 file:m.files[i]!.Has d
def DCall.touch:DCall→List Bs
 |.create k=>[k.data.toList]
 |.rename o k=>[o.data.toList,k.data.toList]
 |.remove k=>[k.data.toList]
 |_=>[]
theorem leaves_create {k:ByteArray} {i:Nat} {n:Bs} (h:n≠k.data.toList):(DOp.create k i).leaves n:=fun t ht=>by
 show tget (tput t k.data.toList i) n=_
 rw [tget_put ht,if_neg h]
theorem leaves_remove {k:ByteArray} {n:Bs} (h:n≠k.data.toList):(DOp.remove k).leaves n:=fun t ht=>by
 show tget (tdel t k.data.toList) n=_
 rw [tget_del ht,if_neg h]
theorem leaves_rename {o k:ByteArray} {n:Bs} (h:n≠o.data.toList) (h2:n≠k.data.toList):(DOp.rename o k).leaves n:=fun t ht=>by
 simp only [DOp.act]
 split
 ·rw [tget_put (tdel_rising ht),if_neg h2,tget_del ht,if_neg h]
 ·rfl
theorem DM.Keeps.names {m:DM} {n:Bs} {i:Nat} {d:ByteArray} (h:m.Keeps n i d) (hr:Rising m.now) {o:DOp} (ho:o.leaves n):(m.names o).Keeps n i d :=
 ⟨(ho _ hr).trans h.now,h.safe,fun q hq=>by
  rcases List.mem_append.1 hq with hq | hq
  ·exact h.pend q hq
  ·rw [List.mem_singleton.1 hq];exact ho,h.file⟩
theorem Fil.Has.app {d:ByteArray} {f:Fil} (h:f.Has d) (s:ByteArray):(⟨f.data ++ s,f.safe⟩:Fil).Has d :=
 ⟨h.1,by show f.safe≤(f.data ++ s).size;rw [ByteArray.size_append];have:=h.2.1;omega,by show (f.data ++ s).extract 0 d.size=d;rw [extract_append0 _ _ _ (Nat.le_trans h.1 h.2.1)];exact h.2.2⟩
theorem Fil.Has.sync {d:ByteArray} {f:Fil} (h:f.Has d):(⟨f.data,f.data.size⟩:Fil).Has d:=⟨Nat.le_trans h.1 h.2.1,Nat.le_refl _,h.2.2⟩
theorem DM.Keeps.act {m:DM} {N:Nat} {n:Bs} {i:Nat} {d:ByteArray} (h:m.Keeps n i d) (ho:m.Ok N) (c:DCall) (ht:n ∉ c.touch):(m.act c).Keeps n i d:=by
 have hi:=tget_lt ho.nowI h.now
 cases c with
 |create k =>
  have h2:n≠k.data.toList:=fun e=>ht (by rw [e];exact List.mem_cons_self)
  refine DM.Keeps.names (m:={ m with files:=m.files ++ [⟨⟨#[]⟩,0⟩] }) ⟨h.now,h.safe,h.pend,?_⟩ ho.now (leaves_create h2)
  show (m.files ++ [_])[i]!.Has d
  rw [getElem!_pos _ i (by rw [List.length_append];omega),List.getElem_append_left hi,← getElem!_pos m.files i hi]
  exact h.file
 |write k s =>
  simp only [DM.act]
  split
  ·refine ⟨h.now,h.safe,h.pend,?_⟩
   show (m.files.set _ _)[i]!.Has d
   rw [fail_set_len hi]
   split
   ·rename_i e;rw [e];exact h.file.app s
   ·exact h.file
  ·exact h
 |sync k =>
  simp only [DM.act]
  split
  ·refine ⟨h.now,h.safe,h.pend,?_⟩
   show (m.files.set _ _)[i]!.Has d
   rw [fail_set_len hi]
   split
   ·rename_i e;rw [e];exact h.file.sync
   ·exact h.file
  ·exact h
 |rename o k =>
  have h2:n≠o.data.toList:=fun e=>ht (by rw [e];exact List.mem_cons_self)
  have h3:n≠k.data.toList:=fun e=>ht (by rw [e];exact List.mem_cons_of_mem _ List.mem_cons_self)
  exact h.names ho.now (leaves_rename h2 h3)
 |remove k =>
  have h2:n≠k.data.toList:=fun e=>ht (by rw [e];exact List.mem_cons_self)
  exact h.names ho.now (leaves_remove h2)
 |flush=>exact ⟨h.now,h.now,(fun q hq=>by cases hq),h.file⟩
theorem failPend_get {n:Bs}:∀ (ps:List DOp) (ks:List Int) (t:Tab),(∀ o∈ps,o.leaves n)→Rising t→tget (failPend ps ks t) n=tget t n
 |[],_,_,_,_=>rfl
 |o :: r,ks,t,h,hr=>by
  rw [failPend]
  split
  ·rw [failPend_get r _ _ (fun q hq=>h q (List.mem_cons_of_mem _ hq)) (act_rising o hr)]
   exact h o List.mem_cons_self t hr
  ·exact failPend_get r _ _ (fun q hq=>h q (List.mem_cons_of_mem _ hq)) hr
theorem DM.Keeps.fail {m:DM} {N:Nat} {n:Bs} {i:Nat} {d:ByteArray} (h:m.Keeps n i d) (ho:m.Ok N) (ks:List Int):tget (m.fail ks).now n=some i∧(m.fail ks).files[i]!.Has d :=
 ⟨(failPend_get _ _ _ h.pend ho.safe).trans h.safe,failFiles_get (Q:=Fil.Has d) (fun f k hf=>hf.cut k) _ _ _ (tget_lt ho.nowI h.now) h.file⟩
/-! ### no name comes from nowhere -/
def inNames (N:List Bs) (t:Tab):Prop:=∀ p∈t,p.1∈N
def DOp.within (N:List Bs):DOp→Prop
 |.create n _=>n.data.toList∈N
 |.rename _ n=>n.data.toList∈N
 |.remove _=>True
theorem within_act {N:List Bs} {o:DOp} (h:o.within N) {t:Tab} (ht:inNames N t):inNames N (o.act t):=by
 intro p hp
 cases o with
 |create n i =>
  rcases tput_mem.1 hp with rfl | ⟨hp,_⟩
  ·exact h
  ·exact ht p hp
 |rename o n =>
  simp only [DOp.act] at hp
  split at hp
  ·rcases tput_mem.1 hp with rfl | ⟨hp,_⟩
   ·exact h
   ·exact ht p (tdel_mem.1 hp).1
  ·exact ht p hp
 |remove n=>exact ht p (tdel_mem.1 hp).1
structure DM.Named (m:DM) (N:List Bs):Prop where
 now:inNames N m.now
 safe:inNames N m.safe
 pend:∀ o∈m.pend,o.within N
theorem DOp.within.mono {N M:List Bs} (hs:∀ x∈N,x∈M) {o:DOp} (h:o.within N):o.within M:=by
 cases o with
 |create n i=>exact hs _ h
 |rename o n=>exact hs _ h
 |remove n=>trivial
theorem DM.Named.fail {m:DM} {N:List Bs} (h:m.Named N) (ks:List Int):inNames N (m.fail ks).now :=
 failPend_all (Q:=inNames N) m.pend (fun o ho t ht=>within_act (h.pend o ho) ht) ks _ h.safe
theorem DM.Named.act {m:DM} {N:List Bs} (h:m.Named N) (c:DCall) (hr:m.refused c=0):(m.act c).Named (N ++ (m.act c).now.map (·.1)):=by
 have hsub:∀ x∈N,x∈N ++ (m.act c).now.map (·.1):=fun x hx=>List.mem_append.2 (.inl hx)
 have hall:inNames (N ++ (m.act c).now.map (·.1)) (m.act c).now:=fun p hp=>List.mem_append.2 (.inr (List.mem_map.2 ⟨p,hp,rfl⟩))
 have hsf:inNames (N ++ (m.act c).now.map (·.1)) m.safe:=fun p hp=>hsub _ (h.safe p hp)
 have hpd:∀ o∈m.pend,o.within (N ++ (m.act c).now.map (·.1)):=fun o ho=>(h.pend o ho).mono hsub
 have hin:∀ (k:ByteArray) (t:Tab),(∃ i,(k.data.toList,i)∈t)→k.data.toList∈N ++ t.map (·.1):=fun k t hk=>by
  obtain ⟨i,hi⟩:=hk
  exact List.mem_append.2 (.inr (List.mem_map.2 ⟨_,hi,rfl⟩))
 cases c with
 |create k =>
  refine ⟨hall,hsf,fun o ho=>?_⟩
  rcases List.mem_append.1 ho with ho | ho
  ·exact hpd o ho
  ·rw [List.mem_singleton.1 ho]
   exact hin k _ ⟨_,tput_mem.2 (.inl rfl)⟩
 |write k s =>
  have e1:(m.act (.write k s)).now=m.now:=by simp only [DM.act];split <;> rfl
  have e2:(m.act (.write k s)).safe=m.safe:=by simp only [DM.act];split <;> rfl
  have e3:(m.act (.write k s)).pend=m.pend:=by simp only [DM.act];split <;> rfl
  exact ⟨hall,by rw [e2];exact hsf,by rw [e3];exact hpd⟩
 |sync k =>
  have e1:(m.act (.sync k)).now=m.now:=by simp only [DM.act];split <;> rfl
  have e2:(m.act (.sync k)).safe=m.safe:=by simp only [DM.act];split <;> rfl
  have e3:(m.act (.sync k)).pend=m.pend:=by simp only [DM.act];split <;> rfl
  exact ⟨hall,by rw [e2];exact hsf,by rw [e3];exact hpd⟩
 |rename o k =>
  refine ⟨hall,hsf,fun q hq=>?_⟩
  rcases List.mem_append.1 hq with hq | hq
  ·exact hpd q hq
  ·rw [List.mem_singleton.1 hq]
   have h2:(m.get o).isSome=true:=by
    simp only [DM.refused] at hr
    by_cases h3:(m.get o).isSome=true
    ·exact h3
    ·rw [if_neg h3] at hr;cases hr
   obtain ⟨i,hi⟩:=Option.isSome_iff_exists.1 h2
   have hi':tget m.now o.data.toList=some i:=hi
   refine hin k _ ⟨i,?_⟩
   show _∈DOp.act (.rename o k) m.now
   simp only [DOp.act,hi']
   exact tput_mem.2 (.inl rfl)
 |remove k =>
  refine ⟨hall,hsf,fun q hq=>?_⟩
  rcases List.mem_append.1 hq with hq | hq
  ·exact hpd q hq
  ·rw [List.mem_singleton.1 hq];trivial
 |flush=>exact ⟨hall,hall,fun q hq=>by cases hq⟩
end Go.Proofs.YtdkedmngeahjiaaGreatDoor
