import Derived.Test.YtdkedmngeahjiaaGreatDoorM1
import Derived.Maps.Ext
import Derived.Maps.OwnSet
import Derived.WideAt
import Derived.WideShapes
import Derived.Maps.OwnOps
import Derived.Deep.QuietTactic
import Derived.Test.YtdkedmngeahjiaaGreatDoorM2
import Derived.Test.YtdkedmngeahjiaaGreatDoorProg
import Derived.StringKeys
set_option maxRecDepth 100000
set_option maxHeartbeats 25600000
namespace Go.Proofs.YtdkedmngeahjiaaGreatDoor
theorem bT{p:Prop}(h:p:=by simp only[DM.act];split<;>rfl):p:=h
theorem iK{p:Prop}(h:p:=by rw[e];exact List.mem_cons_self):p:=h
open Go Go.Maps
abbrev Tab:=List (Bs×Nat)
def lS(l:Tab)(k:Bs):Option Nat:=(l.find? (fun p=>p.1==k)).map (·.2)
def nF(l:Tab)(k:Bs):Tab:=l.filter fun p=>!(p.1==k)
def tQ(x:Bs×Nat):Tab→Tab
 |[]=>[x]
 |y::r=>if bytesBefore x.1 y.1 then x::y::r else y::tQ x r
def oJ(l:Tab)(k:Bs)(b:Nat):Tab:=tQ (k,b) (nF l k)
def mF(l:Tab):Prop:=l.Pairwise (fun p q=>bytesBefore p.1 q.1=true)
def qS(p:Bs×Nat):Lit×DataW Unit:=(.string p.1,.lit (.int .i64 (p.2:Int)))
def rE(l:Tab):DataW Unit:=.map (l.map qS)
theorem Fw(l:Tab)(k:Bs):(rE l).del (.string k)=rE (nF l k):=by
 unfold rE DataW.del nF;simp only[List.filter_map]
 rfl
theorem Fx(x:Bs×Nat):∀l:Tab,DataW.insert (qS x) (l.map qS)=(tQ x l).map qS
 |[]=>rfl
 |y::r=>by
  unfold tQ;rw[List.map_cons,DataW.insert];have e:(qS x).1.before (qS y).1=bytesBefore x.1 y.1:=rfl
  rw[e];split
  ·rfl
  ·rw[Fx x r];rfl
theorem Fy(l:Tab)(k:Bs)(b:Nat):(rE l).put (.string k) (.lit (.int .i64 (b:Int)))=rE (oJ l k b):=by
 show DataW.map (DataW.insert (qS (k,b)) ((l.map qS).filter fun p=>!p.1.sameKey (.string k)))=_
 have e:((l.map qS).filter fun p=>!p.1.sameKey (.string k))=(nF l k).map qS:=by
  unfold nF;rw[List.filter_map]
  rfl
 rw[e,Fx]
 rfl
theorem BB(l:Tab)(k:Bs)(z:DataW Unit):(rE l).atKey (.string k) z=match lS l k with|some b=>.lit (.int .i64 (b:Int))|none=>z:=by
 unfold rE DataW.atKey lS;simp only[List.find?_map];have e:((fun p:Lit×DataW Unit=>p.1.sameKey (.string k))∘qS)=fun p=>p.1==k:=rfl
 rw[e];cases l.find? (fun p=>p.1==k)<;>rfl
theorem BZ{D:DataW Unit}{l:Tab}(h:Canon D)(hD:D=rE l):mF l:=by
 obtain⟨es,rfl,hp,-⟩:=h;have e:es=l.map qS:=by unfold rE at hD;exact DataW.map.inj hD
 subst e;unfold mF;rw[List.pairwise_map]at hp;exact hp
theorem Df{a b:Bs}(h:bytesBefore a b=true):a≠b:=by
 rintro rfl;rw[WideAt.bytes_irrefl]at h;cases h
theorem B0(x:Bs×Nat):∀(l:Tab) (p:Bs×Nat),p∈tQ x l↔p=x∨p∈l
 |[],p=>by simp[tQ]
 |y::r,p=>by
  unfold tQ;split
  ·simp
  ·rw[List.mem_cons,B0 x r,List.mem_cons];constructor
   ·rintro(h|h|h)
    ·exact .inr (.inl h)
    ·exact .inl h
    ·exact .inr (.inr h)
   ·rintro(h|h|h)
    ·exact .inr (.inl h)
    ·exact .inl h
    ·exact .inr (.inr h)
theorem oN{l:Tab}{k:Bs}{p:Bs×Nat}:p∈nF l k↔p∈l∧p.1≠k:=by
 unfold nF;rw[List.mem_filter];simp
theorem nZ{l:Tab}{k:Bs}{b:Nat}{p:Bs×Nat}:p∈oJ l k b↔p=(k,b)∨(p∈l∧p.1≠k):=by
 unfold oJ;rw[B0,oN]
theorem nY{l:Tab}{k:Bs}(h:mF l):mF (nF l k):=h.sublist (List.filter_sublist)
theorem Bc{x:Bs×Nat}:∀{l:Tab},mF l→(∀p∈l,p.1≠x.1)→mF (tQ x l)
 |[],_,_=>by unfold tQ mF;exact List.pairwise_singleton _ _
 |y::r,h,hn=>by
  unfold mF at h⊢;rw[List.pairwise_cons]at h;unfold tQ;split
  ·rename_i hb;rw[List.pairwise_cons];refine⟨fun p hp=>?_,List.pairwise_cons.2 h⟩;rcases List.mem_cons.1 hp with rfl|hp
   ·exact hb
   ·exact WideShapes.bytes_trans _ _ _ hb (h.1 p hp)
  ·rename_i hb;rw[List.pairwise_cons];refine⟨fun p hp=>?_,Bc h.2 (fun p hp=>hn p (List.mem_cons_of_mem _ hp))⟩;rcases (B0 x r p).1 hp with rfl|hp
   ·rcases WideAt.bytes_total y.1 p.1 (hn y List.mem_cons_self)with h1|h1
    ·exact h1
    ·exact absurd h1 hb
   ·exact h.1 p hp
theorem nP{l:Tab}{k:Bs}{b:Nat}(h:mF l):mF (oJ l k b):=
 Bc (nY h) (fun _ hp=>(oN.1 hp).2)
theorem mW{l:Tab}{k:Bs}{b:Nat}(h:lS l k=some b):(k,b)∈l:=by
 unfold lS at h;obtain⟨p,hp,rfl⟩:=Option.map_eq_some_iff.1 h;have h1:=List.find?_some hp
 have h2:=List.mem_of_find?_eq_some hp;have:p.1=k:=by simpa using h1
 rw[←this];exact h2
theorem mO{l:Tab}(hr:mF l){k:Bs}{b:Nat}(h:(k,b)∈l):lS l k=some b:=by
 induction l with
 |nil=>cases h
 |cons y r ih=>
  unfold mF at hr;rw[List.pairwise_cons]at hr;unfold lS;rw[List.find?_cons];rcases List.mem_cons.1 h with rfl|h
  ·simp
  ·have hne:(y.1==k)=false:=by rw[beq_eq_false_iff_ne];exact Df (hr.1 _ h)
   rw[hne];exact ih hr.2 h
theorem qL{l:Tab}{k:Bs}:lS l k=none↔∀p∈l,p.1≠k:=by
 unfold lS;rw[Option.map_eq_none_iff,List.find?_eq_none];simp
theorem oC{l:Tab}{k j:Bs}{b:Nat}(hr:mF l):lS (oJ l k b) j=if j=k then some b else lS l j:=by
 by_cases e:j=k
 ·rw[if_pos e,e];exact mO (nP hr) (nZ.2 (.inl rfl))
 ·rw[if_neg e]
  cases h:lS l j with
  |none=>
   rw[qL]at h⊢;intro p hp;rcases nZ.1 hp with rfl|⟨hp,_⟩
   ·exact fun h'=>e h'.symm
   ·exact h p hp
  |some c=>exact mO (nP hr) (nZ.2 (.inr ⟨mW h,e⟩))
theorem pI{l:Tab}{k j:Bs}(hr:mF l):lS (nF l k) j=if j=k then none else lS l j:=by
 by_cases e:j=k
 ·rw[if_pos e,e,qL];exact fun p hp=>(oN.1 hp).2
 ·rw[if_neg e]
  cases h:lS l j with
  |none=>
   rw[qL]at h⊢;exact fun p hp=>h p (oN.1 hp).1
  |some c=>exact mO (nY hr) (oN.2 ⟨mW h,e⟩)
theorem BC{l m:Tab}(hl:mF l)(hm:mF m)(h:∀k,lS l k=lS m k):l=m:=by
 have hp:∀p:Bs×Nat,p∈l↔p∈m:=fun p=>⟨fun hp=>mW (by rw[←h];exact mO hl hp),fun hp=>mW (by rw[h];exact mO hm hp)⟩
 induction l generalizing m with
 |nil=>
  cases m with
  |nil=>rfl
  |cons y r=>exact absurd ((hp y).2 List.mem_cons_self) eZ
 |cons x xs ih=>
  cases m with
  |nil=>exact absurd ((hp x).1 List.mem_cons_self) eZ
  |cons y ys=>
   unfold mF at hl hm;have hl':=List.pairwise_cons.1 hl
   have hm':=List.pairwise_cons.1 hm
   have e:x=y:=by
    rcases List.mem_cons.1 ((hp x).1 List.mem_cons_self)with h1|h1
    ·exact h1
    ·rcases List.mem_cons.1 ((hp y).2 List.mem_cons_self)with h2|h2
     ·exact h2.symm
     ·have a:=hm'.1 x h1;have b:=hl'.1 y h2
      exact absurd (WideShapes.bytes_trans _ _ _ a b) (by rw[WideAt.bytes_irrefl];simp)
   subst e
   have hne:∀p∈xs,p≠x:=fun p hp2 e=>by
    have:=hl'.1 p hp2;rw[e,WideAt.bytes_irrefl]at this;cases this
   have hne2:∀p∈ys,p≠x:=fun p hp2 e=>by
    have:=hm'.1 p hp2;rw[e,WideAt.bytes_irrefl]at this;cases this
   have hp':∀p:Bs×Nat,p∈xs↔p∈ys:=fun p=>⟨fun h1=>by
    rcases List.mem_cons.1 ((hp p).1 (List.mem_cons_of_mem _ h1))with h2|h2
    ·exact absurd h2 (hne p h1)
    ·exact h2,fun h1=>by
    rcases List.mem_cons.1 ((hp p).2 (List.mem_cons_of_mem _ h1))with h2|h2
    ·exact absurd h2 (hne2 p h1)
    ·exact h2⟩
   rw[ih hl'.2 hm'.2 (fun k=>by
    cases h1:lS xs k with
    |none=>
     cases h2:lS ys k with
     |none=>rfl
     |some c=>
      have:=(hp' (k,c)).2 (mW h2);rw[mO hl'.2 this]at h1;cases h1
    |some c=>
     have:=(hp' (k,c)).1 (mW h1);rw[mO hm'.2 this]) hp']
def pN:Value→Option (DataW Unit×List MemPlace)
 |.pointer (some ⟨b,0,none⟩)=>some (.lit (.int .i64 (b:Int)),[])
 |.pointer none=>some (.nil,[])
 |_=>none
def Ei:Option Nat→Value
 |some b=>.pointer (some ⟨b,0,none⟩)
 |none=>.pointer none
theorem Bd{v:Value}{b:Nat}{ps:List MemPlace}(h:pN v=some (.lit (.int .i64 (b:Int)),ps)):v=.pointer (some ⟨b,0,none⟩):=by
 unfold pN at h;split at h
 ·rename_i c;have h1:=(Prod.mk.inj (Option.some.inj h)).1
  have h2:=DataW.lit.inj h1;have h3:=(Lit.int.inj h2).2
  have:c=b:=by exact_mod_cast h3
  rw[this]
 ·have h1:=(Prod.mk.inj (Option.some.inj h)).1;cases h1
 ·cases h
theorem Fz{v:Value}{ps:List MemPlace}(h:pN v=some (.nil,ps)):v=.pointer none:=by
 unfold pN at h;split at h
 ·have h1:=(Prod.mk.inj (Option.some.inj h)).1;cases h1
 ·rfl
 ·cases h
structure Fil where
 data:ByteArray
 safe:Nat
instance:Inhabited Fil:=⟨⟨⟨#[]⟩,0⟩⟩
inductive DOp where
 |create (n:ByteArray) (i:Nat)
 |rename (o n:ByteArray)
 |remove (n:ByteArray)
def DOp.act:DOp→Tab→Tab
 |.create n i,t=>oJ t n.data.toList i
 |.rename o n,t=>match lS t o.data.toList with
  |some i=>oJ (nF t o.data.toList) n.data.toList i
  |none=>t
 |.remove n,t=>nF t n.data.toList
structure DM where
 off:Bool
 room:Nat
 files:List Fil
 now:Tab
 safe:Tab
 pend:List DOp
 armed:Int
 keep:List Int
def zJ(n:Nat):ByteArray:=⟨Array.replicate n 0⟩
def Fil.left(f:Fil)(k:Int):ByteArray:=
 if k%4=0 then f.data.extract 0 f.safe
 else if k%4=1 then f.data
 else if k%4=2 then f.data.extract 0 (f.safe+(f.data.size-f.safe)/2)
 else f.data.extract 0 f.safe++zJ (f.data.size-f.safe)
def Fil.cut(f:Fil)(k:Int):Fil:=⟨f.left k,(f.left k).size⟩
def lJ:List DOp→List Int→Tab→Tab
 |[],_,t=>t
 |o::r,ks,t=>lJ r ks.tail (if ks.headD 0%2=1 then o.act t else t)
def mG:Tab→List Int→List Fil→List Fil
 |[],_,fs=>fs
 |p::r,ks,fs=>mG r ks.tail (fs.set p.2 (fs[p.2]!.cut (ks.headD 0)))
def DM.fail(m:DM)(ks:List Int):DM:=
 {off:=true,room:=m.room,files:=mG (lJ m.pend ks m.safe) (ks.drop m.pend.length) m.files,now:=lJ m.pend ks m.safe,safe:=lJ m.pend ks m.safe,pend:=[],armed:=0,keep:=[]}
def lU(fs:List Fil):Tab→Nat
 |[]=>0
 |p::r=>fs[p.2]!.data.size+lU fs r
def DM.used(m:DM):Nat:=if m.off then 0 else lU m.files m.now
def oA(n:ByteArray):Bool:=decide (1≤n.size)&&decide (n.size≤200)
inductive DCall where
 |create (n:ByteArray)
 |write (n s:ByteArray)
 |sync (n:ByteArray)
 |rename (o n:ByteArray)
 |remove (n:ByteArray)
 |flush
def DM.get(m:DM)(n:ByteArray):Option Nat:=lS m.now n.data.toList
def DM.refused(m:DM):DCall→Int
 |.create n=>if oA n then if(m.get n).isSome then 11 else 0 else 8
 |.write n s=>if(m.get n).isSome then if m.used+s.size>m.room then 28 else 0 else 10
 |.sync n=>if(m.get n).isSome then 0 else 10
 |.rename o n=>if(m.get o).isSome then if oA n then 0 else 8 else 10
 |.remove n=>if(m.get n).isSome then 0 else 10
 |.flush=>0
def DM.names(m:DM)(o:DOp):DM:={m with now:=o.act m.now,pend:=m.pend++[o]}
def DM.act(m:DM):DCall→DM
 |.create n=>({m with files:=m.files++[⟨⟨#[]⟩,0⟩]}:DM).names (.create n m.files.length)
 |.write n s=>match m.get n with
  |some i=>{m with files:=m.files.set i ⟨m.files[i]!.data++s,m.files[i]!.safe⟩}
  |none=>m
 |.sync n=>match m.get n with
  |some i=>{m with files:=m.files.set i ⟨m.files[i]!.data,m.files[i]!.data.size⟩}
  |none=>m
 |.rename o n=>m.names (.rename o n)
 |.remove n=>m.names (.remove n)
 |.flush=>{m with safe:=m.now,pend:=[]}
def DCall.late:DCall→Bool
 |.sync _| .flush=>true
 |_=>false
def DM.tick(m:DM):DM:={m with armed:=if 1≤m.armed then m.armed-1 else 0}
def DM.op(m:DM)(c:DCall):DM×Int:=
 if m.off then(m,27)
 else if m.refused c≠0 then(m,m.refused c)
 else if m.armed=1 then((if c.late then m.tick else m.tick.act c).fail m.keep,27)
 else(m.tick.act c,0)
def DM.new(room:Int):DM:=⟨false,(min (max room 0) 268435456).toNat,[],[],[],[],0,[]⟩
structure DM.Ok (m:DM) (n:Nat):Prop where
 now:mF m.now
 safe:mF m.safe
 nowI:∀p∈m.now,p.2<m.files.length
 safeI:∀p∈m.safe,p.2<m.files.length
 pendI:∀k i,DOp.create k i∈m.pend→i<m.files.length
 file:∀f∈m.files,f.safe≤f.data.size∧f.data.size≤m.room
 nowN:m.now.length≤n
 safeN:m.safe.length+m.pend.length≤n
 room:m.room≤268435456
 arm0:0≤m.armed
 arm1:m.armed≤9223372036854775807
 keepI:∀k∈m.keep,-9223372036854775808≤k∧k≤9223372036854775807
theorem uI(l:Tab)(k:Bs):(nF l k).length≤l.length:=List.length_filter_le _ _
theorem FA(x:Bs×Nat):∀l:Tab,(tQ x l).length=l.length+1
 |[]=>rfl
 |y::r=>by
  unfold tQ;split
  ·rfl
  ·rw[List.length_cons,FA x r,List.length_cons]
theorem uJ(l:Tab)(k:Bs)(b:Nat):(oJ l k b).length≤l.length+1:=by
 unfold oJ;rw[FA];have:=uI l k
 omega
theorem Iw(o:DOp)(t:Tab):(o.act t).length≤t.length+1:=by
 cases o with
 |create n i=>exact uJ _ _ _
 |rename o n=>
  simp only[DOp.act];split
  ·have:=uJ (nF t o.data.toList) n.data.toList ‹Nat›;have:=uI t o.data.toList
   omega
  ·omega
 |remove n=>have:=uI t n.data.toList;simp only[DOp.act];omega
theorem rH(o:DOp){t:Tab}(h:mF t):mF (o.act t):=by
 cases o with
 |create n i=>exact nP h
 |rename o n=>
  simp only[DOp.act];split
  ·exact nP (nY h)
  ·exact h
 |remove n=>exact nY h
theorem BE(o:DOp){t:Tab}{N:Nat}(h:∀p∈t,p.2<N)(ho:∀k i,o=.create k i→i<N):∀p∈o.act t,p.2<N:=by
 intro p hp
 cases o with
 |create n i=>
  rcases nZ.1 hp with rfl|⟨hp,_⟩
  ·exact ho n i rfl
  ·exact h p hp
 |rename o n=>
  simp only[DOp.act]at hp;split at hp
  ·rename_i i hi;rcases nZ.1 hp with e|⟨hp,_⟩
   ·rw[e];have h2:=h _ (mW hi);exact h2
   ·exact h p (oN.1 hp).1
  ·exact h p hp
 |remove n=>exact h p (oN.1 hp).1
theorem qB{Q:Tab→Prop}(ps:List DOp)(h:∀o∈ps,∀t,Q t→Q (o.act t)):∀(ks:List Int) (t:Tab),Q t→Q (lJ ps ks t):=by
 induction ps with
 |nil=>exact fun _ _ h=>h
 |cons o r ih=>
  intro ks t ht;rw[lJ];refine ih (fun o ho=>h o (List.mem_cons_of_mem _ ho)) _ _ ?_;split
  ·exact h o List.mem_cons_self t ht
  ·exact ht
theorem rU:∀(ps:List DOp) (ks:List Int) (t:Tab),(lJ ps ks t).length≤t.length+ps.length
 |[],_,t=>Nat.le_refl _
 |o::r,ks,t=>by
  rw[lJ];have:=rU r ks.tail (if ks.headD 0%2=1 then o.act t else t)
  have h2:(if ks.headD 0%2=1 then o.act t else t).length≤t.length+1:=by
   split
   ·exact Iw o t
   ·omega
  rw[List.length_cons];omega
theorem nC:∀(t:Tab) (ks:List Int) (fs:List Fil),(mG t ks fs).length=fs.length
 |[],_,_=>rfl
 |p::r,ks,fs=>by rw[mG,nC,List.length_set]
theorem wQ(s:ByteArray)(n:Nat)(h:n≤s.size):(s.extract 0 n).size=n:=by
 rw[ByteArray.size_extract];omega
theorem Be(n:Nat):(zJ n).size=n:=by
 show(Array.replicate n (0:UInt8)).size=n;rw[Array.size_replicate]
theorem Dg(f:Fil)(k:Int)(h:f.safe≤f.data.size):f.safe≤(f.left k).size∧(f.left k).size≤f.data.size:=by
 unfold Fil.left;split
 ·rw[wQ _ _ h];omega
 split
 ·omega
 split
 ·rw[wQ _ _ aC];omega
 ·rw[ByteArray.size_append,wQ _ _ h,Be];omega
theorem KG(f:Fil)(k:Int){R:Nat}(h:f.safe≤f.data.size∧f.data.size≤R):(f.cut k).safe≤(f.cut k).data.size∧(f.cut k).data.size≤R:=
 ⟨Nat.le_refl _,Nat.le_trans (Dg f k h.1).2 h.2⟩
theorem get!_mem{fs:List Fil}{i:Nat}(h:i<fs.length):fs[i]!∈fs:=by
 rw[getElem!_pos fs i h];exact List.getElem_mem h
theorem tS{R:Nat}:∀(t:Tab) (ks:List Int) (fs:List Fil),(∀p∈t,p.2<fs.length)→(∀f∈fs,f.safe≤f.data.size∧f.data.size≤R)→∀f∈mG t ks fs,f.safe≤f.data.size∧f.data.size≤R
 |[],_,_,_,h=>h
 |p::r,ks,fs,hp,h=>by
  rw[mG];refine tS r _ _ (fun q hq=>by rw[List.length_set];exact hp q (List.mem_cons_of_mem _ hq)) (fun f hf=>?_);rcases List.mem_or_eq_of_mem_set hf with hf|rfl
  ·exact h f hf
  ·exact KG _ _ (h _ (get!_mem (hp p List.mem_cons_self)))
theorem DM.Ok.mono{m:DM}{n n':Nat}(h:m.Ok n)(hn:n≤n'):m.Ok n':=
 {h with nowN:=Nat.le_trans h.nowN hn,safeN:=Nat.le_trans h.safeN hn}
theorem DM.Ok.fail{m:DM}{n:Nat}(h:m.Ok n)(ks:List Int):(m.fail ks).Ok n:=by
 have h1:mF (lJ m.pend ks m.safe):=qB (Q:=mF) m.pend (fun o _ t ht=>rH o ht) ks _ h.safe;have h2:∀p∈lJ m.pend ks m.safe,p.2<m.files.length:=qB (Q:=fun t=>∀p∈t,p.2<m.files.length) m.pend (fun o ho t ht=>BE o ht (fun k i e=>h.pendI k i (e▸ho))) ks _ h.safeI
 have h3:=rU m.pend ks m.safe;have h4:=h.safeN
 refine⟨h1,h1,?_,?_,(fun k i hk=>iN),?_,?_,?_,h.room,Int.le_refl _,(show(0:Int)≤9223372036854775807 by omega),(fun k hk=>iN)⟩
 ·unfold DM.fail;rw[nC];exact h2
 ·unfold DM.fail;rw[nC];exact h2
 ·exact tS _ _ _ h2 h.file
 ·show(lJ m.pend ks m.safe).length≤n;omega
 ·show(lJ m.pend ks m.safe).length+0≤n;omega
theorem DM.Ok.names{m:DM}{n:Nat}(h:m.Ok n)(o:DOp)(ho:∀k i,o=.create k i→i<m.files.length):(m.names o).Ok (n+1):=by
 have h1:=Iw o m.now;have h2:=h.nowN
 have h3:=h.safeN
 exact{h with
  now:=rH o h.now
  nowI:=BE o h.nowI ho
  pendI:=fun k i hk=>by
   rcases List.mem_append.1 hk with hk|hk
   ·exact h.pendI k i hk
   ·exact ho k i (List.mem_singleton.1 hk).symm
  nowN:=by show(o.act m.now).length≤_;omega
  safeN:=by show m.safe.length+(m.pend++[o]).length≤_;rw[List.length_append];simp only[List.length_cons,List.length_nil];omega}
theorem DM.Ok.tick{m:DM}{n:Nat}(h:m.Ok n):m.tick.Ok n:=by
 have h1:=h.arm0;have h2:=h.arm1
 exact{h with
  arm0:=by show 0≤if 1≤m.armed then m.armed-1 else 0;split<;>omega
  arm1:=by show(if 1≤m.armed then m.armed-1 else 0)≤_;split<;>omega}
theorem wR{t:Tab}{N:Nat}(h:∀p∈t,p.2<N){k:Bs}{i:Nat}(hg:lS t k=some i):i<N:=h _ (mW hg)
theorem DM.Ok.act{m:DM}{n:Nat}(h:m.Ok n)(c:DCall)(hr:m.refused c=0)(ho:m.off=false):(m.act c).Ok (n+1):=by
 have hn:=h.nowN;have hs:=h.safeN
 cases c with
 |create k=>
  unfold DM.act;refine DM.Ok.names (m:={m with files:=m.files++[⟨⟨#[]⟩,0⟩]}) {h with nowI:=?_,safeI:=?_,pendI:=?_,file:=?_} _ ?_
  ·intro p hp;show _<(m.files++[_]).length;rw[List.length_append];exact Nat.lt_of_lt_of_le (h.nowI p hp) (Nat.le_add_right _ _)
  ·intro p hp;show _<(m.files++[_]).length;rw[List.length_append];exact Nat.lt_of_lt_of_le (h.safeI p hp) (Nat.le_add_right _ _)
  ·intro k i hk;show _<(m.files++[_]).length;rw[List.length_append];exact Nat.lt_of_lt_of_le (h.pendI k i hk) (Nat.le_add_right _ _)
  ·intro f hf;rcases List.mem_append.1 hf with hf|hf
   ·exact h.file f hf
   ·rw[List.mem_singleton.1 hf];exact⟨Nat.le_refl _,Nat.zero_le _⟩
  ·rintro k i e;cases e;show _<(m.files++[_]).length
   rw[List.length_append,List.length_singleton];omega
 |write k s=>
  simp only[DM.act];split
  ·rename_i i hi;have hil:=wR h.nowI hi
   refine DM.Ok.mono (n:=n) {h with nowI:=?_,safeI:=?_,pendI:=?_,file:=?_} aC
   ·intro p hp;show _<(m.files.set _ _).length;rw[List.length_set];exact h.nowI p hp
   ·intro p hp;show _<(m.files.set _ _).length;rw[List.length_set];exact h.safeI p hp
   ·intro k i hk;show _<(m.files.set _ _).length;rw[List.length_set];exact h.pendI k i hk
   ·intro f hf;rcases List.mem_or_eq_of_mem_set hf with hf|rfl
    ·exact h.file f hf
    ·have h1:=h.file _ (get!_mem hil)
     have h2:m.files[i]!.data.size≤m.used:=by
      unfold DM.used;rw[ho]
      have:∀t:Tab,(∃q∈t,q.2=i)→m.files[i]!.data.size≤lU m.files t:=by
       intro t
       induction t with
       |nil=>rintro⟨q,hq,_⟩;cases hq
       |cons x r ih=>
        rintro⟨q,hq,rfl⟩;rw[lU];rcases List.mem_cons.1 hq with rfl|hq
        ·omega
        ·have:=ih ⟨q,hq,rfl⟩;omega
      exact this _ ⟨_,mW hi,rfl⟩
     have h3:m.used+s.size≤m.room:=by
      simp only[DM.refused]at hr;have e:(m.get k).isSome=true:=by rw[hi];rfl
      rw[if_pos e]at hr;split at hr
      ·cases hr
      ·omega
     constructor
     ·show m.files[i]!.safe≤(m.files[i]!.data++s).size;rw[ByteArray.size_append];omega
     ·show(m.files[i]!.data++s).size≤m.room;rw[ByteArray.size_append];omega
  ·exact h.mono aC
 |sync k=>
  simp only[DM.act];split
  ·rename_i i hi;have hil:=wR h.nowI hi
   refine DM.Ok.mono (n:=n) {h with nowI:=?_,safeI:=?_,pendI:=?_,file:=?_} aC
   ·intro p hp;show _<(m.files.set _ _).length;rw[List.length_set];exact h.nowI p hp
   ·intro p hp;show _<(m.files.set _ _).length;rw[List.length_set];exact h.safeI p hp
   ·intro k i hk;show _<(m.files.set _ _).length;rw[List.length_set];exact h.pendI k i hk
   ·intro f hf;rcases List.mem_or_eq_of_mem_set hf with hf|rfl
    ·exact h.file f hf
    ·exact⟨Nat.le_refl _,(h.file _ (get!_mem hil)).2⟩
  ·exact h.mono aC
 |rename o k=>exact h.names _ (fun k i e=>aO)
 |remove k=>exact h.names _ (fun k i e=>aO)
 |flush=>
  exact{h with safe:=h.now,safeI:=h.nowI,pendI:=fun k i hk=>iN,nowN:=by show m.now.length≤_;omega,safeN:=by show m.now.length+0≤_;omega}
theorem wS(m:DM)(c:DCall):m.tick.refused c=m.refused c:=by cases c<;>rfl
theorem DM.Ok.op{m:DM}{n:Nat}(h:m.Ok n)(c:DCall):(m.op c).1.Ok (n+1):=by
 unfold DM.op;split
 ·exact h.mono aC
 rename_i ho;have ho':m.off=false:=by cases hm:m.off<;>simp_all
 split
 ·exact h.mono aC
 rename_i hr;have hr':m.tick.refused c=0:=by rw[wS];exact Decidable.not_not.1 hr
 split
 ·refine DM.Ok.fail ?_ _;split
  ·exact h.tick.mono aC
  ·exact h.tick.act c hr' ho'
 ·exact h.tick.act c hr' ho'
section
variable {P:Program} {k:TypeId}
def TabAt(P:Program)(k:TypeId)(w:World)(b:Nat)(l:Tab):Prop:=w.ownsMap P k pN b l.length (rE l)
theorem B1{w:World}{b n:Nat}{l:Tab}(h:w.ownsMap P k pN b n (rE l)):TabAt P k w b l:=by
 obtain⟨es,clock,hb,F,hs,hD⟩:=h;refine⟨es,clock,hb,F,?_,hD⟩;have e:=DataW.map.inj hD
 have e2:=congrArg List.length e;rw[length_sorted,List.length_map,List.length_map]at e2;have e3:es.toList.length=es.size:=Array.length_toList
 omega
theorem TabAt.rising{w:World}{b:Nat}{l:Tab}(h:TabAt P k w b l)(K:Keyed P k):mF l:=BZ (World.ownsMap.canon h K) rfl
theorem TabAt.lt{w:World}{b:Nat}{l:Tab}(h:TabAt P k w b l):b<w.heap.size:=World.ownsMap.lt h
theorem TabAt.keep{w w':World}{b:Nat}{l:Tab}(h:TabAt P k w b l)(hb:w'.heap[b]?=w.heap[b]?):TabAt P k w' b l:=by
 obtain⟨es,clock,h1,r⟩:=h;exact⟨es,clock,hb.trans h1,r⟩
theorem TabAt.look{w:World}{b:Nat}{l:Tab}(h:TabAt P k w b l)(K:Keyed P k){t e:TypeId}(ht:P.underlying t=some (.map k e))(hz:(zeroValue e).run P w=.ok (.pointer none) w){key:Value}{s:Bs}(hk:keyOf P k key=some (.string s)):
  (Instr.lookup t (.map (some b)) key false).run P w=.ok (Ei (lS l s)) w:=by
 obtain⟨v,ps,hrun,hv⟩:=World.ownsMap.lookup h K ht hz (zd:=.nil) (zp:=[]) rfl hk;rw[hrun];rw[BB]at hv
 cases hg:lS l s with
 |none=>rw[hg]at hv;rw[Fz hv];rfl
 |some c=>rw[hg]at hv;rw[Bd hv];rfl
theorem TabAt.store{w:World}{b:Nat}{l:Tab}(h:TabAt P k w b l)(K:Keyed P k){t e:TypeId}(ht:P.underlying t=some (.map k e))(hn:l.length<maxLen){key:Value}{s:Bs}(hk:keyOf P k key=some (.string s))(c:Nat):
  ∃w',(Instr.mapUpdate t (.map (some b)) key (Ei (some c))).run P w=.ok () w'∧TabAt P k w' b (oJ l s c)∧w.mapTurned w' b:=by
 obtain⟨w',h1,h2,h3⟩:=World.ownsMap.store h K ht hn (val:=Ei (some c)) (d:=.lit (.int .i64 (c:Int))) (ps:=[]) hk rfl;rw[Fy]at h2;exact⟨w',h1,B1 h2,h3⟩
theorem TabAt.drop{w:World}{b:Nat}{l:Tab}(h:TabAt P k w b l)(K:Keyed P k){t e:TypeId}(ht:P.underlying t=some (.map k e)){key:Value}{s:Bs}(hk:keyOf P k key=some (.string s))(ty:TypeId):
  ∃w',(Builtin.delete_ #[t,k] ty #[.map (some b),key]).run P w=.ok (.tuple #[]) w'∧TabAt P k w' b (nF l s)∧w.mapTurned w' b:=by
 obtain⟨w',h1,h2,h3⟩:=World.ownsMap.drop h K ht hk ty;rw[Fw]at h2;exact⟨w',h1,B1 h2,h3⟩
theorem TabAt.made(w:World):TabAt P k (w.alloc (.map #[] 0)) w.heap.size []:=World.ownsMap_made w P k pN
variable {w:World} {ops:Array Oper} {rest:List Oper} {o:Oper} {a:Act} {Q:Exit→Act→World→Prop}
theorem oG(hg:o.guard=none)(m x:Operand)(t:TypeId)(hop:o.op=Op.lookup t m x false)
  (e:TypeId) (K:Keyed P k) (ht:P.underlying t=some (.map k e)) (hz:∀w,(zeroValue e).run P w=.ok (.pointer none) w) (b:Nat) (l:Tab)
  (hm:a.eval m=.map (some b)) (hT:TabAt P k w b l) (key:Value) (s:Bs) (hx:a.eval x=key) (hk:keyOf P k key=some (.string s))
  (hK:wpList P ops Q rest (a.put o.dst (Ei (lS l s))) w):wpList P ops Q (o::rest) a w:=by
 refine wpList_plain hg fun K' hK'=>?_
 have hrun:=hT.look K ht (hz w) hk;unfold Oper.wp;simp[execOp,hop,hm,hx,hrun,Result.andThen];exact hK' _ _ hK
theorem vY(hg:o.guard=none)(m x v:Operand)(t:TypeId)(hop:o.op=Op.mapUpdate t m x v)
  (e:TypeId) (K:Keyed P k) (ht:P.underlying t=some (.map k e)) (b:Nat) (l:Tab)
  (hm:a.eval m=.map (some b)) (hT:TabAt P k w b l) (hn:l.length<maxLen) (key:Value) (s:Bs) (c:Nat) (hx:a.eval x=key) (hv:a.eval v=Ei (some c)) (hk:keyOf P k key=some (.string s))
  (hK:∀w',TabAt P k w' b (oJ l s c)→w.mapTurned w' b→wpList P ops Q rest (a.put o.dst undef) w'):wpList P ops Q (o::rest) a w:=by
 refine wpList_plain hg fun K' hK'=>?_
 obtain⟨w',hrun,r1,r2⟩:=hT.store K ht hn hk c;unfold Oper.wp;simp[execOp,hop,hm,hx,hv,hrun,Result.andThen];exact hK' _ _ (hK w' r1 r2)
theorem xE(hg:o.guard=none)(m x:Operand)(t:TypeId)(hop:o.op=Op.call {callee:=Callee.builtin Builtin.delete,args:=#[m,x],argTypes:=#[t,k]})
  (e:TypeId) (K:Keyed P k) (ht:P.underlying t=some (.map k e)) (b:Nat) (l:Tab)
  (hm:a.eval m=.map (some b)) (hT:TabAt P k w b l) (key:Value) (s:Bs) (hx:a.eval x=key) (hk:keyOf P k key=some (.string s))
  (hK:∀w',TabAt P k w' b (nF l s)→w.mapTurned w' b→wpList P ops Q rest (a.put o.dst (.tuple #[])) w'):wpList P ops Q (o::rest) a w:=by
 refine wpList_plain hg fun K' hK'=>?_
 obtain⟨w',hrun,r1,r2⟩:=hT.drop K ht hk o.type;unfold Oper.wp;simp[execOp,hop,resolve,invoke,builtin,hm,hx,hrun,Result.andThen];exact hK' _ _ (hK w' r1 r2)
end
structure Off (S:Nat→Prop) (w w':World):Prop where
 os:w'.os=w.os
 tape:w'.tape=w.tape
 output:w'.output=w.output
 size:w.heap.size≤w'.heap.size
 block:∀i,i<w.heap.size→¬S i→w'.heap[i]?=w.heap[i]?
theorem Off.refl(S:Nat→Prop)(w:World):Off S w w:=⟨rfl,rfl,rfl,Nat.le_refl _,fun _ _ _=>rfl⟩
def mU(S:Nat→Prop)(w w':World):Nat→Prop:=fun b=>S b∨(w.heap.size≤b∧b<w'.heap.size)
theorem Off.trans{S S':Nat→Prop}{a b c:World}(h:Off S a b)(k:Off S' b c)(hs:∀i,i<a.heap.size→S' i→S i):Off S a c:=
 ⟨k.os.trans h.os,k.tape.trans h.tape,k.output.trans h.output,Nat.le_trans h.size k.size,fun i hi hn=>(k.block i (Nat.lt_of_lt_of_le hi h.size) (fun hS=>hn (hs i hi hS))).trans (h.block i hi hn)⟩
theorem Off.tr{S:Nat→Prop}{a b c:World}(h:Off S a b)(k:Off S b c):Off S a c:=h.trans k (fun _ _ x=>x)
theorem Off.trG{S:Nat→Prop}{a b c:World}(h:Off S a b)(k:Off (mU S a b) b c):Off S a c:=
 h.trans k (fun i hi hs=>by rcases hs with hs|⟨h1,_⟩;exact hs;omega)
theorem Off.mono{S S':Nat→Prop}{a b:World}(h:Off S a b)(hs:∀i,i<a.heap.size→S i→S' i):Off S' a b:=
 ⟨h.os,h.tape,h.output,h.size,fun i hi hn=>h.block i hi (fun x=>hn (hs i hi x))⟩
theorem Off.alloc{S:Nat→Prop}{a b:World}(h:Off S a b)(o:Obj):Off S a (b.alloc o):=
 h.tr ⟨rfl,rfl,rfl,cO,fun i hi _=>RowKit.Below.heap_alloc b o i hi⟩
theorem Off.below{S:Nat→Prop}{a b c:World}(h:Off S a b){B:Nat}(k:RowKit.Below B b c)(hB:a.heap.size≤B):Off S a c:=
 ⟨k.os.trans h.os,k.tape.trans h.tape,k.output.trans h.output,Nat.le_trans h.size k.size,fun i hi hn=>(k.block i aC).trans (h.block i hi hn)⟩
theorem Off.grown{S:Nat→Prop}{a b c:World}(h:Off S a b){r:Nat}(k:b.grownBy c (some r))(hr:r<a.heap.size→S r):Off S a c:=
 ⟨k.os.trans h.os,k.tape.trans h.tape,k.output.trans h.output,Nat.le_trans h.size k.size,fun i hi hn=>(k.block i (Nat.lt_of_lt_of_le hi h.size) (fun e=>by cases e;exact hn (hr hi))).trans (h.block i hi hn)⟩
theorem Off.setCell{S:Nat→Prop}{a b:World}(h:Off S a b)(p:Addr)(v:Value)(hr:p.block<a.heap.size→S p.block):Off S a (b.setCell p v):=
 ⟨h.os,h.tape,h.output,by rw[World.size_setCell];exact h.size,fun i hi hn=>(RowKit.Below.heap_setCell _ _ _ _ (fun e=>hn (by rw[e]at hi⊢;exact hr hi))).trans (h.block i hi hn)⟩
theorem Off.draws{S:Nat→Prop}{a b:World}(h:Off S a b)(n:Nat):Off S a (b.drewN n):=⟨h.os,h.tape,h.output,h.size,h.block⟩
theorem Off.toBelow{S:Nat→Prop}{a b:World}(h:Off S a b){B:Nat}(hB:∀i,S i→B≤i)(hb:B≤a.heap.size):RowKit.Below B a b:=
 ⟨h.os,h.tape,h.output,h.size,fun i hi=>h.block i aC (fun hS=>by have:=hB i hS;omega)⟩
theorem Off.cell{S:Nat→Prop}{a b:World}(h:Off S a b){p:Addr}(h1:p.block<a.heap.size)(h2:¬S p.block):b.cell? p=a.cell? p:=by
 simp only[World.cell?,h.block p.block h1 h2]
theorem sG{S:Nat→Prop}{a b c:World}(h1:a.heap.size≤b.heap.size)(h2:b.heap.size≤c.heap.size)(i:Nat):mU (mU S a b) b c i↔mU S a c i:=by
 unfold mU;constructor
 ·rintro((h|⟨h3,h4⟩)|⟨h3,h4⟩)
  ·exact .inl h
  ·exact .inr ⟨h3,aC⟩
  ·exact .inr ⟨aC,h4⟩
 ·rintro(h|⟨h3,h4⟩)
  ·exact .inl (.inl h)
  ·by_cases h5:i<b.heap.size
   ·exact .inl (.inr ⟨h3,h5⟩)
   ·exact .inr ⟨aC,h4⟩
open Go.RowKit
def oX(loc:Nat→Nat)(t:Tab):Tab:=t.map fun p=>(p.1,loc p.2)
theorem B2(loc:Nat→Nat)(t:Tab)(k:Bs):lS (oX loc t) k=(lS t k).map loc:=by
 unfold lS oX;rw[List.find?_map,Option.map_map,Option.map_map]
 rfl
theorem B3(loc:Nat→Nat)(t:Tab)(k:Bs):nF (oX loc t) k=oX loc (nF t k):=by
 unfold nF oX;rw[List.filter_map]
 rfl
theorem yO(x y:Bs×Nat)(r:Tab):tQ x (y::r)=if bytesBefore x.1 y.1 then x::y::r else y::tQ x r:=rfl
theorem I9(loc:Nat→Nat)(y:Bs×Nat)(r:Tab):oX loc (y::r)=(y.1,loc y.2)::oX loc r:=rfl
theorem FB(loc:Nat→Nat)(k:Bs)(i:Nat):∀t:Tab,tQ (k,loc i) (oX loc t)=oX loc (tQ (k,i) t)
 |[]=>rfl
 |y::r=>by
  rw[I9,yO,yO];show(if bytesBefore k y.1 then _ else _)=oX loc (if bytesBefore k y.1 then _ else _)
  split
  ·rfl
  ·rw[FB loc k i r]
   rfl
theorem FC(loc:Nat→Nat)(t:Tab)(k:Bs)(i:Nat):oJ (oX loc t) k (loc i)=oX loc (oJ t k i):=by
 unfold oJ;rw[B3,FB]
theorem vZ(loc:Nat→Nat)(t:Tab):(oX loc t).length=t.length:=List.length_map _
theorem B4{loc loc':Nat→Nat}{t:Tab}(h:∀p∈t,loc p.2=loc' p.2):oX loc t=oX loc' t:=List.map_congr_left fun p hp=>by rw[h p hp]
theorem mH:Keyed Tryz.prog 9:=string_keyed Tryz.underlying9
theorem B5{s:ByteArray}(h:s.size≤maxLen):keyOf Tryz.prog 9 (.string s)=some (.string s.data.toList):=WideMaps.keyOf_string_mk Tryz.underlying9 h
theorem yZ(w:World):(zeroValue 93).run Tryz.prog w=.ok (.pointer none) w:=aE
abbrev rB(w:World)(b:Nat)(l:Tab):Prop:=TabAt Tryz.prog 9 w b l
def OpAt(S:Nat→Prop)(w:World)(loc:Nat→Nat)(v:Value):DOp→Prop
 |.create n i=>∃bf bn,v=.func (.func 101) #[] #[.pointer (some ⟨bf,0,none⟩),.pointer (some ⟨bn,0,none⟩)]∧S bf∧S bn∧
   w.heap[bf]?=some (.cells #[.pointer (some ⟨loc i,0,none⟩)] 93 (0,0))∧w.heap[bn]?=some (.cells #[.string n] 9 (0,0))∧n.size≤maxLen
 |.rename o n=>∃bo bn,v=.func (.func 111) #[] #[.pointer (some ⟨bo,0,none⟩),.pointer (some ⟨bn,0,none⟩)]∧S bo∧S bn∧
   w.heap[bo]?=some (.cells #[.string o] 9 (0,0))∧w.heap[bn]?=some (.cells #[.string n] 9 (0,0))∧o.size≤maxLen∧n.size≤maxLen
 |.remove n=>∃bn,v=.func (.func 94) #[] #[.pointer (some ⟨bn,0,none⟩)]∧S bn∧
   w.heap[bn]?=some (.cells #[.string n] 9 (0,0))∧n.size≤maxLen
def OpsAt(S:Nat→Prop)(w:World)(loc:Nat→Nat):List Value→List DOp→Prop
 |[],[]=>True
 |v::vs,o::os=>OpAt S w loc v o∧OpsAt S w loc vs os
 |_,_=>False
def InS(S:Nat→Prop)(v:Value):Prop:=∀b,v.ownBlock=some b→S b
def PendAt(S:Nat→Prop)(w:World)(loc:Nat→Nat)(pv:Value)(os:List DOp):Prop:=
 ∃vs:List Value,w.ownsRow 0 152 1 pv os.length vs∧OpsAt S w loc vs os∧InS S pv
def IntsOwn(S:Nat→Prop)(w:World)(fv:Value)(ks:List Int):Prop:=w.ownsRow 0 3 1 fv ks.length (ks.map (Value.int .i64))∧InS S fv
def qZ(m:DM)(bn bs:Nat)(pv fv:Value):Array Value:=#[.bool m.off,.int .i64 m.room,.map (some bn),.map (some bs),pv,.int .i64 m.armed,fv]
structure DiskIn (w:World) (a n:Nat) (m:DM) (S:Nat→Prop) (bn bs:Nat) (pv fv:Value) (loc:Nat→Nat):Prop where
 head:w.heap[a]?=some (.cells (qZ m bn bs pv fv) 88 (0,0))
 sa:S a
 sn:S bn
 ss:S bs
 ne:bn≠bs
 now:rB w bn (oX loc m.now)
 safe:rB w bs (oX loc m.safe)
 file:∀i f,m.files[i]?=some f→S (loc i)∧w.heap[loc i]?=some (.cells #[.string f.data,.int .i64 f.safe] 95 (0,0))
 inj:∀i j,i<m.files.length→j<m.files.length→loc i=loc j→i=j
 pend:PendAt S w loc pv m.pend
 fate:IntsOwn S w fv m.keep
 ok:m.Ok n
 lt:∀b,S b→b<w.heap.size
def DiskAt(w:World)(a n:Nat)(m:DM)(S:Nat→Prop):Prop:=∃bn bs pv fv loc,DiskIn w a n m S bn bs pv fv loc
theorem OpAt.keep{S S':Nat→Prop}{w w':World}{loc loc':Nat→Nat}{v:Value}{o:DOp}(h:OpAt S w loc v o)(hb:∀b t cs,S b→w.heap[b]?=some (.cells cs t (0,0))→(t=9∨t=93)→w'.heap[b]?=w.heap[b]?)(hs:∀b,S b→S' b)
  (hl:∀k i,o=.create k i→loc' i=loc i):OpAt S' w' loc' v o:=by
 cases o with
 |create n i=>
  obtain⟨bf,bn,hv,h1,h2,h3,h4,h5⟩:=h;exact⟨bf,bn,hv,hs _ h1,hs _ h2,by rw[hl n i rfl];exact(hb _ _ _ h1 h3 (.inr rfl)).trans h3,(hb _ _ _ h2 h4 (.inl rfl)).trans h4,h5⟩
 |rename o n=>
  obtain⟨bf,bn,hv,h1,h2,h3,h4,h5⟩:=h;exact⟨bf,bn,hv,hs _ h1,hs _ h2,(hb _ _ _ h1 h3 (.inl rfl)).trans h3,(hb _ _ _ h2 h4 (.inl rfl)).trans h4,h5⟩
 |remove n=>
  obtain⟨bn,hv,h2,h4,h5⟩:=h;exact⟨bn,hv,hs _ h2,(hb _ _ _ h2 h4 (.inl rfl)).trans h4,h5⟩
theorem OpsAt.keep{S S':Nat→Prop}{w w':World}{loc loc':Nat→Nat}(hb:∀b t cs,S b→w.heap[b]?=some (.cells cs t (0,0))→(t=9∨t=93)→w'.heap[b]?=w.heap[b]?)(hs:∀b,S b→S' b):
  ∀{vs:List Value} {os:List DOp},OpsAt S w loc vs os→(∀k i,DOp.create k i∈os→loc' i=loc i)→OpsAt S' w' loc' vs os
 |[],[],_,_=>trivial
 |_::_,_::_,h,hl=>⟨h.1.keep hb hs (fun k i e=>hl k i (e▸List.mem_cons_self)),OpsAt.keep hb hs h.2 (fun k i e=>hl k i (List.mem_cons_of_mem _ e))⟩
 |[],_::_,h,_=>h.elim
 |_::_,[],h,_=>h.elim
theorem OpsAt.snoc{S:Nat→Prop}{w:World}{loc:Nat→Nat}{v:Value}{o:DOp}(h:OpAt S w loc v o):∀{vs:List Value} {os:List DOp},OpsAt S w loc vs os→OpsAt S w loc (vs++[v]) (os++[o])
 |[],[],_=>⟨h,trivial⟩
 |_::_,_::_,hh=>⟨hh.1,OpsAt.snoc h hh.2⟩
 |[],_::_,hh=>hh.elim
 |_::_,[],hh=>hh.elim
theorem OpsAt.len{S:Nat→Prop}{w:World}{loc:Nat→Nat}:∀{vs:List Value} {os:List DOp},OpsAt S w loc vs os→vs.length=os.length
 |[],[],_=>rfl
 |_::_,_::_,h=>by rw[List.length_cons,List.length_cons,OpsAt.len h.2]
 |[],_::_,h=>h.elim
 |_::_,[],h=>h.elim
theorem uK{S:Nat→Prop}{w w':World}{base n:Nat}{t:TypeId}{v:Value}{xs:List Value}(h:w.ownsRow base t 1 v n xs)(hS:InS S v)(hb:∀b cs,S b→w.heap[b]?=some (.cells cs t (0,0))→w'.heap[b]?=w.heap[b]?):w'.ownsRow base t 1 v n xs:=by
 refine⟨h.1,?_⟩;rcases h.2 with h2|⟨g,cap,cur,rfl,h3,h4,h5⟩
 ·exact .inl h2
 ·exact .inr ⟨g,cap,cur,rfl,h3,(hb g cur (hS g rfl) h4).trans h4,h5⟩
theorem DiskIn.frame{w w':World}{a n:Nat}{m:DM}{S:Nat→Prop}{bn bs:Nat}{pv fv:Value}{loc:Nat→Nat}(h:DiskIn w a n m S bn bs pv fv loc)(hb:∀b,S b→w'.heap[b]?=w.heap[b]?)(hz:w.heap.size≤w'.heap.size):DiskIn w' a n m S bn bs pv fv loc:=
 {h with
  head:=(hb _ h.sa).trans h.head
  now:=h.now.keep (hb _ h.sn)
  safe:=h.safe.keep (hb _ h.ss)
  file:=fun i f hf=>⟨(h.file i f hf).1,(hb _ (h.file i f hf).1).trans (h.file i f hf).2⟩
  pend:=by
   obtain⟨vs,h1,h2,h3⟩:=h.pend;exact eP
  fate:=⟨uK h.fate.1 h.fate.2 (fun b _ hS _=>hb b hS),h.fate.2⟩
  lt:=fun b hS=>Nat.lt_of_lt_of_le (h.lt b hS) hz}
theorem DiskAt.frame{w w':World}{a n:Nat}{m:DM}{S:Nat→Prop}(h:DiskAt w a n m S)(hb:∀b,S b→w'.heap[b]?=w.heap[b]?)(hz:w.heap.size≤w'.heap.size):DiskAt w' a n m S:=by
 obtain⟨bn,bs,pv,fv,loc,h⟩:=h;exact⟨bn,bs,pv,fv,loc,h.frame hb hz⟩
theorem DiskAt.lt{w:World}{a n:Nat}{m:DM}{S:Nat→Prop}(h:DiskAt w a n m S):∀b,S b→b<w.heap.size:=by
 obtain⟨bn,bs,pv,fv,loc,h⟩:=h;exact h.lt
theorem DiskAt.ok{w:World}{a n:Nat}{m:DM}{S:Nat→Prop}(h:DiskAt w a n m S):m.Ok n:=by
 obtain⟨bn,bs,pv,fv,loc,h⟩:=h;exact h.ok
theorem DiskAt.mine{w:World}{a n:Nat}{m:DM}{S:Nat→Prop}(h:DiskAt w a n m S):S a:=by
 obtain⟨bn,bs,pv,fv,loc,h⟩:=h;exact h.sa
theorem DiskAt.below{w w':World}{a n:Nat}{m:DM}{S:Nat→Prop}(h:DiskAt w a n m S)(hb:Below w.heap.size w w'):DiskAt w' a n m S:=
 h.frame (fun b hS=>hb.block b (h.lt b hS)) hb.size
theorem DiskAt.off{w w':World}{a n:Nat}{m:DM}{S T:Nat→Prop}(h:DiskAt w a n m S)(hb:Off T w w')(hd:∀b,S b→¬T b):DiskAt w' a n m S:=
 h.frame (fun b hS=>hb.block b (h.lt b hS) (hd b hS)) hb.size
theorem DiskIn.bigger{w:World}{a n:Nat}{m:DM}{S S':Nat→Prop}{bn bs:Nat}{pv fv:Value}{loc:Nat→Nat}(h:DiskIn w a n m S bn bs pv fv loc)(hs:∀b,S b→S' b)(hl:∀b,S' b→b<w.heap.size):DiskIn w a n m S' bn bs pv fv loc:=
 {h with
  sa:=hs _ h.sa
  sn:=hs _ h.sn
  ss:=hs _ h.ss
  file:=fun i f hf=>⟨hs _ (h.file i f hf).1,(h.file i f hf).2⟩
  pend:=by
   obtain⟨vs,h1,h2,h3⟩:=h.pend;exact⟨vs,h1,h2.keep (fun _ _ _ _ _ _=>rfl) hs (fun _ _ _=>rfl),fun b hb=>hs b (h3 b hb)⟩
  fate:=⟨h.fate.1,fun b hb=>hs b (h.fate.2 b hb)⟩
  lt:=hl}
theorem lY{w:World}{b i:Nat}{c:Array Value}{t:TypeId}{v:Value}(h:w.heap[b]?=some (.cells c t (0,0))):w.setCell ⟨b,i,none⟩ v=setBlk w b (.cells (c.setIfInBounds i v) t (0,0)):=by
 refine vM (fun k=>?_) rfl rfl rfl rfl;rw[qJ];simp only[World.setCell,Array.getElem?_modify];by_cases e:b=k
 ·subst e;rw[if_pos rfl,if_pos rfl,if_pos (lH h),h];simp
 ·rw[if_neg e,if_neg e]
theorem mM{w:World}{b i:Nat}{c:Array Value}{t:TypeId}{v:Value}(hb:b<w.heap.size):(setBlk w b (.cells c t (0,0))).setCell ⟨b,i,none⟩ v=setBlk w b (.cells (c.setIfInBounds i v) t (0,0)):=by
 rw[lY (lM hb),yW]
theorem lI{w:World}{b i:Nat}{c:Array Value}{t:TypeId}(h:w.heap[b]?=some (.cells c t (0,0))):w.frozen? ⟨b,i,none⟩=false:=by
 simp[World.frozen?,h]
theorem qT{w:World}{a b:Nat}{o o':Obj}(h:w.heap[a]?=some o)(h':w.heap[b]?=some o')(hne:o≠o'):b≠a:=by
 rintro rfl;rw[h]at h';exact hne (Option.some.inj h')
theorem oY{c c':Array Value}{t t':TypeId}{f f':Nat×Nat}(h:t≠t'):Obj.cells c t f≠Obj.cells c' t' f':=fun e=>by cases e;exact h rfl
theorem TabAt.ne{P:Program}{k:TypeId}{w:World}{b a:Nat}{l:Tab}(h:TabAt P k w b l){c:Array Value}{t:TypeId}{f:Nat×Nat}(ha:w.heap[a]?=some (.cells c t f)):b≠a:=by
 obtain⟨es,clock,h1,_⟩:=h;exact qT ha h1 (fun e=>aO)
theorem PendAt.keep{S S':Nat→Prop}{w w':World}{loc loc':Nat→Nat}{pv:Value}{os:List DOp}(h:PendAt S w loc pv os)
  (hb:∀b t cs,S b→w.heap[b]?=some (.cells cs t (0,0))→(t=9∨t=93∨t=152)→w'.heap[b]?=w.heap[b]?) (hs:∀b,S b→S' b) (hl:∀k i,DOp.create k i∈os→loc' i=loc i):PendAt S' w' loc' pv os:=by
 obtain⟨vs,h1,h2,h3⟩:=h;refine⟨vs,uK h1 h3 (fun b cs hS hc=>hb b _ cs hS hc (.inr (.inr rfl))),h2.keep (fun b t cs hS hc ht=>hb b t cs hS hc (ht.elim .inl (fun e=>.inr (.inl e)))) hs hl,fun b hb=>hs b (h3 b hb)⟩
theorem IntsOwn.keep{S S':Nat→Prop}{w w':World}{fv:Value}{ks:List Int}(h:IntsOwn S w fv ks)(hb:∀b cs,S b→w.heap[b]?=some (.cells cs 3 (0,0))→w'.heap[b]?=w.heap[b]?)(hs:∀b,S b→S' b):IntsOwn S' w' fv ks:=
 ⟨uK h.1 h.2 hb,fun b hb=>hs b (h.2 b hb)⟩
theorem DiskIn.other{w w':World}{a n n':Nat}{m m':DM}{S:Nat→Prop}{bn bs:Nat}{pv fv pv' fv':Value}{loc:Nat→Nat}(h:DiskIn w a n m S bn bs pv fv loc)(hb:∀b,b≠a→S b→w'.heap[b]?=w.heap[b]?)
  (ha:w'.heap[a]?=some (.cells (qZ m' bn bs pv' fv') 88 (0,0))) (hz:w.heap.size≤w'.heap.size) (e1:m'.now=m.now) (e2:m'.safe=m.safe) (e3:m'.files=m.files) (hp:PendAt S w' loc pv' m'.pend) (hf:IntsOwn S w' fv' m'.keep) (ho:m'.Ok n'):
  DiskIn w' a n' m' S bn bs pv' fv' loc where
 head:=ha
 sa:=h.sa
 sn:=h.sn
 ss:=h.ss
 ne:=h.ne
 now:=by rw[e1];exact h.now.keep (hb _ (h.now.ne h.head) h.sn)
 safe:=by rw[e2];exact h.safe.keep (hb _ (h.safe.ne h.head) h.ss)
 file:=fun i f hi=>by
  rw[e3]at hi;have h1:=h.file i f hi
  exact⟨h1.1,(hb _ (qT h.head h1.2 (oY aA)) h1.1).trans h1.2⟩
 inj:=by rw[e3];exact h.inj
 pend:=hp
 fate:=hf
 ok:=ho
 lt:=fun b hS=>Nat.lt_of_lt_of_le (h.lt b hS) hz
theorem DiskIn.pendO{w w':World}{a n:Nat}{m:DM}{S:Nat→Prop}{bn bs:Nat}{pv fv:Value}{loc:Nat→Nat}(h:DiskIn w a n m S bn bs pv fv loc)(hb:∀b,b≠a→S b→w'.heap[b]?=w.heap[b]?):PendAt S w' loc pv m.pend:=
 h.pend.keep (fun b t cs hS hc ht=>hb b (qT h.head hc (oY (by rcases ht with rfl|rfl|rfl<;>decide))) hS) (fun _ x=>x) (fun _ _ _=>rfl)
theorem DiskIn.fateO{w w':World}{a n:Nat}{m:DM}{S:Nat→Prop}{bn bs:Nat}{pv fv:Value}{loc:Nat→Nat}(h:DiskIn w a n m S bn bs pv fv loc)(hb:∀b,b≠a→S b→w'.heap[b]?=w.heap[b]?):IntsOwn S w' fv m.keep:=
 h.fate.keep (fun b cs hS hc=>hb b (qT h.head hc (oY aA)) hS) (fun _ x=>x)
theorem Ej(S:Nat→Prop)(w:World)(loc:Nat→Nat):PendAt S w loc (.slice none 0 0) []:=⟨[],⟨rfl,.inl ⟨rfl,rfl⟩⟩,trivial,fun b hb=>by cases hb⟩
theorem Ab(S:Nat→Prop)(w:World):IntsOwn S w (.slice none 0 0) []:=⟨⟨rfl,.inl ⟨rfl,rfl⟩⟩,fun b hb=>by cases hb⟩
theorem Off.setBlk{S:Nat→Prop}{a b:World}(h:Off S a b){k:Nat}{o:Obj}(hk:k<a.heap.size→S k):Off S a (Go.Proofs.YtdkedmngeahjiaaGreatDoor.setBlk b k o):=
 ⟨h.os,h.tape,h.output,by rw[pA];exact h.size,fun i hi hn=>(mS (fun e=>hn (by rw[e]at hi⊢;exact hk hi))).trans (h.block i hi hn)⟩
theorem pJ{S:Nat→Prop}{w w':World}:∀b,S b→mU S w w' b:=fun _ h=>.inl h
def DiskPost(a n:Nat)(m:DM)(S:Nat→Prop)(w w':World):Prop:=DiskAt w' a n m (mU S w w')∧Off S w w'
theorem rI{w:World}{a n:Nat}{m:DM}{S:Nat→Prop}{bn bs:Nat}{pv fv:Value}{loc:Nat→Nat}(h:DiskIn w a n m S bn bs pv fv loc)(i:Nat):w.cell? ⟨a,i,none⟩=(qZ m bn bs pv fv)[i]?:=lF h.head
def DM.Calm(m:DM):Prop:=m.off=false∧m.armed=0
theorem DM.Calm.names{m:DM}(h:m.Calm)(o:DOp):(m.names o).Calm:=h
theorem DM.Calm.tick{m:DM}(h:m.Calm):m.tick=m:=by
 unfold DM.tick;rw[if_neg (by rw[h.2];decide)];obtain⟨off,room,files,now,safe,pend,armed,keep⟩:=m;obtain⟨_,rfl⟩:=h
 rfl
theorem DM.Calm.act{m:DM}(h:m.Calm)(c:DCall):(m.act c).Calm:=by
 cases c with
 |create k=>exact h
 |write k s=>simp only[DM.act];split<;>exact h
 |sync k=>simp only[DM.act];split<;>exact h
 |rename o k=>exact h
 |remove k=>exact h
 |flush=>exact h
theorem DM.Calm.op_eq{m:DM}(h:m.Calm)(c:DCall):m.op c=if m.refused c≠0 then(m,m.refused c)else(m.act c,0):=by
 unfold DM.op;rw[if_neg (by rw[h.1];decide),h.tick];by_cases hr:m.refused c≠0
 ·rw[if_pos hr,if_pos hr]
 ·rw[if_neg hr,if_neg (by rw[h.2];decide),if_neg hr]
theorem DM.Calm.op{m:DM}(h:m.Calm)(c:DCall):(m.op c).1.Calm:=by
 rw[h.op_eq];split
 ·exact h
 ·exact h.act c
def DM.revive(m:DM):DM:={m with off:=false}
def DM.crash(m:DM)(ks:List Int):DM:=if m.off then m else m.fail ks
def Fil.whole(f:Fil):Prop:=f.safe=f.data.size
theorem xW(s:ByteArray):s.extract 0 s.size=s:=by
 ext1
 show(s.extract 0 s.size).data=s.data;rw[ByteArray.data_extract];show s.data.extract 0 s.data.size=_
 simp
theorem Fil.whole.cut{f:Fil}(h:f.whole)(k:Int):f.cut k=f:=by
 have h2:f.left k=f.data:=by
  unfold Fil.left;rw[h];split
  ·exact xW _
  split
  ·rfl
  split
  ·rw[Nat.sub_self];exact xW _
  ·rw[Nat.sub_self,xW];show f.data++(⟨#[]⟩:ByteArray)=f.data
   exact ByteArray.append_empty
 unfold Fil.cut;rw[h2,←h]
theorem xF:∀(t:Tab) (ks:List Int) (fs:List Fil),(∀p∈t,p.2<fs.length∧fs[p.2]!.whole)→mG t ks fs=fs
 |[],_,_,_=>rfl
 |p::r,ks,fs,h=>by
  have h1:=h p List.mem_cons_self
  have e:fs.set p.2 (fs[p.2]!.cut (ks.headD 0))=fs:=by
   rw[h1.2.cut,getElem!_pos fs p.2 h1.1];exact List.set_getElem_self _
  rw[mG,e];exact xF r _ _ (fun q hq=>h q (List.mem_cons_of_mem _ hq))
structure DM.Still (m:DM):Prop where
 calm:m.Calm
 pend:m.pend=[]
 safe:m.safe=m.now
 whole:∀p∈m.now,m.files[p.2]!.whole
theorem DM.Still.fail{m:DM}{n:Nat}(h:m.Still)(ho:m.Ok n)(hk:m.keep=[])(ks:List Int):(m.crash ks).revive=m:=by
 have e1:lJ m.pend ks m.safe=m.now:=by rw[h.pend,h.safe];rfl
 have e2:mG m.now (ks.drop m.pend.length) m.files=m.files:=xF _ _ _ (fun p hp=>⟨ho.nowI p hp,h.whole p hp⟩);unfold DM.crash;rw[h.calm.1];show(m.fail ks).revive=m
 unfold DM.fail DM.revive;rw[e1];simp only[e2];obtain⟨off,room,files,now,safe,pend,armed,keep⟩:=m;obtain⟨⟨h1,h2⟩,h3,h4,h5⟩:=h;simp only at h1 h2 h3 h4 hk;subst h1 h2 h3 h4 hk
 rfl
theorem qC{fs:List Fil}{i j:Nat}{f:Fil}(h:j<fs.length):(fs.set i f)[j]! =if i=j then f else fs[j]!:=by
 rw[getElem!_pos _ j (by rw[List.length_set];exact h),getElem!_pos fs j h,List.getElem_set]
theorem vI{Q:Fil→Prop}(hc:∀f k,Q f→Q (f.cut k)){j:Nat}:∀(t:Tab) (ks:List Int) (fs:List Fil),j<fs.length→Q fs[j]!→Q (mG t ks fs)[j]!
 |[],_,_,_,h=>h
 |p::r,ks,fs,hj,h=>by
  rw[mG];refine vI hc r _ _ (by rw[List.length_set];exact hj) ?_;rw[qC hj];split
  ·rename_i e;rw[e];exact hc _ _ h
  ·exact h
def Fil.Has(d:ByteArray)(f:Fil):Prop:=d.size≤f.safe∧f.safe≤f.data.size∧f.data.extract 0 d.size=d
theorem sH(s:ByteArray)(a b:Nat)(h:a≤b):(s.extract 0 b).extract 0 a=s.extract 0 a:=by
 ext1
 simp only[ByteArray.data_extract,Array.extract_extract,Nat.zero_add,Nat.add_zero];rw[Nat.min_eq_left h]
theorem xG(s t:ByteArray)(a:Nat)(h:a≤s.size):(s++t).extract 0 a=s.extract 0 a:=by
 ext1
 simp only[ByteArray.data_extract,ByteArray.data_append];rw[Array.extract_append];have:(a-s.data.size:Nat)=0:=by have:s.size=s.data.size:=rfl;omega
 rw[this];simp
theorem Fil.Has.cut{d:ByteArray}{f:Fil}(h:f.Has d)(k:Int):(f.cut k).Has d:=by
 have h1:=Dg f k h.2.1;refine⟨Nat.le_trans h.1 h1.1,Nat.le_refl _,?_⟩;show(f.left k).extract 0 d.size=d
 have h2:=h.1;have h3:=h.2.1
 unfold Fil.left;split
 ·rw[sH _ _ _ h.1];exact h.2.2
 split
 ·exact h.2.2
 split
 ·rw[sH _ _ _ aC];exact h.2.2
 ·rw[xG _ _ _ (by rw[wQ _ _ h3];exact h2),sH _ _ _ h.1];exact h.2.2
def DOp.leaves(o:DOp)(n:Bs):Prop:=∀t:Tab,mF t→lS (o.act t) n=lS t n
structure DM.Keeps (m:DM) (n:Bs) (i:Nat) (d:ByteArray):Prop where
 now:lS m.now n=some i
 safe:lS m.safe n=some i
 pend:∀o∈m.pend,o.leaves n
 file:m.files[i]!.Has d
def DCall.touch:DCall→List Bs
 |.create k=>[k.data.toList]
 |.rename o k=>[o.data.toList,k.data.toList]
 |.remove k=>[k.data.toList]
 |_=>[]
theorem CD{k:ByteArray}{i:Nat}{n:Bs}(h:n≠k.data.toList):(DOp.create k i).leaves n:=fun t ht=>by
 show lS (oJ t k.data.toList i) n=_;rw[oC ht,if_neg h]
theorem CE{k:ByteArray}{n:Bs}(h:n≠k.data.toList):(DOp.remove k).leaves n:=fun t ht=>by
 show lS (nF t k.data.toList) n=_;rw[pI ht,if_neg h]
theorem CF{o k:ByteArray}{n:Bs}(h:n≠o.data.toList)(h2:n≠k.data.toList):(DOp.rename o k).leaves n:=fun t ht=>by
 simp only[DOp.act];split
 ·rw[oC (nY ht),if_neg h2,pI ht,if_neg h]
 ·rfl
theorem DM.Keeps.names{m:DM}{n:Bs}{i:Nat}{d:ByteArray}(h:m.Keeps n i d)(hr:mF m.now){o:DOp}(ho:o.leaves n):(m.names o).Keeps n i d:=
 ⟨(ho _ hr).trans h.now,h.safe,fun q hq=>by
  rcases List.mem_append.1 hq with hq|hq
  ·exact h.pend q hq
  ·rw[List.mem_singleton.1 hq];exact ho,h.file⟩
theorem Fil.Has.app{d:ByteArray}{f:Fil}(h:f.Has d)(s:ByteArray):(⟨f.data++s,f.safe⟩:Fil).Has d:=
 ⟨h.1,by show f.safe≤(f.data++s).size;rw[ByteArray.size_append];have:=h.2.1;omega,by show(f.data++s).extract 0 d.size=d;rw[xG _ _ _ (Nat.le_trans h.1 h.2.1)];exact h.2.2⟩
theorem Fil.Has.sync{d:ByteArray}{f:Fil}(h:f.Has d):(⟨f.data,f.data.size⟩:Fil).Has d:=⟨Nat.le_trans h.1 h.2.1,Nat.le_refl _,h.2.2⟩
theorem DM.Keeps.act{m:DM}{N:Nat}{n:Bs}{i:Nat}{d:ByteArray}(h:m.Keeps n i d)(ho:m.Ok N)(c:DCall)(ht:n∉c.touch):(m.act c).Keeps n i d:=by
 have hi:=wR ho.nowI h.now
 cases c with
 |create k=>
  have h2:n≠k.data.toList:=fun e=>ht iK
  refine DM.Keeps.names (m:={m with files:=m.files++[⟨⟨#[]⟩,0⟩]}) ⟨h.now,h.safe,h.pend,?_⟩ ho.now (CD h2);show(m.files++[_])[i]!.Has d
  rw[getElem!_pos _ i (by rw[List.length_append];omega),List.getElem_append_left hi,←getElem!_pos m.files i hi];exact h.file
 |write k s=>
  simp only[DM.act];split
  ·refine⟨h.now,h.safe,h.pend,?_⟩;show(m.files.set _ _)[i]!.Has d
   rw[qC hi];split
   ·rename_i e;rw[e];exact h.file.app s
   ·exact h.file
  ·exact h
 |sync k=>
  simp only[DM.act];split
  ·refine⟨h.now,h.safe,h.pend,?_⟩;show(m.files.set _ _)[i]!.Has d
   rw[qC hi];split
   ·rename_i e;rw[e];exact h.file.sync
   ·exact h.file
  ·exact h
 |rename o k=>
  have h2:n≠o.data.toList:=fun e=>ht iK
  have h3:n≠k.data.toList:=fun e=>ht (by rw[e];exact List.mem_cons_of_mem _ List.mem_cons_self)
  exact h.names ho.now (CF h2 h3)
 |remove k=>
  have h2:n≠k.data.toList:=fun e=>ht iK
  exact h.names ho.now (CE h2)
 |flush=>exact⟨h.now,h.now,(fun q hq=>by cases hq),h.file⟩
theorem wT{n:Bs}:∀(ps:List DOp) (ks:List Int) (t:Tab),(∀o∈ps,o.leaves n)→mF t→lS (lJ ps ks t) n=lS t n
 |[],_,_,_,_=>rfl
 |o::r,ks,t,h,hr=>by
  rw[lJ];split
  ·rw[wT r _ _ (fun q hq=>h q (List.mem_cons_of_mem _ hq)) (rH o hr)];exact h o List.mem_cons_self t hr
  ·exact wT r _ _ (fun q hq=>h q (List.mem_cons_of_mem _ hq)) hr
theorem DM.Keeps.fail{m:DM}{N:Nat}{n:Bs}{i:Nat}{d:ByteArray}(h:m.Keeps n i d)(ho:m.Ok N)(ks:List Int):lS (m.fail ks).now n=some i∧(m.fail ks).files[i]!.Has d:=
 ⟨(wT _ _ _ h.pend ho.safe).trans h.safe,vI (Q:=Fil.Has d) (fun f k hf=>hf.cut k) _ _ _ (wR ho.nowI h.now) h.file⟩
def vB(N:List Bs)(t:Tab):Prop:=∀p∈t,p.1∈N
def DOp.within(N:List Bs):DOp→Prop
 |.create n _=>n.data.toList∈N
 |.rename _ n=>n.data.toList∈N
 |.remove _=>True
theorem GZ{N:List Bs}{o:DOp}(h:o.within N){t:Tab}(ht:vB N t):vB N (o.act t):=by
 intro p hp
 cases o with
 |create n i=>
  rcases nZ.1 hp with rfl|⟨hp,_⟩
  ·exact h
  ·exact ht p hp
 |rename o n=>
  simp only[DOp.act]at hp;split at hp
  ·rcases nZ.1 hp with rfl|⟨hp,_⟩
   ·exact h
   ·exact ht p (oN.1 hp).1
  ·exact ht p hp
 |remove n=>exact ht p (oN.1 hp).1
structure DM.Named (m:DM) (N:List Bs):Prop where
 now:vB N m.now
 safe:vB N m.safe
 pend:∀o∈m.pend,o.within N
theorem DOp.within.mono{N M:List Bs}(hs:∀x∈N,x∈M){o:DOp}(h:o.within N):o.within M:=by
 cases o with
 |create n i=>exact hs _ h
 |rename o n=>exact hs _ h
 |remove n=>trivial
theorem DM.Named.fail{m:DM}{N:List Bs}(h:m.Named N)(ks:List Int):vB N (m.fail ks).now:=
 qB (Q:=vB N) m.pend (fun o ho t ht=>GZ (h.pend o ho) ht) ks _ h.safe
theorem DM.Named.act{m:DM}{N:List Bs}(h:m.Named N)(c:DCall)(hr:m.refused c=0):(m.act c).Named (N++(m.act c).now.map (·.1)):=by
 have hsub:∀x∈N,x∈N++(m.act c).now.map (·.1):=fun x hx=>List.mem_append.2 (.inl hx)
 have hall:vB (N++(m.act c).now.map (·.1)) (m.act c).now:=fun p hp=>List.mem_append.2 (.inr (List.mem_map.2 ⟨p,hp,rfl⟩))
 have hsf:vB (N++(m.act c).now.map (·.1)) m.safe:=fun p hp=>hsub _ (h.safe p hp)
 have hpd:∀o∈m.pend,o.within (N++(m.act c).now.map (·.1)):=fun o ho=>(h.pend o ho).mono hsub
 have hin:∀(k:ByteArray) (t:Tab),(∃i,(k.data.toList,i)∈t)→k.data.toList∈N++t.map (·.1):=fun k t hk=>by
  obtain⟨i,hi⟩:=hk;exact List.mem_append.2 (.inr (List.mem_map.2 ⟨_,hi,rfl⟩))
 cases c with
 |create k=>
  refine⟨hall,hsf,fun o ho=>?_⟩;rcases List.mem_append.1 ho with ho|ho
  ·exact hpd o ho
  ·rw[List.mem_singleton.1 ho];exact hin k _ ⟨_,nZ.2 (.inl rfl)⟩
 |write k s=>
  have e1:(m.act (.write k s)).now=m.now:=bT;have e2:(m.act (.write k s)).safe=m.safe:=bT
  have e3:(m.act (.write k s)).pend=m.pend:=bT;exact⟨hall,by rw[e2];exact hsf,by rw[e3];exact hpd⟩
 |sync k=>
  have e1:(m.act (.sync k)).now=m.now:=bT;have e2:(m.act (.sync k)).safe=m.safe:=bT
  have e3:(m.act (.sync k)).pend=m.pend:=bT;exact⟨hall,by rw[e2];exact hsf,by rw[e3];exact hpd⟩
 |rename o k=>
  refine⟨hall,hsf,fun q hq=>?_⟩;rcases List.mem_append.1 hq with hq|hq
  ·exact hpd q hq
  ·rw[List.mem_singleton.1 hq]
   have h2:(m.get o).isSome=true:=by
    simp only[DM.refused]at hr;by_cases h3:(m.get o).isSome=true
    ·exact h3
    ·rw[if_neg h3]at hr;cases hr
   obtain⟨i,hi⟩:=Option.isSome_iff_exists.1 h2;have hi':lS m.now o.data.toList=some i:=hi
   refine hin k _ ⟨i,?_⟩;show _∈DOp.act (.rename o k) m.now
   simp only[DOp.act,hi'];exact nZ.2 (.inl rfl)
 |remove k=>
  refine⟨hall,hsf,fun q hq=>?_⟩;rcases List.mem_append.1 hq with hq|hq
  ·exact hpd q hq
  ·rw[List.mem_singleton.1 hq];trivial
 |flush=>exact⟨hall,hall,fun q hq=>by cases hq⟩
end Go.Proofs.YtdkedmngeahjiaaGreatDoor
